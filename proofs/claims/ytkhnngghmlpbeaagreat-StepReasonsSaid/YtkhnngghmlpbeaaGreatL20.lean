/- Operations: calls; every operation. -/
import Derived.Test.YtkhnngghmlpbeaaGreatL19
namespace Go.L
noncomputable section

section ops
variable {R : Type} {E : Env} {o : Oper} {st : St} {K : St → Option R} {r : R} {ρ : Ren} {lo : Nat → Option Nat} {a : Act} {w : World}
  {next : Act → World → Prop} {Q : Exit → Act → World → Prop}

theorem finF_sound {es : Nat} (hes : es ≠ 0) {v : V} {h : H} (he : finF E o st K es v h = some r) {ρ' : Ren} {w' : World} {y : Value} (hr : RelA E.n ρ' lo ⟨st.s, st.l, h⟩ a w') (hx : RelV ρ' v y)
    (hs : Step ρ lo w ρ' lo w') (hn : Owes E o st ρ lo w K r next) : next (a.put o.dst y) w' := by
  unfold finF at he
  split at he
  · simp only [Option.bind_eq_some_iff] at he
    obtain ⟨q, hq, he⟩ := he
    obtain ⟨ρ2, h1, h2, h3⟩ := hfreeze_rel hr.h hx (h' := q.2) (v := q.1) hq hes
    obtain ⟨g1, g2⟩ := hr.lift h1 h2
    exact fin_sound he g1 (x := .v q.1) h3 (hs.trans g2) hn
  · exact fin_sound he hr (x := .v v) hx hs hn

theorem appendOp_sound {c : Call} (ho : o.op = .call c) (hc : c.callee = .builtin .append) {s x : V} {sv xv : Value} (hargs : c.args.map a.eval = #[sv, xv]) (hs : RelV ρ s sv) (hx : RelV ρ x xv)
    (he : evBuiltin E o .append c.argTypes [s, x] st K = some r) (hr : RelA E.n ρ lo st a w) (hn : Owes E o st ρ lo w K r next) : o.wp E.P a w next Q := by
  simp only [evBuiltin] at he
  split at he
  · rename_i e e' h1 h2
    simp only [Option.bind_eq_some_iff] at h1 h2
    obtain ⟨sT, hsT, h1⟩ := h1
    obtain ⟨xT, hxT, h2⟩ := h2
    have hu := elemOf_inv h1
    split at he
    · rename_i hcc
      split at he
      · cases he
      · rename_i hne
        split at he
        · rename_i hbytes
          split at he
          · rename_i hz
            simp only [Option.bind_eq_some_iff] at he
            obtain ⟨cs, hcs, q, hq, he⟩ := he
            simp only [Option.map_eq_some_iff] at hz
            obtain ⟨z, hz0, hzl⟩ := hz
            obtain ⟨i, zv, hi, hzv, hzc⟩ := zeroCells_inv hz0
            have hzs : zv.cells.size = E.P.cellsOf e := by
              rw [← hzl, (cstVs_relL ρ hzc).1]; simp
            obtain ⟨y, w', ρ', hrun, g1, g2, g3⟩ := happ_rel (ty := o.type) hu h2 hi hzv hzs hne hbytes hr hs hx hcs (v := q.1) (h' := q.2) hq
            refine upon_of (builtin_run ho hc fun cs => ?_) (finF_sound hne he g1 g3 g2 hn)
            rw [hargs]
            have e1 : Builtin.append_ c.argTypes o.type #[sv, xv] = Builtin.append_ #[sT, xT] o.type #[sv, xv] := by
              simp only [Builtin.append_, hsT, hxT]
              rfl
            simp only [builtin, e1, Sem.run_bind, hrun, Result.andThen_ok, Sem.run_pure]
          · cases he
        · cases he
    · cases he
  · cases he

theorem hwrAll_sound {es : Nat} {s : V} {sv : Value} (hes : es ≠ 0) (hr : RelA E.n ρ lo st a w) (hs : RelV ρ s sv) {cs : List V} {ys : List Value} (hl : RelL ρ cs ys) {h' : H} (he : hwrAll st.h s es cs = some h') :
    ∃ ad cap w', sv = .slice ad (snlen s) cap ∧ (∀ b, ad = some b → (storeCells b ys 0).run E.P w = .ok () w') ∧ (ad = none → w' = w) ∧ RelA E.n ρ lo ⟨st.s, st.l, h'⟩ a w' ∧ Step ρ lo w ρ lo w' := by
  unfold hwrAll at he
  split at he
  · rename_i id ver off len es' cap
    split at he
    case isFalse => cases he
    rename_i h1
    subst h1
    split at he
    case isFalse => cases he
    rename_i h2
    cases hs with
    | sl _ _ _ _ _ _ ad rc g1 g2 g3 g4 g5 =>
      split at he
      · cases he
        have : ys = [] := List.eq_nil_of_length_eq_zero (by rw [← hl.1]; rfl)
        subst this
        exact ⟨some ad, rc, w, rfl, (fun b hb => rfl), (fun h => by cases h), hr, .refl _ _ _⟩
      · rename_i c cs
        have hpos : 0 < len := by
          rcases Nat.eq_zero_or_pos len with h | h
          · subst h; simp at h2
          · exact h
        have hp : RelV ρ (.ptr id ver off) (.pointer (some ad)) := .ptr _ _ _ _ g1 g2 fun g hv hg => (g5 g hv hg (by omega)).1
        obtain ⟨ad', w', l', h'', hx, hrun, hk, hr', hs'⟩ := put_sound E.P (st := st) hr (p := .v (.ptr id ver off)) hp hl (K := fun l h => some (l, h)) (r := (st.l, h')) (by
          simp only [St.put, he, Option.bind_some])
        cases hx
        cases hk
        exact ⟨some _, rc, w', rfl, (fun b hb => by cases hb; exact hrun), (fun h => by cases h), hr', hs'⟩
  · split at he
    · cases he
      cases hs
      exact ⟨none, 0, w, rfl, (fun b hb => by cases hb), (fun _ => rfl), hr, .refl _ _ _⟩
    · cases he
  · cases he

theorem clear_sound {c : Call} (ho : o.op = .call c) (hc : c.callee = .builtin .clear) {s : V} {sv : Value} (hargs : c.args.map a.eval = #[sv]) (hs : RelV ρ s sv)
    (he : evBuiltin E o .clear c.argTypes [s] st K = some r) (hr : RelA E.n ρ lo st a w) (hn : Owes E o st ρ lo w K r next) : o.wp E.P a w next Q := by
  simp only [evBuiltin] at he
  split at he
  case h_2 => cases he
  rename_i e hel
  split at he
  case isTrue => cases he
  rename_i hne
  obtain ⟨z, hz, he⟩ := Option.bind_eq_some_iff.1 he
  split at he
  case isFalse => cases he
  rename_i hzl
  obtain ⟨h', hw, he⟩ := Option.bind_eq_some_iff.1 he
  obtain ⟨sT, hsT, hel⟩ := Option.bind_eq_some_iff.1 hel
  have hu := elemOf_inv hel
  obtain ⟨i, zv, hi, hzv, hzc⟩ := zeroCells_inv hz
  have hzr := cstVs_relL ρ hzc
  have hzs : zv.cells.size = z.length := by rw [hzr.1]; simp
  have hrep := zeros_rel (ρ := ρ) (z := z) (zs := zv.cells) hzr (by omega) (snlen s)
  obtain ⟨ad, cap, w', rfl, h1, h2, h3, h4⟩ := hwrAll_sound hne hr hs hrep hw
  refine upon_of (v := .tuple #[]) (builtin_run ho hc fun cs => ?_) (fin_sound he h3 (x := .v (.tup [])) (.tup _ _ rfl (by simp)) h4 hn)
  rw [hargs]
  have e0 : (#[Value.slice ad (snlen s) cap] : Array Value)[0]? = some (.slice ad (snlen s) cap) := rfl
  simp only [builtin, Builtin.clear_, hsT, e0, Sem.run_bind, run_underlying hu, Result.andThen_ok]
  cases ad with
  | none =>
    rw [h2 rfl]
    rfl
  | some b =>
    have e2 := h1 b rfl
    by_cases h0 : snlen s = 0
    · rw [h0] at e2 ⊢
      have e1 : (storeCells b ((Array.range (0 * z.length)).map (fun i => zv.cells[i % zv.cells.size]!)).toList 0).run E.P w = .ok () w := by
        have : ((Array.range (0 * z.length)).map (fun i => zv.cells[i % zv.cells.size]!)).toList = [] := by simp
        rw [this]; rfl
      rw [e1] at e2
      cases e2
      rfl
    · obtain ⟨m, hm⟩ : ∃ m, snlen s = m + 1 := ⟨snlen s - 1, by omega⟩
      rw [hm] at e2 ⊢
      rw [← hzs] at e2
      simp only [Sem.run_bind, run_zeroValue hi hzv, Result.andThen_ok, Builtin.zeroCells, e2]
      rfl

theorem copy_sound {c : Call} (ho : o.op = .call c) (hc : c.callee = .builtin .copy) {d s : V} {dv sv : Value} (hargs : c.args.map a.eval = #[dv, sv]) (hd : RelV ρ d dv) (hs : RelV ρ s sv)
    (he : evBuiltin E o .copy c.argTypes [d, s] st K = some r) (hr : RelA E.n ρ lo st a w) (hn : Owes E o st ρ lo w K r next) : o.wp E.P a w next Q := by
  simp only [evBuiltin] at he
  split at he
  case h_2 => cases he
  rename_i e hel
  split at he
  case isTrue => cases he
  rename_i hne
  obtain ⟨cs, hcs, he⟩ := Option.bind_eq_some_iff.1 he
  split at he
  case isFalse => cases he
  rename_i hle
  obtain ⟨h', hw, he⟩ := Option.bind_eq_some_iff.1 he
  obtain ⟨dT, hdT, hel⟩ := Option.bind_eq_some_iff.1 hel
  have hu := elemOf_inv hel
  obtain ⟨sad, scap, ys, rfl, hys, hcl, hfc⟩ := scells_rel (P := E.P) hr.h hs hne hcs
  obtain ⟨ad, cap, w', rfl, h1, h2, h3, h4⟩ := hwrAll_sound hne hr hd hys hw
  refine upon_of (v := .int .i64 (snlen s)) (builtin_run ho hc fun cs => ?_) (fin_sound he h3 (x := .v (.int .i64 (snlen s))) (.int _ _) h4 hn)
  rw [hargs]
  have hmin : Nat.min (snlen s) (snlen d) = snlen s := Nat.min_eq_left hle
  simp only [builtin, Builtin.copy_, hdT, Sem.run_bind]
  have e0 : (#[Value.slice ad (snlen d) cap, Value.slice sad (snlen s) scap] : Array Value)[0]? = some (.slice ad (snlen d) cap) := rfl
  have e1 : (#[Value.slice ad (snlen d) cap, Value.slice sad (snlen s) scap] : Array Value)[1]? = some (.slice sad (snlen s) scap) := rfl
  simp only [e0, e1, Sem.run_bind, run_underlying hu, Result.andThen_ok, lenOf_slice, hmin, run_sizeOf_ne hne, hfc w rfl]
  cases ad with
  | none => rw [h2 rfl]; rfl
  | some b =>
    simp only [Sem.run_bind, h1 b rfl, Result.andThen_ok]
    rfl

theorem cap_sound {c : Call} (ho : o.op = .call c) (hc : c.callee = .builtin .cap) {s : V} {sv : Value} (hargs : c.args.map a.eval = #[sv]) (hs : RelV ρ s sv)
    (he : evBuiltin E o .cap c.argTypes [s] st K = some r) (hr : RelA E.n ρ lo st a w) (hn : Owes E o st ρ lo w K r next) : o.wp E.P a w next Q := by
  simp only [evBuiltin] at he
  split at he
  case h_2 => cases he
  rename_i e hel
  obtain ⟨n, hn', he⟩ := Option.bind_eq_some_iff.1 he
  obtain ⟨sT, hsT, hel⟩ := Option.bind_eq_some_iff.1 hel
  have hu := elemOf_inv hel
  have : ∃ ad l rc, sv = .slice ad l rc ∧ n = (rc : Int) := by
    unfold scapK at hn'
    split at hn'
    · cases hn'; cases hs; exact ⟨_, _, _, rfl, rfl⟩
    · cases hn'
      cases hs with
      | sl _ _ _ _ _ _ ad rc g1 g2 g3 g4 g5 => exact ⟨_, _, _, rfl, by rw [g4 _ rfl]⟩
    · cases hn'
  obtain ⟨ad, l, rc, rfl, rfl⟩ := this
  refine upon_of (w' := w) (v := .int .i64 rc) (builtin_run ho hc fun cs => ?_) (fin_sound he hr (x := .v (.int .i64 rc)) (.int _ _) (Step.refl _ _ _) hn)
  rw [hargs]
  have e0 : (#[Value.slice ad l rc] : Array Value)[0]? = some (.slice ad l rc) := rfl
  simp only [builtin, Builtin.cap_, hsT, e0, Sem.run_bind, run_underlying hu, Result.andThen_ok]
  rfl

theorem callFunc_run {P : Program} {f : FuncId} (h : Callable P f) (args : Array Value) : (callFunc f args).run P w = .ok (.enter f args) w := by
  obtain ⟨fn, h1, h2, h3⟩ := h
  simp only [callFunc, Sem.run_bind, run_program, Result.andThen_ok, h1, h2, Bool.false_eq_true, if_false, h3, Sem.run_pure]

/-- A call whose triple is known. -/
theorem call_sound {f : FuncId} {vs : List V} {xs : Array Value} {v : V} {h' : H} (ht : Triple E.P f vs st.h v h') (hsz : xs.size = vs.length) (hrel : ∀ (i : Nat) (u : V) (x : Value), vs[i]? = some u → xs[i]? = some x → RelV ρ u x)
    (hrun : (execOp a.eval o).run E.P w = .ok (.enter f xs) w) (hr : RelA E.n ρ lo st a w)
    (hfin : ∀ (ρ' : Ren) (w' : World) (y : Value), RelA E.n ρ' lo ⟨st.s, st.l, h'⟩ a w' → Step ρ lo w ρ' lo w' → RelV ρ' v y → next (a.put o.dst y) w') : o.wp E.P a w next Q := by
  unfold Oper.wp
  rw [hrun]
  refine Calls.mono (ht ρ w xs hr.h hsz hrel) fun e w' hpost => ?_
  obtain ⟨ρ', y, rfl, h1, h2, h3⟩ := hpost
  obtain ⟨g1, g2⟩ := hr.lift h1 h2
  exact hfin ρ' w' y g1 g2 h3

/-- A callee, as it is known. -/
theorem callK_sound (hE : Good E) {f : FuncId} {vs : List V} {xs : Array Value} (he : callK E o st K f vs = some r) (hsz : xs.size = vs.length) (hrel : ∀ (i : Nat) (u : V) (x : Value), vs[i]? = some u → xs[i]? = some x → RelV ρ u x)
    (hrun : (execOp a.eval o).run E.P w = (callFunc f xs).run E.P w) (hr : RelA E.n ρ lo st a w) (hn : Owes E o st ρ lo w K r next) : o.wp E.P a w next Q := by
  unfold callK at he
  have run : Callable E.P f → (execOp a.eval o).run E.P w = .ok (.enter f xs) w := fun hcall => by rw [hrun]; exact callFunc_run hcall _
  split at he
  · rename_i F hF
    simp only [Option.bind_eq_some_iff] at he
    obtain ⟨v, hv, he⟩ := he
    obtain ⟨hcall, ht⟩ := hE.cal f _ hF vs v hv
    obtain ⟨v', hv', he⟩ := tyDest_inv he
    cases hv'
    exact call_sound (ht st.h) hsz hrel (run hcall) hr fun ρ' w' y g1 g2 g3 => fin_sound he g1 (x := .v _) g3 g2 hn
  · rename_i F hF
    simp only [Option.bind_eq_some_iff] at he
    obtain ⟨v, hv, he⟩ := he
    obtain ⟨y, h1, h2⟩ := hE.cal f _ hF vs v hv ρ w xs hsz hrel
    obtain ⟨v', hv', he⟩ := tyDest_inv he
    cases hv'
    exact still_sound he hr hn (hrun.trans h1) h2
  · rename_i F hF
    simp only [Option.bind_eq_some_iff] at he
    obtain ⟨v, hv, he⟩ := he
    obtain ⟨hcall, ht⟩ := hE.cal f _ hF vs st.h v hv
    obtain ⟨v', hv', he⟩ := tyDest_inv he
    cases hv'
    exact call_sound ht hsz hrel (run hcall) hr fun ρ' w' y g1 g2 g3 => fin_sound he g1 (x := .v _) g3 g2 hn
  · rename_i F hF
    simp only [Option.bind_eq_some_iff] at he
    obtain ⟨q, hq, he⟩ := he
    obtain ⟨hcall, ht⟩ := hE.cal f _ hF vs st.h q hq
    obtain ⟨v', hv', he⟩ := tyDest_inv he
    cases hv'
    refine call_sound ht hsz hrel (run hcall) hr fun ρ' w' y g1 g2 g3 => ?_
    split at he
    · rename_i e _ hel
      split at he
      · exact finF_sound (by assumption) he g1 g3 g2 hn
      · cases he
    · cases he
    · exact fin_sound he g1 (x := .v _) g3 g2 hn
  · rename_i F hF
    simp only [Option.bind_eq_some_iff] at he
    obtain ⟨q, hq, he⟩ := he
    obtain ⟨⟨hcall, ht⟩, _⟩ := hE.cal f _ hF vs st.h q hq
    obtain ⟨v', hv', he⟩ := tyDest_inv he
    cases hv'
    refine call_sound ht hsz hrel (run hcall) hr fun ρ' w' y g1 g2 g3 => ?_
    split at he
    · rename_i e _ hel
      split at he
      · exact finF_sound (by assumption) he g1 g3 g2 hn
      · cases he
    · cases he
    · exact fin_sound he g1 (x := .v _) g3 g2 hn
  · rename_i F hF
    simp only [Option.bind_eq_some_iff] at he
    obtain ⟨q, hq, he⟩ := he
    obtain ⟨⟨hcall, ht⟩, _⟩ := hE.cal f _ hF vs st.h q hq
    obtain ⟨v', hv', he⟩ := tyDest_inv he
    cases hv'
    refine call_sound ht hsz hrel (run hcall) hr fun ρ' w' y g1 g2 g3 => ?_
    split at he
    · rename_i e _ hel
      split at he
      · exact finF_sound (by assumption) he g1 g3 g2 hn
      · cases he
    · cases he
    · exact fin_sound he g1 (x := .v _) g3 g2 hn
  · cases he

theorem callOp_sound (hE : Good E) {c : Call} (ho : o.op = .call c) (he : evOp E o st K = some r) (hr : RelA E.n ρ lo st a w) (hn : Owes E o st ρ lo w K r next) : o.wp E.P a w next Q := by
  unfold evOp at he
  simp only [ho] at he
  split at he
  · rename_i f hc
    obtain ⟨vs, h1, h2, he⟩ := argsK_inv hr he
    obtain ⟨h3, h4⟩ := args_rel h1 h2
    refine callK_sound hE he h3 h4 ?_ hr hn
    unfold execOp
    simp only [ho, resolve, hc, Act.eval, Deferred.ofValue, pure_bind, invoke]
    rw [show (#[] ++ c.args.map a.eval ++ #[] : Array Value) = c.args.map a.eval from by simp]
  · rename_i t hc
    split at he
    · rename_i F hF
      split at he
      · rename_i x hp
        obtain ⟨vs, h1, h2, he⟩ := argsK_inv hr he
        obtain ⟨h3, h4⟩ := args_rel h1 h2
        obtain ⟨q, hq, he2⟩ := Option.bind_eq_some_iff.1 he
        obtain ⟨f, cap, hx, hcall, ht⟩ := hE.cal _ _ hF x vs st.h q hq
        subst hx
        have hfv : RelV ρ (.fn f cap) (a.eval (.tmp t)) := by
          have := hr.s t
          rw [hp] at this
          exact this
        generalize hfx : a.eval (.tmp t) = fx at hfv
        cases hfv with
        | fn _ _ xs k1 k2 =>
          obtain ⟨v', hv', he3⟩ := tyDest_inv he2
          cases hv'
          refine call_sound (xs := c.args.map a.eval ++ xs) ht (by rw [Array.size_append, h3, k1, List.length_append]) (fun i u x hu hx => ?_) ?_ hr fun ρ' w' y g1 g2 g3 => fin_sound he3 g1 (x := .v _) g3 g2 hn
          · by_cases hi : i < vs.length
            · rw [List.getElem?_append_left hi] at hu
              rw [Array.getElem?_append_left (by rw [h3]; exact hi)] at hx
              exact h4 i u x hu hx
            · rw [List.getElem?_append_right (by omega)] at hu
              rw [Array.getElem?_append_right (by rw [h3]; omega), h3] at hx
              exact k2 _ u x hu hx
          · rw [← callFunc_run hcall]
            unfold execOp
            simp only [ho, resolve, hc, hfx, Deferred.ofValue, pure_bind, invoke]
            rw [show (#[] ++ c.args.map a.eval ++ xs : Array Value) = c.args.map a.eval ++ xs from by simp]
      · cases he
    · split at he
      · rename_i f cap hp
        obtain ⟨vs, h1, h2, he⟩ := argsK_inv hr he
        obtain ⟨h3, h4⟩ := args_rel h1 h2
        have hfv : RelV ρ (.fn f cap) (a.eval (.tmp t)) := by
          have := hr.s t
          rw [hp] at this
          exact this
        generalize hfx : a.eval (.tmp t) = fx at hfv
        cases hfv with
        | fn _ _ xs k1 k2 =>
          refine callK_sound (xs := c.args.map a.eval ++ xs) hE he (by rw [Array.size_append, h3, k1, List.length_append]) (fun i u x hu hx => ?_) ?_ hr hn
          · by_cases hi : i < vs.length
            · rw [List.getElem?_append_left hi] at hu
              rw [Array.getElem?_append_left (by rw [h3]; exact hi)] at hx
              exact h4 i u x hu hx
            · rw [List.getElem?_append_right (by omega)] at hu
              rw [Array.getElem?_append_right (by rw [h3]; omega), h3] at hx
              exact k2 _ u x hu hx
          · unfold execOp
            simp only [ho, resolve, hc, hfx, Deferred.ofValue, pure_bind, invoke]
            rw [show (#[] ++ c.args.map a.eval ++ xs : Array Value) = c.args.map a.eval ++ xs from by simp]
      · cases he
  · rename_i b hc
    obtain ⟨vs, h1, h2, he⟩ := argsK_inv hr he
    by_cases hb : b = .min ∨ b = .max ∨ b = .real ∨ b = .imag ∨ b = .complex
    · exact small_sound ho hc h1 h2 hb he hr hn
    · have two : ∀ p q, vs = [p, q] → ∃ y z, c.args.map a.eval = #[y, z] ∧ RelV ρ p y ∧ RelV ρ q z := fun p q e => by subst e; exact args2 h1 h2
      have one : ∀ p, vs = [p] → ∃ y, c.args.map a.eval = #[y] ∧ RelV ρ p y := fun p e => by subst e; exact args1 h1 h2
      cases b <;> first
        | (exfalso; apply hb; simp; done)
        | skip
      case len =>
        match vs, he, one with
        | [p], he, one => obtain ⟨y, g1, g2⟩ := one p rfl; exact len_sound ho hc g1 g2 he hr hn
        | [], he, _ => simp [evBuiltin] at he
        | _ :: _ :: _, he, _ => simp [evBuiltin] at he
      case append =>
        match vs, he, two with
        | [p, q], he, two => obtain ⟨y, z, g1, g2, g3⟩ := two p q rfl; exact appendOp_sound ho hc g1 g2 g3 he hr hn
        | [], he, _ => simp [evBuiltin] at he
        | [_], he, _ => simp [evBuiltin] at he
        | _ :: _ :: _ :: _, he, _ => simp [evBuiltin] at he
      case delete =>
        match vs, he, two with
        | [p, q], he, two => obtain ⟨y, z, g1, g2, g3⟩ := two p q rfl; exact delete_sound ho hc g1 g2 g3 he hr hn
        | [], he, _ => simp [evBuiltin] at he
        | [_], he, _ => simp [evBuiltin] at he
        | _ :: _ :: _ :: _, he, _ => simp [evBuiltin] at he
      case clear =>
        match vs, he, one with
        | [p], he, one => obtain ⟨y, g1, g2⟩ := one p rfl; exact clear_sound ho hc g1 g2 he hr hn
        | [], he, _ => simp [evBuiltin] at he
        | _ :: _ :: _, he, _ => simp [evBuiltin] at he
      case cap =>
        match vs, he, one with
        | [p], he, one => obtain ⟨y, g1, g2⟩ := one p rfl; exact cap_sound ho hc g1 g2 he hr hn
        | [], he, _ => simp [evBuiltin] at he
        | _ :: _ :: _, he, _ => simp [evBuiltin] at he
      case copy =>
        match vs, he, two with
        | [p, q], he, two => obtain ⟨y, z, g1, g2, g3⟩ := two p q rfl; exact copy_sound ho hc g1 g2 g3 he hr hn
        | [], he, _ => simp [evBuiltin] at he
        | [_], he, _ => simp [evBuiltin] at he
        | _ :: _ :: _ :: _, he, _ => simp [evBuiltin] at he
      all_goals (exfalso; revert he; cases vs <;> simp [evBuiltin])
  · cases he

theorem evOp_sound (hE : Good E) (he : evOp E o st K = some r) (hr : RelA E.n ρ lo st a w) (hn : Owes E o st ρ lo w K r next) : o.wp E.P a w next Q := by
  cases ho : o.op with
  | move x => exact move_sound (.inl ho) (by unfold evOp at he; simpa only [ho] using he) hr hn
  | assign x => exact move_sound (.inr ho) (by unfold evOp at he; simpa only [ho] using he) hr hn
  | pick c x y => exact pick_sound ho he hr hn
  | alloc t => exact alloc_sound ho he hr hn
  | box t x => exact box_sound ho he hr hn
  | build t ps => exact build_sound ho he hr hn
  | buildSlice t l ps => exact buildSlice_sound ho he hr hn
  | load t x => exact load_sound ho he hr hn
  | store t x y => exact store_sound ho he hr hn
  | nilCheck x => exact nilCheck_sound ho he hr hn
  | binOp op t x y t' => exact binOp_sound ho he hr hn
  | unOp op t x => exact unOp_sound ho he hr hn
  | convert s t x => exact conv_sound ho he hr hn
  | makeFunc f fs cs =>
    cases f with
    | func f => exact makeFunc_sound ho he hr hn
    | _ => unfold evOp at he; simp only [ho] at he; cases he
  | makeMap t x =>
    cases x with
    | none => exact makeMap_sound ho he hr hn
    | some x => unfold evOp at he; simp only [ho] at he; cases he
  | makeSlice t l c => exact makeSlice_sound ho he hr hn
  | slice t x l u m => exact sliceOp_sound ho he hr hn
  | fieldAddr t x i => exact fieldAddr_sound ho he hr hn
  | field t x i => exact field_sound ho he hr hn
  | indexAddr t x i => exact indexAddr_sound ho he hr hn
  | index t x i => exact index_sound ho he hr hn
  | lookup t x i ok => exact lookup_sound ho he hr hn
  | mapUpdate t m k v => exact mapUpdate_sound ho he hr hn
  | extract x i => exact extract_sound ho he hr hn
  | call c => exact callOp_sound hE ho he hr hn
  | _ => unfold evOp at he; simp only [ho] at he; cases he

end ops
end
end Go.L
