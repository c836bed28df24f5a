/- Operations: maps that are written, built-in functions, calls. -/
import Derived.Test.YtkhnngghmlpbeaaGreatL16
namespace Go.L
noncomputable section

section ops
variable {R : Type} {E : Env} {o : Oper} {st : St} {K : St → Option R} {r : R} {ρ : Ren} {lo : Nat → Option Nat} {a : Act} {w : World}
  {next : Act → World → Prop} {Q : Exit → Act → World → Prop}

/-- A map's entries written over. -/
theorem map_set (hr : RelA E.n ρ lo st a w) {id : Nat} {g : Img} (hg : ρ.wr id = some g) {es es' : List (V × V)} (hid : st.h[id]? = some (.map es))
    {ms' : Array MapEntry} (clock' : Nat) (hrm : RelM ρ es' ms'.toList) :
    RelA E.n ρ lo ⟨st.s, st.l, st.h.set id (.map es')⟩ a { w with heap := w.heap.setIfInBounds g.blk (.map ms' clock') } ∧
      Step ρ lo w ρ lo { w with heap := w.heap.setIfInBounds g.blk (.map ms' clock') } := by
  have hlt := hr.h.blk_lt hg
  have hoth : ∀ b, b ≠ g.blk → ({ w with heap := w.heap.setIfInBounds g.blk (.map ms' clock') } : World).heap[b]? = w.heap[b]? := by
    intro b hb
    show (w.heap.setIfInBounds g.blk _)[b]? = _
    rw [Array.getElem?_setIfInBounds, if_neg (fun e => hb e.symm)]
  have hsz : ({ w with heap := w.heap.setIfInBounds g.blk (.map ms' clock') } : World).heap.size = w.heap.size := by simp
  have hh : RelH ρ (st.h.set id (.map es')) { w with heap := w.heap.setIfInBounds g.blk (.map ms' clock') } := by
    refine hr.h.set_cells (o' := .map es') (ob' := .map ms' clock') hg hid rfl ?_ ⟨by have := hrm.1; simpa using this.symm, fun i e m he hm => hrm.2 i e m he (by simpa using hm)⟩ hoth
    show (w.heap.setIfInBounds g.blk _)[g.blk]? = _
    rw [Array.getElem?_setIfInBounds, if_pos rfl, if_pos hlt]
  refine ⟨hr.of_heap hh hsz hg hoth, step_in hsz hg (still_of rfl rfl fun b => ?_) hoth⟩
  by_cases e : b = g.blk
  · right
    subst e
    obtain ⟨o1, ob, _, k2, k3, _⟩ := hr.h.obj id g hg
    rw [k2]
    refine ⟨?_, k3.unfr⟩
    show unfr ((w.heap.setIfInBounds g.blk _)[g.blk]?)
    rw [Array.getElem?_setIfInBounds, if_pos rfl, if_pos hlt]
    trivial
  · exact .inl (hoth b e)

theorem same_bits {d : TypeDesc} {x y : Value} (h : Instr.sameNow d x y = some true) : Instr.sameBits 10000 y x = true := by
  cases d <;> cases x <;> cases y <;> simp [Instr.sameNow] at h <;> first | (simp [Instr.sameBits, h]; done) | skip
  rw [beq_toListBytes] at h
  simp only [Instr.sameBits]
  rw [beq_toListBytes]
  have := eq_of_beq h
  rw [this]; simp

theorem mapUpdate_sound {t : TypeId} {x i v : Operand} (ho : o.op = .mapUpdate t x i v) (he : evOp E o st K = some r) (hr : RelA E.n ρ lo st a w) (hn : Owes E o st ρ lo w K r next) :
    o.wp E.P a w next Q := by
  unfold evOp at he
  simp only [ho] at he
  split at he
  · rename_i m key xv kt et hm hkey hxs hu
    split at he
    · rename_i hok
      split at he
      · simp only [Option.bind_eq_some_iff] at he
        obtain ⟨h', hset, he⟩ := he
        have hmv := opnd_v hr hm
        have hkv := opnd_v hr hkey
        have hxv := opnd_v hr hxs
        obtain ⟨d, hd⟩ := keyOk_underlying hok
        unfold hmapset at hset
        split at hset
        · rename_i id
          split at hset
          · rename_i es hid
            simp only [Option.map_eq_some_iff] at hset
            obtain ⟨es', hes', rfl⟩ := hset
            rcases hmap_rel hr.h hmv (show hmap st.h (.map id) = some es by simp [hmap, hid]) with ⟨hy, _⟩ | ⟨id', g, ms, clock, hy, hmi, hg, _, hwb, hrm⟩
            · rw [hy] at hmv; cases hmv
            · cases hmi
              have hgo := run_getObj (P := E.P) hwb (by simp)
              have hso := fun ob' => run_setObj (P := E.P) (ob' := ob') hwb (by simp)
              rcases mput_run hd hok hkv 0 hrm hes' with ⟨rfl, hf⟩ | ⟨j, m', hj, rfl, hsn, hf⟩
              · have hrm' : RelM ρ (es ++ [(key, xv)]) (ms.push { key := a.eval i, val := a.eval v, born := clock }).toList := by
                  refine ⟨by have := hrm.1; simpa using this, fun k e m he hm => ?_⟩
                  have hl := hrm.1
                  simp only [Array.toList_push] at hm
                  by_cases hk : k < es.length
                  · rw [List.getElem?_append_left hk] at he
                    rw [List.getElem?_append_left (by omega)] at hm
                    exact hrm.2 k e m he hm
                  · rw [List.getElem?_append_right (by omega)] at he
                    rw [List.getElem?_append_right (by omega)] at hm
                    rw [hl] at he
                    cases hkk : k - ms.toList.length with
                    | zero => rw [hkk] at he hm; simp at he hm; subst he; subst hm; exact ⟨hkv, hxv⟩
                    | succ n => rw [hkk] at he; simp at he
                obtain ⟨h1, h2⟩ := map_set hr hg hid (clock + 1) hrm'
                refine upon_skip ?_ (fin_sound he h1 (v := undef) trivial h2 hn)
                unfold execOp
                simp [ho, Instr.mapUpdate, run_underlying hu, hy, hgo, checkKey_run hok hkv, findKey_run hd hf, hso]
              · rw [Nat.zero_add] at hf
                have hjl : j < ms.size := by have := (List.getElem?_eq_some_iff.1 hj).1; simpa using this
                have hmj : ms[j]? = some m' := by simpa using hj
                have hrm' : RelM ρ (es.set j (key, xv)) (ms.modify j fun e => { e with key := a.eval i, val := a.eval v }).toList := by
                  refine ⟨by have := hrm.1; simpa using this, fun k e m he hm => ?_⟩
                  rw [Array.getElem?_toList, Array.getElem?_modify] at hm
                  rw [List.getElem?_set] at he
                  by_cases hk : j = k
                  · rw [if_pos hk] at he hm
                    split at he
                    · cases he
                      subst hk
                      rw [hmj] at hm
                      simp at hm
                      subst hm
                      exact ⟨hkv, hxv⟩
                    · cases he
                  · rw [if_neg hk] at he hm
                    exact hrm.2 k e m he (by simpa using hm)
                obtain ⟨h1, h2⟩ := map_set hr hg hid clock hrm'
                refine upon_skip ?_ (fin_sound he h1 (v := undef) trivial h2 hn)
                have hkts : (Instr.keyThatStays m'.key (a.eval i)).run E.P w = .ok (a.eval i) w := by
                  unfold Instr.keyThatStays
                  rw [if_pos (same_bits hsn)]
                  rfl
                unfold execOp
                simp [ho, Instr.mapUpdate, run_underlying hu, hy, hgo, checkKey_run hok hkv, findKey_run hd hf, hmj, hkts, hso]
          · cases hset
        · cases hset
      · cases he
    · cases he
  · cases he

theorem builtin_run {c : Call} {b : Builtin} (ho : o.op = .call c) (hc : c.callee = .builtin b) {w' : World} {y : Value}
    (h : ∀ cs, (builtin b c.argTypes o.type cs (c.args.map a.eval)).run E.P w = .ok (.value y) w') : (execOp a.eval o).run E.P w = .ok (.value y) w' := by
  unfold execOp
  simp only [ho, resolve, hc, pure_bind, invoke]
  exact h _

theorem args1 {l : Array Operand} {v : V} (h1 : [v].length = l.toList.length) (h2 : ∀ (i : Nat) (u : V) (x : Operand), [v][i]? = some u → l.toList[i]? = some x → RelV ρ u (a.eval x)) :
    ∃ y, l.map a.eval = #[y] ∧ RelV ρ v y := by
  match l, h1, h2 with
  | ⟨[x]⟩, _, h2 => exact ⟨a.eval x, by simp, h2 0 v x rfl rfl⟩

theorem args2 {l : Array Operand} {u v : V} (h1 : [u, v].length = l.toList.length) (h2 : ∀ (i : Nat) (u' : V) (x : Operand), [u, v][i]? = some u' → l.toList[i]? = some x → RelV ρ u' (a.eval x)) :
    ∃ y z, l.map a.eval = #[y, z] ∧ RelV ρ u y ∧ RelV ρ v z := by
  match l, h1, h2 with
  | ⟨[x, x']⟩, _, h2 => exact ⟨a.eval x, a.eval x', by simp, h2 0 u x rfl rfl, h2 1 v x' rfl rfl⟩

theorem len_sound {c : Call} (ho : o.op = .call c) (hc : c.callee = .builtin .len) {x : V} {xs : Value} (hargs : c.args.map a.eval = #[xs]) (hx : RelV ρ x xs)
    (he : evBuiltin E o .len c.argTypes [x] st K = some r) (hr : RelA E.n ρ lo st a w) (hn : Owes E o st ρ lo w K r next) : o.wp E.P a w next Q := by
  simp only [evBuiltin] at he
  split at he
  · rename_i hu
    simp only [Option.bind_eq_some_iff] at hu
    obtain ⟨t, ht, hu⟩ := hu
    split at he
    · cases hx
      refine finV_sound he hr hn (builtin_run ho hc fun cs => ?_) (.int _ _)
      simp [builtin, hargs, Builtin.len_, ht, run_underlying hu, goInt]
    · cases he
  · rename_i e hu
    simp only [Option.bind_eq_some_iff] at hu
    obtain ⟨t, ht, hu⟩ := hu
    simp only [Option.bind_eq_some_iff] at he
    obtain ⟨n, hn', he⟩ := he
    obtain ⟨ad, len, cap, hy, rfl, _⟩ := slen_rel hx hn'
    subst hy
    refine finV_sound he hr hn (builtin_run ho hc fun cs => ?_) (.int _ _)
    simp [builtin, hargs, Builtin.len_, ht, run_underlying hu, goInt]
  · rename_i n e hu
    simp only [Option.bind_eq_some_iff] at hu
    obtain ⟨t, ht, hu⟩ := hu
    refine finV_sound he hr hn (builtin_run ho hc fun cs => ?_) (.int _ _)
    simp [builtin, hargs, Builtin.len_, ht, run_underlying hu, goInt]
  · rename_i k e hu
    simp only [Option.bind_eq_some_iff] at hu
    obtain ⟨t, ht, hu⟩ := hu
    simp only [Option.bind_eq_some_iff] at he
    obtain ⟨es, hes, he⟩ := he
    rcases hmap_rel hr.h hx hes with ⟨hy, rfl⟩ | ⟨id, g, ms, clock, hy, _, hg, _, hwb, hrm⟩
    · subst hy
      refine finV_sound he hr hn (builtin_run ho hc fun cs => ?_) (.int _ _)
      simp [builtin, hargs, Builtin.len_, ht, run_underlying hu, goInt]
    · subst hy
      have hgo := run_getObj (P := E.P) hwb (by simp)
      have hl : es.length = ms.size := by have := hrm.1; simpa using this
      refine finV_sound he hr hn (builtin_run ho hc fun cs => ?_) (.int _ _)
      simp [builtin, hargs, Builtin.len_, ht, run_underlying hu, goInt, hgo, hl]
  · cases he

theorem delete_sound {c : Call} (ho : o.op = .call c) (hc : c.callee = .builtin .delete) {m key : V} {y z : Value} (hargs : c.args.map a.eval = #[y, z]) (hm : RelV ρ m y) (hkv : RelV ρ key z)
    (he : evBuiltin E o .delete c.argTypes [m, key] st K = some r) (hr : RelA E.n ρ lo st a w) (hn : Owes E o st ρ lo w K r next) : o.wp E.P a w next Q := by
  simp only [evBuiltin] at he
  split at he
  · rename_i kt et hu
    simp only [Option.bind_eq_some_iff] at hu
    obtain ⟨t, ht, hu⟩ := hu
    split at he
    · rename_i hok
      simp only [Option.bind_eq_some_iff] at he
      obtain ⟨h', hdel, he⟩ := he
      obtain ⟨d, hd⟩ := keyOk_underlying hok
      unfold hmapdel at hdel
      split at hdel
      · cases hdel
        cases hm
        refine upon_of (w' := w) (v := .tuple #[]) (builtin_run ho hc fun cs => ?_) (fin_sound he hr (.tup _ _ rfl (by simp)) (Step.refl _ _ _) hn)
        simp [builtin, hargs, Builtin.delete_, ht, run_underlying hu, checkKey_run hok hkv]
      · rename_i id
        split at hdel
        · rename_i es hid
          simp only [Option.map_eq_some_iff] at hdel
          obtain ⟨es', hes', rfl⟩ := hdel
          rcases hmap_rel hr.h hm (show hmap st.h (.map id) = some es by simp [hmap, hid]) with ⟨hy, _⟩ | ⟨id', g, ms, clock, hy, hmi, hg, _, hwb, hrm⟩
          · subst hy; cases hm
          · cases hmi
            subst hy
            have hgo := run_getObj (P := E.P) hwb (by simp)
            have hso := fun ob' => run_setObj (P := E.P) (ob' := ob') hwb (by simp)
            rcases mrem_run hd hok hkv 0 hrm hes' with ⟨rfl, hf⟩ | ⟨j, m', hj, rfl, hf⟩
            · obtain ⟨h1, h2⟩ := map_set hr hg hid clock hrm
              refine upon_of (v := .tuple #[]) (builtin_run ho hc fun cs => ?_) (fin_sound he h1 (x := .v (.tup [])) (.tup _ _ rfl (by simp)) h2 hn)
              simp [builtin, hargs, Builtin.delete_, ht, run_underlying hu, hgo, checkKey_run hok hkv, findKey_run hd hf, hso]
            · rw [Nat.zero_add] at hf
              have hjl : j < ms.size := by have := (List.getElem?_eq_some_iff.1 hj).1; simpa using this
              have hrm' : RelM ρ (es.eraseIdx j) (ms.eraseIdxIfInBounds j).toList := by
                have hl := hrm.1
                have e1 : (ms.eraseIdxIfInBounds j).toList = ms.toList.eraseIdx j := by simp [Array.eraseIdxIfInBounds, hjl]
                rw [e1]
                refine ⟨by simp only [List.length_eraseIdx]; rw [hl], fun k e m he hm => ?_⟩
                rw [List.getElem?_eraseIdx] at he hm
                split at he
                · rename_i hk; rw [if_pos hk] at hm; exact hrm.2 k e m he hm
                · rename_i hk; rw [if_neg hk] at hm; exact hrm.2 (k + 1) e m he hm
              obtain ⟨h1, h2⟩ := map_set hr hg hid clock hrm'
              refine upon_of (v := .tuple #[]) (builtin_run ho hc fun cs => ?_) (fin_sound he h1 (x := .v (.tup [])) (.tup _ _ rfl (by simp)) h2 hn)
              simp [builtin, hargs, Builtin.delete_, ht, run_underlying hu, hgo, checkKey_run hok hkv, findKey_run hd hf, hso]
        · cases hdel
      · cases hdel
    · cases he
  · cases he

theorem small_sound {c : Call} {b : Builtin} (ho : o.op = .call c) (hc : c.callee = .builtin b) {vs : List V} (hvs : vs.length = c.args.toList.length)
    (hrel : ∀ (i : Nat) (v : V) (x : Operand), vs[i]? = some v → c.args.toList[i]? = some x → RelV ρ v (a.eval x)) (hb : b = .min ∨ b = .max ∨ b = .real ∨ b = .imag ∨ b = .complex)
    (he : evBuiltin E o b c.argTypes vs st K = some r) (hr : RelA E.n ρ lo st a w) (hn : Owes E o st ρ lo w K r next) : o.wp E.P a w next Q := by
  rcases hb with rfl | rfl | rfl | rfl | rfl
  · match vs, hvs, hrel, he with
    | [x, y], hvs, hrel, he =>
      obtain ⟨u, v, hargs, hx, hy⟩ := args2 hvs hrel
      simp only [evBuiltin, min2] at he
      split at he
      · split at he
        · rename_i hk
          subst hk
          cases hx; cases hy
          refine finV_sound he hr hn (builtin_run ho hc fun cs => ?_) (.int _ _)
          simp [builtin, hargs, Builtin.min_, Builtin.min2]
        · cases he
      · cases he
    | [], _, _, he => simp [evBuiltin] at he
    | [_], _, _, he => simp [evBuiltin] at he
    | _ :: _ :: _ :: _, _, _, he => simp [evBuiltin] at he
  · match vs, hvs, hrel, he with
    | [x, y], hvs, hrel, he =>
      obtain ⟨u, v, hargs, hx, hy⟩ := args2 hvs hrel
      simp only [evBuiltin, min2] at he
      split at he
      · split at he
        · rename_i hk
          subst hk
          cases hx; cases hy
          refine finV_sound he hr hn (builtin_run ho hc fun cs => ?_) (.int _ _)
          simp [builtin, hargs, Builtin.max_, Builtin.max2]
        · cases he
      · cases he
    | [], _, _, he => simp [evBuiltin] at he
    | [_], _, _, he => simp [evBuiltin] at he
    | _ :: _ :: _ :: _, _, _, he => simp [evBuiltin] at he
  · match vs, hvs, hrel, he with
    | [x], hvs, hrel, he =>
      obtain ⟨u, hargs, hx⟩ := args1 hvs hrel
      cases x <;> simp only [evBuiltin] at he <;> first | cases he | skip
      cases hx
      refine finV_sound he hr hn (builtin_run ho hc fun cs => ?_) (.float _ _)
      rw [hargs]
      rfl
    | [], _, _, he => simp [evBuiltin] at he
    | _ :: _ :: _, _, _, he => simp [evBuiltin] at he
  · match vs, hvs, hrel, he with
    | [x], hvs, hrel, he =>
      obtain ⟨u, hargs, hx⟩ := args1 hvs hrel
      cases x <;> simp only [evBuiltin] at he <;> first | cases he | skip
      cases hx
      refine finV_sound he hr hn (builtin_run ho hc fun cs => ?_) (.float _ _)
      rw [hargs]
      rfl
    | [], _, _, he => simp [evBuiltin] at he
    | _ :: _ :: _, _, _, he => simp [evBuiltin] at he
  · match vs, hvs, hrel, he with
    | [x, y], hvs, hrel, he =>
      obtain ⟨u, v, hargs, hx, hy⟩ := args2 hvs hrel
      cases x <;> simp only [evBuiltin] at he <;> first | cases he | skip
      cases y <;> simp only at he <;> first | cases he | skip
      split at he
      · rename_i hk
        subst hk
        cases hx; cases hy
        refine finV_sound he hr hn (builtin_run ho hc fun cs => ?_) (.cplx _ _ _)
        rw [hargs]
        rename_i k x' y'
        have e : ∀ (k : FloatKind) (p q : Nat), Builtin.complex_ c.argTypes o.type #[.float k p, .float k q] = if k = k then pure (.complex k p q) else stuck "complex: parts of different kinds" := fun _ _ _ => rfl
        simp [builtin, e]
      · cases he
    | [], _, _, he => simp [evBuiltin] at he
    | [_], _, _, he => simp [evBuiltin] at he
    | _ :: _ :: _ :: _, _, _, he => simp [evBuiltin] at he

end ops
end
end Go.L
