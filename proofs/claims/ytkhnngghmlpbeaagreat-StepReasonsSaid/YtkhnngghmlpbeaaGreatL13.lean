/- Operations: numbers, texts, comparisons. -/
import Derived.Test.YtkhnngghmlpbeaaGreatL12
namespace Go.L
noncomputable section

section ops
variable {R : Type} {E : Env} {o : Oper} {st : St} {K : St → Option R} {r : R} {ρ : Ren} {lo : Nat → Option Nat} {a : Act} {w : World}
  {next : Act → World → Prop} {Q : Exit → Act → World → Prop}

theorem conv_sound {src dst : TypeId} {x : Operand} (ho : o.op = .convert src dst x) (he : evOp E o st K = some r) (hr : RelA E.n ρ lo st a w) (hn : Owes E o st ρ lo w K r next) :
    o.wp E.P a w next Q := by
  unfold evOp at he
  simp only [ho] at he
  split at he
  · rename_i v hc
    have hx := opnd_v hr hc
    generalize hy : a.eval x = y at hx
    unfold convS at he
    split at he
    · rename_i u k k' n hu hd
      cases hx
      refine finV_sound he hr hn (y := .int k (k.wrap n)) ?_ (.int _ _)
      unfold execOp
      simp [ho, hy, convert, run_underlying hu, run_underlying hd, Conv.intToInt]
    · rename_i u k k' n hu hd
      cases hx
      refine finV_sound he hr hn (y := .float k (k.nearest n)) ?_ (.float _ _)
      unfold execOp
      simp [ho, hy, convert, run_underlying hu, run_underlying hd, Conv.intToFloat]
    · rename_i u k s b hu hd
      cases hx
      simp only [Option.bind_eq_some_iff] at he
      obtain ⟨n, hn', he⟩ := he
      refine finV_sound he hr hn (y := .int k n) ?_ (.int _ _)
      unfold f2i at hn'
      split at hn'
      · rename_i m hm
        split at hn'
        · rename_i hb
          cases hn'
          unfold execOp
          simp [ho, hy, convert, run_underlying hu, run_underlying hd, Conv.floatToInt, hm, hb]
        · cases hn'
      · cases hn'
    · rename_i u s hu hd
      cases hx
      refine finV_sound he hr hn (y := .string s) ?_ (.str _)
      unfold execOp
      simp [ho, hy, convert, run_underlying hu, run_underlying hd]
    · cases he
  · cases he

def plainV (v : Value) : Bool :=
  match v with
  | .agg _ | .nilIface => false
  | _ => true

theorem eqGuard_run {P : Program} {op : BinOp} {t : TypeId} {x y : Operand} {u v : Value} (h : plainV u = true) (w : World) : (eqGuard op t x y u v).run P w = .ok () w := by
  cases u <;> first | (simp [plainV] at h; done) | (cases op <;> simp [eqGuard])

theorem binOp_run {op : BinOp} {t t' : TypeId} {x y : Operand} {u v z : Value} (ho : o.op = .binOp op t x y t') (hx : a.eval x = u) (hy : a.eval y = v) (hp : plainV u = true)
    (h : (binOp op t u v).run E.P w = .ok z w) : (execOp a.eval o).run E.P w = .ok (.value z) w := by
  unfold execOp
  simp only [ho, hx, hy, Sem.run_bind, eqGuard_run hp, Result.andThen_ok, h, Sem.run_pure]

theorem intBin_sound {op : BinOp} {t t' : TypeId} {x y : Operand} {k : IntKind} {m n : Int} (ho : o.op = .binOp op t x y t') (hx : a.eval x = .int k m) (hy : a.eval y = .int k n)
    (he : intBin op k m n (finV E o st K) = some r) (hr : RelA E.n ρ lo st a w) (hn : Owes E o st ρ lo w K r next) : o.wp E.P a w next Q := by
  cases op <;> simp only [intBin] at he
  case quo =>
    split at he
    · cases he
    · rename_i h0
      exact finV_sound he hr hn (binOp_run ho hx hy rfl (by simp [binOp, Op.intDiv, h0])) (.int _ _)
  case rem =>
    split at he
    · cases he
    · rename_i h0
      exact finV_sound he hr hn (binOp_run ho hx hy rfl (by simp [binOp, Op.intDiv, h0])) (.int _ _)
  case shl => cases he
  case shr => cases he
  case add => exact finV_sound he hr hn (binOp_run ho hx hy rfl (by simp [binOp, Op.intArith])) (.int _ _)
  case sub => exact finV_sound he hr hn (binOp_run ho hx hy rfl (by simp [binOp, Op.intArith])) (.int _ _)
  case mul => exact finV_sound he hr hn (binOp_run ho hx hy rfl (by simp [binOp, Op.intArith])) (.int _ _)
  case and => exact finV_sound he hr hn (binOp_run ho hx hy rfl (by simp [binOp, Op.intBits])) (.int _ _)
  case or => exact finV_sound he hr hn (binOp_run ho hx hy rfl (by simp [binOp, Op.intBits])) (.int _ _)
  case xor => exact finV_sound he hr hn (binOp_run ho hx hy rfl (by simp [binOp, Op.intBits])) (.int _ _)
  case andNot => exact finV_sound he hr hn (binOp_run ho hx hy rfl (by simp [binOp, Op.intBits])) (.int _ _)
  all_goals exact finV_sound he hr hn (binOp_run ho hx hy rfl (by simp [binOp, Op.intCmp])) (.bool _)

theorem shift_sound {op : BinOp} {t t' : TypeId} {x y : Operand} {k k' : IntKind} {m n : Int} (ho : o.op = .binOp op t x y t') (hop : op = .shl ∨ op = .shr) (hx : a.eval x = .int k m) (hy : a.eval y = .int k' n)
    (he : shiftBin op k m n (finV E o st K) = some r) (hr : RelA E.n ρ lo st a w) (hn : Owes E o st ρ lo w K r next) : o.wp E.P a w next Q := by
  rcases hop with rfl | rfl <;> simp only [shiftBin] at he <;> split at he
  · cases he
  · rename_i h0
    exact finV_sound he hr hn (binOp_run ho hx hy rfl (by simp [binOp, Op.shift, h0])) (.int _ _)
  · cases he
  · rename_i h0
    exact finV_sound he hr hn (binOp_run ho hx hy rfl (by simp [binOp, Op.shift, h0])) (.int _ _)

theorem strBin_sound {op : BinOp} {t t' : TypeId} {x y : Operand} {m n : ByteArray} (ho : o.op = .binOp op t x y t') (hx : a.eval x = .string m) (hy : a.eval y = .string n)
    (he : strBin op m n (finV E o st K) = some r) (hr : RelA E.n ρ lo st a w) (hn : Owes E o st ρ lo w K r next) : o.wp E.P a w next Q := by
  cases op <;> simp only [strBin] at he
  case add =>
    split at he
    · rename_i hle
      have hb : (mostCells : Int) = 4294967296 := by decide
      have hc : (m.size : Int) + (n.size : Int) ≤ 9223372036854775807 := by omega
      refine finV_sound he hr hn (binOp_run ho hx hy rfl ?_) (.str _)
      simp [binOp, Op.stringOp, hc]
    · cases he
  case eql => exact finV_sound he hr hn (binOp_run ho hx hy rfl (by simp [binOp, Op.stringOp])) (.bool _)
  case neq => exact finV_sound he hr hn (binOp_run ho hx hy rfl (by simp [binOp, Op.stringOp])) (.bool _)
  case lss => exact finV_sound he hr hn (binOp_run ho hx hy rfl (by simp [binOp, Op.stringOp])) (.bool _)
  case leq => exact finV_sound he hr hn (binOp_run ho hx hy rfl (by simp [binOp, Op.stringOp])) (.bool _)
  case gtr => exact finV_sound he hr hn (binOp_run ho hx hy rfl (by simp [binOp, Op.stringOp])) (.bool _)
  case geq => exact finV_sound he hr hn (binOp_run ho hx hy rfl (by simp [binOp, Op.stringOp])) (.bool _)
  all_goals cases he

theorem floatBin_sound {op : BinOp} {t t' : TypeId} {x y : Operand} {k : FloatKind} {m n : Nat} (ho : o.op = .binOp op t x y t') (hx : a.eval x = .float k m) (hy : a.eval y = .float k n)
    (he : floatBin op k m n (finV E o st K) = some r) (hr : RelA E.n ρ lo st a w) (hn : Owes E o st ρ lo w K r next) : o.wp E.P a w next Q := by
  cases op <;> simp only [floatBin, Option.bind_eq_some_iff] at he
  case add =>
    obtain ⟨z, hz, he⟩ := he
    exact finV_sound he hr hn (binOp_run ho hx hy rfl (by simp [binOp, Op.floatArith, hz])) (.float _ _)
  case sub =>
    obtain ⟨z, hz, he⟩ := he
    exact finV_sound he hr hn (binOp_run ho hx hy rfl (by simp [binOp, Op.floatArith, hz])) (.float _ _)
  case mul =>
    obtain ⟨z, hz, he⟩ := he
    exact finV_sound he hr hn (binOp_run ho hx hy rfl (by simp [binOp, Op.floatArith, hz])) (.float _ _)
  case quo =>
    obtain ⟨z, hz, he⟩ := he
    exact finV_sound he hr hn (binOp_run ho hx hy rfl (by simp [binOp, Op.floatArith, hz])) (.float _ _)
  case eql => exact finV_sound he hr hn (binOp_run ho hx hy rfl (by simp [binOp, Op.floatCmp])) (.bool _)
  case neq => exact finV_sound he hr hn (binOp_run ho hx hy rfl (by simp [binOp, Op.floatCmp])) (.bool _)
  case lss => exact finV_sound he hr hn (binOp_run ho hx hy rfl (by simp [binOp, Op.floatCmp])) (.bool _)
  case leq => exact finV_sound he hr hn (binOp_run ho hx hy rfl (by simp [binOp, Op.floatCmp])) (.bool _)
  case gtr => exact finV_sound he hr hn (binOp_run ho hx hy rfl (by simp [binOp, Op.floatCmp])) (.bool _)
  case geq => exact finV_sound he hr hn (binOp_run ho hx hy rfl (by simp [binOp, Op.floatCmp])) (.bool _)
  all_goals cases he

/- Equality of parts. -/
theorem leafEq_int {P : Program} {t : TypeId} {k : IntKind} {x y : V} {u v : Value} (hx : RelV ρ x u) (hy : RelV ρ y v) {b : Bool} (h : leafEq (.int k) x y = some b)
    (hu : P.underlying t = some (.int k)) (d : Nat) (w : World) : (Op.equalIn (d + 1) t u v).run P w = .ok b w := by
  cases x <;> cases y <;> simp [leafEq] at h
  obtain ⟨h1, h2⟩ := h
  subst h1; subst h2
  cases hx; cases hy
  simp [Op.equalIn, run_underlying hu]

theorem leafEq_bool {P : Program} {t : TypeId} {x y : V} {u v : Value} (hx : RelV ρ x u) (hy : RelV ρ y v) {b : Bool} (h : leafEq .bool x y = some b)
    (hu : P.underlying t = some .bool) (d : Nat) (w : World) : (Op.equalIn (d + 1) t u v).run P w = .ok b w := by
  cases x <;> cases y <;> simp [leafEq] at h
  subst h
  cases hx; cases hy
  simp [Op.equalIn, run_underlying hu]

theorem leafEq_str {P : Program} {t : TypeId} {x y : V} {u v : Value} (hx : RelV ρ x u) (hy : RelV ρ y v) {b : Bool} (h : leafEq .str x y = some b)
    (hu : P.underlying t = some .string) (d : Nat) (w : World) : (Op.equalIn (d + 1) t u v).run P w = .ok b w := by
  cases x <;> cases y <;> simp [leafEq] at h
  subst h
  cases hx; cases hy
  simp [Op.equalIn, run_underlying hu, beq_toListBytes]

theorem leafEq_float {P : Program} {t : TypeId} {k : FloatKind} {x y : V} {u v : Value} (hx : RelV ρ x u) (hy : RelV ρ y v) {b : Bool} (h : leafEq (.float k) x y = some b)
    (hu : P.underlying t = some (.float k)) (d : Nat) (w : World) : (Op.equalIn (d + 1) t u v).run P w = .ok b w := by
  cases x <;> cases y <;> simp [leafEq] at h
  obtain ⟨h1, h2⟩ := h
  subst h1; subst h2
  cases hx; cases hy
  simp [Op.equalIn, run_underlying hu]

theorem leafEq_cplx {P : Program} {t : TypeId} {k : FloatKind} {x y : V} {u v : Value} (hx : RelV ρ x u) (hy : RelV ρ y v) {b : Bool} (h : leafEq (.cplx k) x y = some b)
    (hu : P.underlying t = some (.complex k)) (d : Nat) (w : World) : (Op.equalIn (d + 1) t u v).run P w = .ok b w := by
  cases x <;> cases y <;> simp [leafEq] at h
  obtain ⟨h1, h2⟩ := h
  subst h1; subst h2
  cases hx; cases hy
  simp [Op.equalIn, run_underlying hu]

theorem partV_run {P : Program} {t : TypeId} {cs : List V} {ys : List Value} (hl : RelL ρ cs ys) {off : Nat} {v : V} (h : partV P t cs off = some v) (w : World) :
    ∃ y, (part t ys.toArray off).run P w = .ok y w ∧ RelV ρ v y := by
  unfold partV at h
  split at h
  · rename_i fs hu
    cases h
    refine ⟨_, part_agg hu rfl ys off w, RelL.agg ⟨by simp [hl.1], fun i v y hv hy => ?_⟩⟩
    rw [List.getElem?_take] at hv hy
    split at hv
    · rename_i hi
      rw [if_pos hi] at hy
      rw [List.getElem?_drop] at hv hy
      exact hl.2 _ v y hv hy
    · cases hv
  · cases h
  · rename_i u h1 h2 hu
    have hlt : off < ys.length := by rw [← hl.1]; exact (List.getElem?_eq_some_iff.1 h).1
    have hy := List.getElem?_eq_getElem hlt
    have hag : aggTy u = false := by
      cases u <;> first | rfl | (exact absurd rfl (h1 _)) | (exact absurd rfl (h2 _ _))
    exact ⟨ys[off], part_leaf hu hag hy w, (hl.2 off v _ h hy).1⟩
  · cases h

theorem fieldsOf_of {P : Program} {t : TypeId} {fs : Array Field} (h : P.underlying t = some (.struct fs)) : P.fieldsOf t = fs := by
  simp [Program.fieldsOf, h]

theorem eqV_run {P : Program} : ∀ (d d' : Nat) {t : TypeId} {x y : V} {u v : Value} {b : Bool}, d ≤ d' → RelV ρ x u → RelV ρ y v → eqV P d t x y = some b → ∀ w, (Op.equalIn d' t u v).run P w = .ok b w
  | 0, _, t, x, y, u, v, b, _, _, _, h, _ => by simp [eqV] at h
  | d + 1, 0, t, x, y, u, v, b, hd, _, _, _, _ => by omega
  | d + 1, d' + 1, t, x, y, u, v, b, hd, hx, hy, h, w => by
    unfold eqV at h
    split at h
    · rename_i fs hu
      split at h
      · rename_i xs ys
        split at h
        · cases h
        · rename_i hst
          obtain ⟨us, rfl, hxs⟩ := agg_inv hx
          obtain ⟨vs, rfl, hys⟩ := agg_inv hy
          have hst' : P.stoodInHeld t = false := by simpa using hst
          rw [run_equalIn_struct w d' t _ _ (by rw [fieldsOf_of hu]; exact hu) hst', fieldsOf_of hu]
          clear hu hst hst' hx hy
          generalize fs.toList = l at h
          induction l generalizing b with
          | nil => simp [eqFs] at h; subst h; simp [Op.eqFields]
          | cons f l ih =>
            simp only [eqFs] at h
            split at h
            · cases h
            · rename_i hname
              simp only [Option.bind_eq_some_iff] at h
              obtain ⟨x1, hx1, y1, hy1, r1, hr1, r2, hr2, h⟩ := h
              cases h
              obtain ⟨u1, hu1, hru⟩ := partV_run hxs hx1 w
              obtain ⟨v1, hv1, hrv⟩ := partV_run hys hy1 w
              have e1 := eqV_run d d' (by omega) hru hrv hr1 w
              have e2 := ih r2 hr2
              simp only [Op.eqFields]
              rw [if_pos hname]
              simp only [Sem.run_bind, hu1, Result.andThen_ok, hv1, e1]
              cases r1
              · simp
              · simpa using e2
      · cases h
    · exact leafEq_int hx hy h (by assumption) d' w
    · exact leafEq_bool hx hy h (by assumption) d' w
    · exact leafEq_str hx hy h (by assumption) d' w
    · exact leafEq_float hx hy h (by assumption) d' w
    · exact leafEq_cplx hx hy h (by assumption) d' w
    · cases h

end ops
end
end Go.L
