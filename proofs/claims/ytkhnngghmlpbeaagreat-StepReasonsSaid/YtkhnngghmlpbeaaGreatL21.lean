/- Lists of operations, one after another. -/
import Derived.Test.YtkhnngghmlpbeaaGreatL20
import Derived.LoopN
namespace Go.L
noncomputable section

/-- Operations one after another, and what comes behind them. -/
def wpL (P : Program) (ops : Array Oper) (Q : Exit → Act → World → Prop) (next : Act → World → Prop) : List Oper → Act → World → Prop
  | [] => next
  | o :: rest => fun a w =>
    if Region.wanted o (yielded ops a.tmps) then o.wp P a w (wpL P ops Q next rest) Q ∨ (o.asks P a w ∧ LetsOut Q) else wpL P ops Q next rest (a.put o.dst undef) w

theorem wpL_append {P : Program} {ops : Array Oper} {Q : Exit → Act → World → Prop} {next : Act → World → Prop} : ∀ (l l' : List Oper),
    wpL P ops Q next (l ++ l') = wpL P ops Q (wpL P ops Q next l') l
  | [], _ => rfl
  | o :: l, l' => by
    simp only [List.cons_append, wpL, wpL_append l l']

theorem wpL_list {P : Program} {ops : Array Oper} {Q : Exit → Act → World → Prop} : ∀ (l : List Oper), wpL P ops Q (Q .normal) l = wpList P ops Q l
  | [] => rfl
  | o :: l => by
    funext a w
    simp only [wpL, wpList, wpL_list l]

theorem lk_clr : ∀ (l : List Oper) (s : List (Nat × S)) (i : Nat), lk (clr l s) i = .bad ∨ ((∀ o ∈ l, o.dst ≠ some i) ∧ lk (clr l s) i = lk s i)
  | [], s, i => .inr ⟨by simp, rfl⟩
  | o :: l, s, i => by
    unfold clr
    split
    · rename_i d hd
      rw [lk_cons]
      by_cases h : d = i
      · left; rw [if_pos h]
      · rw [if_neg h]
        rcases lk_clr l s i with h1 | ⟨h1, h2⟩
        · exact .inl h1
        · refine .inr ⟨fun o' ho' => ?_, h2⟩
          rcases List.mem_cons.1 ho' with rfl | ho'
          · rw [hd]; intro e; cases e; exact h rfl
          · exact h1 o' ho'
    · rename_i hd
      rcases lk_clr l s i with h1 | ⟨h1, h2⟩
      · exact .inl h1
      · refine .inr ⟨fun o' ho' => ?_, h2⟩
        rcases List.mem_cons.1 ho' with rfl | ho'
        · rw [hd]; intro e; cases e
        · exact h1 o' ho'

theorem lk_clr_of : ∀ (l : List Oper) (s : List (Nat × S)) (i : Nat), (∀ o ∈ l, o.dst ≠ some i) → lk (clr l s) i = lk s i
  | [], s, i, _ => rfl
  | o :: l, s, i, h => by
    unfold clr
    have ih := lk_clr_of l s i fun o' ho' => h o' (List.mem_cons_of_mem _ ho')
    split
    · rename_i d hd
      rw [lk_cons, if_neg (fun e => h o (List.mem_cons_self ..) (by rw [hd, e])), ih]
    · exact ih

def boolOf (v : Value) : Option Bool :=
  match v with
  | .bool b => some b
  | _ => none

section
variable {R : Type} {E : Env} {ρ : Ren} {lo : Nat → Option Nat} {a : Act} {w : World} {ops : Array Oper}

theorem dstOf_yielded {j cj : Nat} (h : dstOf ops j = some cj) (tmps : Array Value) : yielded ops tmps j = boolOf (tmps.getD cj undef) := by
  unfold yielded dstOf at *
  rw [h]
  simp only [Option.bind_some, Array.getD_eq_getD_getElem?]
  cases hx : tmps[cj]? with
  | none => simp [undef, boolOf]
  | some x => cases x <;> rfl

theorem slot_bool {st : St} (hr : RelA E.n ρ lo st a w) {i : Nat} {b : Bool} (hc : lk st.s i = .v (.bool b)) : a.tmps.getD i undef = .bool b := by
  have := hr.s i
  rw [hc] at this
  revert this
  generalize a.tmps.getD i undef = v
  intro this
  cases this
  rfl

theorem slot_un {st : St} (hr : RelA E.n ρ lo st a w) {i : Nat} (hc : lk st.s i = .un) : a.tmps.getD i undef = undef := by
  have := hr.s i
  rw [hc] at this
  exact this

/-- A slot said otherwise. -/
theorem RelA.reslot {n : Nat} {st : St} (hr : RelA n ρ lo st a w) {d : Nat} {x : S} (hx : RelS ρ lo x (a.tmps.getD d undef)) : RelA n ρ lo ⟨(d, x) :: st.s, st.l, st.h⟩ a w :=
  ⟨hr.h, fun i => by
    rw [lk_cons]
    by_cases h : d = i
    · subst h; rw [if_pos rfl]; exact hx
    · rw [if_neg h]; exact hr.s i, hr.l, hr.ldom, hr.lout, hr.linj, hr.size, hr.defs⟩

theorem RelA.slots {n : Nat} {st : St} (hr : RelA n ρ lo st a w) {s : List (Nat × S)} (hs : ∀ i, RelS ρ lo (lk s i) (a.tmps.getD i undef)) : RelA n ρ lo ⟨s, st.l, st.h⟩ a w :=
  ⟨hr.h, hs, hr.l, hr.ldom, hr.lout, hr.linj, hr.size, hr.defs⟩

end
end
end Go.L
