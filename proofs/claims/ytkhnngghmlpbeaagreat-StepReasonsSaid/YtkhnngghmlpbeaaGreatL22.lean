/- Code, and functions. -/
import Derived.Test.YtkhnngghmlpbeaaGreatL21
namespace Go.L
noncomputable section

def X.exit' : X → Exit
  | .normal => .normal
  | .exit id => .exit id
  | .ret => .ret
  | .goto l => .goto l

theorem lk_normS (l : List (Nat × List V)) (s : List (Nat × S)) : ∀ (ls : List Nat) (i : Nat), lk (normS l s ls) i = .bad ∨ lk (normS l s ls) i = keepS l (lk s i)
  | [], i => .inl rfl
  | j :: ls, i => by
    unfold normS
    rw [lk_cons]
    by_cases h : j = i
    · subst h; right; rw [if_pos rfl]
    · rw [if_neg h]; exact lk_normS l s ls i

theorem lkl_normL (l : List (Nat × List V)) : ∀ (ll : List Nat) (t : Nat), lkl (normL l ll) t = if t ∈ ll then lkl l t else none
  | [], t => rfl
  | j :: ll, t => by
    unfold normL
    have ih := lkl_normL l ll t
    split
    · rename_i cs hcs
      rw [lkl_cons, ih]
      by_cases h : j = t
      · subst h; simp [hcs]
      · rw [if_neg h]
        have : (t ∈ j :: ll) = (t ∈ ll) := by simp [Ne.symm h]
        simp only [this]
    · rename_i hcs
      rw [ih]
      by_cases h : j = t
      · subst h; simp [hcs]
      · have : (t ∈ j :: ll) = (t ∈ ll) := by simp [Ne.symm h]
        simp only [this]

theorem norm_sound {n : Nat} {ρ : Ren} {lo : Nat → Option Nat} {st : St} {a : Act} {w : World} (hr : RelA n ρ lo st a w) (o : Option (List Nat × List Nat)) :
    ∃ lo', RelA n ρ lo' (st.norm o) a w ∧ Step ρ lo w ρ lo' w := by
  cases o with
  | none => exact ⟨lo, hr, .refl _ _ _⟩
  | some p =>
    obtain ⟨ls, ll⟩ := p
    have hlo : ∀ (t b : Nat), (if t ∈ ll then lo t else none) = some b → t ∈ ll ∧ lo t = some b := by
      intro t b h
      split at h
      · rename_i h'; exact ⟨h', h⟩
      · cases h
    refine ⟨fun t => if t ∈ ll then lo t else none, ⟨hr.h, fun i => ?_, fun t cs ht => ?_, fun t b ht => ?_, fun t b ht => ?_, fun t t' b h1 h2 => ?_, hr.size, hr.defs⟩, ⟨.refl _, .refl _, Nat.le_refl _, fun b hb h1 h2 => ⟨rfl, h1, fun t ht => ?_, rfl⟩⟩⟩
    · show RelS ρ _ (lk (normS (normL st.l ll) st.s ls) i) _
      rcases lk_normS (normL st.l ll) st.s ls i with h | h
      · rw [h]; trivial
      · rw [h]
        have := hr.s i
        cases hx : lk st.s i with
        | v x => rw [hx] at this; exact this
        | p x => rw [hx] at this; exact this.1
        | bad => trivial
        | un => rw [hx] at this; exact this
        | lp t off =>
          rw [hx] at this
          obtain ⟨b, hb, hv⟩ := this
          unfold keepS
          simp only [lkl_normL]
          by_cases ht : t ∈ ll
          · rw [if_pos ht]
            obtain ⟨cs, hcs⟩ := hr.ldom t b hb
            rw [hcs]
            exact ⟨b, by simp [ht, hb], hv⟩
          · rw [if_neg ht]; trivial
    · replace ht : lkl (normL st.l ll) t = some cs := ht
      rw [lkl_normL] at ht
      split at ht
      · rename_i h
        obtain ⟨b, ob, k1, k2, k3⟩ := hr.l t cs ht
        exact ⟨b, ob, by simp [h, k1], k2, k3⟩
      · cases ht
    · obtain ⟨h, h'⟩ := hlo t b ht
      obtain ⟨cs, hcs⟩ := hr.ldom t b h'
      exact ⟨cs, by show lkl (normL st.l ll) t = _; rw [lkl_normL, if_pos h, hcs]⟩
    · exact hr.lout t b (hlo t b ht).2
    · exact hr.linj t t' b (hlo t b h1).2 (hlo t' b h2).2
    · exact h2 t (hlo t b ht).2

end
end Go.L
