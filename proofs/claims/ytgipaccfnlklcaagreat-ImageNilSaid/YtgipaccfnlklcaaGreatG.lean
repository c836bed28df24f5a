/- Calls that write into their first argument's object only. -/
import Derived.Test.YtgipaccfnlklcaaGreatg1
namespace Go.Proofs.YtgipaccfnlklcaaGreat.hands
open Go Go.L
set_option linter.unusedVariables false
set_option linter.unusedSimpArgs false
set_option maxRecDepth 100000

/-- A bind that came to something. -/
theorem ob {α β : Type} {o : Option α} {f : α → Option β} {r : β} (h : o.bind f = some r) : ∃ a, o = some a ∧ f a = some r := Option.bind_eq_some_iff.1 h

/-- Only an object is written. -/
def Ow (p : V) (h h' : H) : Prop := ∀ i, ptrId p ≠ some i → h'[i]? = h[i]?

theorem Ow.refl (p : V) (h : H) : Ow p h h := fun _ _ => rfl
theorem Ow.trans {p : V} {a b c : H} (x : Ow p a b) (y : Ow p b c) : Ow p a c := fun i hi => (y i hi).trans (x i hi)

theorem wr_ow {h h' : H} {p : V} {k : Nat} {xs : List V} (e : wr h (padd p k) xs = some h') : Ow p h h' := by
  intro i hne
  cases p with
  | ptr id v off =>
    simp only [padd, wr] at e
    split at e
    case h_2 => cases e
    split at e
    case isFalse => cases e
    split at e
    case isFalse => cases e
    cases e
    have : id ≠ i := fun e => hne (by simp [ptrId, e])
    rw [List.getElem?_set_ne this]
  | _ => simp [padd, wr] at e

theorem own172 (N : Nat) (p : V) (a : Int) (h h' : H) (e : F172 N (p, a, h) = some h') : Ow p h h' := by
  rw [F172] at e
  obtain ⟨_, _, e⟩ := ob e
  obtain ⟨_, _, e⟩ := ob e
  split at e
  · obtain ⟨_, _, e⟩ := ob e
    obtain ⟨h2, e2, e⟩ := ob e
    cases e
    exact wr_ow e2
  · cases e
    exact .refl _ _

theorem own168L (N : Nat) (p : V) : ∀ (n : Nat) (a b c r : Int) (h h' : H), L168_0 N n (p, a, b, c, h) = some (r, h') → Ow p h h'
  | 0, a, b, c, r, h, h', e => by rw [L168_0] at e; cases e
  | n + 1, a, b, c, r, h, h', e => by
    rw [L168_0] at e
    obtain ⟨_, _, e⟩ := ob e
    obtain ⟨_, _, e⟩ := ob e
    split at e
    · cases e; exact .refl _ _
    obtain ⟨_, _, e⟩ := ob e
    obtain ⟨_, _, e⟩ := ob e
    obtain ⟨_, _, e⟩ := ob e
    obtain ⟨_, _, e⟩ := ob e
    obtain ⟨⟨b1, h1⟩, e1, e⟩ := ob e
    have e1 : h1 = h := by split at e1 <;> (cases e1; rfl)
    rw [e1] at e
    dsimp only at e
    split at e
    · obtain ⟨h2, e2, e⟩ := ob e
      exact (own172 N p _ _ _ e2).trans (own168L N p n _ _ _ _ _ _ e)
    obtain ⟨_, _, e⟩ := ob e
    obtain ⟨_, _, e⟩ := ob e
    obtain ⟨_, _, e⟩ := ob e
    obtain ⟨_, _, e⟩ := ob e
    split at e
    case isFalse => cases e
    obtain ⟨_, _, e⟩ := ob e
    obtain ⟨_, _, e⟩ := ob e
    obtain ⟨_, _, e⟩ := ob e
    obtain ⟨_, _, e⟩ := ob e
    obtain ⟨h2, e2, e⟩ := ob e
    have o2 := wr_ow e2
    split at e
    · cases e
    split at e
    · exact o2.trans (own168L N p n _ _ _ _ _ _ e)
    obtain ⟨⟨b3, h3⟩, e3, e⟩ := ob e
    have e3 : h3 = h2 := by split at e3 <;> (cases e3; rfl)
    rw [e3] at e
    dsimp only at e
    split at e
    · cases e
    · cases e; exact o2

theorem own168 (N : Nat) (p : V) (r : Int) (h h' : H) (e : F168 N (p, h) = some (r, h')) : Ow p h h' := by
  rw [F168] at e
  obtain ⟨_, _, e⟩ := ob e
  obtain ⟨_, _, e⟩ := ob e
  obtain ⟨_, _, e⟩ := ob e
  obtain ⟨_, _, e⟩ := ob e
  split at e
  · cases e; exact .refl _ _
  obtain ⟨_, _, e⟩ := ob e
  obtain ⟨_, _, e⟩ := ob e
  obtain ⟨_, _, e⟩ := ob e
  obtain ⟨_, _, e⟩ := ob e
  obtain ⟨⟨b1, h1⟩, e1, e⟩ := ob e
  have e1 : h1 = h := by split at e1 <;> (cases e1; rfl)
  rw [e1] at e
  dsimp only at e
  split at e
  · obtain ⟨h2, e2, e⟩ := ob e
    obtain ⟨⟨r3, h3⟩, e3, e⟩ := ob e
    cases e
    exact (own172 N p _ _ _ e2).trans (own168L N p N _ _ _ _ _ _ e3)
  obtain ⟨_, _, e⟩ := ob e
  obtain ⟨_, _, e⟩ := ob e
  obtain ⟨_, _, e⟩ := ob e
  obtain ⟨_, _, e⟩ := ob e
  split at e
  case isFalse => cases e
  obtain ⟨_, _, e⟩ := ob e
  obtain ⟨_, _, e⟩ := ob e
  obtain ⟨_, _, e⟩ := ob e
  obtain ⟨_, _, e⟩ := ob e
  obtain ⟨h2, e2, e⟩ := ob e
  have o2 := wr_ow e2
  split at e
  · obtain ⟨⟨r3, h3⟩, e3, e⟩ := ob e
    cases e
    exact o2.trans (own168L N p N _ _ _ _ _ _ e3)
  obtain ⟨⟨b3, h3⟩, e3, e⟩ := ob e
  have e3 : h3 = h2 := by split at e3 <;> (cases e3; rfl)
  rw [e3] at e
  dsimp only at e
  split at e
  · cases e
  · cases e; exact o2

end Go.Proofs.YtgipaccfnlklcaaGreat.hands
namespace Go.Proofs.YtgipaccfnlklcaaGreat
open Go Go.L
set_option maxRecDepth 100000
theorem gdo172 (N : Nat) : CalOk Tryz.prog 172 (.own (mkFun ks172 rs172 (F172 N))) := mkFun_own (fine172 N) (good172 N) fun ⟨p, a, h⟩ s e i _ hne => hands.own172 N p a h s e i hne
theorem gdo168 (N : Nat) : CalOk Tryz.prog 168 (.own (mkFun ks168 rs168 (F168 N))) := mkFun_own (fine168 N) (good168 N) fun ⟨p, h⟩ ⟨r, h'⟩ e i _ hne => hands.own168 N p r h h' e i hne
end Go.Proofs.YtgipaccfnlklcaaGreat
