/- Calls that leave all that was there. -/
import Derived.Test.YtbpibiapjangmaaTabP
namespace Go.Proofs.Ytbpibiapjangmaa.tabs
open Go Go.L
set_option linter.unusedVariables false
set_option linter.unusedSimpArgs false

/-- An append to a slice that lies behind a place leaves what is ahead of it. -/
theorem happ_over {h h' : H} {v v' : V} {es k : Nat} {new : List V} {b : Nat} (e : happ h v es k new = some (v', h')) (hv : ∀ i, oid v = some i → b ≤ i) (hb : b ≤ h.length) :
    Over b h h' ∧ ∀ i, oid v' = some i → b ≤ i := by
  have push : ∀ o : O, Over b h (h ++ [o]) := fun o => ⟨by simp, fun i hi => by rw [List.getElem?_append_left (by omega)]⟩
  unfold happ at e
  split at e
  · split at e
    · cases e; exact ⟨⟨Nat.le_refl _, fun _ _ => rfl⟩, hv⟩
    · cases e
  · split at e
    case isFalse => cases e
    cases v with
    | nils =>
      simp only at e
      split at e
      · cases e; exact ⟨push _, fun i hi => by simp [oid] at hi; omega⟩
      · cases e
    | sl id ver off len es' cap =>
      have hid := hv id rfl
      simp only at e
      split at e
      case isFalse => cases e
      split at e
      case h_2 => cases e
      split at e
      case isFalse => cases e
      split at e
      case isFalse => cases e
      split at e
      case isFalse => cases e
      have set : ∀ o : O, Over b h (h.set id o) := fun o => ⟨by simp, fun i hi => by rw [List.getElem?_set_ne (by omega)]⟩
      cases cap with
      | none => cases e; exact ⟨set _, fun i hi => by simp [oid] at hi; omega⟩
      | some c =>
        simp only at e
        split at e
        · split at e
          · cases e; exact ⟨set _, fun i hi => by simp [oid] at hi; omega⟩
          · cases e
        · cases e; exact ⟨push _, fun i hi => by simp [oid] at hi; omega⟩
    | _ => cases e

theorem Over.trans {b : Nat} {x y z : H} (k : Over b x y) (k' : Over b y z) : Over b x z := ⟨Nat.le_trans k.1 k'.1, fun i hi => (k'.2 i hi).trans (k.2 i hi)⟩

/-- A bind that came to something. -/
theorem ob {α β : Type} {o : Option α} {f : α → Option β} {r : β} (h : o.bind f = some r) : ∃ a, o = some a ∧ f a = some r := Option.bind_eq_some_iff.1 h

theorem gro77L (N : Nat) (b : Nat) : ∀ (m : Nat) (v x : V) (n i : Int) (h : H) (w : V) (h' : H), L77_0 N m (v, x, n, i, h) = some (w, h') → (∀ i, oid v = some i → b ≤ i) → b ≤ h.length → Over b h h'
  | 0, v, x, n, i, h, w, h', e, hv, hb => by rw [L77_0] at e; cases e
  | m + 1, v, x, n, i, h, w, h', e, hv, hb => by
    rw [L77_0] at e
    split at e
    · obtain ⟨q, _, e⟩ := ob e
      obtain ⟨_, _, e⟩ := ob e
      obtain ⟨_, _, e⟩ := ob e
      obtain ⟨_, _, e⟩ := ob e
      obtain ⟨⟨v2, h2⟩, e1, e⟩ := ob e
      obtain ⟨o, hv2⟩ := happ_over e1 hv hb
      exact o.trans (gro77L N b m _ _ _ _ _ _ _ e hv2 (by have := o.1; omega))
    · cases e; exact ⟨Nat.le_refl _, fun _ _ => rfl⟩

theorem gro77 (N : Nat) : ∀ t s, F77 N t = some s → Grows (decVs ks77 t).2 (outR rs77 s).2 := by
  rintro ⟨a0, h⟩ ⟨w, h'⟩ e
  show Grows h h'
  rw [F77] at e
  obtain ⟨⟨x1, _⟩, _, e⟩ := ob e
  simp only at e
  split at e
  · cases e; exact ⟨Nat.le_refl _, fun _ _ => rfl⟩
  · obtain ⟨_, _, e⟩ := ob e
    obtain ⟨_, _, e⟩ := ob e
    obtain ⟨_, _, e⟩ := ob e
    obtain ⟨⟨w2, h2⟩, e1, e⟩ := ob e
    cases e
    exact gro77L N h.length N _ _ _ _ _ _ _ e1 (by simp [oid]) (Nat.le_refl _)

theorem gro32L (N : Nat) (b : Nat) : ∀ (m : Nat) (y v x : V) (n i : Int) (h : H) (w : V) (h' : H), L32_0 N m (y, v, x, n, i, h) = some (w, h') → (∀ i, oid v = some i → b ≤ i) → b ≤ h.length → Over b h h'
  | 0, y, v, x, n, i, h, w, h', e, hv, hb => by rw [L32_0] at e; cases e
  | m + 1, y, v, x, n, i, h, w, h', e, hv, hb => by
    rw [L32_0] at e
    split at e
    · obtain ⟨q, _, e⟩ := ob e
      obtain ⟨_, _, e⟩ := ob e
      obtain ⟨_, _, e⟩ := ob e
      obtain ⟨_, _, e⟩ := ob e
      obtain ⟨⟨y2, v2, x2, n2, i2, h2⟩, e1, e⟩ := ob e
      simp only at e
      split at e1
      · obtain ⟨_, _, e1⟩ := ob e1
        obtain ⟨⟨v3, h3⟩, e2, e1⟩ := ob e1
        cases e1
        obtain ⟨o, hv2⟩ := happ_over e2 hv hb
        exact o.trans (gro32L N b m _ _ _ _ _ _ _ _ e hv2 (by have := o.1; omega))
      · cases e1
        exact gro32L N b m _ _ _ _ _ _ _ _ e hv hb
    · cases e; exact ⟨Nat.le_refl _, fun _ _ => rfl⟩

theorem gro32 (N : Nat) : ∀ t s, F32 N t = some s → Grows (decVs ks32 t).2 (outR rs32 s).2 := by
  rintro ⟨a0, h⟩ ⟨w, h'⟩ e
  show Grows h h'
  rw [F32] at e
  obtain ⟨⟨x1, _⟩, _, e⟩ := ob e
  simp only at e
  split at e
  · cases e; exact ⟨Nat.le_refl _, fun _ _ => rfl⟩
  · obtain ⟨_, _, e⟩ := ob e
    obtain ⟨_, _, e⟩ := ob e
    obtain ⟨_, _, e⟩ := ob e
    obtain ⟨⟨w2, h2⟩, e1, e⟩ := ob e
    cases e
    exact gro32L N h.length N _ _ _ _ _ _ _ _ e1 (by simp [oid]) (Nat.le_refl _)

end Go.Proofs.Ytbpibiapjangmaa.tabs
namespace Go.Proofs.Ytbpibiapjangmaa
open Go Go.L
theorem gdg77 (N : Nat) : CalOk Try.prog 77 (.gro (mkFun ks77 rs77 (F77 N))) := mkFun_gro (fine77 N) (good77 N) (tabs.gro77 N)
theorem gdg32 (N : Nat) : CalOk Try.prog 32 (.gro (mkFun ks32 rs32 (F32 N))) := mkFun_gro (fine32 N) (good32 N) (tabs.gro32 N)
end Go.Proofs.Ytbpibiapjangmaa
