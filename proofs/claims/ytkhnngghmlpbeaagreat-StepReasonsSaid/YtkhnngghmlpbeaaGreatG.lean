/- Calls that leave all that was there, or write into their first argument's object only. -/
import Derived.Test.YtkhnngghmlpbeaaGreatL39
import Derived.Test.YtkhnngghmlpbeaaGreatg
namespace Go.Proofs.YtkhnngghmlpbeaaGreat.hands
open Go Go.L
set_option linter.unusedVariables false
set_option linter.unusedSimpArgs false
set_option maxRecDepth 100000

def oid : V → Option Nat
  | .sl id _ _ _ _ _ => some id
  | _ => none

/-- What is ahead of a place stays. -/
def Over (b : Nat) (h h' : H) : Prop := h.length ≤ h'.length ∧ ∀ i, i < b → h'[i]? = h[i]?

/-- An append to a slice that lies behind a place leaves what is ahead of it. -/
theorem happ_over {h h' : H} {v v' : V} {es k : Nat} {new : List V} {b : Nat} (e : happ h v es k new = some (v', h')) (hv : ∀ i, oid v = some i → b ≤ i) (hb : b ≤ h.length) :
    Over b h h' ∧ ∀ i, oid v' = some i → b ≤ i := by
  have push : ∀ o : O, Over b h (h ++ [o]) := fun o => ⟨by simp, fun i hi => by rw [List.getElem?_append_left (by omega)]⟩
  unfold happ at e
  split at e
  · split at e
    · cases e; exact ⟨⟨Nat.le_refl _, fun _ _ => rfl⟩, hv⟩
    · cases e
  · split at e
    case isFalse => cases e
    cases v with
    | nils =>
      simp only at e
      split at e
      · cases e; exact ⟨push _, fun i hi => by simp [oid] at hi; omega⟩
      · cases e
    | sl id ver off len es' cap =>
      have hid := hv id rfl
      simp only at e
      split at e
      case isFalse => cases e
      split at e
      case h_2 => cases e
      split at e
      case isFalse => cases e
      split at e
      case isFalse => cases e
      split at e
      case isFalse => cases e
      have set : ∀ o : O, Over b h (h.set id o) := fun o => ⟨by simp, fun i hi => by rw [List.getElem?_set_ne (by omega)]⟩
      cases cap with
      | none => cases e; exact ⟨set _, fun i hi => by simp [oid] at hi; omega⟩
      | some c =>
        simp only at e
        split at e
        · split at e
          · cases e; exact ⟨set _, fun i hi => by simp [oid] at hi; omega⟩
          · cases e
        · cases e; exact ⟨push _, fun i hi => by simp [oid] at hi; omega⟩
    | _ => cases e

theorem Over.trans {b : Nat} {x y z : H} (k : Over b x y) (k' : Over b y z) : Over b x z := ⟨Nat.le_trans k.1 k'.1, fun i hi => (k'.2 i hi).trans (k.2 i hi)⟩

/-- A bind that came to something. -/
theorem ob {α β : Type} {o : Option α} {f : α → Option β} {r : β} (h : o.bind f = some r) : ∃ a, o = some a ∧ f a = some r := Option.bind_eq_some_iff.1 h


theorem gro75 (N : Nat) (x : V) (h : H) (w : V) (h' : H) (e : F75 N (x, h) = some (w, h')) : Over h.length h h' ∧ ∀ i, oid w = some i → h.length ≤ i := by
  rw [F75] at e
  obtain ⟨b1, _, e⟩ := ob e
  split at e
  · cases e; exact ⟨⟨Nat.le_refl _, fun _ _ => rfl⟩, fun i hi => by cases hi⟩
  · obtain ⟨h2, e2, e⟩ := ob e
    cases e2
    obtain ⟨cs, _, e⟩ := ob e
    obtain ⟨⟨v3, h4⟩, e3, e⟩ := ob e
    cases e
    obtain ⟨o, hv⟩ := happ_over (b := h.length) e3 (fun i hi => by simp [oid] at hi; omega) (by simp)
    exact ⟨Over.trans ⟨by simp, fun i hi => by rw [List.getElem?_append_left hi]⟩ o, hv⟩

theorem wr1 {h h' : H} {c : Nat} {v : V} (e : wr h (.ptr c 0 1) [v] = some h') : (∀ i, i ≠ c → h'[i]? = h[i]?) ∧ h'.length = h.length ∧ rd h' (.ptr c 0 1) 0 = some v ∧ c < h.length := by
  simp only [wr] at e
  split at e
  case h_2 => cases e
  rename_i v0 cs ho
  split at e
  case isFalse => cases e
  rename_i hv0
  subst hv0
  split at e
  case isFalse => cases e
  rename_i hl
  cases e
  have hc := (List.getElem?_eq_some_iff.1 ho).1
  refine ⟨fun i hi => by rw [List.getElem?_set_ne (Ne.symm hi)], by simp, ?_, hc⟩
  rw [rd_obj (List.getElem?_set_self hc)]
  simp at hl
  rw [splice1, List.getElem?_set_self (by omega)]

theorem rd_at {h h' : H} {c v off i : Nat} (e : h'[c]? = h[c]?) : rd h' (.ptr c v off) i = rd h (.ptr c v off) i := by simp only [rd, e]

theorem gro42L (N : Nat) (b c : Nat) (hbc : b ≤ c) : ∀ (m : Nat) (y : V) (n i : Int) (h : H) (w : V) (h' : H), L42_0 N m (.ptr c 0 0, y, n, i, h) = some (w, h') →
    (∀ s, rd h (.ptr c 0 1) 0 = some s → ∀ i, oid s = some i → b ≤ i) → c < h.length → Over b h h'
  | 0, y, n, i, h, w, h', e, hv, hb => by rw [L42_0] at e; cases e
  | m + 1, y, n, i, h, w, h', e, hv, hb => by
    rw [L42_0] at e
    split at e
    · obtain ⟨q, _, e⟩ := ob e
      obtain ⟨_, _, e⟩ := ob e
      obtain ⟨_, _, e⟩ := ob e
      obtain ⟨_, _, e⟩ := ob e
      obtain ⟨_, _, e⟩ := ob e
      obtain ⟨⟨x34, h35⟩, e1, e⟩ := ob e
      obtain ⟨g1, _⟩ := gro75 N _ _ _ _ e1
      obtain ⟨_, _, e⟩ := ob e
      obtain ⟨_, _, e⟩ := ob e
      obtain ⟨x36, e2, e⟩ := ob e
      obtain ⟨⟨v37, h38⟩, e3, e⟩ := ob e
      obtain ⟨_, _, e⟩ := ob e
      obtain ⟨_, _, e⟩ := ob e
      obtain ⟨h39, e4, e⟩ := ob e
      have hp : padd (.ptr c 0 0) 1 = .ptr c 0 1 := by simp [padd]
      rw [hp] at e2 e4
      rw [rd_at (g1.2 c hb)] at e2
      obtain ⟨o2, hv2⟩ := happ_over (b := b) e3 (hv x36 e2) (by have := g1.1; omega)
      obtain ⟨k1, k2, k3, k4⟩ := wr1 e4
      have o3 : Over b h38 h39 := ⟨by omega, fun i hi => k1 i (by omega)⟩
      have o1 : Over b h h35 := ⟨g1.1, fun i hi => g1.2 i (by omega)⟩
      refine ((o1.trans o2).trans o3).trans (gro42L N b c hbc m _ _ _ _ _ _ e (fun s hs => ?_) (by omega))
      rw [k3] at hs
      cases hs
      exact hv2
    · cases e; exact ⟨Nat.le_refl _, fun _ _ => rfl⟩

theorem gro42 (N : Nat) : ∀ t s, F42 N t = some s → Grows (decVs ks42 t).2 (outR rs42 s).2 := by
  rintro ⟨a0, h⟩ ⟨w, h'⟩ e
  show Grows h h'
  rw [F42] at e
  obtain ⟨⟨x1, _⟩, _, e⟩ := ob e
  simp only at e
  split at e
  · cases e; exact ⟨Nat.le_refl _, fun _ _ => rfl⟩
  · obtain ⟨_, _, e⟩ := ob e
    obtain ⟨_, _, e⟩ := ob e
    obtain ⟨⟨x3, h4⟩, e1, e⟩ := ob e
    obtain ⟨g1, g2⟩ := gro75 N _ _ _ _ e1
    obtain ⟨_, _, e⟩ := ob e
    obtain ⟨h5, e5, e⟩ := ob e
    cases e5
    obtain ⟨_, _, e⟩ := ob e
    obtain ⟨_, _, e⟩ := ob e
    obtain ⟨_, _, e⟩ := ob e
    obtain ⟨⟨x40, h41⟩, e6, e⟩ := ob e
    cases e
    have o2 : Over h.length h4 (h4 ++ [O.cells 0 [(.bool true), .nils, x3]]) := ⟨by simp, fun i hi => by rw [List.getElem?_append_left (by have := g1.1; omega)]⟩
    have o3 := gro42L N h.length h4.length g1.1 N _ _ _ _ _ _ e6 (fun s hs i hi => by
      rw [rd_obj (h := h4 ++ [O.cells 0 [(.bool true), .nils, x3]]) (cs := [(.bool true), .nils, x3]) (v := 0) (by simp)] at hs
      cases hs
      cases hi) (by simp)
    exact (g1.trans o2).trans o3

theorem own45 (N : Nat) : ∀ t s, F45 N t = some s → Owns (decVs ks45 t).1 (decVs ks45 t).2 (outR rs45 s).2 := by
  rintro ⟨a0, h⟩ ⟨y0, y1, y2, y3, y4, y5, y6, y7, h'⟩ e
  show Owns [a0] h h'
  rw [F45] at e
  obtain ⟨⟨x1, x2, x3, x4, x5, x6, x7, x8, _⟩, _, e⟩ := ob e
  obtain ⟨r, e1, e⟩ := ob e
  have key : Owns [a0] h r.2.2.2.2.2.2.2.2.2.2.2.2.2.2.2 := by
    split at e1
    · obtain ⟨_, _, e1⟩ := ob e1
      obtain ⟨_, _, e1⟩ := ob e1
      obtain ⟨_, _, e1⟩ := ob e1
      obtain ⟨_, _, e1⟩ := ob e1
      obtain ⟨_, _, e1⟩ := ob e1
      obtain ⟨_, _, e1⟩ := ob e1
      obtain ⟨_, _, e1⟩ := ob e1
      obtain ⟨_, _, e1⟩ := ob e1
      obtain ⟨_, _, e1⟩ := ob e1
      obtain ⟨h14, e2, e1⟩ := ob e1
      cases e1
      intro i hi hne
      show h14[i]? = h[i]?
      cases a0 with
      | ptr id v off =>
        simp only [padd, wr] at e2
        split at e2
        case h_2 => cases e2
        split at e2
        case isFalse => cases e2
        split at e2
        case isFalse => cases e2
        cases e2
        have : id ≠ i := fun e => hne (by simp [ptrId, e])
        rw [List.getElem?_set_ne this]
      | _ => simp [padd, wr] at e2
    · cases e1
      exact fun i hi hne => rfl
  obtain ⟨a1, a2, a3, a4, a5, a6, a7, a8, a9, a10, a11, a12, a13, a14, a15, a16⟩ := r
  cases e
  exact key

end Go.Proofs.YtkhnngghmlpbeaaGreat.hands
namespace Go.Proofs.YtkhnngghmlpbeaaGreat
open Go Go.L
set_option maxRecDepth 100000
theorem gdg42 (N : Nat) : CalOk Tryz.prog 42 (.gro (mkFun ks42 rs42 (F42 N))) := mkFun_gro (fine42 N) (good42 N) (hands.gro42 N)
theorem gdo45 (N : Nat) : CalOk Tryz.prog 45 (.own (mkFun ks45 rs45 (F45 N))) := mkFun_own (fine45 N) (good45 N) (hands.own45 N)
end Go.Proofs.YtkhnngghmlpbeaaGreat
