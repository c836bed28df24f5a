/- text.Print of the pid <0.1>, as a callee that is played. -/
import Derived.Test.YtgipaccfnlklcaaGreatDoorV2
import Derived.Test.YtgipaccfnlklcaaGreatDoorLC
namespace Go.Proofs.YtgipaccfnlklcaaGreatDoor
noncomputable section
open Go Go.L
set_option linter.unusedVariables false
set_option linter.unusedSimpArgs false
set_option maxRecDepth 100000

abbrev ks28 : List SK := [.agg [(.int .i64), (.int .i64), (.cplx .f64), .str, (.int .i64), (.int .i64), .ref]]
abbrev rs28 : List SK := [.one .str, .one (.int .i64)]

def F28x : Int × Int × (Nat × Nat) × ByteArray × Int × Int × V × H → Option (ByteArray × Int × H)
  | (k, n, c, s, a, b, l, h) => match (k == 6 && (n == 0 && (Nat.beq c.1 0 && (Nat.beq c.2 0 && (s.data.toList.isEmpty && (a == 0 && b == 1)))))), l with
    | true, .nils => some (ByteArray.mk #[60, 48, 46, 49, 62], 0, h)
    | _, _ => none

theorem relH_keeps {ρ : Ren} {h : H} {w w' : World} (hh : RelH ρ h w) (k : Keeps w w') : RelH ρ h w' :=
  ⟨hh.n, hh.live, fun id g hg => by
    obtain ⟨o, ob, h1, h2, h3⟩ := hh.obj id g hg
    exact ⟨o, ob, h1, by rw [k.block _ (hh.blk_lt hg)]; exact h2, h3⟩, hh.inj, fun b ob hb => by rw [k.block _ (hh.ro_lt hb)]; exact hh.ro b ob hb, hh.sep, hh.rsv⟩

theorem step_keeps {ρ : Ren} {w w' : World} (k : Keeps w w') : Step ρ nol w ρ nol w' :=
  ⟨.refl ρ, ⟨k.os, k.output, k.size⟩, k.size, fun b hb h1 h2 => ⟨k.block b hb, h1, h2, rfl⟩⟩

theorem pid_of {ρ : Ren} {x : Value} (h : RelV ρ pidV x) : x = pidT := by
  cases h with
  | agg cs xs h1 h2 h3 =>
    have hs : xs.size = 7 := h1
    have e0 := h2 0 _ _ rfl (Array.getElem?_eq_getElem (by omega))
    have e1 := h2 1 _ _ rfl (Array.getElem?_eq_getElem (by omega))
    have e2 := h2 2 _ _ rfl (Array.getElem?_eq_getElem (by omega))
    have e3 := h2 3 _ _ rfl (Array.getElem?_eq_getElem (by omega))
    have e4 := h2 4 _ _ rfl (Array.getElem?_eq_getElem (by omega))
    have e5 := h2 5 _ _ rfl (Array.getElem?_eq_getElem (by omega))
    have e6 := h2 6 _ _ rfl (Array.getElem?_eq_getElem (by omega))
    congr 1
    apply Array.ext
    · exact hs
    · intro i hi hi2
      have : i = 0 ∨ i = 1 ∨ i = 2 ∨ i = 3 ∨ i = 4 ∨ i = 5 ∨ i = 6 := by omega
      rcases this with rfl | rfl | rfl | rfl | rfl | rfl | rfl
      · generalize xs[0] = y at e0; cases e0; rfl
      · generalize xs[1] = y at e1; cases e1; rfl
      · generalize xs[2] = y at e2; cases e2; rfl
      · generalize xs[3] = y at e3; cases e3; rfl
      · generalize xs[4] = y at e4; cases e4; rfl
      · generalize xs[5] = y at e5; cases e5; rfl
      · generalize xs[6] = y at e6; cases e6; rfl

theorem f28_inv (k n : Int) (c : Nat × Nat) (z : ByteArray) (a b : Int) (l : V) (h : H) (s : ByteArray × Int × H) (hs : F28x (k, n, c, z, a, b, l, h) = some s) :
    k = 6 ∧ n = 0 ∧ c = (0, 0) ∧ z = ByteArray.mk #[] ∧ a = 0 ∧ b = 1 ∧ l = .nils ∧ s = (ByteArray.mk #[60, 48, 46, 49, 62], 0, h) := by
  unfold F28x at hs
  dsimp only at hs
  split at hs
  case h_2 => cases hs
  rename_i hc
  cases hs
  simp only [Bool.and_eq_true, beq_iff_eq] at hc
  obtain ⟨rfl, rfl, hc1, hc2, hz, rfl, rfl⟩ := hc
  have hc1 : c.1 = 0 := Nat.eq_of_beq_eq_true hc1
  have hc2 : c.2 = 0 := Nat.eq_of_beq_eq_true hc2
  have hz : z = ByteArray.mk #[] := by
    cases z with
    | mk d =>
      have : d.toList = [] := by simpa using hz
      congr 1
      exact Array.toList_eq_nil_iff.1 this
  exact ⟨rfl, rfl, Prod.ext hc1 hc2, hz, rfl, rfl, rfl, rfl⟩

theorem gd28 : CalOk Tryz.prog 28 (.pure (mkP ks28 rs28 F28x)) := by
  intro vs s hs
  obtain ⟨t, ht, hs⟩ := Option.bind_eq_some_iff.1 hs
  obtain ⟨y, hy, hd⟩ := encVs_law _ vs _ t ht
  obtain ⟨k, n, c, z, a, b, l, h0⟩ := t
  have hv : vs = [.agg [.int .i64 k, .int .i64 n, .cplx .f64 c.1 c.2, .str z, .int .i64 a, .int .i64 b, l]] := (congrArg Prod.fst hd).symm
  obtain ⟨e1, e2, e3, e4, e5, e6, e7, e8⟩ := f28_inv k n c z a b l h0 s hs
  clear hd ht hs hy
  cases e1; cases e2; cases e3; cases e4; cases e5; cases e6; cases e7; cases e8
  subst hv
  refine ⟨⟨Tryz.f28, Tryz.func28, by kernel_rfl, by kernel_rfl⟩, fun h ρ w xs hh hsz hrel => ?_⟩
  have hsz : xs.size = 1 := hsz
  have hx : xs = #[pidT] := one_val hsz (by
    have e := Array.getElem?_eq_getElem (xs := xs) (i := 0) (by omega)
    rw [e, pid_of (hrel 0 _ _ rfl e)])
  subst hx
  refine (print_calls w).mono fun e w' he => ?_
  obtain ⟨rfl, kk⟩ := he
  refine ⟨ρ, _, rfl, relH_keeps hh kk, step_keeps kk, .tup _ _ rfl fun i v x hv hx => ?_⟩
  match i with
  | 0 => cases hv; cases hx; exact .str _
  | 1 => cases hv; cases hx; exact .int _ _
  | i + 2 => simp at hx

end
end Go.Proofs.YtgipaccfnlklcaaGreatDoor
