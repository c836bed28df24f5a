/- The reference table: names. -/
import Derived.Test.YtbpibiapjangmaaTabC
namespace Go.Proofs.Ytbpibiapjangmaa.tabs
open Go Go.L
set_option linter.unusedVariables false
set_option linter.unusedSimpArgs false

def low (c : UInt8) : Bool := decide (((UInt8.toNat c : Nat) : Int) ≥ 97) && decide (((UInt8.toNat c : Nat) : Int) ≤ 122)

theorem lower (c : UInt8) : F83 100 (((UInt8.toNat c : Nat) : Int), []) = some (low c, []) := by
  rw [F83, low]
  generalize decide (((UInt8.toNat c : Nat) : Int) ≥ 97) = p1
  generalize decide (((UInt8.toNat c : Nat) : Int) ≤ 122) = p2
  cases p1 <;> cases p2 <;> rfl

/-- Letters that are not the first. -/
def rests (s : ByteArray) (i : Nat) : Nat → Bool
  | 0 => true
  | k + 1 => chr false (s[i]?.getD 0) && rests s (i + 1) k

theorem restL (N : Nat) (s : ByteArray) (hs : s.size < 4611686018427387904) (h : H) : ∀ (k m i : Nat), i + k = s.size → k < m →
    L72_0 N m (s, (i : Int), h) = some (if rests s i k = true then .inl h else .inr (false, h))
  | 0, m + 1, i, hi, hm => by
    rw [L72_0]
    simp only [itT, itF, ifT, ifF, dF (show ¬ (i : Int) < (s.size : Int) by omega), rests, if_true]
  | k + 1, m + 1, i, hi, hm => by
    have hi1 : i < s.size := by omega
    have e2 : IntKind.i64.wrap ((i : Int) + 1) = ((i + 1 : Nat) : Int) := by rw [wrapIn (by omega)]; omega
    have ih := restL N s hs h k m (i + 1) (by omega) (by omega)
    have hg : s[Int.toNat (i : Int)]? = some s[i] := by rw [Int.toNat_natCast, ba_get hi1]
    have hc : rests s i (k + 1) = (chr false s[i] && rests s (i + 1) k) := by rw [rests, ba_get hi1]; rfl
    rw [L72_0, hc, chr]
    have hlow := lower s[i]
    rw [low] at hlow
    generalize hrest : rests s (i + 1) k = rest at *
    generalize s[i] = c at *
    simp only [itT, itF, ifT, ifF, dT (show (i : Int) < (s.size : Int) by omega), if_pos (show 0 ≤ (i : Int) by omega), hg, bs, hlow, e2, ih]
    generalize decide (((UInt8.toNat c : Nat) : Int) ≥ 97) = p1
    generalize decide (((UInt8.toNat c : Nat) : Int) ≤ 122) = p2
    generalize decide (((UInt8.toNat c : Nat) : Int) ≥ 65) = p3
    generalize decide (((UInt8.toNat c : Nat) : Int) ≤ 90) = p4
    generalize decide (((UInt8.toNat c : Nat) : Int) ≥ 48) = p5
    generalize decide (((UInt8.toNat c : Nat) : Int) ≤ 57) = p6
    have e7 : (((UInt8.toNat c : Nat) : Int) != 95) = !(((UInt8.toNat c : Nat) : Int) == 95) := rfl
    rw [e7]
    generalize (((UInt8.toNat c : Nat) : Int) == 95) = p7
    cases p1 <;> cases p2 <;> cases p3 <;> cases p4 <;> cases p5 <;> cases p6 <;> cases p7 <;> first | rfl | exact ih

theorem rests_chrs (s : ByteArray) : ∀ (k i : Nat), chrs s (i + 1) k = rests s (i + 1) k
  | 0, i => rfl
  | k + 1, i => by
    rw [chrs, rests, rests_chrs s k (i + 1)]
    rfl

theorem atomB_eq (s : ByteArray) (h1 : 1 ≤ s.size) : chrs s 0 s.size = (low (s[0]?.getD 0) && rests s 0 s.size) := by
  obtain ⟨k, hk⟩ : ∃ k, s.size = k + 1 := ⟨s.size - 1, by omega⟩
  rw [hk, chrs, rests, rests_chrs s k 0]
  generalize s[0]?.getD 0 = c
  have e1 : chr (0 == 0) c = low c := by simp [chr, low]
  rw [e1]
  cases hl : low c with
  | false => rfl
  | true =>
    have : chr false c = true := by rw [chr]; rw [low] at hl; rw [hl]; rfl
    rw [this]; rfl

/-- The reference's names are the table's. -/
theorem refAtom (s : ByteArray) (h : H) {N : Nat} (hN : 66 ≤ N) : F72 N (s, h) = some (atomB s, h) := by
  rw [F72]
  by_cases h1 : (s.size : Int) < 1
  · have : atomB s = false := by rw [atomB, if_pos (.inl (by omega))]
    simp only [itT, itF, ifT, ifF, dT h1, bs, this]
  by_cases h2 : (s.size : Int) > 64
  · have : atomB s = false := by rw [atomB, if_pos (.inr (.inl (by omega)))]
    simp only [itT, itF, ifT, ifF, dF h1, dT h2, bs, this]
  have hs0 : 0 < s.size := by omega
  have hg : s[Int.toNat 0]? = some s[0] := ba_get hs0
  have hg' : s[0]?.getD 0 = s[0] := by rw [ba_get hs0]; rfl
  have hl := restL N s (by omega) h s.size N 0 (by omega) (by omega)
  have hl' : L72_0 N N (s, 0, h) = _ := hl
  have ha := atomB_eq s (by omega)
  rw [hg'] at ha
  by_cases h3 : s = ByteArray.mk #[110, 105, 108]
  · have : atomB s = false := by rw [atomB, if_pos (.inr (.inr (.inl h3)))]
    simp only [itT, itF, ifT, ifF, dF h1, dF h2, bs, if_pos (show (0 : Int) ≤ 0 by omega), hg, lower, seq, dT h3, this]
    cases low s[0] <;> rfl
  by_cases h4 : s = ByteArray.mk #[116, 114, 117, 101]
  · have : atomB s = false := by rw [atomB, if_pos (.inr (.inr (.inr (.inl h4))))]
    simp only [itT, itF, ifT, ifF, dF h1, dF h2, bs, if_pos (show (0 : Int) ≤ 0 by omega), hg, lower, seq, dF h3, dT h4, this]
    cases low s[0] <;> rfl
  by_cases h5 : s = ByteArray.mk #[102, 97, 108, 115, 101]
  · have : atomB s = false := by rw [atomB, if_pos (.inr (.inr (.inr (.inr h5))))]
    simp only [itT, itF, ifT, ifF, dF h1, dF h2, bs, if_pos (show (0 : Int) ≤ 0 by omega), hg, lower, seq, dF h3, dF h4, dT h5, this]
    cases low s[0] <;> rfl
  have hat : atomB s = (low s[0] && rests s 0 s.size) := by
    rw [atomB, if_neg (by rintro (h | h | h | h | h) <;> first | omega | exact h3 h | exact h4 h | exact h5 h), ha]
  rw [hat]
  simp only [itT, itF, ifT, ifF, dF h1, dF h2, bs, if_pos (show (0 : Int) ≤ 0 by omega), hg, lower, seq, dF h3, dF h4, dF h5, hl']
  cases hlow : low s[0] with
  | false => rfl
  | true =>
    have z : ∀ (x : Option (Bool × H)), (if (0 : Nat) ≤ 0 then x else none) = x := fun x => if_pos (Nat.le_refl 0)
    simp only [z, nT, bs, itF, ifF, hl', Bool.true_and]
    cases rests s 0 s.size <;> rfl

end Go.Proofs.Ytbpibiapjangmaa.tabs
