/- Package table, as plain lists: names. -/
import Derived.Test.YtbpibiapjangmaaTab
namespace Go.Proofs.Ytbpibiapjangmaa.tabs
open Go Go.L
set_option linter.unusedVariables false
set_option linter.unusedSimpArgs false

/-- A letter of a name. -/
def chr (first : Bool) (c : UInt8) : Bool :=
  (decide (((UInt8.toNat c : Nat) : Int) ≥ 97) && decide (((UInt8.toNat c : Nat) : Int) ≤ 122)) ||
  (!first && ((decide (((UInt8.toNat c : Nat) : Int) ≥ 65) && decide (((UInt8.toNat c : Nat) : Int) ≤ 90)) || (decide (((UInt8.toNat c : Nat) : Int) ≥ 48) && decide (((UInt8.toNat c : Nat) : Int) ≤ 57)) || (((UInt8.toNat c : Nat) : Int) == 95)))

def chrs (s : ByteArray) (i : Nat) : Nat → Bool
  | 0 => true
  | k + 1 => chr (i == 0) (s[i]?.getD 0) && chrs s (i + 1) k

theorem ba_get {s : ByteArray} {i : Nat} (hi : i < s.size) : s[i]? = some s[i] := getElem?_pos s i hi

theorem atomL (N : Nat) (s : ByteArray) (hs : s.size < 4611686018427387904) (h : H) : ∀ (k m i : Nat), i + k = s.size → k < m →
    L64_0 N m (s, (s.size : Int), (i : Int), h) = some (if chrs s i k = true then .inl h else .inr (false, h))
  | 0, m + 1, i, hi, hm => by
    rw [L64_0]
    simp only [itT, itF, ifT, ifF, dF (show ¬ (i : Int) < (s.size : Int) by omega), chrs, if_true]
  | k + 1, m + 1, i, hi, hm => by
    have hi1 : i < s.size := by omega
    have e2 : IntKind.i64.wrap ((i : Int) + 1) = ((i + 1 : Nat) : Int) := by rw [wrapIn (by omega)]; omega
    have e0 : ((i : Int) == 0) = (i == 0) := by
      rw [Bool.eq_iff_iff]; simp
    have ih := atomL N s hs h k m (i + 1) (by omega) (by omega)
    have hg : s[Int.toNat (i : Int)]? = some s[i] := by rw [Int.toNat_natCast, ba_get hi1]
    have hc : chrs s i (k + 1) = (chr (i == 0) s[i] && chrs s (i + 1) k) := by rw [chrs, ba_get hi1]; rfl
    rw [L64_0, hc, chr]
    generalize hrest : chrs s (i + 1) k = rest at *
    generalize s[i] = c at *
    simp only [itT, itF, ifT, ifF, dT (show (i : Int) < (s.size : Int) by omega), if_pos (show 0 ≤ (i : Int) by omega), hg, bs, e0, e2, ih]
    generalize decide (((UInt8.toNat c : Nat) : Int) ≥ 97) = p1
    generalize decide (((UInt8.toNat c : Nat) : Int) ≤ 122) = p2
    generalize decide (((UInt8.toNat c : Nat) : Int) ≥ 65) = p3
    generalize decide (((UInt8.toNat c : Nat) : Int) ≤ 90) = p4
    generalize decide (((UInt8.toNat c : Nat) : Int) ≥ 48) = p5
    generalize decide (((UInt8.toNat c : Nat) : Int) ≤ 57) = p6
    generalize (((UInt8.toNat c : Nat) : Int) == 95) = p7
    generalize (i == 0) = p8
    cases p1 <;> cases p2 <;> cases p8 <;> cases p3 <;> cases p4 <;> cases p5 <;> cases p6 <;> cases p7 <;> first | rfl | exact ih

/-- May it be a name? -/
def atomB (s : ByteArray) : Bool :=
  if s.size < 1 ∨ s.size > 64 ∨ s = ByteArray.mk #[110, 105, 108] ∨ s = ByteArray.mk #[116, 114, 117, 101] ∨ s = ByteArray.mk #[102, 97, 108, 115, 101] then false else chrs s 0 s.size

theorem atom (s : ByteArray) (h : H) {N : Nat} (hN : 66 ≤ N) : F64 N (s, h) = some (atomB s, h) := by
  rw [F64]
  by_cases h1 : (s.size : Int) < 1
  · have : atomB s = false := by rw [atomB, if_pos (.inl (by omega))]
    simp only [itT, itF, ifT, ifF, dT h1, bs, this]
  by_cases h2 : (s.size : Int) > 64
  · have : atomB s = false := by rw [atomB, if_pos (.inr (.inl (by omega)))]
    simp only [itT, itF, ifT, ifF, dF h1, dT h2, bs, this]
  by_cases h3 : s = ByteArray.mk #[110, 105, 108]
  · have : atomB s = false := by rw [atomB, if_pos (.inr (.inr (.inl h3)))]
    simp only [itT, itF, ifT, ifF, dF h1, dF h2, bs, seq, dT h3, this]
  by_cases h4 : s = ByteArray.mk #[116, 114, 117, 101]
  · have : atomB s = false := by rw [atomB, if_pos (.inr (.inr (.inr (.inl h4))))]
    simp only [itT, itF, ifT, ifF, dF h1, dF h2, bs, seq, dF h3, dT h4, this]
  by_cases h5 : s = ByteArray.mk #[102, 97, 108, 115, 101]
  · have : atomB s = false := by rw [atomB, if_pos (.inr (.inr (.inr (.inr h5))))]
    simp only [itT, itF, ifT, ifF, dF h1, dF h2, bs, seq, dF h3, dF h4, dT h5, this]
  have ha : atomB s = chrs s 0 s.size := by
    rw [atomB, if_neg (by rintro (h | h | h | h | h) <;> first | omega | exact h3 h | exact h4 h | exact h5 h)]
  have hl := atomL N s (by omega) h s.size N 0 (by omega) (by omega)
  have hl' : L64_0 N N (s, (s.size : Int), 0, h) = _ := hl
  simp only [itT, itF, ifT, ifF, dF h1, dF h2, bs, seq, dF h3, dF h4, dF h5, hl', ha]
  cases chrs s 0 s.size <;> rfl

section
variable {a b c : Nat} {h : H} {S : List Slot} {M : List (ByteArray × Int)}

/-- Name. -/
theorem name (T : Tab a b c h S M) (N : Nat) (n g : Int) (s : ByteArray) :
    (atomB s = false ∧ F28 N (pt c, n, g, s, h) = some (1, h)) ∨ (atomB s = true ∧ isB S n g = false ∧ F28 N (pt c, n, g, s, h) = some (3, h)) ∨
    (∃ (i : Nat) (hi : i < S.length), n = i ∧ S[i].live = true ∧ S[i].gen = g ∧ atomB s = true ∧ ((((look s M).isSome = true ∨ S[i].name ≠ noname) ∧ F28 N (pt c, n, g, s, h) = some (141, h)) ∨
      (look s M = none ∧ S[i].name = noname ∧ ∃ h', F28 N (pt c, n, g, s, h) = some (0, h') ∧ Tab a b c h' (S.set i ⟨S[i].gen, S[i].live, s⟩) (put s (i : Int) M) ∧ h'.length = h.length ∧ (∀ k, k ≠ a → k ≠ b → h'[k]? = h[k]?)))) := by
  have hg := given T N
  have hi := is T N n g
  have ha := atom s [] (N := 100) (by omega)
  cases hat : atomB s with
  | false =>
    rw [hat] at ha
    refine .inl ⟨rfl, ?_⟩
    rw [F28]
    simp only [hg, bs, nT, nF, itT, ifT, itF, ifF, ha]
  | true =>
    rw [hat] at ha
    cases hb : isB S n g with
    | false =>
      rw [hb] at hi
      refine .inr (.inl ⟨rfl, rfl, ?_⟩)
      rw [F28]
      simp only [hg, bs, nT, nF, itT, ifT, itF, ifF, ha, hi]
    | true =>
      rw [hb] at hi
      obtain ⟨i, rfl, hi', hl, hgn⟩ := isB_in hb
      refine .inr (.inr ⟨i, hi', rfl, hl, hgn, rfl, ?_⟩)
      have hm := mlook_ents s M
      cases hlk : look s M with
      | some v =>
        rw [hlk] at hm
        refine .inl ⟨.inl rfl, ?_⟩
        rw [F28]
        simp only [hg, bs, nT, nF, itT, ifT, itF, ifF, ha, hi, pnck, padd0, T.r1, T.hm, hm, Option.map_some, Option.getD_some, asInt_some, Option.isSome_some]
      | none =>
        rw [hlk] at hm
        by_cases hn : S[i].name = noname
        · have T1 := T.setMap (put s (i : Int) M)
          have hd : hmapset h (.map b) (.str s) (I (i : Int)) = some (h.set b (.map (ents (put s (i : Int) M)))) := by
            simp only [hmapset, T.map, mput_ents, Option.map_some]
          obtain ⟨h2, w2, T2, l2, f2⟩ := T1.put hi' 2 (by omega) (.str s) ⟨S[i].gen, S[i].live, s⟩ rfl
          refine .inr ⟨rfl, hn, h2, ?_, T2, by rw [l2]; simp, fun k k1 k2 => by rw [f2 k k1, List.getElem?_set_ne (Ne.symm k2)]⟩
          rw [F28]
          simp only [hg, bs, nT, nF, itT, ifT, itF, ifF, ha, hi, pnck, padd0, T.r0, T.r1, T1.r0, T.hm, hm, Option.map_none, Option.getD_none, asInt_some, Option.isSome_none, sx hi', T.n hi', asStr_some, seq, dT hn, hd, w2]
        · refine .inl ⟨.inr hn, ?_⟩
          rw [F28]
          simp only [hg, bs, nT, nF, itT, ifT, itF, ifF, ha, hi, pnck, padd0, T.r0, T.r1, T.hm, hm, Option.map_none, Option.getD_none, asInt_some, Option.isSome_none, sx hi', T.n hi', asStr_some, seq, dF hn]
end

end Go.Proofs.Ytbpibiapjangmaa.tabs
