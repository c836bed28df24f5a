/- Package log and the reference log, as plain lists: copies, sums, spoilt slices. -/
import Derived.Test.YtbpibiapjangmaaLogC
namespace Go.Proofs.Ytbpibiapjangmaa.logs
open Go Go.L
set_option linter.unusedVariables false
set_option linter.unusedSimpArgs false

/-- What is under a place stays. -/
def Above (b : Nat) (h h' : H) : Prop := h.length ≤ h'.length ∧ ∀ i, i < b → h'[i]? = h[i]?

theorem Above.refl (b : Nat) (h : H) : Above b h h := ⟨Nat.le_refl _, fun _ _ => rfl⟩
theorem Above.trans {b : Nat} {x y z : H} (k : Above b x y) (k' : Above b y z) : Above b x z := ⟨Nat.le_trans k.1 k'.1, fun i hi => (k'.2 i hi).trans (k.2 i hi)⟩
theorem Above.of {b : Nat} {h h' : H} {o : Option Nat} (k : Keeps h h' o) (hb : b ≤ h.length) (ho : ∀ i, o = some i → b ≤ i) : Above b h h' :=
  ⟨k.1, fun i hi => k.2 i (by omega) (fun e => by have := ho i e; omega)⟩
theorem Above.none {b : Nat} {h h' : H} (k : Keeps h h' none) (hb : b ≤ h.length) : Above b h h' := .of k hb (by simp)
theorem Above.sl {b : Nat} {h h' : H} (k : Above b h h') {es : Nat} {v : V} {xs : List (List V)} (hs : Sl h es v xs) (hv : ∀ i, oid v = some i → i < b) : Sl h' es v xs := hs.frame fun i hi => k.2 i (hv i hi)
theorem Above.own {b : Nat} {h h' : H} (k : Above b h h') {es : Nat} {v : V} {xs : List (List V)} (hs : Own h es v xs) (hv : ∀ i, oid v = some i → i < b) : Own h' es v xs := hs.frame fun i hi => k.2 i (hv i hi)

section
variable {id : Nat} {h : H} {room : Int} {Ad : List Ev} {kept : V} {from' : Nat} {Ph : List Ev} {C A B : List Int}

theorem Log.above (L : Log id h room Ad kept from' Ph C A B) {b : Nat} {h' : H} (k : Above b h h') (h0 : id < b) (h1 : ∀ i, oid kept = some i → i < b) : Log id h' room Ad kept from' Ph C A B :=
  L.frame (k.2 id h0) fun i hi => k.2 i (h1 i hi)

/-- A count, or nought. -/
def cnt (C : List Int) (z : Int) : Int := if 0 ≤ z ∧ z < 11 then at' C z.toNat else 0

theorem countZ (L : Log id h room Ad kept from' Ph C A B) (N : Nat) (z : Int) : F39 N (pt id, z, h) = some (cnt C z, h) := by
  by_cases hz : 1 ≤ z ∧ z ≤ 10
  · obtain ⟨k, rfl⟩ := Int.eq_ofNat_of_zero_le (show 0 ≤ z by omega)
    rw [count L N (by omega) (by omega), cnt, if_pos (by omega)]; rfl
  · have hgiv := given N L.obj L.room1.1
    rw [F39]
    simp only [itT, itF, ifT, ifF, hgiv, bs, nT, nF, kind, dF hz]
    rw [cnt]
    by_cases h0 : 0 ≤ z ∧ z < 11
    · have : z = 0 := by omega
      subst this
      rw [if_pos h0]
      have := L.C0
      simp only [Int.toNat_zero, this]
    · rw [if_neg h0]

theorem sumZ (L : Log id h room Ad kept from' Ph C A B) (N : Nat) (z : Int) : F50 N (pt id, z, h) = some (cnt A z, cnt B z, h) := by
  have hgiv := given N L.obj L.room1.1
  rw [F50]
  by_cases hz : 1 ≤ z ∧ z ≤ 10
  · obtain ⟨k, rfl⟩ := Int.eq_ofNat_of_zero_le (show 0 ≤ z by omega)
    have g14 : aidx (.ptr id 0 14) (k : Int) 11 1 = some (.ptr id 0 (14 + k)) := by rw [aidx_ptr (by omega) (by omega) (by omega)]; simp
    have g25 : aidx (.ptr id 0 25) (k : Int) 11 1 = some (.ptr id 0 (25 + k)) := by rw [aidx_ptr (by omega) (by omega) (by omega)]; simp
    have r1 : rd h (.ptr id 0 (14 + k)) 0 = some (I (at' A k)) := by rw [rd_obj L.obj, Nat.add_zero, lg_A L.lenC L.lenA (by omega)]
    have r2 : rd h (.ptr id 0 (25 + k)) 0 = some (I (at' B k)) := by rw [rd_obj L.obj, Nat.add_zero, lg_B L.lenC L.lenA L.lenB (by omega)]
    have e1 : cnt A (k : Int) = at' A k := by rw [cnt, if_pos (by omega)]; rfl
    have e2 : cnt B (k : Int) = at' B k := by rw [cnt, if_pos (by omega)]; rfl
    simp only [itT, itF, ifT, ifF, hgiv, bs, nT, kind, dT hz, pnck, padd0, g14, g25, r1, r2, asInt_some, e1, e2]
  · simp only [itT, itF, ifT, ifF, hgiv, bs, nT, nF, kind, dF hz]
    rw [cnt, cnt]
    by_cases h0 : 0 ≤ z ∧ z < 11
    · have : z = 0 := by omega
      subst this
      rw [if_pos h0, if_pos h0]
      have h1 := L.A0
      have h2 := L.B0
      simp only [Int.toNat_zero, h1, h2]
    · rw [if_neg h0, if_neg h0]

theorem own_ck {es : Nat} {v : V} {xs : List (List V)} (ho : Own h es v xs) : ck1 v = some () := by cases ho <;> rfl

theorem own_nil {es : Nat} {v : V} {xs : List (List V)} (ho : Own h es v xs) : ∃ b, isNilS v = some b ∧ (b = true → xs = []) := by
  cases ho with
  | nil => exact ⟨true, rfl, fun _ => rfl⟩
  | z id h1 => exact ⟨false, rfl, by simp⟩
  | sl id ver xs rest h1 h3 => exact ⟨false, rfl, by simp⟩

theorem splice_all {cs xs : List V} (hl : xs.length = cs.length) (h1 : cs.length ≠ 1) : splice cs 0 xs = xs := by
  unfold splice
  split
  · simp at hl; omega
  · rw [List.take_zero, List.nil_append, hl, Nat.zero_add, List.drop_length, List.append_nil]

theorem lg_rdN (L : Log id h room Ad kept from' Ph C A B) : rdN h (pt id) 36 = some (lg room kept from' C A B) := by
  have hl := lg_len (room := room) (kept := kept) (from' := from') L.lenC L.lenA L.lenB
  simp only [rdN, L.obj, if_true, hl]
  rw [if_pos (by omega), List.drop_zero, List.take_of_length_le (by omega)]

/-- A copy of a log. -/
theorem copyL (L : Log id h room Ad kept from' Ph C A B) (N : Nat) : ∃ kept2 h', F46 N (pt id, h) = some (pt h.length, h') ∧ Log h.length h' room Ad kept2 from' Ph C A B ∧ Keeps h h' none ∧ (∀ j, oid kept2 = some j → h.length < j) := by
  have hgiv := given N L.obj L.room1.1
  have hl := lg_len (room := room) (kept := kept) (from' := from') L.lenC L.lenA L.lenB
  have hroom := L.room1
  have hlen := L.len
  generalize hz : ((.int .i64 0) :: .nils :: List.replicate 34 (.int .i64 0) : List V) = z at *
  have hzl : z.length = 36 := by rw [← hz]; rfl
  have w4 : wr (h ++ [O.cells 0 z]) (.ptr h.length 0 0) (lg room kept from' C A B) = some (h ++ [O.cells 0 (lg room kept from' C A B)]) := by
    rw [wr_obj (cs := z) (by simp) (by omega), splice_all (by omega) (by omega)]
    simp
  have k1 := Keeps.push h (O.cells 0 (lg room kept from' C A B))
  have L4 := L.keep k1 (by simp) (by simp)
  have o4 : (h ++ [O.cells 0 (lg room kept from' C A B)])[h.length]? = some (O.cells 0 (lg room kept from' C A B)) := by simp
  generalize hh4 : h ++ [O.cells 0 (lg room kept from' C A B)] = h4 at *
  have l4 : h4.length = h.length + 1 := by rw [← hh4]; simp
  have r5 : rd h4 (.ptr id 0 1) 0 = some kept := by rw [rd_obj L4.obj]; exact lg_kept
  obtain ⟨b, hb, hbt⟩ := own_nil L4.own
  obtain ⟨v6, h7, e6, o6, k6, f6⟩ := clone L4.own.sl' hb hbt (by simp [mostCells]; omega) N
  have o7 : h7[h.length]? = some (O.cells 0 (lg room kept from' C A B)) := by rw [k6.2 _ (by omega) (by simp)]; exact o4
  have w8 : wr h7 (.ptr h.length 0 1) [v6] = some (h7.set h.length (.cells 0 (lg room v6 from' C A B))) := by
    rw [wr_obj o7 (by rw [hl]; simp), splice1, lg_setK]
  refine ⟨v6, h7.set h.length (.cells 0 (lg room v6 from' C A B)), ?_, ?_, ?_, fun j hj => by have := f6 j hj; omega⟩
  · rw [F46]
    simp only [hz, itT, itF, ifT, ifF, hgiv, bs, nT, pnck, padd0, lg_rdN L, if_pos hl, w4, r5, e6, own_ck o6, w8]
  · refine ⟨L.room1, setget o7, ?_, ?_, L.len, L.fr, L.rot, L.lenC, L.lenA, L.lenB, L.C0, L.Cpos, L.sum, L.Ab, L.Bb, L.A0, L.B0⟩
    · exact o6.frame fun i hi => List.getElem?_set_ne (fun e => by have := f6 i hi; omega)
    · intro e; have := f6 _ e; omega
  · have h1 := k1.1
    have h2 := k6.1
    refine ⟨by rw [List.length_set]; omega, fun i hi _ => ?_⟩
    rw [List.getElem?_set_ne (by omega), k6.2 i (by omega) (by simp), k1.2 i hi (by simp)]
end

/-- Spoilt. -/
theorem spoil0 (N : Nat) {v : V} {b : Nat} (hv : ∀ i, oid v = some i → b ≤ i) : ∀ (k m i : Nat) (h : H) (X : List (List V)), i + k = X.length → X.length < 4611686018427387904 → k < m → b ≤ h.length → Own h 6 v X →
    ∃ h' X', L49_0 N m (v, (i : Int), h) = some (v, h') ∧ Own h' 6 v X' ∧ X'.length = X.length ∧ Above b h h'
  | 0, m + 1, i, h, X, hi, hX, hm, hb, ho => by
    refine ⟨h, X, ?_, ho, rfl, .refl _ _⟩
    rw [L49_0]
    simp only [ho.sl'.len, bs, itT, itF, ifT, ifF, dF (show ¬ (i : Int) < (X.length : Int) by omega)]
  | k + 1, m + 1, i, h, X, hi, hX, hm, hb, ho => by
    obtain ⟨q, h1, eq, ew, o1, k1⟩ := ho.wr i (by omega) ((.int .i64 (-5)) :: List.replicate 5 (.int .i64 0)) (by simp) (by omega)
    have e2 : IntKind.i64.wrap ((i : Int) + 1) = ((i + 1 : Nat) : Int) := by rw [wrapIn (by omega)]; omega
    have hk := k1.1
    obtain ⟨h', X', e, o', l', a'⟩ := spoil0 N hv k m (i + 1) h1 _ (by rw [List.length_set]; omega) (by rw [List.length_set]; omega) (by omega) (by omega) o1
    rw [List.length_set] at l'
    refine ⟨h', X', ?_, o', l', (Above.of k1 hb hv).trans a'⟩
    rw [L49_0]
    simp only [ho.sl'.len, bs, itT, itF, ifT, ifF, dT (show (i : Int) < (X.length : Int) by omega), eq, ew, e2]
    exact e

theorem spoil1 (N : Nat) {b : Nat} : ∀ (k m i : Nat) (v : V) (h : H) (X : List (List V)), i + k = 20 → X.length + k ≤ 700000000 → k < m → b ≤ h.length → (∀ i, oid v = some i → b ≤ i) → Own h 6 v X →
    ∃ h', L49_1 N m (v, (i : Int), h) = some h' ∧ Above b h h'
  | 0, m + 1, i, v, h, X, hi, hX, hm, hb, hv, ho => by
    refine ⟨h, ?_, .refl _ _⟩
    rw [L49_1]
    simp only [itT, itF, ifT, ifF, dF (show ¬ (i : Int) < 20 by omega)]
  | k + 1, m + 1, i, v, h, X, hi, hX, hm, hb, hv, ho => by
    obtain ⟨v1, h1, e1, o1, k1, hid, _⟩ := ho.app1 ((.int .i64 (-6)) :: List.replicate 5 (.int .i64 0)) (by simp) (by simp [mostCells]; omega)
    have e2 : IntKind.i64.wrap ((i : Int) + 1) = ((i + 1 : Nat) : Int) := by rw [wrapIn (by omega)]; omega
    have hk := k1.1
    obtain ⟨h', e, a'⟩ := spoil1 (b := b) N k m (i + 1) v1 h1 _ (by omega) (by simp; omega) (by omega) (by omega) (by
      intro j hj
      rcases hid with e | e
      · exact hv j (by rw [← e]; exact hj)
      · rw [e] at hj; have := Option.some.inj hj; omega) o1
    refine ⟨h', ?_, (Above.of k1 hb hv).trans a'⟩
    rw [L49_1]
    simp only [bs, itT, itF, ifT, ifF, dT (show (i : Int) < 20 by omega), e1, e2]
    exact e

theorem spoil {N : Nat} {v : V} {b : Nat} (hv : ∀ i, oid v = some i → b ≤ i) {h : H} {X : List (List V)} (hX : X.length ≤ 600000000) (hN : X.length + 21 < N) (hb : b ≤ h.length) (ho : Own h 6 v X) :
    ∃ h', F49 N (v, h) = some h' ∧ Above b h h' := by
  obtain ⟨h1, X1, e1, o1, l1, a1⟩ := spoil0 N hv X.length N 0 h X (by omega) (by omega) (by omega) hb ho
  have := a1.1
  obtain ⟨h2, e2, a2⟩ := spoil1 (b := b) N 20 N 0 v h1 X1 (by omega) (by omega) (by omega) (by omega) hv o1
  refine ⟨h2, ?_, a1.trans a2⟩
  rw [F49]
  rw [show L49_0 N N (v, 0, h) = _ from e1]
  simp only [bs]
  rw [show L49_1 N N (v, 0, h1) = _ from e2]
  rfl

end Go.Proofs.Ytbpibiapjangmaa.logs
