/- The reference's table: load, where, add. -/
import Derived.Test.YtbpibiapjangmaaTabN
namespace Go.Proofs.Ytbpibiapjangmaa.tabs
open Go Go.L
set_option linter.unusedVariables false
set_option linter.unusedSimpArgs false

section
variable {h : H} {gv lv' nv : V} {g l n : Nat} {S : List Slot}

theorem map_set_same {α : Type} (f : Slot → α) {i : Nat} (hi : i < S.length) {s : Slot} (hs : f s = f S[i]) : (S.set i s).map f = S.map f := by
  apply List.ext_getElem (by simp)
  intro t h1 h2
  rw [List.getElem_map, List.getElem_map, List.getElem_set]
  by_cases ht : i = t
  · subst ht; rw [if_pos rfl, hs]
  · rw [if_neg ht]

theorem Ref.g0 (R : Ref h gv lv' nv g l n S) {i : Nat} (hi : i < S.length) : ∃ q, sidx gv (i : Int) 1 = some q ∧ rd h q 0 = some (I S[i].gen) ∧
    ∀ y : Int, ∃ h', wr h q [I y] = some h' ∧ Ref h' gv lv' nv g l n (S.set i ⟨y, S[i].live, S[i].name⟩) ∧ h'.length = h.length ∧ ∀ k, k ≠ g → h'[k]? = h[k]? := by
  obtain ⟨q, e, r, w⟩ := R.gens.at (i := i) (by simpa using hi)
  refine ⟨q, e, by rw [r]; simp, fun y => ?_⟩
  obtain ⟨h', ew, A, l', f⟩ := w (I y)
  refine ⟨h', ew, ⟨?_, ?_, ?_, R.gl, R.gn, R.ln, by simpa using R.len⟩, l', f⟩
  · rw [List.map_set]; exact A
  · rw [map_set_same _ hi (by rfl)]; exact R.live.frame (f l (Ne.symm R.gl))
  · rw [map_set_same _ hi (by rfl)]; exact R.names.frame (f n (Ne.symm R.gn))

theorem Ref.l0 (R : Ref h gv lv' nv g l n S) {i : Nat} (hi : i < S.length) : ∃ q, sidx lv' (i : Int) 1 = some q ∧ rd h q 0 = some (.bool S[i].live) ∧
    ∀ y : Bool, ∃ h', wr h q [.bool y] = some h' ∧ Ref h' gv lv' nv g l n (S.set i ⟨S[i].gen, y, S[i].name⟩) ∧ h'.length = h.length ∧ ∀ k, k ≠ l → h'[k]? = h[k]? := by
  obtain ⟨q, e, r, w⟩ := R.live.at (i := i) (by simpa using hi)
  refine ⟨q, e, by rw [r]; simp, fun y => ?_⟩
  obtain ⟨h', ew, A, l', f⟩ := w (.bool y)
  refine ⟨h', ew, ⟨?_, ?_, ?_, R.gl, R.gn, R.ln, by simpa using R.len⟩, l', f⟩
  · rw [map_set_same _ hi (by rfl)]; exact R.gens.frame (f g R.gl)
  · rw [List.map_set]; exact A
  · rw [map_set_same _ hi (by rfl)]; exact R.names.frame (f n (Ne.symm R.ln))

theorem Ref.n0 (R : Ref h gv lv' nv g l n S) {i : Nat} (hi : i < S.length) : ∃ q, sidx nv (i : Int) 1 = some q ∧ rd h q 0 = some (.str S[i].name) ∧
    ∀ y : ByteArray, ∃ h', wr h q [.str y] = some h' ∧ Ref h' gv lv' nv g l n (S.set i ⟨S[i].gen, S[i].live, y⟩) ∧ h'.length = h.length ∧ ∀ k, k ≠ n → h'[k]? = h[k]? := by
  obtain ⟨q, e, r, w⟩ := R.names.at (i := i) (by simpa using hi)
  refine ⟨q, e, by rw [r]; simp, fun y => ?_⟩
  obtain ⟨h', ew, A, l', f⟩ := w (.str y)
  refine ⟨h', ew, ⟨?_, ?_, ?_, R.gl, R.gn, R.ln, by simpa using R.len⟩, l', f⟩
  · rw [map_set_same _ hi (by rfl)]; exact R.gens.frame (f g R.gn)
  · rw [map_set_same _ hi (by rfl)]; exact R.live.frame (f l R.ln)
  · rw [List.map_set]; exact A

/-- Has this one the name? -/
def has (s : ByteArray) (t : Slot) : Bool := t.live && (!decide (s = noname) && decide (t.name = s))

theorem whereL (N : Nat) (R : Ref h gv lv' nv g l n S) (s : ByteArray) (x1 x2 x3 x4 : Int) : ∀ (k m i : Nat), i + k = S.length → k < m →
    (L71_0 N m (s, (i : Int), (S.length : Int), gv, lv', nv, x1, x2, x3, x4, h) = some (.inl (x1, x2, x3, x4, h)) ∧ ∀ j (hj : j < S.length), i ≤ j → has s S[j] = false) ∨
    (∃ (j : Nat) (hj : j < S.length), i ≤ j ∧ has s S[j] = true ∧ (∀ q (hq : q < S.length), i ≤ q → q < j → has s S[q] = false) ∧
      L71_0 N m (s, (i : Int), (S.length : Int), gv, lv', nv, x1, x2, x3, x4, h) = some (.inr (0, (j : Int), S[j].gen, h)))
  | 0, m + 1, i, hi, hm => by
    refine .inl ⟨?_, fun j hj hij => by omega⟩
    rw [L71_0]
    simp only [itT, itF, ifT, ifF, dF (show ¬ (i : Int) < (S.length : Int) by omega)]
  | k + 1, m + 1, i, hi, hm => by
    have hi1 : i < S.length := by omega
    have hlen := R.len
    have e2 : IntKind.i64.wrap ((i : Int) + 1) = ((i + 1 : Nat) : Int) := by rw [wrapIn (by omega)]; omega
    obtain ⟨ql, el, rl, _⟩ := R.l0 hi1
    obtain ⟨qn, en, rn, _⟩ := R.n0 hi1
    obtain ⟨qg, eg, rg, _⟩ := R.g0 hi1
    cases hh : has s S[i] with
    | true =>
      refine .inr ⟨i, hi1, Nat.le_refl _, hh, fun q hq h1 h2 => by omega, ?_⟩
      rw [has] at hh
      simp only [Bool.and_eq_true, Bool.not_eq_true', decide_eq_false_iff_not, decide_eq_true_eq] at hh
      have h0 : decide (s = ByteArray.mk #[]) = false := decide_eq_false hh.2.1
      rw [L71_0]
      simp only [itT, itF, ifT, ifF, dT (show (i : Int) < (S.length : Int) by omega), el, rl, bs, hh.1, tabs.asBool_some, seq, h0, nF, en, rn, tabs.asStr_some, dT hh.2.2, eg, rg, asInt_some]
    | false =>
      have key : L71_0 N (m + 1) (s, (i : Int), (S.length : Int), gv, lv', nv, x1, x2, x3, x4, h) = L71_0 N m (s, ((i + 1 : Nat) : Int), (S.length : Int), gv, lv', nv, x1, x2, x3, x4, h) := by
        rw [has] at hh
        rw [L71_0]
        cases hl : S[i].live with
        | false => simp only [itT, itF, ifT, ifF, dT (show (i : Int) < (S.length : Int) by omega), el, rl, bs, hl, tabs.asBool_some, Bool.false_eq_true, e2]
        | true =>
          rw [hl, Bool.true_and] at hh
          by_cases h0 : s = noname
          · have h0' : decide (s = ByteArray.mk #[]) = true := decide_eq_true h0
            simp only [itT, itF, ifT, ifF, dT (show (i : Int) < (S.length : Int) by omega), el, rl, bs, hl, tabs.asBool_some, Bool.false_eq_true, seq, h0', nT, e2]
          · have h0' : decide (s = ByteArray.mk #[]) = false := decide_eq_false h0
            rw [decide_eq_false h0, Bool.not_false, Bool.true_and] at hh
            simp only [itT, itF, ifT, ifF, dT (show (i : Int) < (S.length : Int) by omega), el, rl, bs, hl, tabs.asBool_some, Bool.false_eq_true, seq, h0', nF, en, rn, tabs.asStr_some, hh, e2]
      rw [key]
      rcases whereL N R s x1 x2 x3 x4 k m (i + 1) (by omega) (by omega) with ⟨e, hn⟩ | ⟨j, hj, h1, h2, h3, e⟩
      · exact .inl ⟨e, fun j hj hij => by
          by_cases he : i = j
          · subst he; exact hh
          · exact hn j hj (by omega)⟩
      · exact .inr ⟨j, hj, by omega, h2, fun q hq q1 q2 => by
          by_cases he : i = q
          · subst he; exact hh
          · exact h3 q hq (by omega) q2, e⟩

/-- Where. -/
theorem where71 {N : Nat} (hN : 300 ≤ N) (R : Ref h gv lv' nv g l n S) (s : ByteArray) :
    (F71 N ((S.length : Int), gv, lv', nv, s, h) = some (0, 0, 3, h) ∧ ∀ j (hj : j < S.length), has s S[j] = false) ∨
    (∃ (j : Nat) (hj : j < S.length), has s S[j] = true ∧ (∀ q (hq : q < S.length), q < j → has s S[q] = false) ∧ F71 N ((S.length : Int), gv, lv', nv, s, h) = some ((j : Int), S[j].gen, 0, h)) := by
  have hlen := R.len
  rcases whereL N R s 0 0 0 0 S.length N 0 (by omega) (by omega) with ⟨e, hn⟩ | ⟨j, hj, h1, h2, h3, e⟩
  · have e' : L71_0 N N (s, 0, (S.length : Int), gv, lv', nv, 0, 0, 0, 0, h) = _ := e
    refine .inl ⟨?_, fun j hj => hn j hj (by omega)⟩
    rw [F71]
    simp only [e', bs]
  · have e' : L71_0 N N (s, 0, (S.length : Int), gv, lv', nv, 0, 0, 0, 0, h) = _ := e
    refine .inr ⟨j, hj, h2, fun q hq hq2 => h3 q hq (by omega) hq2, ?_⟩
    rw [F71]
    simp only [e', bs]

/-- A copy. -/
theorem copyR (R : Ref h gv lv' nv g l n S) (N : Nat) (x : Int) : ∃ gv2 lv2 nv2 h', F74 N (x, gv, lv', nv, h) = some (x, gv2, lv2, nv2, h') ∧ Ref h' gv2 lv2 nv2 h.length (h.length + 1) (h.length + 2) S ∧ h'.length = h.length + 3 ∧ ∀ k, k < h.length → h'[k]? = h[k]? := by
  have hlen := R.len
  have hg := R.gens.lt
  have hl := R.live.lt
  have hn := R.names.lt
  obtain ⟨v1, e1, A1, c1⟩ := R.gens.copy (by simpa using hlen.1) (by simp; omega)
  have f1 : ∀ k, k < h.length → (h ++ [O.cells 0 (S.map fun s => I s.gen)])[k]? = h[k]? := fun k hk => List.getElem?_append_left hk
  have l1 : (h ++ [O.cells 0 (S.map fun s => I s.gen)]).length = h.length + 1 := by simp
  generalize hh1 : h ++ [O.cells 0 (S.map fun s => I s.gen)] = h1 at *
  have R2 := R.live.frame (f1 l hl)
  obtain ⟨v2, e2, A2, c2⟩ := R2.copy (by simpa using hlen.1) (by simp; omega)
  have f2 : ∀ k, k < h1.length → (h1 ++ [O.cells 0 (S.map fun s => V.bool s.live)])[k]? = h1[k]? := fun k hk => List.getElem?_append_left hk
  have l2 : (h1 ++ [O.cells 0 (S.map fun s => V.bool s.live)]).length = h.length + 2 := by simp; omega
  generalize hh2 : h1 ++ [O.cells 0 (S.map fun s => V.bool s.live)] = h2 at *
  have R3 := R.names.frame (h' := h2) ((f2 n (by omega)).trans (f1 n hn))
  obtain ⟨v3, e3, A3, c3⟩ := R3.copy (by simpa using hlen.1) (by simp; omega)
  have f3 : ∀ k, k < h2.length → (h2 ++ [O.cells 0 (S.map fun s => V.str s.name)])[k]? = h2[k]? := fun k hk => List.getElem?_append_left hk
  have l3 : (h2 ++ [O.cells 0 (S.map fun s => V.str s.name)]).length = h.length + 3 := by simp; omega
  generalize hh3 : h2 ++ [O.cells 0 (S.map fun s => V.str s.name)] = h3 at *
  rw [l1] at A2
  rw [l2] at A3
  refine ⟨v1, v2, v3, h3, ?_, ⟨A1.frame ((f3 _ (by omega)).trans (f2 _ (by omega))), A2.frame (f3 _ (by omega)), A3, by omega, by omega, by omega, hlen⟩, l3, fun k hk => (f3 k (by omega)).trans ((f2 k (by omega)).trans (f1 k hk))⟩
  rw [F74]
  simp only [R.gens.cells, bs, e1, c1, R2.cells, e2, c2, R3.cells, e3, c3]

theorem addRL (R : Ref h gv lv' nv g l n S) (N : Nat) (x5 : Int) (y1 y2 y3 : V) (x6 x7 x8 x9 : Int) : ∀ (k m i : Nat), i + k = S.length → k < m →
    (L58_0 N m ((i : Int), (S.length : Int), gv, lv', nv, x5, y1, y2, y3, x6, x7, x8, x9, h) = some (.inl ((S.length : Int), gv, lv', nv, x5, y1, y2, y3, x6, x7, x8, x9, h)) ∧ ∀ j (hj : j < S.length), i ≤ j → S[j].live = true ∨ 4611686018427387903 ≤ S[j].gen) ∨
    (∃ (j : Nat) (hj : j < S.length) (gv2 lv2 nv2 : V) (h' : H), i ≤ j ∧ S[j].live = false ∧ S[j].gen < 4611686018427387903 ∧ (∀ q (hq : q < S.length), i ≤ q → q < j → S[q].live = true ∨ 4611686018427387903 ≤ S[q].gen) ∧
      L58_0 N m ((i : Int), (S.length : Int), gv, lv', nv, x5, y1, y2, y3, x6, x7, x8, x9, h) = some (.inr (0, (S.length : Int), gv2, lv2, nv2, (j : Int), IntKind.i64.wrap (S[j].gen + 1), h')) ∧ Ref h' gv2 lv2 nv2 h.length (h.length + 1) (h.length + 2) (S.set j ⟨IntKind.i64.wrap (S[j].gen + 1), true, S[j].name⟩) ∧ h'.length = h.length + 3 ∧ (∀ k, k < h.length → h'[k]? = h[k]?))
  | 0, m + 1, i, hi, hm => by
    refine .inl ⟨?_, fun j hj hij => by omega⟩
    rw [L58_0]
    simp only [itT, itF, ifT, ifF, dF (show ¬ (i : Int) < (S.length : Int) by omega)]
  | k + 1, m + 1, i, hi, hm => by
    have hi1 : i < S.length := by omega
    have hlen := R.len
    have e2 : IntKind.i64.wrap ((i : Int) + 1) = ((i + 1 : Nat) : Int) := by rw [wrapIn (by omega)]; omega
    obtain ⟨ql, el, rl, _⟩ := R.l0 hi1
    obtain ⟨qg, eg, rg, _⟩ := R.g0 hi1
    by_cases hf : S[i].live = false ∧ S[i].gen < 4611686018427387903
    · obtain ⟨gv2, lv2, nv2, h2, ec, R2, l2, f2⟩ := copyR R N (S.length : Int)
      obtain ⟨q3, e3, _, w3⟩ := R2.l0 hi1
      obtain ⟨h3, ew3, R3, l3, f3⟩ := w3 true
      have hi3 : i < (S.set i ⟨S[i].gen, true, S[i].name⟩).length := by simpa using hi1
      obtain ⟨q4, e4, r4, w4⟩ := R3.g0 hi3
      simp only [List.getElem_set_self] at r4 w4
      obtain ⟨h4, ew4, R4, l4, f4⟩ := w4 (IntKind.i64.wrap (S[i].gen + 1))
      rw [List.set_set] at R4
      have hi4 : i < (S.set i ⟨IntKind.i64.wrap (S[i].gen + 1), true, S[i].name⟩).length := by simpa using hi1
      obtain ⟨q5, e5, r5, _⟩ := R4.g0 hi4
      simp only [List.getElem_set_self] at r5
      have hq : q5 = q4 := by rw [e4] at e5; exact (Option.some.inj e5).symm
      subst hq
      refine .inr ⟨i, hi1, gv2, lv2, nv2, h4, by omega, hf.1, hf.2, fun q hq h1 h2 => by omega, ?_, R4, by omega, fun k hk => (f4 k (by omega)).trans ((f3 k (by omega)).trans (f2 k hk))⟩
      rw [L58_0]
      simp only [itT, itF, ifT, ifF, dT (show (i : Int) < (S.length : Int) by omega), el, rl, bs, tabs.asBool_some, hf.1, nF, eg, rg, asInt_some, dT hf.2, ec, e3, ew3, e4, r4, ew4, r5]
    · have hor : S[i].live = true ∨ 4611686018427387903 ≤ S[i].gen := by
        cases hl : S[i].live with
        | true => exact .inl rfl
        | false => exact .inr (by rw [hl] at hf; simp at hf; omega)
      have key : L58_0 N (m + 1) ((i : Int), (S.length : Int), gv, lv', nv, x5, y1, y2, y3, x6, x7, x8, x9, h) = L58_0 N m (((i + 1 : Nat) : Int), (S.length : Int), gv, lv', nv, x5, y1, y2, y3, x6, x7, x8, x9, h) := by
        rw [L58_0]
        cases hl : S[i].live with
        | true => simp only [itT, itF, ifT, ifF, dT (show (i : Int) < (S.length : Int) by omega), el, rl, bs, tabs.asBool_some, hl, nT, Bool.false_eq_true, e2]
        | false =>
          have hg : ¬ S[i].gen < 4611686018427387903 := fun h => hf ⟨hl, h⟩
          simp only [itT, itF, ifT, ifF, dT (show (i : Int) < (S.length : Int) by omega), el, rl, bs, tabs.asBool_some, hl, nF, eg, rg, asInt_some, dF hg, Bool.false_eq_true, e2]
      rw [key]
      rcases addRL R N x5 y1 y2 y3 x6 x7 x8 x9 k m (i + 1) (by omega) (by omega) with ⟨e, hh⟩ | ⟨j, hj, gv2, lv2, nv2, h', h1, h2, h3, h4, h5, h6, h7, h8⟩
      · exact .inl ⟨e, fun j hj hij => by
          by_cases he : i = j
          · subst he; exact hor
          · exact hh j hj (by omega)⟩
      · exact .inr ⟨j, hj, gv2, lv2, nv2, h', by omega, h2, h3, fun q hq q1 q2 => by
          by_cases he : i = q
          · subst he; exact hor
          · exact h4 q hq (by omega) q2, h5, h6, h7, h8⟩

/-- Add. -/
theorem addR {N : Nat} (hN : 300 ≤ N) (R : Ref h gv lv' nv g l n S) :
    (F58 N ((S.length : Int), gv, lv', nv, h) = some ((S.length : Int), gv, lv', nv, 0, 0, 140, h) ∧ ∀ j (hj : j < S.length), S[j].live = true ∨ 4611686018427387903 ≤ S[j].gen) ∨
    (∃ (j : Nat) (hj : j < S.length) (gv2 lv2 nv2 : V) (h' : H), S[j].live = false ∧ S[j].gen < 4611686018427387903 ∧ (∀ q (hq : q < S.length), q < j → S[q].live = true ∨ 4611686018427387903 ≤ S[q].gen) ∧
      F58 N ((S.length : Int), gv, lv', nv, h) = some ((S.length : Int), gv2, lv2, nv2, (j : Int), IntKind.i64.wrap (S[j].gen + 1), 0, h') ∧ Ref h' gv2 lv2 nv2 h.length (h.length + 1) (h.length + 2) (S.set j ⟨IntKind.i64.wrap (S[j].gen + 1), true, S[j].name⟩) ∧ h'.length = h.length + 3 ∧ (∀ k, k < h.length → h'[k]? = h[k]?)) := by
  have hlen := R.len
  rcases addRL R N 0 .nils .nils .nils 0 0 0 0 S.length N 0 (by omega) (by omega) with ⟨e, hh⟩ | ⟨j, hj, gv2, lv2, nv2, h', h1, h2, h3, h4, h5, h6, h7, h8⟩
  · have e' : L58_0 N N (0, (S.length : Int), gv, lv', nv, 0, .nils, .nils, .nils, 0, 0, 0, 0, h) = _ := e
    refine .inl ⟨?_, fun j hj => hh j hj (by omega)⟩
    rw [F58]
    simp only [e', bs]
  · have e' : L58_0 N N (0, (S.length : Int), gv, lv', nv, 0, .nils, .nils, .nils, 0, 0, 0, 0, h) = _ := h5
    refine .inr ⟨j, hj, gv2, lv2, nv2, h', h2, h3, fun q hq q2 => h4 q hq (by omega) q2, ?_, h6, h7, h8⟩
    rw [F58]
    simp only [e', bs]
end

/-! ### Load -/
section
variable {G : List Int} {L : List (Int × Int)} {Nm : List ByteArray} {gv lv' nv : V} {g l n : Nat}

abbrev St5 : Type := Int × V × V × V × H

theorem genRL (N : Nat) (hG : G.length ≤ 256) {a0 : V} (x41 x42 : V) (x44 : Int) (x45 x46 x47 : V) (x48 : Int) (x49 x50 x51 : V) (x52 : Int) (ha : oid a0 ≠ some g) : ∀ (k m i : Nat) (h : H), i + k = G.length → k < m → Ref h gv lv' nv g l n (genS G i) → Sl h 1 a0 (ones G) →
    ∃ h', L54_0 N m (a0, x41, x42, (i : Int), x44, x45, x46, x47, x48, x49, x50, x51, x52, gv, lv', nv, h) = some (if chkG G i k = true then .inl (a0, x41, x42, x44, x45, x46, x47, x48, x49, x50, x51, x52, gv, lv', nv, h') else .inr (1, x48, x49, x50, x51, h')) ∧
      (chkG G i k = true → Ref h' gv lv' nv g l n (genS G G.length)) ∧ h'.length = h.length ∧ ∀ k, k ≠ g → h'[k]? = h[k]?
  | 0, m + 1, i, h, hi, hm, R, hs => by
    have hsl : slen a0 = some (G.length : Int) := by have := hs.len; simpa using this
    refine ⟨h, ?_, fun _ => by rw [show G.length = i by omega]; exact R, rfl, fun _ _ => rfl⟩
    rw [L54_0]
    simp only [hsl, bs, itT, itF, ifT, ifF, dF (show ¬ (i : Int) < (G.length : Int) by omega), chkG]
  | k + 1, m + 1, i, h, hi, hm, R, hs => by
    have hsl : slen a0 = some (G.length : Int) := by have := hs.len; simpa using this
    have hi1 : i < G.length := by omega
    have e2 : IntKind.i64.wrap ((i : Int) + 1) = ((i + 1 : Nat) : Int) := by rw [wrapIn (by omega)]; omega
    obtain ⟨q, eq, r⟩ := ones_at hs hi1
    by_cases h1 : ga G i < 0
    · have hc : chkG G i (k + 1) = false := by rw [chkG, okg, decide_eq_false (by omega), Bool.false_and]
      refine ⟨h, ?_, fun e => (by rw [hc] at e; cases e), rfl, fun _ _ => rfl⟩
      rw [L54_0, hc]
      simp only [hsl, itT, itF, ifT, ifF, dT (show (i : Int) < (G.length : Int) by omega), eq, r, asInt_some, bs, dT h1, Bool.false_eq_true]
    by_cases h2 : ga G i > 4611686018427387903
    · have hc : chkG G i (k + 1) = false := by rw [chkG, okg, decide_eq_false (by omega), Bool.false_and]
      refine ⟨h, ?_, fun e => (by rw [hc] at e; cases e), rfl, fun _ _ => rfl⟩
      rw [L54_0, hc]
      simp only [hsl, itT, itF, ifT, ifF, dT (show (i : Int) < (G.length : Int) by omega), eq, r, asInt_some, bs, dF h1, dT h2, Bool.false_eq_true]
    have hc : chkG G i (k + 1) = chkG G (i + 1) k := by rw [chkG, okg, decide_eq_true (by omega), Bool.true_and]
    have hi2 : i < (genS G i).length := by rw [genS_len]; exact hi1
    obtain ⟨q3, e3, _, w3⟩ := R.g0 hi2
    obtain ⟨h3, ew3, R3, l3, f3⟩ := w3 (ga G i)
    rw [genS_get, genS_set hi1] at R3
    obtain ⟨h', e, t', l', f'⟩ := genRL N hG x41 x42 x44 x45 x46 x47 x48 x49 x50 x51 x52 ha k m (i + 1) h3 (by omega) (by omega) R3 (hs.frame fun j hj => f3 j (fun e => ha (by rw [hj, e])))
    refine ⟨h', ?_, fun hh => t' (by rw [hc] at hh; exact hh), by omega, fun k hk => (f' k hk).trans (f3 k hk)⟩
    rw [L54_0, hc]
    simp only [hsl, itT, itF, ifT, ifF, dT (show (i : Int) < (G.length : Int) by omega), eq, r, asInt_some, bs, dF h1, dF h2, e3, ew3, e2, Bool.false_eq_true]
    exact e

/-- What the reference asks at each step. -/
def chkR (G : List Int) (L : List (Int × Int)) (Nm : List ByteArray) (i : Nat) : Nat → Bool
  | 0 => true
  | k + 1 => okp G L i && (okn Nm i && chkR G L Nm (i + 1) k)

theorem chkR_eq : ∀ (k i : Nat), chkR G L Nm i k = (chkP G L i k && chkN Nm i k)
  | 0, i => rfl
  | k + 1, i => by
    rw [chkR, chkP, chkN, chkR_eq k (i + 1)]
    cases okp G L i <;> cases okn Nm i <;> cases chkP G L (i + 1) k <;> rfl

/-- Who has the name at a step. -/
theorem has_seen {i : Nat} (r : Rise G L i) {s : ByteArray} (hs : s ≠ noname) : (∃ (j : Nat) (hj : j < (fin G L Nm i i).length), has s (fin G L Nm i i)[j] = true) ↔ seen Nm s i = true := by
  constructor
  · rintro ⟨j, hj, hh⟩
    rw [fin_get, has] at hh
    simp only [Bool.and_eq_true, Bool.not_eq_true', decide_eq_false_iff_not, decide_eq_true_eq] at hh
    exact nmAt_seen hs hh.2.2
  · intro hh
    obtain ⟨j, hj, h1, h2⟩ := r.seen_at (Nat.le_refl i) hh
    refine ⟨j, by rw [fin_len]; exact hj, ?_⟩
    rw [fin_get, has]
    simp [h1, h2, hs]

set_option maxHeartbeats 800000 in
theorem pidRL {N : Nat} (hN : 300 ≤ N) (hL : L.length ≤ 1048576) (hNm : L.length = Nm.length) {a0 a1 a2 : V} (x169 : Int) (x170 x171 x172 : V) (x173 : Int) (x174 x175 x176 : V)
    (h0 : oid a0 = none) (h1 : oid a1 = none) (h2 : oid a2 = none) : ∀ (k m i : Nat) (h : H), i + k = L.length → k < m → Ref h gv lv' nv g l n (fin G L Nm i i) → Sl h 1 a0 (ones G) → Sl h 2 a1 (twos L) → Sl h 1 a2 (strs Nm) → Rise G L i →
    ∃ h', L54_1 N m (a0, a1, a2, (i : Int), x169, x170, x171, x172, x173, x174, x175, x176, (G.length : Int), gv, lv', nv, h) = some (if chkR G L Nm i k = true then .inl (x169, x170, x171, x172, (G.length : Int), gv, lv', nv, h') else .inr (1, x173, x174, x175, x176, h')) ∧
      (chkR G L Nm i k = true → Ref h' gv lv' nv g l n (fin G L Nm L.length L.length)) ∧ h'.length = h.length ∧ ∀ k, k ≠ g → k ≠ l → k ≠ n → h'[k]? = h[k]?
  | 0, m + 1, i, h, hi, hm, R, s0, s1, s2, r => by
    have sl1 : slen a1 = some (L.length : Int) := by have := s1.len; simpa using this
    refine ⟨h, ?_, fun _ => by rw [show L.length = i by omega]; exact R, rfl, fun _ _ _ _ => rfl⟩
    rw [L54_1]
    simp only [sl1, bs, itT, itF, ifT, ifF, dF (show ¬ (i : Int) < (L.length : Int) by omega), chkR]
  | k + 1, m + 1, i, h, hi, hm, R, s0, s1, s2, r => by
    have sl0 : slen a0 = some (G.length : Int) := by have := s0.len; simpa using this
    have sl1 : slen a1 = some (L.length : Int) := by have := s1.len; simpa using this
    have hi1 : i < L.length := by omega
    have e2 : IntKind.i64.wrap ((i : Int) + 1) = ((i + 1 : Nat) : Int) := by rw [wrapIn (by omega)]; omega
    obtain ⟨q, eq, r0, r1⟩ := twos_at s1 hi1
    have fail : okp G L i = false → chkR G L Nm i (k + 1) = false := fun e => by rw [chkR, e, Bool.false_and]
    have nop : ∀ {p : Prop}, ¬ p → (p ↔ okp G L i = true) → okp G L i = false := fun np e => by
      cases ho : okp G L i with
      | false => rfl
      | true => exact absurd (e.2 ho) np
    by_cases h1 : (pa L i).1 < 0
    · have hc := fail (nop (fun x => by have := x.1; omega) okp_iff.symm)
      refine ⟨h, ?_, fun e => (by rw [hc] at e; cases e), rfl, fun _ _ _ _ => rfl⟩
      rw [L54_1, hc]
      simp only [sl1, itT, itF, ifT, ifF, dT (show (i : Int) < (L.length : Int) by omega), eq, r0, r1, asInt_some, bs, dT h1, Bool.false_eq_true]
    by_cases h2 : (pa L i).1 ≥ (G.length : Int)
    · have hc := fail (nop (fun x => by have := x.2.1; omega) okp_iff.symm)
      refine ⟨h, ?_, fun e => (by rw [hc] at e; cases e), rfl, fun _ _ _ _ => rfl⟩
      rw [L54_1, hc]
      simp only [sl1, itT, itF, ifT, ifF, dT (show (i : Int) < (L.length : Int) by omega), eq, r0, r1, asInt_some, bs, dF h1, sl0, dT h2, Bool.false_eq_true]
    have hprev : (if decide ((i : Int) > 0) = true then (sidx a1 (IntKind.i64.wrap ((i : Int) - 1)) 2).bind fun q94 => (Go.L.asInt .i64 (rd h (padd q94 0) 0)).bind fun x95 => some (decide (x95 ≥ (pa L i).1), h) else some (false, h)) = some (decide (0 < i ∧ (pa L (i - 1)).1 ≥ (pa L i).1), h) := by
      by_cases h0 : i = 0
      · subst h0
        rw [decide_eq_false (show ¬ (((0 : Nat) : Int) > 0) by omega), itF, decide_eq_false (by omega)]
      · have e3 : IntKind.i64.wrap ((i : Int) - 1) = ((i - 1 : Nat) : Int) := by rw [wrapIn (by omega)]; omega
        obtain ⟨q', eq', r0', _⟩ := twos_at s1 (i := i - 1) (by omega)
        rw [decide_eq_true (show (i : Int) > 0 by omega), itT, e3, eq', bs, padd_zero, r0', asInt_some, bs]
        congr 2
        by_cases h3 : (pa L (i - 1)).1 ≥ (pa L i).1
        · rw [decide_eq_true h3, decide_eq_true ⟨by omega, h3⟩]
        · rw [decide_eq_false h3, decide_eq_false (fun x => h3 x.2)]
    by_cases h3 : 0 < i ∧ (pa L (i - 1)).1 ≥ (pa L i).1
    · have hc := fail (nop (fun x => by have := x.2.2.1 h3.1; omega) okp_iff.symm)
      refine ⟨h, ?_, fun e => (by rw [hc] at e; cases e), rfl, fun _ _ _ _ => rfl⟩
      rw [L54_1, hc]
      simp only [sl1, itT, itF, ifT, ifF, dT (show (i : Int) < (L.length : Int) by omega), eq, r0, r1, asInt_some, bs, dF h1, sl0, dF h2, Bool.false_eq_true]
      rw [hprev]
      simp only [dT h3, itT, ifT, bs]
    by_cases h4 : (pa L i).2 < 1
    · have hc := fail (nop (fun x => by have := x.2.2.2.1; omega) okp_iff.symm)
      refine ⟨h, ?_, fun e => (by rw [hc] at e; cases e), rfl, fun _ _ _ _ => rfl⟩
      rw [L54_1, hc]
      simp only [sl1, itT, itF, ifT, ifF, dT (show (i : Int) < (L.length : Int) by omega), eq, r0, r1, asInt_some, bs, dF h1, sl0, dF h2, Bool.false_eq_true]
      rw [hprev]
      simp only [dF h3, itF, ifF, itT, ifT, bs, dT h4, Bool.false_eq_true]
    obtain ⟨p, hp⟩ := Int.eq_ofNat_of_zero_le (show 0 ≤ (pa L i).1 by omega)
    have hp' : (pa L i).1.toNat = p := by rw [hp]; rfl
    have hpG : p < G.length := by omega
    obtain ⟨q5, eq5, r5⟩ := ones_at s0 hpG
    by_cases h5 : (pa L i).2 = ga G p
    case neg =>
      have hc := fail (nop (fun x => h5 (by rw [x.2.2.2.2, hp'])) okp_iff.symm)
      refine ⟨h, ?_, fun e => (by rw [hc] at e; cases e), rfl, fun _ _ _ _ => rfl⟩
      rw [L54_1, hc]
      simp only [sl1, itT, itF, ifT, ifF, dT (show (i : Int) < (L.length : Int) by omega), eq, r0, r1, asInt_some, bs, dF h1, sl0, dF h2, Bool.false_eq_true]
      rw [hprev]
      rw [hp] at h3 ⊢
      simp only [dF h3, itF, ifF, itT, ifT, bs, dF h4, asInt_some, nqF h5, Bool.false_eq_true, eq5, r5]
    have h4b : ¬ ga G p < 1 := by rw [← h5]; exact h4
    have hok : okp G L i = true := okp_iff.2 ⟨by omega, by omega, fun h0 => by
      by_cases h6 : (pa L (i - 1)).1 < (pa L i).1
      · exact h6
      · exact absurd ⟨h0, by omega⟩ h3, by omega, by rw [hp']; exact h5⟩
    have hc : chkR G L Nm i (k + 1) = (okn Nm i && chkR G L Nm (i + 1) k) := by rw [chkR, hok, Bool.true_and]
    obtain ⟨q6, eq6, r6⟩ := strs_at s2 (i := i) (by omega)
    have hpf : p < (fin G L Nm i i).length := by rw [fin_len]; exact hpG
    -- the writes, and what follows
    obtain ⟨q7, e7, _, w7⟩ := R.l0 hpf
    obtain ⟨h7, ew7, R7, l7, f7⟩ := w7 true
    rw [fin_get, fin_live hp] at R7
    have hpf7 : p < (fin G L Nm (i + 1) i).length := by rw [fin_len]; exact hpG
    obtain ⟨q8, e8, _, w8⟩ := R7.n0 hpf7
    obtain ⟨h8, ew8, R8, l8, f8⟩ := w8 (na Nm i)
    rw [fin_get, fin_name hp] at R8
    have fr8 : ∀ {es : Nat} {v : V} {xs : List (List V)}, oid v = none → Sl h es v xs → Sl h8 es v xs := fun o s => s.frame fun j hj => by rw [o] at hj; cases hj
    have fr7 : Sl h7 1 a2 (strs Nm) := s2.frame fun j hj => by rw [‹oid a2 = none›] at hj; cases hj
    obtain ⟨q9, e9, r9⟩ := strs_at fr7 (i := i) (by omega)
    have hq9 : q9 = q6 := by rw [eq6] at e9; exact (Option.some.inj e9).symm
    subst hq9
    obtain ⟨h', e, t', l', f'⟩ := pidRL hN hL hNm x169 x170 x171 x172 x173 x174 x175 x176 ‹oid a0 = none› ‹oid a1 = none› ‹oid a2 = none› k m (i + 1) h8 (by omega) (by omega) R8 (fr8 ‹_› s0) (fr8 ‹_› s1) (fr8 ‹_› s2) (r.succ hok)
    have f78 : ∀ k, k ≠ g → k ≠ l → k ≠ n → h'[k]? = h[k]? := fun k a b c => (f' k a b c).trans ((f8 k c).trans (f7 k b))
    by_cases hz : na Nm i = noname
    · have hzd : decide (na Nm i = ByteArray.mk #[]) = true := decide_eq_true hz
      have hc' : chkR G L Nm i (k + 1) = chkR G L Nm (i + 1) k := by rw [hc, okn, decide_eq_true hz, Bool.true_or, Bool.true_and]
      refine ⟨h', ?_, fun hh => t' (by rw [hc'] at hh; exact hh), by omega, f78⟩
      rw [L54_1, hc']
      simp only [sl1, itT, itF, ifT, ifF, dT (show (i : Int) < (L.length : Int) by omega), eq, r0, r1, asInt_some, bs, dF h1, sl0, dF h2, Bool.false_eq_true]
      rw [hprev]
      rw [hp] at h3 ⊢
      simp only [dF h3, itF, ifF, itT, ifT, bs, dF h4, dF h4b, asInt_some, h5, nqT, Bool.false_eq_true, eq5, r5, eq6, r6, tabs.asStr_some, seq, hzd, nT, e7, ew7, r9, e8, ew8, e2]
      exact e
    · have hzd : decide (na Nm i = ByteArray.mk #[]) = false := decide_eq_false hz
      have hw := where71 (N := N) hN R (na Nm i)
      have hat := refAtom (na Nm i) [] (N := 100) (by omega)
      have hfl : (((fin G L Nm i i).length : Nat) : Int) = (G.length : Int) := by rw [fin_len]
      rw [hfl] at hw
      rcases hw with ⟨ew, hn⟩ | ⟨j, hj, hh, _, ew⟩
      · have hsn : seen Nm (na Nm i) i = false := by
          cases hsn : seen Nm (na Nm i) i with
          | false => rfl
          | true =>
            obtain ⟨j, hj, hh⟩ := (has_seen r hz).2 hsn
            rw [hn j hj] at hh; cases hh
        cases ha : atomB (na Nm i) with
        | true =>
          rw [ha] at hat
          have hc' : chkR G L Nm i (k + 1) = chkR G L Nm (i + 1) k := by rw [hc, okn, decide_eq_false hz, ha, hsn]; rfl
          refine ⟨h', ?_, fun hh => t' (by rw [hc'] at hh; exact hh), by omega, f78⟩
          rw [L54_1, hc']
          simp only [sl1, itT, itF, ifT, ifF, dT (show (i : Int) < (L.length : Int) by omega), eq, r0, r1, asInt_some, bs, dF h1, sl0, dF h2, Bool.false_eq_true]
          rw [hprev]
          rw [hp] at h3 ⊢
          simp only [dF h3, itF, ifF, itT, ifT, bs, dF h4, dF h4b, asInt_some, h5, nqT, Bool.false_eq_true, eq5, r5, eq6, r6, tabs.asStr_some, seq, hzd, nF, nT, ew, show ((3 : Int) == 0) = false from rfl, hat, e7, ew7, r9, e8, ew8, e2]
          exact e
        | false =>
          rw [ha] at hat
          have hc' : chkR G L Nm i (k + 1) = false := by rw [hc, okn, decide_eq_false hz, ha]; rfl
          refine ⟨h, ?_, fun e => (by rw [hc'] at e; cases e), rfl, fun _ _ _ _ => rfl⟩
          rw [L54_1, hc']
          simp only [sl1, itT, itF, ifT, ifF, dT (show (i : Int) < (L.length : Int) by omega), eq, r0, r1, asInt_some, bs, dF h1, sl0, dF h2, Bool.false_eq_true]
          rw [hprev]
          rw [hp] at h3 ⊢
          simp only [dF h3, itF, ifF, itT, ifT, bs, dF h4, dF h4b, asInt_some, h5, nqT, Bool.false_eq_true, eq5, r5, eq6, r6, tabs.asStr_some, seq, hzd, nF, nT, ew, show ((3 : Int) == 0) = false from rfl, hat]
      · have hsn : seen Nm (na Nm i) i = true := (has_seen r hz).1 ⟨j, hj, hh⟩
        have hc' : chkR G L Nm i (k + 1) = false := by rw [hc, okn, decide_eq_false hz, hsn]; simp
        refine ⟨h, ?_, fun e => (by rw [hc'] at e; cases e), rfl, fun _ _ _ _ => rfl⟩
        rw [L54_1, hc']
        simp only [sl1, itT, itF, ifT, ifF, dT (show (i : Int) < (L.length : Int) by omega), eq, r0, r1, asInt_some, bs, dF h1, sl0, dF h2, Bool.false_eq_true]
        rw [hprev]
        rw [hp] at h3 ⊢
        simp only [dF h3, itF, ifF, itT, ifT, bs, dF h4, dF h4b, asInt_some, h5, nqT, Bool.false_eq_true, eq5, r5, eq6, r6, tabs.asStr_some, seq, hzd, nF, nT, ew, show ((0 : Int) == 0) = true from rfl]
end

/-- Load. -/
theorem loadR {G : List Int} {L : List (Int × Int)} {Nm : List ByteArray} {h : H} {a0 a1 a2 : V} {N : Nat} (hN : 1048600 ≤ N) (h0 : oid a0 = none) (h1 : oid a1 = none) (h2 : oid a2 = none) (s0 : Sl h 1 a0 (ones G)) (s1 : Sl h 2 a1 (twos L)) (s2 : Sl h 1 a2 (strs Nm)) (hL : L.length ≤ 1048576) :
    ∃ (x : Int) (gv lv' nv : V) (h' : H), Over h.length h h' ∧ F54 N (a0, a1, a2, h) = some (x, gv, lv', nv, if good G L Nm = true then 0 else 1, h') ∧
      (good G L Nm = true → x = (G.length : Int) ∧ Ref h' gv lv' nv h.length (h.length + 1) (h.length + 2) (fin G L Nm L.length L.length)) := by
  have sg : slen a0 = some (G.length : Int) := by have := s0.len; simpa using this
  have sl : slen a1 = some (L.length : Int) := by have := s1.len; simpa using this
  have sn : slen a2 = some (Nm.length : Int) := by have := s2.len; simpa using this
  have z0 : ((0 : Int) != 0) = false := rfl
  by_cases k1 : 1 ≤ G.length ∧ G.length ≤ 256
  case neg =>
    have hgd : good G L Nm = false := by rw [good, decide_eq_false k1, Bool.false_and]
    refine ⟨0, .nils, .nils, .nils, h, ⟨Nat.le_refl _, fun _ _ => rfl⟩, ?_, fun e => by rw [hgd] at e; cases e⟩
    have e1 := newRNot N h (k := (G.length : Int)) (by omega)
    rw [F54, hgd]
    simp only [sg, bs, e1, show ((1 : Int) != 0) = true from rfl, itT, ifT, Bool.false_eq_true, ifF]
  obtain ⟨gv, lv', nv, h1', e1, T1, l1, f1⟩ := newR N h k1.1 k1.2
  by_cases k2 : L.length = Nm.length
  case neg =>
    have hgd : good G L Nm = false := by rw [good, decide_eq_false k2, Bool.false_and, Bool.and_false]
    refine ⟨0, .nils, .nils, .nils, h1', ⟨by omega, f1⟩, ?_, fun e => by rw [hgd] at e; cases e⟩
    have h2' : (((L.length : Int)) != ((Nm.length : Int))) = true := nqF (by omega)
    rw [F54, hgd]
    simp only [sg, bs, e1, z0, itT, ifT, sl, sn, h2', Bool.false_eq_true, ifF]
  have h2' : (((L.length : Int)) != ((Nm.length : Int))) = false := by rw [k2]; exact nqT _
  rw [← genS_zero] at T1
  have fr : ∀ {h2 : H} {es : Nat} {v : V} {xs : List (List V)}, oid v = none → Sl h es v xs → Sl h2 es v xs := fun o s => s.frame fun j hj => by rw [o] at hj; cases hj
  obtain ⟨h2h, e3, t3, l3, f3⟩ := genRL N k1.2 a1 a2 0 .nils .nils .nils 0 .nils .nils .nils (G.length : Int) (by rw [h0]; simp) G.length N 0 h1' (by omega) (by omega) T1 (fr h0 s0)
  have e3' : L54_0 N N (a0, a1, a2, 0, 0, .nils, .nils, .nils, 0, .nils, .nils, .nils, (G.length : Int), gv, lv', nv, h1') = _ := e3
  cases c3 : chkG G 0 G.length with
  | false =>
    have hgd : good G L Nm = false := by rw [good, c3, Bool.false_and, Bool.and_false, Bool.and_false]
    refine ⟨0, .nils, .nils, .nils, h2h, ⟨by omega, fun i hi => (f3 i (by omega)).trans (f1 i hi)⟩, ?_, fun e => by rw [hgd] at e; cases e⟩
    rw [c3] at e3'
    rw [F54, hgd]
    simp only [sg, bs, e1, z0, itT, ifT, sl, sn, h2', Bool.false_eq_true, ifF, itF, e3']
  | true =>
    rw [c3] at e3'
    have T3 := t3 c3
    rw [genS_all (L := L) (Nm := Nm)] at T3
    obtain ⟨h3h, e4, t4, l4, f4⟩ := pidRL (N := N) (by omega) hL k2 0 .nils .nils .nils 0 .nils .nils .nils h0 h1 h2 L.length N 0 h2h (by omega) (by omega) T3 (fr h0 s0) (fr h1 s1) (fr h2 s2) Rise.zero
    have e4' : L54_1 N N (a0, a1, a2, 0, 0, .nils, .nils, .nils, 0, .nils, .nils, .nils, (G.length : Int), gv, lv', nv, h2h) = _ := e4
    have hgd : good G L Nm = chkR G L Nm 0 L.length := by rw [good, c3, decide_eq_true k1, decide_eq_true k2, chkR_eq, ← k2]; rfl
    have ov : Over h.length h h3h := ⟨by omega, fun i hi => (f4 i (by omega) (by omega) (by omega)).trans ((f3 i (by omega)).trans (f1 i hi))⟩
    cases c5 : chkR G L Nm 0 L.length with
    | false =>
      refine ⟨0, .nils, .nils, .nils, h3h, ov, ?_, fun e => by rw [hgd, c5] at e; cases e⟩
      rw [F54, hgd, c5]
      rw [c5] at e4'
      simp only [sg, bs, e1, z0, itT, ifT, sl, sn, h2', Bool.false_eq_true, ifF, itF, e3', e4']
    | true =>
      refine ⟨(G.length : Int), gv, lv', nv, h3h, ov, ?_, fun _ => ⟨rfl, t4 c5⟩⟩
      rw [F54, hgd, c5]
      rw [c5] at e4'
      simp only [sg, bs, e1, z0, itT, ifT, sl, sn, h2', Bool.false_eq_true, ifF, itF, e3', e4']

end Go.Proofs.Ytbpibiapjangmaa.tabs
