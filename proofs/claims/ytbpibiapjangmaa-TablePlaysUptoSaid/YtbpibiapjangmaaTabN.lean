/- Loads of a table: what the lists say, and the table's own loops. -/
import Derived.Test.YtbpibiapjangmaaTabM
namespace Go.Proofs.Ytbpibiapjangmaa.tabs
open Go Go.L
set_option linter.unusedVariables false
set_option linter.unusedSimpArgs false

abbrev ones (G : List Int) : List (List V) := G.map fun x => [I x]
abbrev twos (L : List (Int × Int)) : List (List V) := L.map fun p => [I p.1, I p.2]
abbrev strs (Nm : List ByteArray) : List (List V) := Nm.map fun s => [V.str s]
abbrev pa (L : List (Int × Int)) (i : Nat) : Int × Int := L.getD i (0, 0)
abbrev ga (G : List Int) (i : Nat) : Int := G.getD i 0
abbrev na (Nm : List ByteArray) (i : Nat) : ByteArray := Nm.getD i noname

def okg (x : Int) : Bool := decide (0 ≤ x ∧ x ≤ 4611686018427387903)
def chkG (G : List Int) (i : Nat) : Nat → Bool
  | 0 => true
  | k + 1 => okg (ga G i) && chkG G (i + 1) k

def okp (G : List Int) (L : List (Int × Int)) (i : Nat) : Bool :=
  decide (0 ≤ (pa L i).1 ∧ (pa L i).1 < (G.length : Int) ∧ (0 < i → (pa L (i - 1)).1 < (pa L i).1) ∧ 1 ≤ (pa L i).2 ∧ (pa L i).2 = ga G (pa L i).1.toNat)
def chkP (G : List Int) (L : List (Int × Int)) (i : Nat) : Nat → Bool
  | 0 => true
  | k + 1 => okp G L i && chkP G L (i + 1) k

def seen (Nm : List ByteArray) (s : ByteArray) : Nat → Bool
  | 0 => false
  | t + 1 => decide (na Nm t = s) || seen Nm s t
def okn (Nm : List ByteArray) (i : Nat) : Bool := decide (na Nm i = noname) || (atomB (na Nm i) && !seen Nm (na Nm i) i)
def chkN (Nm : List ByteArray) (i : Nat) : Nat → Bool
  | 0 => true
  | k + 1 => okn Nm i && chkN Nm (i + 1) k

def good (G : List Int) (L : List (Int × Int)) (Nm : List ByteArray) : Bool :=
  decide (1 ≤ G.length ∧ G.length ≤ 256) && (decide (L.length = Nm.length) && (chkG G 0 G.length && (chkP G L 0 L.length && chkN Nm 0 Nm.length)))

/-! ### What a table is after so many steps -/
def lv (L : List (Int × Int)) : Nat → Nat → Bool
  | 0, _ => false
  | i + 1, n => decide ((pa L i).1 = (n : Int)) || lv L i n
def nmAt (L : List (Int × Int)) (Nm : List ByteArray) : Nat → Nat → ByteArray
  | 0, _ => noname
  | j + 1, n => if (pa L j).1 = (n : Int) then na Nm j else nmAt L Nm j n
def mp (L : List (Int × Int)) (Nm : List ByteArray) : Nat → List (ByteArray × Int)
  | 0 => []
  | j + 1 => if na Nm j = noname then mp L Nm j else put (na Nm j) (pa L j).1 (mp L Nm j)
def fin (G : List Int) (L : List (Int × Int)) (Nm : List ByteArray) (i j : Nat) : List Slot :=
  (List.range G.length).map fun n => ⟨ga G n, lv L i n, nmAt L Nm j n⟩
def genS (G : List Int) (i : Nat) : List Slot := (List.range G.length).map fun n => ⟨if n < i then ga G n else 0, false, noname⟩

section
variable {G : List Int} {L : List (Int × Int)} {Nm : List ByteArray}

theorem fin_len (i j : Nat) : (fin G L Nm i j).length = G.length := by simp [fin]
theorem fin_get {i j n : Nat} (hn : n < (fin G L Nm i j).length) : (fin G L Nm i j)[n] = ⟨ga G n, lv L i n, nmAt L Nm j n⟩ := by simp [fin]
theorem genS_len (i : Nat) : (genS G i).length = G.length := by simp [genS]
theorem genS_get {i n : Nat} (hn : n < (genS G i).length) : (genS G i)[n] = ⟨if n < i then ga G n else 0, false, noname⟩ := by simp [genS]

theorem genS_zero : genS G 0 = List.replicate G.length ⟨0, false, noname⟩ := by
  apply List.ext_getElem (by simp [genS])
  intro t h1 h2
  rw [genS_get, if_neg (by omega), List.getElem_replicate]
theorem genS_all : genS G G.length = fin G L Nm 0 0 := by
  apply List.ext_getElem (by simp [genS, fin])
  intro t h1 h2
  rw [genS_get, fin_get, if_pos (by simpa [genS] using h1)]; rfl
theorem genS_set {i : Nat} (hi : i < G.length) : (genS G i).set i ⟨ga G i, false, noname⟩ = genS G (i + 1) := by
  apply List.ext_getElem (by simp [genS])
  intro t h1 h2
  simp only [List.getElem_set, genS_get]
  by_cases ht : i = t
  · subst ht; rw [if_pos rfl, if_pos (by omega)]
  · rw [if_neg ht]
    by_cases h3 : t < i
    · rw [if_pos h3, if_pos (by omega)]
    · rw [if_neg h3, if_neg (by omega)]

theorem fin_live {i j n : Nat} (hn : (pa L i).1 = (n : Int)) : (fin G L Nm i j).set n ⟨ga G n, true, nmAt L Nm j n⟩ = fin G L Nm (i + 1) j := by
  apply List.ext_getElem (by simp [fin])
  intro t h1 h2
  simp only [List.getElem_set, fin_get]
  by_cases ht : n = t
  · subst ht; rw [if_pos rfl, lv, hn]; simp
  · rw [if_neg ht, lv, hn, decide_eq_false (show ¬ (n : Int) = (t : Int) by omega), Bool.false_or]
theorem fin_name {i j n : Nat} (hn : (pa L j).1 = (n : Int)) : (fin G L Nm i j).set n ⟨ga G n, lv L i n, na Nm j⟩ = fin G L Nm i (j + 1) := by
  apply List.ext_getElem (by simp [fin])
  intro t h1 h2
  simp only [List.getElem_set, fin_get]
  by_cases ht : n = t
  · subst ht; rw [if_pos rfl, nmAt, if_pos hn]
  · rw [if_neg ht, nmAt, if_neg (by omega)]
theorem fin_noname {i j n : Nat} (hn : (pa L j).1 = (n : Int)) (h0 : na Nm j = noname) (h1 : nmAt L Nm j n = noname) : fin G L Nm i (j + 1) = fin G L Nm i j := by
  apply List.ext_getElem (by simp [fin])
  intro t h1 h2
  rw [fin_get, fin_get, nmAt]
  by_cases ht : n = t
  · subst ht; rw [if_pos hn, h0]; simp_all
  · rw [if_neg (by omega)]

theorem lv_in : ∀ {i n : Nat}, lv L i n = true → ∃ t, t < i ∧ (pa L t).1 = (n : Int)
  | i + 1, n, h => by
    rw [lv, Bool.or_eq_true, decide_eq_true_eq] at h
    rcases h with h | h
    · exact ⟨i, by omega, h⟩
    · obtain ⟨t, ht, e⟩ := lv_in h
      exact ⟨t, by omega, e⟩
theorem lv_of : ∀ {i n t : Nat}, t < i → (pa L t).1 = (n : Int) → lv L i n = true
  | i + 1, n, t, ht, e => by
    rw [lv, Bool.or_eq_true, decide_eq_true_eq]
    by_cases h : t = i
    · subst h; exact .inl e
    · exact .inr (lv_of (by omega) e)
theorem nmAt_none : ∀ {j n : Nat}, (∀ t, t < j → (pa L t).1 ≠ (n : Int)) → nmAt L Nm j n = noname
  | 0, n, _ => rfl
  | j + 1, n, h => by rw [nmAt, if_neg (h j (by omega))]; exact nmAt_none fun t ht => h t (by omega)
theorem nmAt_seen {s : ByteArray} (hs : s ≠ noname) : ∀ {j n : Nat}, nmAt L Nm j n = s → seen Nm s j = true
  | 0, n, h => absurd h.symm hs
  | j + 1, n, h => by
    rw [nmAt] at h
    rw [seen, Bool.or_eq_true, decide_eq_true_eq]
    by_cases h1 : (pa L j).1 = (n : Int)
    · rw [if_pos h1] at h; exact .inl h
    · rw [if_neg h1] at h; exact .inr (nmAt_seen hs h)
theorem look_mp {s : ByteArray} (hs : s ≠ noname) : ∀ j, (look s (mp L Nm j)).isSome = seen Nm s j
  | 0 => rfl
  | j + 1 => by
    rw [mp, seen]
    by_cases h0 : na Nm j = noname
    · rw [if_pos h0, look_mp hs j, h0, decide_eq_false (fun e => hs e.symm), Bool.false_or]
    · rw [if_neg h0]
      by_cases h1 : na Nm j = s
      · rw [h1, look_put_self, decide_eq_true rfl]; rfl
      · rw [look_put_ne _ (fun e => h1 e.symm), look_mp hs j, decide_eq_false h1, Bool.false_or]

/-- Places that rise. -/
structure Rise (G : List Int) (L : List (Int × Int)) (i : Nat) : Prop where
  ok : ∀ t, t < i → okp G L t = true

theorem okp_iff {i : Nat} : okp G L i = true ↔ (0 ≤ (pa L i).1 ∧ (pa L i).1 < (G.length : Int) ∧ (0 < i → (pa L (i - 1)).1 < (pa L i).1) ∧ 1 ≤ (pa L i).2 ∧ (pa L i).2 = ga G (pa L i).1.toNat) := by
  rw [okp, decide_eq_true_eq]

theorem Rise.zero : Rise G L 0 := ⟨fun t ht => by omega⟩
theorem Rise.succ {i : Nat} (r : Rise G L i) (h : okp G L i = true) : Rise G L (i + 1) :=
  ⟨fun t ht => by
    by_cases h1 : t = i
    · subst h1; exact h
    · exact r.ok t (by omega)⟩
theorem Rise.lt {i : Nat} (r : Rise G L i) : ∀ {u t : Nat}, t < u → u < i → (pa L t).1 < (pa L u).1
  | u + 1, t, h1, h2 => by
    have h3 := (okp_iff.1 (r.ok (u + 1) h2)).2.2.1 (by omega)
    by_cases h4 : t = u
    · subst h4; exact h3
    · have := r.lt (u := u) (t := t) (by omega) (by omega)
      simp only [Nat.add_sub_cancel] at h3
      omega
theorem Rise.at {i t : Nat} (r : Rise G L i) (ht : t < i) : ∃ n : Nat, (pa L t).1 = (n : Int) ∧ n < G.length ∧ (pa L t).2 = ga G n := by
  have h := okp_iff.1 (r.ok t ht)
  obtain ⟨n, hn⟩ := Int.eq_ofNat_of_zero_le h.1
  refine ⟨n, hn, by have := h.2.1; omega, ?_⟩
  rw [h.2.2.2.2, hn]; rfl
theorem Rise.chk : ∀ {k i : Nat}, Rise G L i → chkP G L i k = true → Rise G L (i + k)
  | 0, i, r, _ => r
  | k + 1, i, r, h => by
    rw [chkP, Bool.and_eq_true] at h
    have := (r.succ h.1).chk h.2
    rwa [show i + 1 + k = i + (k + 1) by omega] at this
/-- Who comes next has no name yet. -/
theorem Rise.fresh {i j n : Nat} (r : Rise G L i) (hj : j < i) (hn : (pa L j).1 = (n : Int)) : nmAt L Nm j n = noname :=
  nmAt_none fun t ht e => by have := r.lt ht hj; omega
theorem Rise.seen_at {i : Nat} (r : Rise G L i) {s : ByteArray} : ∀ {j : Nat}, j ≤ i → seen Nm s j = true → ∃ n : Nat, n < G.length ∧ lv L j n = true ∧ nmAt L Nm j n = s
  | j + 1, hj, h => by
    rw [seen, Bool.or_eq_true, decide_eq_true_eq] at h
    by_cases h1 : na Nm j = s
    · obtain ⟨n, hn, hl, _⟩ := r.at (t := j) (by omega)
      exact ⟨n, hl, lv_of (Nat.lt_succ_self j) hn, by rw [nmAt, if_pos hn, h1]⟩
    · obtain ⟨n, hl, h2, h3⟩ := r.seen_at (j := j) (by omega) (h.resolve_left h1)
      obtain ⟨t, ht, e⟩ := lv_in h2
      have h4 := r.lt ht (show j < i by omega)
      exact ⟨n, hl, lv_of (show t < j + 1 by omega) e, by rw [nmAt, if_neg (by omega), h3]⟩
end

theorem padd_zero (p : V) : padd p 0 = p := by cases p <;> simp [padd]

section
variable {G : List Int} {L : List (Int × Int)} {Nm : List ByteArray} {h : H} {v : V}

theorem ones_at (hs : Sl h 1 v (ones G)) {i : Nat} (hi : i < G.length) : ∃ q, sidx v (i : Int) 1 = some q ∧ rd h q 0 = some (I (ga G i)) := by
  obtain ⟨q, e, hq⟩ := hs.at i (by simpa using hi)
  exact ⟨q, e, by rw [hq 0 (by omega)]; simp [hi, List.getD]⟩
theorem twos_at (hs : Sl h 2 v (twos L)) {i : Nat} (hi : i < L.length) : ∃ q, sidx v (i : Int) 2 = some q ∧ rd h q 0 = some (I (pa L i).1) ∧ rd h q 1 = some (I (pa L i).2) := by
  obtain ⟨q, e, hq⟩ := hs.at i (by simpa using hi)
  exact ⟨q, e, by rw [hq 0 (by omega)]; simp [hi, List.getD], by rw [hq 1 (by omega)]; simp [hi, List.getD]⟩
theorem strs_at (hs : Sl h 1 v (strs Nm)) {i : Nat} (hi : i < Nm.length) : ∃ q, sidx v (i : Int) 1 = some q ∧ rd h q 0 = some (.str (na Nm i)) := by
  obtain ⟨q, e, hq⟩ := hs.at i (by simpa using hi)
  exact ⟨q, e, by rw [hq 0 (by omega)]; simp [hi, List.getD]⟩
end

section
variable {G : List Int} {L : List (Int × Int)} {Nm : List ByteArray} {a b c : Nat}

theorem genL (N : Nat) (hG : G.length ≤ 256) {g : V} (ha : oid g ≠ some a) (x0 x1 x2 : V) : ∀ (k m i : Nat) (h : H), i + k = G.length → k < m → Tab a b c h (genS G i) [] → Sl h 1 g (ones G) →
    ∃ h', L53_0 N m (x0, x1, x2, pt c, g, (G.length : Int), (i : Int), h) = some (if chkG G i k = true then .inl (x0, x1, x2, pt c, h') else .inr (.nilp, 1, h')) ∧
      (chkG G i k = true → Tab a b c h' (genS G G.length) []) ∧ h'.length = h.length ∧ ∀ k, k ≠ a → h'[k]? = h[k]?
  | 0, m + 1, i, h, hi, hm, T, hs => by
    refine ⟨h, ?_, fun _ => by rw [show G.length = i by omega]; exact T, rfl, fun _ _ => rfl⟩
    rw [L53_0]
    simp only [itT, itF, ifT, ifF, dF (show ¬ (i : Int) < (G.length : Int) by omega), chkG]
  | k + 1, m + 1, i, h, hi, hm, T, hs => by
    have hi1 : i < G.length := by omega
    have e2 : IntKind.i64.wrap ((i : Int) + 1) = ((i + 1 : Nat) : Int) := by rw [wrapIn (by omega)]; omega
    obtain ⟨q, eq, r⟩ := ones_at hs hi1
    by_cases h1 : ga G i < 0
    · have hc : chkG G i (k + 1) = false := by rw [chkG, okg, decide_eq_false (by omega), Bool.false_and]
      refine ⟨h, ?_, fun e => (by rw [hc] at e; cases e), rfl, fun _ _ => rfl⟩
      rw [L53_0, hc]
      simp only [itT, itF, ifT, ifF, dT (show (i : Int) < (G.length : Int) by omega), eq, r, asInt_some, bs, dT h1, Bool.false_eq_true]
    by_cases h2 : ga G i > 4611686018427387903
    · have hc : chkG G i (k + 1) = false := by rw [chkG, okg, decide_eq_false (by omega), Bool.false_and]
      refine ⟨h, ?_, fun e => (by rw [hc] at e; cases e), rfl, fun _ _ => rfl⟩
      rw [L53_0, hc]
      simp only [itT, itF, ifT, ifF, dT (show (i : Int) < (G.length : Int) by omega), eq, r, asInt_some, bs, dF h1, dT h2, Bool.false_eq_true]
    have hc : chkG G i (k + 1) = chkG G (i + 1) k := by rw [chkG, okg, decide_eq_true (by omega), Bool.true_and]
    have hi2 : i < (genS G i).length := by rw [genS_len]; exact hi1
    obtain ⟨h3, w3, T3, l3, f3⟩ := T.put hi2 0 (by omega) (I (ga G i)) ⟨ga G i, false, noname⟩ (by rw [genS_get]; rfl)
    rw [genS_set hi1] at T3
    obtain ⟨h', e, t', l', f'⟩ := genL N hG ha x0 x1 x2 k m (i + 1) h3 (by omega) (by omega) T3 (hs.frame fun j hj => f3 j (fun e => ha (by rw [hj, e])))
    refine ⟨h', ?_, fun hh => t' (by rw [hc] at hh; exact hh), by omega, fun k hk => (f' k hk).trans (f3 k hk)⟩
    have hsx := sx (a := a) (cap := capOf h c) hi2
    rw [L53_0, hc]
    simp only [itT, itF, ifT, ifF, dT (show (i : Int) < (G.length : Int) by omega), eq, r, asInt_some, bs, dF h1, dF h2, pnck, padd0, T.r0, hsx, w3, e2]
    exact e

theorem aliveL (N : Nat) (hG : G.length ≤ 256) (hL : L.length ≤ 1048576) {g l : V} (ga0 : oid g ≠ some a) (la : oid l ≠ some a) (x2 : V) : ∀ (k m i : Nat) (h : H), i + k = L.length → k < m → Tab a b c h (fin G L Nm i 0) [] → Sl h 1 g (ones G) → Sl h 2 l (twos L) → Rise G L i →
    ∃ h', L53_1 N m (g, l, x2, pt c, l, (L.length : Int), (i : Int), h) = some (if chkP G L i k = true then .inl (l, x2, pt c, h') else .inr (.nilp, 1, h')) ∧
      (chkP G L i k = true → Tab a b c h' (fin G L Nm L.length 0) []) ∧ h'.length = h.length ∧ ∀ k, k ≠ a → h'[k]? = h[k]?
  | 0, m + 1, i, h, hi, hm, T, hs, hl, r => by
    refine ⟨h, ?_, fun _ => by rw [show L.length = i by omega]; exact T, rfl, fun _ _ => rfl⟩
    rw [L53_1]
    simp only [itT, itF, ifT, ifF, dF (show ¬ (i : Int) < (L.length : Int) by omega), chkP]
  | k + 1, m + 1, i, h, hi, hm, T, hs, hl, r => by
    have hi1 : i < L.length := by omega
    have e2 : IntKind.i64.wrap ((i : Int) + 1) = ((i + 1 : Nat) : Int) := by rw [wrapIn (by omega)]; omega
    obtain ⟨q, eq, r0, r1⟩ := twos_at hl hi1
    have hsl : slen g = some (G.length : Int) := by have := hs.len; simpa using this
    have fail : okp G L i = false → chkP G L i (k + 1) = false := fun e => by rw [chkP, e, Bool.false_and]
    have nop : ∀ {p : Prop}, ¬ p → (p ↔ okp G L i = true) → okp G L i = false := fun np e => by
      cases ho : okp G L i with
      | false => rfl
      | true => exact absurd (e.2 ho) np
    by_cases h1 : (pa L i).1 < 0
    · have hc := fail (nop (fun x => by have := x.1; omega) okp_iff.symm)
      refine ⟨h, ?_, fun e => (by rw [hc] at e; cases e), rfl, fun _ _ => rfl⟩
      rw [L53_1, hc]
      simp only [itT, itF, ifT, ifF, dT (show (i : Int) < (L.length : Int) by omega), eq, r0, r1, asInt_some, bs, dT h1, Bool.false_eq_true]
    by_cases h2 : (pa L i).1 ≥ (G.length : Int)
    · have hc := fail (nop (fun x => by have := x.2.1; omega) okp_iff.symm)
      refine ⟨h, ?_, fun e => (by rw [hc] at e; cases e), rfl, fun _ _ => rfl⟩
      rw [L53_1, hc]
      simp only [itT, itF, ifT, ifF, dT (show (i : Int) < (L.length : Int) by omega), eq, r0, r1, asInt_some, bs, dF h1, hsl, dT h2, Bool.false_eq_true]
    have hprev : (if decide ((i : Int) > 0) = true then (sidx l (IntKind.i64.wrap ((i : Int) - 1)) 2).bind fun q94 => (Go.L.asInt .i64 (rd h (padd q94 0) 0)).bind fun x95 => some (decide (x95 ≥ (pa L i).1), h) else some (false, h)) = some (decide (0 < i ∧ (pa L (i - 1)).1 ≥ (pa L i).1), h) := by
      by_cases h0 : i = 0
      · subst h0
        rw [decide_eq_false (show ¬ (((0 : Nat) : Int) > 0) by omega), itF, decide_eq_false (by omega)]
      · have e3 : IntKind.i64.wrap ((i : Int) - 1) = ((i - 1 : Nat) : Int) := by rw [wrapIn (by omega)]; omega
        obtain ⟨q', eq', r0', _⟩ := twos_at hl (i := i - 1) (by omega)
        rw [decide_eq_true (show (i : Int) > 0 by omega), itT, e3, eq', bs, padd_zero, r0', asInt_some, bs]
        congr 2
        by_cases h3 : (pa L (i - 1)).1 ≥ (pa L i).1
        · rw [decide_eq_true h3, decide_eq_true ⟨by omega, h3⟩]
        · rw [decide_eq_false h3, decide_eq_false (fun x => h3 x.2)]
    by_cases h3 : 0 < i ∧ (pa L (i - 1)).1 ≥ (pa L i).1
    · have hc := fail (nop (fun x => by have := x.2.2.1 h3.1; omega) okp_iff.symm)
      refine ⟨h, ?_, fun e => (by rw [hc] at e; cases e), rfl, fun _ _ => rfl⟩
      rw [L53_1, hc]
      simp only [itT, itF, ifT, ifF, dT (show (i : Int) < (L.length : Int) by omega), eq, r0, r1, asInt_some, bs, dF h1, hsl, dF h2, Bool.false_eq_true]
      rw [hprev]
      simp only [dT h3, itT, ifT, bs]
    by_cases h4 : (pa L i).2 < 1
    · have hc := fail (nop (fun x => by have := x.2.2.2.1; omega) okp_iff.symm)
      refine ⟨h, ?_, fun e => (by rw [hc] at e; cases e), rfl, fun _ _ => rfl⟩
      rw [L53_1, hc]
      simp only [itT, itF, ifT, ifF, dT (show (i : Int) < (L.length : Int) by omega), eq, r0, r1, asInt_some, bs, dF h1, hsl, dF h2, Bool.false_eq_true]
      rw [hprev]
      simp only [dF h3, itF, ifF, itT, ifT, bs, dT h4, Bool.false_eq_true]
    obtain ⟨n, hn⟩ := Int.eq_ofNat_of_zero_le (show 0 ≤ (pa L i).1 by omega)
    have hn' : (pa L i).1.toNat = n := by rw [hn]; rfl
    have hnG : n < G.length := by omega
    obtain ⟨q5, eq5, r5⟩ := ones_at hs hnG
    by_cases h5 : (pa L i).2 = ga G n
    case neg =>
      have hc := fail (nop (fun x => h5 (by rw [x.2.2.2.2, hn'])) okp_iff.symm)
      refine ⟨h, ?_, fun e => (by rw [hc] at e; cases e), rfl, fun _ _ => rfl⟩
      rw [L53_1, hc]
      simp only [itT, itF, ifT, ifF, dT (show (i : Int) < (L.length : Int) by omega), eq, r0, r1, asInt_some, bs, dF h1, hsl, dF h2, Bool.false_eq_true]
      rw [hprev]
      simp only [hn, eq5, r5, dF h3, itF, ifF, itT, ifT, bs, dF h4, asInt_some, nqF h5, Bool.false_eq_true]
      rw [hn] at h3
      simp only [dF h3, itF, ifF, itT, ifT, bs, dF h4, asInt_some, nqF h5, Bool.false_eq_true, eq5, r5]
    have h4b : ¬ ga G n < 1 := by rw [← h5]; exact h4
    have hok : okp G L i = true := okp_iff.2 ⟨by omega, by omega, fun h0 => by
      by_cases h6 : (pa L (i - 1)).1 < (pa L i).1
      · exact h6
      · exact absurd ⟨h0, by omega⟩ h3, by omega, by rw [hn']; exact h5⟩
    have hc : chkP G L i (k + 1) = chkP G L (i + 1) k := by rw [chkP, hok, Bool.true_and]
    have hi2 : n < (fin G L Nm i 0).length := by rw [fin_len]; exact hnG
    obtain ⟨h6, w6, T6, l6, f6⟩ := T.put hi2 1 (by omega) (.bool true) ⟨ga G n, true, nmAt L Nm 0 n⟩ (by rw [fin_get]; rfl)
    rw [fin_live hn] at T6
    obtain ⟨h', e, t', l', f'⟩ := aliveL N hG hL ga0 la x2 k m (i + 1) h6 (by omega) (by omega) T6 (hs.frame fun j hj => f6 j (fun e => ga0 (by rw [hj, e]))) (hl.frame fun j hj => f6 j (fun e => la (by rw [hj, e]))) (r.succ hok)
    refine ⟨h', ?_, fun hh => t' (by rw [hc] at hh; exact hh), by omega, fun k hk => (f' k hk).trans (f6 k hk)⟩
    have hsx := sx (a := a) (cap := capOf h c) hi2
    rw [L53_1, hc]
    simp only [itT, itF, ifT, ifF, dT (show (i : Int) < (L.length : Int) by omega), eq, r0, r1, asInt_some, bs, dF h1, hsl, dF h2, Bool.false_eq_true]
    rw [hprev]
    rw [hn] at h3 ⊢
    simp only [dF h3, itF, ifF, itT, ifT, bs, dF h4, dF h4b, asInt_some, h5, nqT, Bool.false_eq_true, eq5, r5, pnck, padd0, T.r0, hsx, w6, e2]
    exact e

theorem nameL (N : Nat) (hG : G.length ≤ 256) (hL : L.length ≤ 1048576) (hNm : L.length = Nm.length) {l nv : V} (la : oid l ≠ some a ∧ oid l ≠ some b) (na0 : oid nv ≠ some a ∧ oid nv ≠ some b) (r : Rise G L L.length) : ∀ (k m j : Nat) (h : H), j + k = Nm.length → k < m → Tab a b c h (fin G L Nm L.length j) (mp L Nm j) → Sl h 2 l (twos L) → Sl h 1 nv (strs Nm) →
    ∃ h', L53_2 N m (l, pt c, nv, (Nm.length : Int), (j : Int), h) = some (if chkN Nm j k = true then .inl (pt c, h') else .inr (.nilp, 1, h')) ∧
      (chkN Nm j k = true → Tab a b c h' (fin G L Nm L.length Nm.length) (mp L Nm Nm.length)) ∧ h'.length = h.length ∧ ∀ k, k ≠ a → k ≠ b → h'[k]? = h[k]?
  | 0, m + 1, j, h, hi, hm, T, hl, hs => by
    refine ⟨h, ?_, fun _ => by rw [show Nm.length = j by omega]; exact T, rfl, fun _ _ _ => rfl⟩
    rw [L53_2]
    simp only [itT, itF, ifT, ifF, dF (show ¬ (j : Int) < (Nm.length : Int) by omega), chkN]
  | k + 1, m + 1, j, h, hi, hm, T, hl, hs => by
    have hj1 : j < Nm.length := by omega
    have e2 : IntKind.i64.wrap ((j : Int) + 1) = ((j + 1 : Nat) : Int) := by rw [wrapIn (by omega)]; omega
    obtain ⟨q, eq, r0⟩ := strs_at hs hj1
    obtain ⟨p, ep, p0, p1⟩ := twos_at hl (i := j) (by omega)
    obtain ⟨n, hn, hnG, hg⟩ := r.at (t := j) (by omega)
    have hfr := r.fresh (Nm := Nm) (show j < L.length by omega) hn
    by_cases h0 : na Nm j = noname
    · have hc : chkN Nm j (k + 1) = chkN Nm (j + 1) k := by rw [chkN, okn, h0, decide_eq_true rfl, Bool.true_or, Bool.true_and]
      have hm1 : mp L Nm (j + 1) = mp L Nm j := by rw [mp, if_pos h0]
      obtain ⟨h', e, t', l', f'⟩ := nameL N hG hL hNm la na0 r k m (j + 1) h (by omega) (by omega) (by rw [fin_noname hn h0 hfr, hm1]; exact T) hl hs
      refine ⟨h', ?_, fun hh => t' (by rw [hc] at hh; exact hh), l', f'⟩
      rw [L53_2, hc]
      simp only [itT, itF, ifT, ifF, dT (show (j : Int) < (Nm.length : Int) by omega), eq, r0, tabs.asStr_some, bs, h0, seq, dT (show noname = noname from rfl), nT, Bool.false_eq_true, e2]
      exact e
    · have hpre : decide (na Nm j = ByteArray.mk #[]) = false := decide_eq_false h0
      have hi2 : n < (fin G L Nm L.length j).length := by rw [fin_len]; exact hnG
      have hat : isB (fin G L Nm L.length j) (n : Int) (pa L j).2 = true := by
        rw [isB_at hi2, fin_get]
        simp only [lv_of (show j < L.length by omega) hn, hg, beq_self_eq_true, Bool.and_self]
      have fail : okn Nm j = false → chkN Nm j (k + 1) = false := fun e => by rw [chkN, e, Bool.false_and]
      have hlk := look_mp (L := L) (Nm := Nm) h0 j
      rcases name T N (n : Int) (pa L j).2 (na Nm j) with ⟨ha, e⟩ | ⟨_, hb, e⟩ | ⟨i', hi', ei, hl', hg', ha, ⟨hor, e⟩ | ⟨hno, hnn, h3, e, T3, l3, f3⟩⟩
      · have hc := fail (by rw [okn, decide_eq_false h0, ha]; rfl)
        refine ⟨h, ?_, fun e => (by rw [hc] at e; cases e), rfl, fun _ _ _ => rfl⟩
        rw [L53_2, hc]
        simp only [itT, itF, ifT, ifF, dT (show (j : Int) < (Nm.length : Int) by omega), eq, r0, tabs.asStr_some, bs, seq, hpre, nF, ep, p0, p1, asInt_some, hn, e, show ((1 : Int) != 0) = true from rfl, Bool.false_eq_true]
      · rw [hat] at hb; cases hb
      · have hin : i' = n := by omega
        subst hin
        have hs1 : seen Nm (na Nm j) j = true := by
          rcases hor with h | h
          · rw [hlk] at h; exact h
          · rw [fin_get] at h; exact absurd hfr h
        have hc := fail (by rw [okn, decide_eq_false h0, ha, hs1]; rfl)
        refine ⟨h, ?_, fun e => (by rw [hc] at e; cases e), rfl, fun _ _ _ => rfl⟩
        rw [L53_2, hc]
        simp only [itT, itF, ifT, ifF, dT (show (j : Int) < (Nm.length : Int) by omega), eq, r0, tabs.asStr_some, bs, seq, hpre, nF, ep, p0, p1, asInt_some, hn, e, show ((141 : Int) != 0) = true from rfl, Bool.false_eq_true]
      · have hin : i' = n := by omega
        subst hin
        have hs1 : seen Nm (na Nm j) j = false := by rw [← hlk, hno]; rfl
        have hc : chkN Nm j (k + 1) = chkN Nm (j + 1) k := by rw [chkN, okn, ha, hs1, decide_eq_false h0]; rfl
        have hm1 : mp L Nm (j + 1) = put (na Nm j) (i' : Int) (mp L Nm j) := by rw [mp, if_neg h0, hn]
        rw [fin_get] at T3
        have T4 : Tab a b c h3 (fin G L Nm L.length (j + 1)) (mp L Nm (j + 1)) := by
          rw [hm1, ← fin_name hn]; exact T3
        obtain ⟨h', e', t', l', f'⟩ := nameL N hG hL hNm la na0 r k m (j + 1) h3 (by omega) (by omega) T4
          (hl.frame fun j hj => f3 j (fun e => la.1 (by rw [hj, e])) (fun e => la.2 (by rw [hj, e]))) (hs.frame fun j hj => f3 j (fun e => na0.1 (by rw [hj, e])) (fun e => na0.2 (by rw [hj, e])))
        refine ⟨h', ?_, fun hh => t' (by rw [hc] at hh; exact hh), by omega, fun k h1 h2 => (f' k h1 h2).trans (f3 k h1 h2)⟩
        rw [L53_2, hc]
        simp only [itT, itF, ifT, ifF, dT (show (j : Int) < (Nm.length : Int) by omega), eq, r0, tabs.asStr_some, bs, seq, hpre, nF, ep, p0, p1, asInt_some, hn, e, show ((0 : Int) != 0) = false from rfl, Bool.false_eq_true, e2]
        exact e'
end

/-- What is under a place stays. -/
def Over (b : Nat) (h h' : H) : Prop := h.length ≤ h'.length ∧ ∀ i, i < b → h'[i]? = h[i]?

/-- Load. -/
theorem load {G : List Int} {L : List (Int × Int)} {Nm : List ByteArray} {h : H} {g l nv : V} {N : Nat} (hN : 1048600 ≤ N) (hg : Sl h 1 g (ones G)) (hl : Sl h 2 l (twos L)) (hs : Sl h 1 nv (strs Nm)) (hL : L.length ≤ 1048576) :
    ∃ h', Over h.length h h' ∧ F53 N (g, l, nv, h) = some (if good G L Nm = true then pt (h.length + 2) else .nilp, if good G L Nm = true then 0 else 1, h') ∧
      (good G L Nm = true → Tab h.length (h.length + 1) (h.length + 2) h' (fin G L Nm L.length L.length) (mp L Nm L.length)) := by
  have sg : slen g = some (G.length : Int) := by have := hg.len; simpa using this
  have sl : slen l = some (L.length : Int) := by have := hl.len; simpa using this
  have sn : slen nv = some (Nm.length : Int) := by have := hs.len; simpa using this
  have out : ∀ {v : V} {j : Nat}, (∀ i, oid v = some i → i < h.length) → h.length ≤ j → oid v ≠ some j := fun hv hj e => by have := hv _ e; omega
  by_cases h1 : 1 ≤ G.length ∧ G.length ≤ 256
  case neg =>
    have hgd : good G L Nm = false := by rw [good, decide_eq_false h1, Bool.false_and]
    refine ⟨h, ⟨Nat.le_refl _, fun _ _ => rfl⟩, ?_, fun e => by rw [hgd] at e; cases e⟩
    have e1 := newNot N h (n := (G.length : Int)) (by omega)
    rw [F53, hgd]
    simp only [sg, bs, e1, show ((1 : Int) != 0) = true from rfl, itT, ifT, Bool.false_eq_true, ifF]
  obtain ⟨h1', e1, T1, l1, f1⟩ := newT N h h1.1 h1.2
  have z0 : ((0 : Int) != 0) = false := rfl
  by_cases h2 : L.length = Nm.length
  case neg =>
    have hgd : good G L Nm = false := by rw [good, decide_eq_false h2, Bool.false_and, Bool.and_false]
    refine ⟨h1', ⟨by omega, f1⟩, ?_, fun e => by rw [hgd] at e; cases e⟩
    have h2' : (((Nm.length : Int)) != ((L.length : Int))) = true := nqF (by omega)
    rw [F53, hgd]
    simp only [sg, bs, e1, z0, itT, ifT, sl, sn, h2', Bool.false_eq_true, ifF]
  have h2' : (((Nm.length : Int)) != ((L.length : Int))) = false := by rw [h2]; exact nqT _
  rw [← genS_zero] at T1
  have og : ∀ {j : Nat}, h.length ≤ j → oid g ≠ some j := out (fun i hi => hg.lt hi)
  have ol : ∀ {j : Nat}, h.length ≤ j → oid l ≠ some j := out (fun i hi => hl.lt hi)
  have on : ∀ {j : Nat}, h.length ≤ j → oid nv ≠ some j := out (fun i hi => hs.lt hi)
  have fr : ∀ {es : Nat} {v : V} {xs : List (List V)}, Sl h es v xs → Sl h1' es v xs := fun s => s.frame fun j hj => f1 j (s.lt hj)
  obtain ⟨h2h, e3, t3, l3, f3⟩ := genL (a := h.length) (b := h.length + 1) (c := h.length + 2) N h1.2 (og (Nat.le_refl _)) g l nv G.length N 0 h1' (by omega) (by omega) T1 (fr hg)
  have e3' : L53_0 N N (g, l, nv, pt (h.length + 2), g, (G.length : Int), 0, h1') = _ := e3
  cases c3 : chkG G 0 G.length with
  | false =>
    have hgd : good G L Nm = false := by rw [good, c3, Bool.false_and, Bool.and_false, Bool.and_false]
    refine ⟨h2h, ⟨by omega, fun i hi => (f3 i (by omega)).trans (f1 i hi)⟩, ?_, fun e => by rw [hgd] at e; cases e⟩
    rw [c3] at e3'
    rw [F53, hgd]
    simp only [sg, bs, e1, z0, itT, ifT, sl, sn, h2', Bool.false_eq_true, ifF, itF, e3']
  | true =>
    rw [c3] at e3'
    have T3 := t3 c3
    rw [genS_all (L := L) (Nm := Nm)] at T3
    have fr3 : ∀ {es : Nat} {v : V} {xs : List (List V)}, Sl h es v xs → Sl h2h es v xs := fun s => s.frame fun j hj => (f3 j (by have := s.lt hj; omega)).trans (f1 j (s.lt hj))
    obtain ⟨h3h, e4, t4, l4, f4⟩ := aliveL (a := h.length) (b := h.length + 1) (c := h.length + 2) N h1.2 hL (og (Nat.le_refl _)) (ol (Nat.le_refl _)) nv L.length N 0 h2h (by omega) (by omega) T3 (fr3 hg) (fr3 hl) Rise.zero
    have e4' : L53_1 N N (g, l, nv, pt (h.length + 2), l, (L.length : Int), 0, h2h) = _ := e4
    cases c4 : chkP G L 0 L.length with
    | false =>
      have hgd : good G L Nm = false := by rw [good, c4, Bool.false_and, Bool.and_false, Bool.and_false, Bool.and_false]
      refine ⟨h3h, ⟨by omega, fun i hi => (f4 i (by omega)).trans ((f3 i (by omega)).trans (f1 i hi))⟩, ?_, fun e => by rw [hgd] at e; cases e⟩
      rw [c4] at e4'
      rw [F53, hgd]
      simp only [sg, bs, e1, z0, itT, ifT, sl, sn, h2', Bool.false_eq_true, ifF, itF, e3', e4']
    | true =>
      rw [c4] at e4'
      have T4 := t4 c4
      have rise : Rise G L L.length := by
        have := Rise.zero.chk c4
        rwa [Nat.zero_add] at this
      have fr4 : ∀ {es : Nat} {v : V} {xs : List (List V)}, Sl h es v xs → Sl h3h es v xs := fun s => s.frame fun j hj => (f4 j (by have := s.lt hj; omega)).trans ((f3 j (by have := s.lt hj; omega)).trans (f1 j (s.lt hj)))
      obtain ⟨h4h, e5, t5, l5, f5⟩ := nameL (a := h.length) (b := h.length + 1) (c := h.length + 2) N h1.2 hL h2 ⟨ol (Nat.le_refl _), ol (by omega)⟩ ⟨on (Nat.le_refl _), on (by omega)⟩ rise Nm.length N 0 h3h (by omega) (by omega) T4 (fr4 hl) (fr4 hs)
      have e5' : L53_2 N N (l, pt (h.length + 2), nv, (Nm.length : Int), 0, h3h) = _ := e5
      have hgd : good G L Nm = chkN Nm 0 Nm.length := by rw [good, c3, c4, decide_eq_true h1, decide_eq_true h2]; rfl
      refine ⟨h4h, ⟨by omega, fun i hi => (f5 i (by omega) (by omega)).trans ((f4 i (by omega)).trans ((f3 i (by omega)).trans (f1 i hi)))⟩, ?_, fun e => by rw [hgd] at e; have := t5 e; rw [← h2] at this; exact this⟩
      rw [F53, hgd]
      cases c5 : chkN Nm 0 Nm.length with
      | false =>
        rw [c5] at e5'
        simp only [sg, bs, e1, z0, itT, ifT, sl, sn, h2', Bool.false_eq_true, ifF, itF, e3', e4', e5']
      | true =>
        rw [c5] at e5'
        simp only [sg, bs, e1, z0, itT, ifT, sl, sn, h2', Bool.false_eq_true, ifF, itF, e3', e4', e5']

end Go.Proofs.Ytbpibiapjangmaa.tabs
