/- What tables tell: lists of who is alive, on both sides; the reference's free and name. -/
import Derived.Test.YtbpibiapjangmaaTabG
namespace Go.Proofs.Ytbpibiapjangmaa.tabs
open Go Go.L
set_option linter.unusedVariables false
set_option linter.unusedSimpArgs false

abbrev slot (S : List Slot) (n : Nat) : Slot := S.getD n ⟨0, false, noname⟩
/-- Who is alive ahead of a place. -/
def LN (S : List Slot) (i : Nat) : List Nat := (List.range i).filter fun n => (slot S n).live
abbrev lps (S : List Slot) (i : Nat) : List (Int × Int) := (LN S i).map fun n : Nat => ((n : Int), (slot S n).gen)
abbrev lnm (S : List Slot) (i : Nat) : List ByteArray := (LN S i).map fun n => (slot S n).name
abbrev gns (S : List Slot) : List Int := S.map fun s => s.gen

theorem slot_at {S : List Slot} {i : Nat} (hi : i < S.length) : slot S i = S[i] := by simp [slot, hi]
theorem LN_succ (S : List Slot) (i : Nat) : LN S (i + 1) = LN S i ++ (if (slot S i).live = true then [i] else []) := by
  rw [LN, List.range_succ, List.filter_append, ← LN]
  congr 1
  rw [List.filter_cons]
  rfl
theorem LN_le (S : List Slot) (i : Nat) : (LN S i).length ≤ i := by
  have := List.length_filter_le (fun n => (slot S n).live) (List.range i)
  rwa [List.length_range] at this

theorem Over.refl (b : Nat) (h : H) : Over b h h := ⟨Nat.le_refl _, fun _ _ => rfl⟩
theorem Over.mono {b c : Nat} {h h' : H} (o : Over b h h') (hc : c ≤ b) : Over c h h' := ⟨o.1, fun i hi => o.2 i (by omega)⟩
theorem Over.of {b : Nat} {h h' : H} {o : Option Nat} (k : Keeps h h' o) (hb : b ≤ h.length) (ho : ∀ i, o = some i → b ≤ i) : Over b h h' :=
  ⟨k.1, fun i hi => k.2 i (by omega) (fun e => by have := ho i e; omega)⟩
theorem Over.push (h : H) (o : O) : Over h.length h (h ++ [o]) := ⟨by simp, fun i hi => List.getElem?_append_left hi⟩

theorem app1b {b : Nat} {h : H} {es : Nat} {v : V} {xs : List (List V)} (ho : Own h es v xs) (new : List V) (hn : new.length = es) (hm : (xs.length + 1) * es ≤ mostCells) (hv : ∀ j, oid v = some j → b ≤ j) (hb : b ≤ h.length) :
    ∃ v' h', happ h v es 1 new = some (v', h') ∧ Own h' es v' (xs ++ [new]) ∧ Over b h h' ∧ (∀ j, oid v' = some j → b ≤ j) ∧ b ≤ h'.length := by
  obtain ⟨v', h', e, o, k, i, _⟩ := ho.app1 new hn hm
  refine ⟨v', h', e, o, Over.of k hb hv, fun j hj => ?_, by have := k.1; omega⟩
  rcases i with i | i
  · exact hv j (by rw [← i]; exact hj)
  · rw [i] at hj; have := Option.some.inj hj; omega

section
variable {a b c : Nat} {S : List Slot} {M : List (ByteArray × Int)} {base : Nat}

theorem Tab.over {h h' : H} (T : Tab a b c h S M) (o : Over base h h') (ha : a < base) (hb : b < base) (hc : c < base) : Tab a b c h' S M := T.frame (o.2 a ha) (o.2 b hb) (o.2 c hc)

theorem slot3 {h : H} (T : Tab a b c h S M) {i : Nat} (hi : i < S.length) : rd h (.ptr a 0 (i * 3)) 0 = some (I S[i].gen) ∧ rd h (.ptr a 0 (i * 3)) 1 = some (.bool S[i].live) ∧ rd h (.ptr a 0 (i * 3)) 2 = some (.str S[i].name) :=
  ⟨T.g hi, by rw [rd_obj T.slots, flat_get hi 1 (by omega)]; rfl, by rw [rd_obj T.slots, flat_get hi 2 (by omega)]; rfl⟩

theorem liveA (N : Nat) {cp : Option Nat} (ha : a < base) (hb : b < base) (hc : c < base) : ∀ (k m i : Nat) (h : H) (l : V), i + k = S.length → k < m → Tab a b c h S M → Own h 2 l (twos (lps S i)) → (∀ j, oid l = some j → base ≤ j) → base ≤ h.length →
    ∃ h' l', L32_0 N m (pt c, l, .sl a 0 0 S.length 3 cp, (S.length : Int), (i : Int), h) = some (l', h') ∧ Own h' 2 l' (twos (lps S S.length)) ∧ Over base h h' ∧ ∀ j, oid l' = some j → base ≤ j
  | 0, m + 1, i, h, l, hi, hm, T, O, hl, hbl => by
    have : i = S.length := by omega
    subst this
    refine ⟨h, l, ?_, O, .refl _ _, hl⟩
    rw [L32_0]
    simp only [itT, itF, ifT, ifF, dF (show ¬ (S.length : Int) < (S.length : Int) by omega)]
  | k + 1, m + 1, i, h, l, hi, hm, T, O, hl, hbl => by
    have hi1 : i < S.length := by omega
    have hlen := T.len
    have hLN := LN_succ S i
    rw [slot_at hi1] at hLN
    have e2 : IntKind.i64.wrap ((i : Int) + 1) = ((i + 1 : Nat) : Int) := by rw [wrapIn (by omega)]; omega
    obtain ⟨g0, g1, g2⟩ := slot3 T hi1
    rw [L32_0]
    simp only [itT, itF, ifT, ifF, dT (show (i : Int) < (S.length : Int) by omega), sx hi1, bs, g0, g1, g2, asInt_some, asBool_some, asStr_some, pid T N hi1]
    cases hlv : S[i].live with
    | true =>
      rw [hlv, if_pos rfl] at hLN
      have hle := LN_le S i
      obtain ⟨l2, h2, e, o2, ov, hl2, hb2⟩ := app1b (b := base) O [I (i : Int), I S[i].gen] rfl (by simp [mostCells]; omega) hl hbl
      have o2' : Own h2 2 l2 (twos (lps S (i + 1))) := by
        rw [lps, hLN, List.map_append, twos, List.map_append]
        simpa [slot_at hi1, hi1] using o2
      obtain ⟨h', l', e', O', ov', hl'⟩ := liveA N ha hb hc k m (i + 1) h2 l2 (by omega) (by omega) (T.over ov ha hb hc) o2' hl2 hb2
      refine ⟨h', l', ?_, O', ov.trans ov', hl'⟩
      simp only [itT, ifT, bs, e, e2]
      exact e'
    | false =>
      rw [hlv, if_neg (by simp), List.append_nil] at hLN
      obtain ⟨h', l', e', O', ov', hl'⟩ := liveA N ha hb hc k m (i + 1) h l (by omega) (by omega) T (by rw [lps, hLN]; exact O) hl hbl
      refine ⟨h', l', ?_, O', ov', hl'⟩
      simp only [itF, ifF, bs, e2]
      exact e'

/-- Who is alive. -/
theorem live32 {N : Nat} (hN : 257 ≤ N) {h : H} (T : Tab a b c h S M) : ∃ h' l', F32 N (pt c, h) = some (l', h') ∧ Own h' 2 l' (twos (lps S S.length)) ∧ Over h.length h h' ∧ ∀ j, oid l' = some j → h.length ≤ j := by
  have hlen := T.len
  have hg := given T N
  have la := (List.getElem?_eq_some_iff.1 T.slots).1
  have lb := (List.getElem?_eq_some_iff.1 T.map).1
  have lc := (List.getElem?_eq_some_iff.1 T.obj).1
  obtain ⟨h', l', e, O, ov, hl⟩ := liveA (cp := capOf h c) N la lb lc S.length N 0 h .nils (by omega) (by omega) T .nil (by simp [oid]) (Nat.le_refl _)
  have e' : L32_0 N N (pt c, .nils, .sl a 0 0 S.length 3 (capOf h c), (S.length : Int), 0, h) = _ := e
  refine ⟨h', l', ?_, O, ov, hl⟩
  rw [F32]
  simp only [hg, bs, nT, itF, ifF, pnck, padd0, T.r0, slen, e']

theorem gensA (N : Nat) {cp : Option Nat} (ha : a < base) (hb : b < base) (hc : c < base) : ∀ (k m i : Nat) (h : H) (l : V), i + k = S.length → k < m → Tab a b c h S M → Own h 1 l (ones ((gns S).take i)) → (∀ j, oid l = some j → base ≤ j) → base ≤ h.length →
    ∃ h' l', L77_0 N m (l, .sl a 0 0 S.length 3 cp, (S.length : Int), (i : Int), h) = some (l', h') ∧ Own h' 1 l' (ones (gns S)) ∧ Over base h h' ∧ ∀ j, oid l' = some j → base ≤ j
  | 0, m + 1, i, h, l, hi, hm, T, O, hl, hbl => by
    have : i = S.length := by omega
    subst this
    rw [List.take_of_length_le (by simp)] at O
    refine ⟨h, l, ?_, O, .refl _ _, hl⟩
    rw [L77_0]
    simp only [itT, itF, ifT, ifF, dF (show ¬ (S.length : Int) < (S.length : Int) by omega)]
  | k + 1, m + 1, i, h, l, hi, hm, T, O, hl, hbl => by
    have hi1 : i < S.length := by omega
    have hlen := T.len
    have e2 : IntKind.i64.wrap ((i : Int) + 1) = ((i + 1 : Nat) : Int) := by rw [wrapIn (by omega)]; omega
    obtain ⟨g0, g1, g2⟩ := slot3 T hi1
    obtain ⟨l2, h2, e, o2, ov, hl2, hb2⟩ := app1b (b := base) O [I S[i].gen] rfl (by simp [mostCells]; omega) hl hbl
    have o2' : Own h2 1 l2 (ones ((gns S).take (i + 1))) := by
      rw [List.take_add_one, ones, List.map_append]
      have : ((gns S)[i]?).toList = [S[i].gen] := by simp [hi1]
      rw [this]
      exact o2
    obtain ⟨h', l', e', O', ov', hl'⟩ := gensA N ha hb hc k m (i + 1) h2 l2 (by omega) (by omega) (T.over ov ha hb hc) o2' hl2 hb2
    refine ⟨h', l', ?_, O', ov.trans ov', hl'⟩
    rw [L77_0]
    simp only [itT, itF, ifT, ifF, dT (show (i : Int) < (S.length : Int) by omega), sx hi1, bs, g0, g1, g2, asInt_some, asBool_some, asStr_some, e, e2]
    exact e'

/-- How many each place has had. -/
theorem gens77 {N : Nat} (hN : 257 ≤ N) {h : H} (T : Tab a b c h S M) : ∃ h' l', F77 N (pt c, h) = some (l', h') ∧ Own h' 1 l' (ones (gns S)) ∧ Over h.length h h' ∧ ∀ j, oid l' = some j → h.length ≤ j := by
  have hlen := T.len
  have hg := given T N
  have la := (List.getElem?_eq_some_iff.1 T.slots).1
  have lb := (List.getElem?_eq_some_iff.1 T.map).1
  have lc := (List.getElem?_eq_some_iff.1 T.obj).1
  obtain ⟨h', l', e, O, ov, hl⟩ := gensA (cp := capOf h c) N la lb lc S.length N 0 h .nils (by omega) (by omega) T .nil (by simp [oid]) (Nat.le_refl _)
  have e' : L77_0 N N (.nils, .sl a 0 0 S.length 3 (capOf h c), (S.length : Int), 0, h) = _ := e
  refine ⟨h', l', ?_, O, ov, hl⟩
  rw [F77]
  simp only [hg, bs, nT, itF, ifF, pnck, padd0, T.r0, slen, e']
end

section
variable {h : H} {gv lv' nv : V} {g l n : Nat} {S : List Slot} {base : Nat}

theorem Ref.over {h' : H} (R : Ref h gv lv' nv g l n S) (o : Over base h h') (hg : g < base) (hl : l < base) (hn : n < base) : Ref h' gv lv' nv g l n S :=
  R.frame fun k hk => o.2 k (by rcases hk with rfl | rfl | rfl <;> assumption)

theorem Ref.lt (R : Ref h gv lv' nv g l n S) : g < h.length ∧ l < h.length ∧ n < h.length := ⟨R.gens.lt, R.live.lt, R.names.lt⟩

/-- Is one alive? -/
theorem is86 (R : Ref h gv lv' nv g l n S) (N : Nat) (p q : Int) : F86 N ((S.length : Int), gv, lv', nv, p, q, h) = some (isB S p q, h) := by
  rw [F86]
  by_cases h0 : 0 ≤ p
  case neg =>
    have : isB S p q = false := by rw [isB, if_neg h0]
    simp only [bs, itT, itF, ifT, ifF, dF (show ¬ p ≥ 0 from h0), this, Bool.false_eq_true]
  obtain ⟨i, rfl⟩ := Int.eq_ofNat_of_zero_le h0
  by_cases hi : i < S.length
  case neg =>
    have : isB S (i : Int) q = false := by simp [isB, hi]
    simp only [bs, itT, itF, ifT, ifF, dT (show (i : Int) ≥ 0 from h0), dF (show ¬ (i : Int) < (S.length : Int) by omega), this, Bool.false_eq_true]
  have hb := isB_at hi q
  obtain ⟨ql, el, rl, _⟩ := R.l0 hi
  obtain ⟨qg, eg, rg, _⟩ := R.g0 hi
  cases hl : S[i].live with
  | false =>
    rw [hl, Bool.false_and] at hb
    simp only [bs, itT, itF, ifT, ifF, dT (show (i : Int) ≥ 0 from h0), dT (show (i : Int) < (S.length : Int) by omega), el, rl, hl, tabs.asBool_some, hb, Bool.false_eq_true]
  | true =>
    rw [hl, Bool.true_and] at hb
    simp only [bs, itT, itF, ifT, ifF, dT (show (i : Int) ≥ 0 from h0), dT (show (i : Int) < (S.length : Int) by omega), el, rl, hl, tabs.asBool_some, eg, rg, asInt_some, hb]

theorem nameOf80 (R : Ref h gv lv' nv g l n S) (N : Nat) (p q : Int) : F80 N ((S.length : Int), gv, lv', nv, p, q, h) = some (nameB S p q, h) := by
  have hi := is86 R N p q
  rw [F80]
  cases hb : isB S p q with
  | false =>
    rw [hb] at hi
    have : nameB S p q = noname := by rw [nameB, if_neg (by rw [hb]; simp)]
    simp only [hi, bs, nF, itT, ifT, this]
  | true =>
    rw [hb] at hi
    obtain ⟨i, rfl, hi', hl, hgn⟩ := isB_in hb
    have : nameB S (i : Int) q = S[i].name := by rw [nameB, if_pos hb]; simp [hi']
    obtain ⟨qn, en, rn, _⟩ := R.n0 hi'
    simp only [hi, bs, nT, itF, ifF, en, rn, tabs.asStr_some, this, Bool.false_eq_true]

/-- Free. -/
theorem free84 (R : Ref h gv lv' nv g l n S) (N : Nat) (p q : Int) :
    (isB S p q = false ∧ F84 N ((S.length : Int), gv, lv', nv, p, q, h) = some ((S.length : Int), gv, lv', nv, 3, h)) ∨
    (∃ (i : Nat) (hi : i < S.length) (gv2 lv2 nv2 : V) (h' : H), p = i ∧ S[i].live = true ∧ S[i].gen = q ∧ F84 N ((S.length : Int), gv, lv', nv, p, q, h) = some ((S.length : Int), gv2, lv2, nv2, 0, h') ∧
      Ref h' gv2 lv2 nv2 h.length (h.length + 1) (h.length + 2) (S.set i ⟨S[i].gen, false, noname⟩) ∧ Over h.length h h') := by
  have hi := is86 R N p q
  cases hb : isB S p q with
  | false =>
    rw [hb] at hi
    refine .inl ⟨rfl, ?_⟩
    rw [F84]
    simp only [hi, bs, nF, itT, ifT]
  | true =>
    rw [hb] at hi
    obtain ⟨i, rfl, hi', hl, hgn⟩ := isB_in hb
    obtain ⟨gv2, lv2, nv2, h2, ec, R2, l2, f2⟩ := copyR R N (S.length : Int)
    obtain ⟨q3, e3, _, w3⟩ := R2.l0 hi'
    obtain ⟨h3, ew3, R3, l3, f3⟩ := w3 false
    have hi3 : i < (S.set i ⟨S[i].gen, false, S[i].name⟩).length := by simpa using hi'
    obtain ⟨q4, e4, _, w4⟩ := R3.n0 hi3
    obtain ⟨h4, ew4, R4, l4, f4⟩ := w4 noname
    rw [List.set_set] at R4
    simp only [List.getElem_set_self] at R4
    refine .inr ⟨i, hi', gv2, lv2, nv2, h4, rfl, hl, hgn, ?_, R4, by omega, fun k hk => (f4 k (by omega)).trans ((f3 k (by omega)).trans (f2 k hk))⟩
    rw [F84]
    simp only [hi, bs, nT, itF, ifF, Bool.false_eq_true, ec, e3, ew3, e4, ew4]

/-- Name. -/
theorem name85 {N : Nat} (hN : 300 ≤ N) (R : Ref h gv lv' nv g l n S) (p q : Int) (s : ByteArray) :
    (atomB s = false ∧ F85 N ((S.length : Int), gv, lv', nv, p, q, s, h) = some ((S.length : Int), gv, lv', nv, 1, h)) ∨
    (atomB s = true ∧ isB S p q = false ∧ F85 N ((S.length : Int), gv, lv', nv, p, q, s, h) = some ((S.length : Int), gv, lv', nv, 3, h)) ∨
    (∃ (i : Nat) (hi : i < S.length), p = i ∧ S[i].live = true ∧ S[i].gen = q ∧ atomB s = true ∧
      ((((∃ (j : Nat) (hj : j < S.length), has s S[j] = true) ∨ S[i].name ≠ noname) ∧ F85 N ((S.length : Int), gv, lv', nv, p, q, s, h) = some ((S.length : Int), gv, lv', nv, 141, h)) ∨
      ((∀ (j : Nat) (hj : j < S.length), has s S[j] = false) ∧ S[i].name = noname ∧ ∃ (gv2 lv2 nv2 : V) (h' : H), F85 N ((S.length : Int), gv, lv', nv, p, q, s, h) = some ((S.length : Int), gv2, lv2, nv2, 0, h') ∧
        Ref h' gv2 lv2 nv2 h.length (h.length + 1) (h.length + 2) (S.set i ⟨S[i].gen, S[i].live, s⟩) ∧ Over h.length h h'))) := by
  have hat := refAtom s [] (N := 100) (by omega)
  have hi := is86 R N p q
  cases ha : atomB s with
  | false =>
    rw [ha] at hat
    refine .inl ⟨rfl, ?_⟩
    rw [F85]
    simp only [hat, bs, nF, itT, ifT]
  | true =>
    rw [ha] at hat
    cases hb : isB S p q with
    | false =>
      rw [hb] at hi
      refine .inr (.inl ⟨rfl, rfl, ?_⟩)
      rw [F85]
      simp only [hat, hi, bs, nF, nT, itT, ifT, itF, ifF, Bool.false_eq_true]
    | true =>
      rw [hb] at hi
      have hnm := nameOf80 R N p q
      obtain ⟨i, rfl, hi', hl, hgn⟩ := isB_in hb
      refine .inr (.inr ⟨i, hi', rfl, hl, hgn, rfl, ?_⟩)
      have hnb : nameB S (i : Int) q = S[i].name := by rw [nameB, if_pos hb]; simp [hi']
      rw [hnb] at hnm
      rcases where71 (N := N) hN R s with ⟨ew, hno⟩ | ⟨j, hj, hh, _, ew⟩
      · by_cases hn : S[i].name = noname
        · obtain ⟨gv2, lv2, nv2, h2, ec, R2, l2, f2⟩ := copyR R N (S.length : Int)
          obtain ⟨q3, e3, _, w3⟩ := R2.n0 hi'
          obtain ⟨h3, ew3, R3, l3, f3⟩ := w3 s
          refine .inr ⟨hno, hn, gv2, lv2, nv2, h3, ?_, R3, by omega, fun k hk => (f3 k (by omega)).trans (f2 k hk)⟩
          have hz : decide (S[i].name = ByteArray.mk #[]) = true := decide_eq_true hn
          rw [F85]
          simp only [hat, hi, bs, nF, nT, itT, ifT, itF, ifF, Bool.false_eq_true, ew, show ((3 : Int) == 0) = false from rfl, hnm, seq, hz, ec, e3, ew3]
        · refine .inl ⟨.inr hn, ?_⟩
          have hz : decide (S[i].name = ByteArray.mk #[]) = false := decide_eq_false hn
          rw [F85]
          simp only [hat, hi, bs, nF, nT, itT, ifT, itF, ifF, Bool.false_eq_true, ew, show ((3 : Int) == 0) = false from rfl, hnm, seq, hz]
      · refine .inl ⟨.inl ⟨j, hj, hh⟩, ?_⟩
        rw [F85]
        simp only [hat, hi, bs, nF, nT, itT, ifT, itF, ifF, Bool.false_eq_true, ew, show ((0 : Int) == 0) = true from rfl]

theorem pidsA (N : Nat) (hg : g < base) (hl : l < base) (hn : n < base) : ∀ (k m i : Nat) (h : H) (v : V), i + k = S.length → k < m → Ref h gv lv' nv g l n S → Own h 2 v (twos (lps S i)) → (∀ j, oid v = some j → base ≤ j) → base ≤ h.length →
    ∃ h' v', L79_0 N m (v, (i : Int), (S.length : Int), gv, lv', nv, h) = some (v', h') ∧ Own h' 2 v' (twos (lps S S.length)) ∧ Over base h h' ∧ ∀ j, oid v' = some j → base ≤ j
  | 0, m + 1, i, h, v, hi, hm, R, O, hv, hbl => by
    have : i = S.length := by omega
    subst this
    refine ⟨h, v, ?_, O, .refl _ _, hv⟩
    rw [L79_0]
    simp only [itT, itF, ifT, ifF, dF (show ¬ (S.length : Int) < (S.length : Int) by omega)]
  | k + 1, m + 1, i, h, v, hi, hm, R, O, hv, hbl => by
    have hi1 : i < S.length := by omega
    have hlen := R.len
    have hLN := LN_succ S i
    rw [slot_at hi1] at hLN
    have e2 : IntKind.i64.wrap ((i : Int) + 1) = ((i + 1 : Nat) : Int) := by rw [wrapIn (by omega)]; omega
    obtain ⟨ql, el, rl, _⟩ := R.l0 hi1
    obtain ⟨qg, eg, rg, _⟩ := R.g0 hi1
    rw [L79_0]
    simp only [itT, itF, ifT, ifF, dT (show (i : Int) < (S.length : Int) by omega), el, rl, bs, tabs.asBool_some]
    cases hlv : S[i].live with
    | true =>
      rw [hlv, if_pos rfl] at hLN
      have hle := LN_le S i
      obtain ⟨v2, h2, e, o2, ov, hv2, hb2⟩ := app1b (b := base) O [I (i : Int), I S[i].gen] rfl (by simp [mostCells]; omega) hv hbl
      have o2' : Own h2 2 v2 (twos (lps S (i + 1))) := by
        rw [lps, hLN, List.map_append, twos, List.map_append]
        simpa [slot_at hi1, hi1] using o2
      obtain ⟨h', v', e', O', ov', hv'⟩ := pidsA N hg hl hn k m (i + 1) h2 v2 (by omega) (by omega) (R.over ov hg hl hn) o2' hv2 hb2
      refine ⟨h', v', ?_, O', ov.trans ov', hv'⟩
      simp only [itT, ifT, bs, eg, rg, asInt_some, e, e2]
      exact e'
    | false =>
      rw [hlv, if_neg (by simp), List.append_nil] at hLN
      obtain ⟨h', v', e', O', ov', hv'⟩ := pidsA N hg hl hn k m (i + 1) h v (by omega) (by omega) R (by rw [lps, hLN]; exact O) hv hbl
      refine ⟨h', v', ?_, O', ov', hv'⟩
      simp only [itF, ifF, bs, e2, Bool.false_eq_true]
      exact e'

theorem pids79 {N : Nat} (hN : 300 ≤ N) (R : Ref h gv lv' nv g l n S) : ∃ h' v', F79 N ((S.length : Int), gv, lv', nv, h) = some (v', h') ∧ Own h' 2 v' (twos (lps S S.length)) ∧ Over h.length h h' ∧ ∀ j, oid v' = some j → h.length ≤ j := by
  have hlen := R.len
  obtain ⟨lg, ll, ln⟩ := R.lt
  obtain ⟨h', v', e, O, ov, hv⟩ := pidsA N lg ll ln S.length N 0 h .nils (by omega) (by omega) R .nil (by simp [oid]) (Nat.le_refl _)
  have e' : L79_0 N N (.nils, 0, (S.length : Int), gv, lv', nv, h) = _ := e
  refine ⟨h', v', ?_, O, ov, hv⟩
  rw [F79]
  simp only [e', bs]

theorem LN_get {S : List Slot} {i k : Nat} (hk : k < (LN S i).length) : (LN S i)[k] < i ∧ (slot S (LN S i)[k]).live = true := by
  have := List.mem_filter.1 (show (LN S i)[k] ∈ (List.range i).filter (fun n => (slot S n).live) from List.getElem_mem hk)
  exact ⟨List.mem_range.1 this.1, this.2⟩

theorem name_live {S : List Slot} {k : Nat} (hk : k < S.length) (hl : (slot S k).live = true) : nameB S (k : Int) (slot S k).gen = (slot S k).name := by
  rw [slot_at hk] at hl ⊢
  rw [nameB, if_pos (by rw [isB_at hk, hl]; simp)]
  simp [hk]

theorem namesA (N : Nat) {w : V} (hg : g < base) (hl : l < base) (hn : n < base) (hw : ∀ j, oid w = some j → j < base) : ∀ (k m i : Nat) (h : H) (v : V), i + k = (LN S S.length).length → k < m → Ref h gv lv' nv g l n S → Sl h 2 w (twos (lps S S.length)) → Own h 1 v (strs ((lnm S S.length).take i)) → (∀ j, oid v = some j → base ≤ j) → base ≤ h.length →
    ∃ h' v', L78_0 N m (v, w, (i : Int), (S.length : Int), gv, lv', nv, h) = some (v', h') ∧ Own h' 1 v' (strs (lnm S S.length)) ∧ Over base h h' ∧ ∀ j, oid v' = some j → base ≤ j
  | 0, m + 1, i, h, v, hi, hm, R, W, O, hv, hbl => by
    have sw : slen w = some (((LN S S.length).length : Nat) : Int) := by have := W.len; simpa using this
    rw [List.take_of_length_le (by simp; omega)] at O
    refine ⟨h, v, ?_, O, .refl _ _, hv⟩
    rw [L78_0]
    simp only [sw, bs, itT, itF, ifT, ifF, dF (show ¬ (i : Int) < (((LN S S.length).length : Nat) : Int) by omega)]
  | k + 1, m + 1, i, h, v, hi, hm, R, W, O, hv, hbl => by
    have sw : slen w = some (((LN S S.length).length : Nat) : Int) := by have := W.len; simpa using this
    have hi1 : i < (LN S S.length).length := by omega
    have hlen := R.len
    have hle := LN_le S S.length
    have e2 : IntKind.i64.wrap ((i : Int) + 1) = ((i + 1 : Nat) : Int) := by rw [wrapIn (by omega)]; omega
    obtain ⟨q, eq, r0, r1⟩ := twos_at W (i := i) (by simpa using hi1)
    have hp : pa (lps S S.length) i = ((((LN S S.length)[i] : Nat) : Int), (slot S (LN S S.length)[i]).gen) := by simp [pa, lps, List.getD, hi1]
    rw [hp] at r0 r1
    obtain ⟨k1, k2⟩ := LN_get hi1
    have hnm := nameOf80 R N (((LN S S.length)[i] : Nat) : Int) (slot S (LN S S.length)[i]).gen
    rw [name_live k1 k2] at hnm
    obtain ⟨v2, h2, e, o2, ov, hv2, hb2⟩ := app1b (b := base) O [.str (slot S (LN S S.length)[i]).name] rfl (by simp [mostCells]; omega) hv hbl
    have o2' : Own h2 1 v2 (strs ((lnm S S.length).take (i + 1))) := by
      rw [List.take_add_one, strs, List.map_append]
      have : ((lnm S S.length)[i]?).toList = [(slot S (LN S S.length)[i]).name] := by simp [lnm, hi1]
      rw [this]
      exact o2
    obtain ⟨h', v', e', O', ov', hv'⟩ := namesA N hg hl hn hw k m (i + 1) h2 v2 (by omega) (by omega) (R.over ov hg hl hn) (W.frame fun j hj => ov.2 j (hw j hj)) o2' hv2 hb2
    refine ⟨h', v', ?_, O', ov.trans ov', hv'⟩
    rw [L78_0]
    simp only [sw, bs, itT, itF, ifT, ifF, dT (show (i : Int) < (((LN S S.length).length : Nat) : Int) by omega), eq, r0, r1, asInt_some, hnm, e, e2]
    exact e'

theorem names78 {N : Nat} (hN : 300 ≤ N) (R : Ref h gv lv' nv g l n S) : ∃ h' v', F78 N ((S.length : Int), gv, lv', nv, h) = some (v', h') ∧ Own h' 1 v' (strs (lnm S S.length)) ∧ Over h.length h h' ∧ ∀ j, oid v' = some j → h.length ≤ j := by
  have hlen := R.len
  obtain ⟨lg, ll, ln⟩ := R.lt
  obtain ⟨h1, w, e1, O1, ov1, hw1⟩ := pids79 hN R
  have hle := LN_le S S.length
  have hl1 := ov1.1
  obtain ⟨h', v', e, O, ov, hv⟩ := namesA (base := h1.length) (w := w) N (by omega) (by omega) (by omega) (fun j hj => O1.sl'.lt hj) (LN S S.length).length N 0 h1 .nils (by omega) (by omega) (R.over ov1 lg ll ln) O1.sl' .nil (by simp [oid]) (Nat.le_refl _)
  have e' : L78_0 N N (.nils, w, 0, (S.length : Int), gv, lv', nv, h1) = _ := e
  refine ⟨h', v', ?_, O, ov1.trans (ov.mono hl1), fun j hj => by have := hv j hj; omega⟩
  rw [F78]
  simp only [e1, e', bs]
end

end Go.Proofs.Ytbpibiapjangmaa.tabs

/- What holds between slots and names; a table's copy; a table that there is not. -/
namespace Go.Proofs.Ytbpibiapjangmaa.tabs
open Go Go.L
set_option linter.unusedVariables false
set_option linter.unusedSimpArgs false

/-! ### Keys -/
abbrev keys (M : List (ByteArray × Int)) : List ByteArray := M.map (·.1)

theorem look_none {k : ByteArray} : ∀ {M}, look k M = none ↔ k ∉ keys M
  | [] => by simp [look]
  | e :: r => by
    rw [look]
    by_cases h : k = e.1
    · rw [if_pos (by simp [ba_beq, h])]; simp [h]
    · rw [if_neg (by simp [ba_beq, h]), look_none]; simp [h]
theorem mem_put {k x : ByteArray} {v : Int} : ∀ {M}, x ∈ keys (put k v M) ↔ x = k ∨ x ∈ keys M
  | [] => by simp [put]
  | e :: r => by
    rw [put]
    by_cases h : k = e.1
    · rw [if_pos (by simp [ba_beq, h])]; simp [h]
    · rw [if_neg (by simp [ba_beq, h])]
      simp only [keys, List.map_cons, List.mem_cons]
      have := mem_put (k := k) (x := x) (v := v) (M := r)
      rw [this]
      constructor
      · rintro (h | h | h)
        · exact .inr (.inl h)
        · exact .inl h
        · exact .inr (.inr h)
      · rintro (h | h | h)
        · exact .inr (.inl h)
        · exact .inl h
        · exact .inr (.inr h)
theorem nodup_put {k : ByteArray} {v : Int} : ∀ {M}, (keys M).Nodup → (keys (put k v M)).Nodup
  | [], _ => by simp [put]
  | e :: r, h => by
    simp only [keys, List.map_cons, List.nodup_cons] at h
    rw [put]
    by_cases hk : k = e.1
    · rw [if_pos (by simp [ba_beq, hk])]
      simp only [keys, List.map_cons, List.nodup_cons]
      exact ⟨by rw [hk]; exact h.1, h.2⟩
    · rw [if_neg (by simp [ba_beq, hk])]
      simp only [keys, List.map_cons, List.nodup_cons]
      refine ⟨fun hm => ?_, nodup_put h.2⟩
      rcases mem_put.1 hm with e' | e'
      · exact hk e'.symm
      · exact h.1 e'
theorem mem_rem {k x : ByteArray} : ∀ {M}, x ∈ keys (rem k M) → x ∈ keys M
  | [], h => h
  | e :: r, h => by
    rw [rem] at h
    by_cases hk : k = e.1
    · rw [if_pos (by simp [ba_beq, hk])] at h
      exact List.mem_cons_of_mem _ h
    · rw [if_neg (by simp [ba_beq, hk])] at h
      simp only [keys, List.map_cons, List.mem_cons] at h ⊢
      rcases h with h | h
      · exact .inl h
      · exact .inr (mem_rem h)
theorem nodup_rem {k : ByteArray} : ∀ {M}, (keys M).Nodup → (keys (rem k M)).Nodup ∧ k ∉ keys (rem k M)
  | [], h => ⟨h, by simp [rem]⟩
  | e :: r, h => by
    simp only [keys, List.map_cons, List.nodup_cons] at h
    rw [rem]
    by_cases hk : k = e.1
    · rw [if_pos (by simp [ba_beq, hk])]
      exact ⟨h.2, by rw [hk]; exact h.1⟩
    · rw [if_neg (by simp [ba_beq, hk])]
      obtain ⟨h1, h2⟩ := nodup_rem (k := k) h.2
      simp only [keys, List.map_cons, List.nodup_cons, List.mem_cons, not_or]
      exact ⟨⟨fun hm => h.1 (mem_rem hm), h1⟩, hk, h2⟩
theorem look_rem {k : ByteArray} {M : List (ByteArray × Int)} (h : (keys M).Nodup) : look k (rem k M) = none := look_none.2 (nodup_rem h).2

/-- What holds between the slots and the map. -/
structure Cons (S : List Slot) (M : List (ByteArray × Int)) : Prop where
  look : ∀ s, s ≠ noname → ∀ v, look s M = some v ↔ ∃ (i : Nat) (hi : i < S.length), v = (i : Int) ∧ S[i].live = true ∧ S[i].name = s
  no : tabs.look noname M = none
  nd : (keys M).Nodup
  dead : ∀ i (hi : i < S.length), S[i].live = false → S[i].name = noname
  gens : ∀ i (hi : i < S.length), 0 ≤ S[i].gen ∧ S[i].gen ≤ 4611686018427387903
  born : ∀ i (hi : i < S.length), S[i].live = true → 1 ≤ S[i].gen
  atoms : ∀ i (hi : i < S.length), S[i].name ≠ noname → atomB S[i].name = true

section
variable {S : List Slot} {M : List (ByteArray × Int)}

theorem Cons.fresh (n : Nat) : Cons (List.replicate n ⟨0, false, noname⟩) [] := by
  refine ⟨fun s hs v => ⟨fun h => by simp [tabs.look] at h, ?_⟩, rfl, List.nodup_nil, ?_, ?_, ?_, ?_⟩
  · rintro ⟨i, hi, _, h, _⟩; simp at h
  all_goals (intro i hi; simp)

theorem Cons.add (C : Cons S M) {j : Nat} (hj : j < S.length) (hl : S[j].live = false) (hg : S[j].gen < 4611686018427387903) : Cons (S.set j ⟨IntKind.i64.wrap (S[j].gen + 1), true, S[j].name⟩) M := by
  have hg0 := C.gens j hj
  rw [wrapIn (by omega)]
  have hd := C.dead j hj hl
  refine ⟨fun s hs v => (C.look s hs v).trans ⟨?_, ?_⟩, C.no, C.nd, fun i hi h => ?_, fun i hi => ?_, fun i hi h => ?_, fun i hi h => ?_⟩
  · rintro ⟨i, hi, e, h1, h2⟩
    have hij : j ≠ i := fun e => by subst e; rw [hl] at h1; cases h1
    exact ⟨i, by simpa using hi, e, by rw [List.getElem_set_ne hij]; exact h1, by rw [List.getElem_set_ne hij]; exact h2⟩
  · rintro ⟨i, hi, e, h1, h2⟩
    have hi' : i < S.length := by simpa using hi
    by_cases hij : j = i
    · subst hij
      rw [List.getElem_set_self] at h2
      simp only at h2
      exact absurd (h2.symm.trans hd) hs
    · rw [List.getElem_set_ne hij] at h1 h2
      exact ⟨i, hi', e, h1, h2⟩
  · by_cases hij : j = i
    · subst hij; rw [List.getElem_set_self] at h; cases h
    · rw [List.getElem_set_ne hij] at h ⊢; exact C.dead i (by simpa using hi) h
  · by_cases hij : j = i
    · subst hij; rw [List.getElem_set_self]; simp only; omega
    · rw [List.getElem_set_ne hij]; exact C.gens i (by simpa using hi)
  · by_cases hij : j = i
    · subst hij; rw [List.getElem_set_self]; simp only; omega
    · rw [List.getElem_set_ne hij] at h ⊢; exact C.born i (by simpa using hi) h
  · by_cases hij : j = i
    · subst hij; rw [List.getElem_set_self] at h ⊢; exact C.atoms j hj h
    · rw [List.getElem_set_ne hij] at h ⊢; exact C.atoms i (by simpa using hi) h

theorem Cons.uniq (C : Cons S M) {i j : Nat} (hi : i < S.length) (hj : j < S.length) (hn : S[i].name ≠ noname) (he : S[i].name = S[j].name) : i = j := by
  have li : S[i].live = true := by
    cases h : S[i].live with
    | true => rfl
    | false => exact absurd (C.dead i hi h) hn
  have lj : S[j].live = true := by
    cases h : S[j].live with
    | true => rfl
    | false => exact absurd (he.trans (C.dead j hj h)) hn
  have h1 := (C.look S[i].name hn (i : Int)).2 ⟨i, hi, rfl, li, rfl⟩
  have h2 := (C.look S[i].name hn (j : Int)).2 ⟨j, hj, rfl, lj, he.symm⟩
  rw [h1] at h2
  have := Option.some.inj h2
  omega

theorem Cons.free (C : Cons S M) {j : Nat} (hj : j < S.length) (hl : S[j].live = true) : Cons (S.set j ⟨S[j].gen, false, noname⟩) (rem S[j].name M) := by
  refine ⟨fun s hs v => ?_, ?_, (nodup_rem C.nd).1, fun i hi h => ?_, fun i hi => ?_, fun i hi h => ?_, fun i hi h => ?_⟩
  · by_cases hsj : s = S[j].name
    · rw [hsj, look_rem C.nd]
      refine ⟨fun h => (by cases h), ?_⟩
      rintro ⟨i, hi, e, h1, h2⟩
      have hi' : i < S.length := by simpa using hi
      by_cases hij : j = i
      · subst hij; rw [List.getElem_set_self] at h1; cases h1
      · rw [List.getElem_set_ne hij] at h1 h2
        exact absurd (C.uniq hi' hj (by rw [h2, ← hsj]; exact hs) h2) (Ne.symm hij)
    · rw [look_rem_ne hsj, C.look s hs v]
      constructor
      · rintro ⟨i, hi, e, h1, h2⟩
        have hij : j ≠ i := fun e => by subst e; exact hsj h2.symm
        exact ⟨i, by simpa using hi, e, by rw [List.getElem_set_ne hij]; exact h1, by rw [List.getElem_set_ne hij]; exact h2⟩
      · rintro ⟨i, hi, e, h1, h2⟩
        have hi' : i < S.length := by simpa using hi
        by_cases hij : j = i
        · subst hij; rw [List.getElem_set_self] at h1; cases h1
        · rw [List.getElem_set_ne hij] at h1 h2
          exact ⟨i, hi', e, h1, h2⟩
  · exact look_rem_none C.no
  · by_cases hij : j = i
    · subst hij; rw [List.getElem_set_self]
    · rw [List.getElem_set_ne hij] at h ⊢; exact C.dead i (by simpa using hi) h
  · by_cases hij : j = i
    · subst hij; rw [List.getElem_set_self]; exact C.gens j hj
    · rw [List.getElem_set_ne hij]; exact C.gens i (by simpa using hi)
  · by_cases hij : j = i
    · subst hij; rw [List.getElem_set_self] at h; cases h
    · rw [List.getElem_set_ne hij] at h ⊢; exact C.born i (by simpa using hi) h
  · by_cases hij : j = i
    · subst hij; rw [List.getElem_set_self] at h; exact absurd rfl h
    · rw [List.getElem_set_ne hij] at h ⊢; exact C.atoms i (by simpa using hi) h

/-- Is a name somebody's? -/
theorem Cons.has (C : Cons S M) {s : ByteArray} (hs : s ≠ noname) : (tabs.look s M).isSome = true ↔ ∃ (j : Nat) (hj : j < S.length), has s S[j] = true := by
  rw [Option.isSome_iff_exists]
  constructor
  · rintro ⟨v, hv⟩
    obtain ⟨i, hi, e, h1, h2⟩ := (C.look s hs v).1 hv
    exact ⟨i, hi, by simp [tabs.has, h1, h2, hs]⟩
  · rintro ⟨i, hi, hh⟩
    simp only [tabs.has, Bool.and_eq_true, Bool.not_eq_true', decide_eq_false_iff_not, decide_eq_true_eq] at hh
    exact ⟨(i : Int), (C.look s hs i).2 ⟨i, hi, rfl, hh.1, hh.2.2⟩⟩

theorem Cons.name (C : Cons S M) {j : Nat} (hj : j < S.length) (hl : S[j].live = true) (hn : S[j].name = noname) {s : ByteArray} (ha : atomB s = true) (hk : tabs.look s M = none) : Cons (S.set j ⟨S[j].gen, S[j].live, s⟩) (put s (j : Int) M) := by
  have hs := atom_ne ha
  refine ⟨fun t ht v => ?_, ?_, nodup_put C.nd, fun i hi h => ?_, fun i hi => ?_, fun i hi h => ?_, fun i hi h => ?_⟩
  · by_cases hts : t = s
    · subst hts
      rw [look_put_self]
      constructor
      · intro h
        have := Option.some.inj h
        exact ⟨j, by simpa using hj, this.symm, by rw [List.getElem_set_self]; exact hl, by rw [List.getElem_set_self]⟩
      · rintro ⟨i, hi, e, h1, h2⟩
        have hi' : i < S.length := by simpa using hi
        by_cases hij : j = i
        · subst hij; rw [e]
        · rw [List.getElem_set_ne hij] at h1 h2
          have := (C.look t ht (i : Int)).2 ⟨i, hi', rfl, h1, h2⟩
          rw [hk] at this; cases this
    · rw [look_put_ne _ hts, C.look t ht v]
      constructor
      · rintro ⟨i, hi, e, h1, h2⟩
        have hij : j ≠ i := fun e => by subst e; exact ht (h2.symm.trans hn)
        exact ⟨i, by simpa using hi, e, by rw [List.getElem_set_ne hij]; exact h1, by rw [List.getElem_set_ne hij]; exact h2⟩
      · rintro ⟨i, hi, e, h1, h2⟩
        have hi' : i < S.length := by simpa using hi
        by_cases hij : j = i
        · subst hij; rw [List.getElem_set_self] at h2; exact absurd h2.symm hts
        · rw [List.getElem_set_ne hij] at h1 h2
          exact ⟨i, hi', e, h1, h2⟩
  · rw [look_put_ne _ (Ne.symm hs)]; exact C.no
  · by_cases hij : j = i
    · subst hij; rw [List.getElem_set_self] at h; simp only at h; rw [hl] at h; cases h
    · rw [List.getElem_set_ne hij] at h ⊢; exact C.dead i (by simpa using hi) h
  · by_cases hij : j = i
    · subst hij; rw [List.getElem_set_self]; exact C.gens j hj
    · rw [List.getElem_set_ne hij]; exact C.gens i (by simpa using hi)
  · by_cases hij : j = i
    · subst hij; rw [List.getElem_set_self]; exact C.born j hj hl
    · rw [List.getElem_set_ne hij] at h ⊢; exact C.born i (by simpa using hi) h
  · by_cases hij : j = i
    · subst hij; rw [List.getElem_set_self]; exact ha
    · rw [List.getElem_set_ne hij] at h ⊢; exact C.atoms i (by simpa using hi) h
end

/-! ### Maps that come of lists -/
theorem seen_iff {Nm : List ByteArray} {s : ByteArray} : ∀ {j : Nat}, seen Nm s j = true ↔ ∃ t, t < j ∧ na Nm t = s
  | 0 => by simp [seen]
  | j + 1 => by
    rw [seen, Bool.or_eq_true, decide_eq_true_eq, seen_iff]
    constructor
    · rintro (h | ⟨t, ht, h⟩)
      · exact ⟨j, by omega, h⟩
      · exact ⟨t, by omega, h⟩
    · rintro ⟨t, ht, h⟩
      by_cases e : t = j
      · subst e; exact .inl h
      · exact .inr ⟨t, by omega, h⟩

theorem look_mp2 {L : List (Int × Int)} {Nm : List ByteArray} {s : ByteArray} (hs : s ≠ noname) : ∀ {j : Nat}, (∀ t u, t < j → u < j → na Nm t = na Nm u → na Nm t ≠ noname → t = u) →
    ∀ v, look s (mp L Nm j) = some v ↔ ∃ t, t < j ∧ na Nm t = s ∧ v = (pa L t).1
  | 0, _, v => by simp [mp, look]
  | j + 1, hd, v => by
    have ih := look_mp2 (L := L) hs (j := j) (fun t u ht hu => hd t u (by omega) (by omega)) v
    rw [mp]
    by_cases h0 : na Nm j = noname
    · rw [if_pos h0, ih]
      constructor
      · rintro ⟨t, ht, h⟩; exact ⟨t, by omega, h⟩
      · rintro ⟨t, ht, h1, h2⟩
        by_cases e : t = j
        · subst e; exact absurd (h1.symm.trans h0) hs
        · exact ⟨t, by omega, h1, h2⟩
    · rw [if_neg h0]
      by_cases h1 : s = na Nm j
      · rw [h1, look_put_self]
        constructor
        · intro h; exact ⟨j, by omega, rfl, (Option.some.inj h).symm⟩
        · rintro ⟨t, ht, e, hv⟩
          have := hd t j ht (by omega) e (by rw [e]; exact h0)
          subst this
          rw [hv]
      · rw [look_put_ne _ h1, ih]
        constructor
        · rintro ⟨t, ht, h⟩; exact ⟨t, by omega, h⟩
        · rintro ⟨t, ht, h2, h3⟩
          by_cases e : t = j
          · subst e; exact absurd h2.symm h1
          · exact ⟨t, by omega, h2, h3⟩
theorem mp_nd {L : List (Int × Int)} {Nm : List ByteArray} : ∀ j, (keys (mp L Nm j)).Nodup ∧ look noname (mp L Nm j) = none
  | 0 => ⟨List.nodup_nil, rfl⟩
  | j + 1 => by
    obtain ⟨h1, h2⟩ := mp_nd (L := L) (Nm := Nm) j
    rw [mp]
    by_cases h0 : na Nm j = noname
    · rw [if_pos h0]; exact ⟨h1, h2⟩
    · rw [if_neg h0]; exact ⟨nodup_put h1, by rw [look_put_ne _ (Ne.symm h0)]; exact h2⟩

/-! ### Copy -/
abbrev L0 (S : List Slot) : List (Int × Int) := (List.range S.length).map fun n : Nat => ((n : Int), 0)
abbrev N0 (S : List Slot) : List ByteArray := S.map fun s => s.name

section
variable {S : List Slot} {M : List (ByteArray × Int)} {a b c : Nat}

theorem N0_at {i : Nat} (hi : i < S.length) : na (N0 S) i = S[i].name := by simp [na, hi]
theorem L0_at {i : Nat} (hi : i < S.length) : (pa (L0 S) i).1 = (i : Int) := by simp [pa, hi]

theorem Cons.copy (C : Cons S M) : Cons S (mp (L0 S) (N0 S) S.length) := by
  obtain ⟨h1, h2⟩ := mp_nd (L := L0 S) (Nm := N0 S) S.length
  refine ⟨fun s hs v => ?_, h2, h1, C.dead, C.gens, C.born, C.atoms⟩
  rw [look_mp2 hs fun t u ht hu e hn => by rw [N0_at ht] at e hn; rw [N0_at hu] at e; exact C.uniq ht hu hn e]
  constructor
  · rintro ⟨t, ht, e, hv⟩
    rw [N0_at ht] at e
    rw [L0_at ht] at hv
    refine ⟨t, ht, hv, ?_, e⟩
    cases hl : S[t].live with
    | true => rfl
    | false => exact absurd (e.symm.trans (C.dead t ht hl)) hs
  · rintro ⟨t, ht, hv, _, e⟩
    exact ⟨t, ht, by rw [N0_at ht]; exact e, by rw [L0_at ht]; exact hv⟩

theorem copyA (N : Nat) {cp : Option Nat} {h0 : H} {base : Nat} (ha : base ≤ a) (hb : base ≤ b) (hc : base ≤ c) : ∀ (k m i : Nat) (h : H), i + k = S.length → k < m → Tab a b c h S (mp (L0 S) (N0 S) i) →
    ∃ h', L76_0 N m (pt c, .sl a 0 0 S.length 3 cp, (S.length : Int), (i : Int), h) = some (pt c, h') ∧ Tab a b c h' S (mp (L0 S) (N0 S) S.length) ∧ Over base h h'
  | 0, m + 1, i, h, hi, hm, T => by
    have : i = S.length := by omega
    subst this
    refine ⟨h, ?_, T, .refl _ _⟩
    rw [L76_0]
    simp only [itT, itF, ifT, ifF, dF (show ¬ (S.length : Int) < (S.length : Int) by omega)]
  | k + 1, m + 1, i, h, hi, hm, T => by
    have hi1 : i < S.length := by omega
    have hlen := T.len
    have e2 : IntKind.i64.wrap ((i : Int) + 1) = ((i + 1 : Nat) : Int) := by rw [wrapIn (by omega)]; omega
    obtain ⟨g0, g1, g2⟩ := slot3 T hi1
    have hmp : mp (L0 S) (N0 S) (i + 1) = if S[i].name = noname then mp (L0 S) (N0 S) i else put S[i].name (i : Int) (mp (L0 S) (N0 S) i) := by rw [mp, N0_at hi1, L0_at hi1]
    by_cases hz : S[i].name = noname
    · rw [if_pos hz] at hmp
      obtain ⟨h', e, T', o'⟩ := copyA N (cp := cp) (h0 := h0) ha hb hc k m (i + 1) h (by omega) (by omega) (by rw [hmp]; exact T)
      refine ⟨h', ?_, T', o'⟩
      have hzd : decide (S[i].name = ByteArray.mk #[]) = true := decide_eq_true hz
      rw [L76_0]
      simp only [itT, itF, ifT, ifF, dT (show (i : Int) < (S.length : Int) by omega), sx hi1, bs, g0, g1, g2, asInt_some, asBool_some, asStr_some, seq, hzd, nT, Bool.false_eq_true, e2]
      exact e
    · rw [if_neg hz] at hmp
      have T1 := T.setMap (put S[i].name (i : Int) (mp (L0 S) (N0 S) i))
      have hd : hmapset h (.map b) (.str S[i].name) (I (i : Int)) = some (h.set b (.map (ents (put S[i].name (i : Int) (mp (L0 S) (N0 S) i))))) := by
        simp only [hmapset, T.map, mput_ents, Option.map_some]
      obtain ⟨h', e, T', o'⟩ := copyA N (cp := cp) (h0 := h0) ha hb hc k m (i + 1) _ (by omega) (by omega) (by rw [hmp]; exact T1)
      refine ⟨h', ?_, T', Over.trans ⟨by simp, fun j hj => List.getElem?_set_ne (by omega)⟩ o'⟩
      have hzd : decide (S[i].name = ByteArray.mk #[]) = false := decide_eq_false hz
      rw [L76_0]
      simp only [itT, itF, ifT, ifF, dT (show (i : Int) < (S.length : Int) by omega), sx hi1, bs, g0, g1, g2, asInt_some, asBool_some, asStr_some, seq, hzd, nF, pnck, padd0, T.r1, hd, e2]
      exact e

/-- A copy. -/
theorem copy76 {N : Nat} (hN : 300 ≤ N) {h : H} (T : Tab a b c h S M) : ∃ h', F76 N (pt c, h) = some (pt (h.length + 3), h') ∧ Tab (h.length + 1) (h.length + 2) (h.length + 3) h' S (mp (L0 S) (N0 S) S.length) ∧ Over h.length h h' := by
  have hlen := T.len
  have hg := given T N
  have la := (List.getElem?_eq_some_iff.1 T.slots).1
  have hfl := flat_len S
  have k1 : scells (h ++ [O.cells 0 []]) (.sl a 0 0 S.length 3 (capOf h c)) 3 = some (flat S) := by
    have ho : (h ++ [O.cells 0 []])[a]? = some (.cells 0 (flat S)) := by rw [List.getElem?_append_left la]; exact T.slots
    have h1 : 0 + S.length * 3 ≤ (flat S).length := by omega
    simp only [scells, if_true, rdN, ho, if_pos h1]
    rw [List.drop_zero, List.take_of_length_le (by omega)]
  have k2 : happ (h ++ [O.cells 0 []]) (.sl h.length 0 0 0 3 (some 0)) 3 S.length (flat S) = some (.sl (h.length + 1) 0 0 S.length 3 none, h ++ [O.cells 0 []] ++ [O.cells 0 (flat S)]) := by
    have ho : (h ++ [O.cells 0 []])[h.length]? = some (.cells 0 []) := by simp
    have h0 : ¬ S.length = 0 := by omega
    have h3 : S.length * 3 ≤ mostCells := by simp [mostCells]; omega
    have h4 : ¬ S.length ≤ 0 := by omega
    simp only [happ, if_neg h0, hfl, if_true, ho, Nat.zero_add, Nat.zero_mul, Nat.le_refl, h3, h4, if_false, List.length_nil, List.drop_zero, List.take_nil, List.nil_append, List.length_append, List.length_singleton]
  have hT : Tab (h.length + 1) (h.length + 2) (h.length + 3) (h ++ [O.cells 0 []] ++ [O.cells 0 (flat S)] ++ [O.map []] ++ [O.cells 0 [.sl (h.length + 1) 0 0 S.length 3 none, .map (h.length + 2)]]) S (mp (L0 S) (N0 S) 0) := by
    refine ⟨?_, ?_, ⟨none, ?_⟩, by omega, by omega, by omega, hlen⟩
    · rw [List.getElem?_append_left (by simp), List.getElem?_append_left (by simp), show h.length + 1 = (h ++ [O.cells 0 []]).length by simp, List.getElem?_concat_length]
    · rw [List.getElem?_append_left (by simp), show h.length + 2 = (h ++ [O.cells 0 []] ++ [O.cells 0 (flat S)]).length by simp, List.getElem?_concat_length]; rfl
    · rw [show h.length + 3 = (h ++ [O.cells 0 []] ++ [O.cells 0 (flat S)] ++ [O.map []]).length by simp, List.getElem?_concat_length]
  have l4 : (h ++ [O.cells 0 []] ++ [O.cells 0 (flat S)]).length = h.length + 2 := by simp
  have l5 : (h ++ [O.cells 0 []] ++ [O.cells 0 (flat S)] ++ [O.map []]).length = h.length + 3 := by simp
  have ov : Over h.length h (h ++ [O.cells 0 []] ++ [O.cells 0 (flat S)] ++ [O.map []] ++ [O.cells 0 [.sl (h.length + 1) 0 0 S.length 3 none, .map (h.length + 2)]]) :=
    ⟨by simp, fun i hi => by rw [List.getElem?_append_left (by simp; omega), List.getElem?_append_left (by simp; omega), List.getElem?_append_left (by simp; omega), List.getElem?_append_left hi]⟩
  obtain ⟨h', e, T', o'⟩ := copyA (cp := none) (h0 := h) (base := h.length) N (by omega) (by omega) (by omega) S.length N 0 _ (by omega) (by omega) hT
  have e' : L76_0 N N (pt (h.length + 3), .sl (h.length + 1) 0 0 S.length 3 none, (S.length : Int), 0, _) = _ := e
  refine ⟨h', ?_, T', ov.trans o'⟩
  have e87 : F87 N (.sl a 0 0 S.length 3 (capOf h c), h) = some (.sl (h.length + 1) 0 0 S.length 3 none, h ++ [O.cells 0 []] ++ [O.cells 0 (flat S)]) := by
    rw [F87]
    simp only [isNilS, bs, Bool.false_eq_true, ifF, k1, snlen, k2]
  have c1 : ck1 (.sl (h.length + 1) 0 0 S.length 3 none) = some () := rfl
  have c2 : ck1 (.map (h.length + 2)) = some () := rfl
  have r7 := hT.r0
  have hcp : capOf (h ++ [O.cells 0 []] ++ [O.cells 0 (flat S)] ++ [O.map []] ++ [O.cells 0 [.sl (h.length + 1) 0 0 S.length 3 none, .map (h.length + 2)]]) (h.length + 3) = none := by
    unfold capOf
    rw [show h.length + 3 = (h ++ [O.cells 0 []] ++ [O.cells 0 (flat S)] ++ [O.map []]).length by simp, List.getElem?_concat_length]
  rw [hcp] at r7
  have r7' : rd (h ++ [O.cells 0 []] ++ [O.cells 0 (flat S)] ++ [O.map []] ++ [O.cells 0 [.sl (h.length + 1) 0 0 S.length 3 none, .map (h.length + 2)]]) (.ptr (h.length + 3) 0 0) 0 = some (.sl (h.length + 1) 0 0 S.length 3 none) := r7
  rw [F76]
  simp only [hg, bs, nT, itF, ifF, pnck, padd0, T.r0, e87, c1, l4, c2, l5, r7', slen, e']

/-! ### A table that there is not -/
theorem nilG (N : Nat) (h : H) : F62 N (.nilp, h) = some (false, h) := by
  rw [F62]
  simp only [show isNil .nilp = some true from rfl, bs, nT, itF, ifF, Bool.false_eq_true]
theorem nil24 (N : Nat) (h : H) : F24 N (.nilp, h) = some (0, 0, 1, h) := by
  rw [F24]; simp only [nilG, bs, nF, itT, ifT]
theorem nil25 (N : Nat) (p q : Int) (h : H) : F25 N (.nilp, p, q, h) = some (1, h) := by
  rw [F25]; simp only [nilG, bs, nF, itT, ifT]
theorem nil28 (N : Nat) (p q : Int) (s : ByteArray) (h : H) : F28 N (.nilp, p, q, s, h) = some (1, h) := by
  rw [F28]; simp only [nilG, bs, nF, itT, ifT]
theorem nil29 (N : Nat) (s : ByteArray) (h : H) : F29 N (.nilp, s, h) = some (0, 0, 1, h) := by
  rw [F29]; simp only [nilG, bs, nF, itT, ifT]
theorem nil27 (N : Nat) (p q : Int) (h : H) : F27 N (.nilp, p, q, h) = some (false, h) := by
  rw [F27]; simp only [nilG, bs, itF, ifF, Bool.false_eq_true]
theorem nil26 (N : Nat) (p q : Int) (h : H) : F26 N (.nilp, p, q, h) = some (noname, h) := by
  rw [F26]; simp only [nil27, bs, nF, itT, ifT]
theorem nil32 (N : Nat) (h : H) : F32 N (.nilp, h) = some (.nils, h) := by
  rw [F32]; simp only [nilG, bs, nF, itT, ifT]
theorem nil77 (N : Nat) (h : H) : F77 N (.nilp, h) = some (.nils, h) := by
  rw [F77]; simp only [nilG, bs, nF, itT, ifT]
theorem nil76 (N : Nat) (h : H) : F76 N (.nilp, h) = some (.nilp, h) := by
  rw [F76]; simp only [nilG, bs, nF, itT, ifT]
end

end Go.Proofs.Ytbpibiapjangmaa.tabs

/- What a table tells, loaded again, is it. -/
namespace Go.Proofs.Ytbpibiapjangmaa.tabs
open Go Go.L
set_option linter.unusedVariables false
set_option linter.unusedSimpArgs false

theorem chkG_of {G : List Int} : ∀ {k i : Nat}, (∀ j, i ≤ j → j < i + k → okg (ga G j) = true) → chkG G i k = true
  | 0, _, _ => rfl
  | k + 1, i, h => by rw [chkG, h i (by omega) (by omega), chkG_of fun j h1 h2 => h j (by omega) (by omega)]; rfl
theorem chkP_of {G : List Int} {L : List (Int × Int)} : ∀ {k i : Nat}, (∀ j, i ≤ j → j < i + k → okp G L j = true) → chkP G L i k = true
  | 0, _, _ => rfl
  | k + 1, i, h => by rw [chkP, h i (by omega) (by omega), chkP_of fun j h1 h2 => h j (by omega) (by omega)]; rfl
theorem chkN_of {Nm : List ByteArray} : ∀ {k i : Nat}, (∀ j, i ≤ j → j < i + k → okn Nm j = true) → chkN Nm i k = true
  | 0, _, _ => rfl
  | k + 1, i, h => by rw [chkN, h i (by omega) (by omega), chkN_of fun j h1 h2 => h j (by omega) (by omega)]; rfl

section
variable {S : List Slot} {M : List (ByteArray × Int)}

theorem LN_lt {i t u : Nat} (htu : t < u) (hu : u < (LN S i).length) : (LN S i)[t] < (LN S i)[u] := by
  have hp : (LN S i).Pairwise (· < ·) := List.Pairwise.filter _ List.pairwise_lt_range
  exact List.pairwise_iff_getElem.1 hp t u (by omega) hu htu

theorem lps_at {i t : Nat} (ht : t < (LN S i).length) : pa (lps S i) t = ((((LN S i)[t] : Nat) : Int), (slot S (LN S i)[t]).gen) := by simp [pa, lps, List.getD, ht]
theorem lnm_at {i t : Nat} (ht : t < (LN S i).length) : na (lnm S i) t = (slot S (LN S i)[t]).name := by simp [na, lnm, List.getD, ht]
theorem LN_mem {i n : Nat} (hn : n < i) (hl : (slot S n).live = true) : ∃ t, ∃ ht : t < (LN S i).length, (LN S i)[t] = n := by
  have : n ∈ LN S i := List.mem_filter.2 ⟨List.mem_range.2 hn, hl⟩
  obtain ⟨t, ht, e⟩ := List.getElem_of_mem this
  exact ⟨t, ht, e⟩

theorem nmAt_at {i n t : Nat} (ht : t < (LN S i).length) (hn : (LN S i)[t] = n) : ∀ {j : Nat}, t < j → j ≤ (LN S i).length → nmAt (lps S i) (lnm S i) j n = (slot S n).name
  | j + 1, htj, hj => by
    rw [nmAt, lps_at (show j < _ by omega)]
    by_cases e : (LN S i)[j] = n
    · rw [if_pos (by simp only; omega), lnm_at (show j < _ by omega), e]
    · rw [if_neg (by simp only; omega)]
      have : t ≠ j := fun h => by subst h; exact e hn
      exact nmAt_at ht hn (by omega) (by omega)

theorem back (C : Cons S M) (hlen : 1 ≤ S.length ∧ S.length ≤ 256) :
    good (gns S) (lps S S.length) (lnm S S.length) = true ∧ fin (gns S) (lps S S.length) (lnm S S.length) (lps S S.length).length (lps S S.length).length = S ∧ Cons S (mp (lps S S.length) (lnm S S.length) (lps S S.length).length) := by
  have hga : ∀ j, ∀ hj : j < S.length, ga (gns S) j = S[j].gen := fun j hj => by simp [ga, List.getD, hj]
  have hL : (lps S S.length).length = (LN S S.length).length := by simp
  have hN : (lnm S S.length).length = (LN S S.length).length := by simp
  have hin : ∀ t, ∀ ht : t < (LN S S.length).length, ∃ hs : (LN S S.length)[t] < S.length, S[(LN S S.length)[t]].live = true ∧ slot S (LN S S.length)[t] = S[(LN S S.length)[t]] := fun t ht => by
    obtain ⟨h1, h2⟩ := LN_get ht
    rw [slot_at h1] at h2
    exact ⟨h1, h2, slot_at h1⟩
  have huq : ∀ t u, ∀ (ht : t < (LN S S.length).length) (hu : u < (LN S S.length).length), na (lnm S S.length) t = na (lnm S S.length) u → na (lnm S S.length) t ≠ noname → t = u := by
    intro t u ht hu e hn
    obtain ⟨a1, a2, a3⟩ := hin t ht
    obtain ⟨b1, b2, b3⟩ := hin u hu
    rw [lnm_at ht, a3] at e hn
    rw [lnm_at hu, b3] at e
    have := C.uniq a1 b1 hn e
    rcases Nat.lt_trichotomy t u with h | h | h
    · have := LN_lt h hu; omega
    · exact h
    · have := LN_lt h ht; omega
  refine ⟨?_, ?_, ?_⟩
  · rw [good, decide_eq_true (by simpa using hlen), decide_eq_true (by rw [hL, hN])]
    rw [chkG_of fun j _ hj => ?_, chkP_of fun j _ hj => ?_, chkN_of fun j _ hj => ?_]
    · rfl
    · have hj' : j < (LN S S.length).length := by omega
      rw [okn]
      by_cases h0 : na (lnm S S.length) j = noname
      · rw [decide_eq_true h0]; rfl
      · have hns : seen (lnm S S.length) (na (lnm S S.length) j) j = false := by
          cases hsn : seen (lnm S S.length) (na (lnm S S.length) j) j with
          | false => rfl
          | true =>
            obtain ⟨t, ht, e⟩ := seen_iff.1 hsn
            have := huq t j (by omega) hj' e (by rw [e]; exact h0)
            omega
        obtain ⟨a1, a2, a3⟩ := hin j hj'
        rw [hns]
        rw [lnm_at hj', a3] at h0 ⊢
        rw [C.atoms _ a1 h0]; simp
    · have hj' : j < (LN S S.length).length := by omega
      obtain ⟨a1, a2, a3⟩ := hin j hj'
      rw [okp_iff, lps_at hj', a3]
      refine ⟨by simp only; omega, by simp only [List.length_map]; omega, fun h0 => ?_, C.born _ a1 a2, ?_⟩
      · rw [lps_at (show j - 1 < _ by omega)]
        have := LN_lt (S := S) (i := S.length) (show j - 1 < j by omega) hj'
        simp only; omega
      · simp only [Int.toNat_natCast]; rw [hga _ a1]
    · have hj' : j < S.length := by simpa using hj
      rw [hga j hj', okg, decide_eq_true (C.gens j hj')]
  · apply List.ext_getElem (by simp [fin])
    intro n h1 h2
    rw [fin_get, hga n h2, hL]
    have hlv : lv (lps S S.length) (LN S S.length).length n = S[n].live := by
      cases hl : S[n].live with
      | true =>
        obtain ⟨t, ht, e⟩ := LN_mem (S := S) h2 (by rw [slot_at h2]; exact hl)
        exact lv_of ht (by rw [lps_at ht, e])
      | false =>
        cases h3 : lv (lps S S.length) (LN S S.length).length n with
        | false => rfl
        | true =>
          obtain ⟨t, ht, e⟩ := lv_in h3
          rw [lps_at ht] at e
          obtain ⟨a1, a2, _⟩ := hin t ht
          have e' : (LN S S.length)[t] = n := by simp only at e; omega
          simp only [e', hl] at a2
          cases a2
    have hnm : nmAt (lps S S.length) (lnm S S.length) (LN S S.length).length n = S[n].name := by
      cases hl : S[n].live with
      | true =>
        obtain ⟨t, ht, e⟩ := LN_mem (S := S) h2 (by rw [slot_at h2]; exact hl)
        rw [nmAt_at ht e ht (Nat.le_refl _), slot_at h2]
      | false =>
        rw [C.dead n h2 hl]
        refine nmAt_none fun t ht e => ?_
        rw [lps_at ht] at e
        obtain ⟨a1, a2, _⟩ := hin t ht
        have e' : (LN S S.length)[t] = n := by simp only at e; omega
        simp only [e', hl] at a2
        cases a2
    rw [hlv, hnm]
  · obtain ⟨h1, h2⟩ := mp_nd (L := lps S S.length) (Nm := lnm S S.length) (lps S S.length).length
    refine ⟨fun s hs v => ?_, h2, h1, C.dead, C.gens, C.born, C.atoms⟩
    rw [hL, look_mp2 hs fun t u ht hu e hn => huq t u ht hu e hn]
    constructor
    · rintro ⟨t, ht, e, hv⟩
      obtain ⟨a1, a2, a3⟩ := hin t ht
      rw [lnm_at ht, a3] at e
      rw [lps_at ht] at hv
      exact ⟨_, a1, hv, a2, e⟩
    · rintro ⟨i, hi, hv, h3, e⟩
      obtain ⟨t, ht, e2⟩ := LN_mem (S := S) hi (by rw [slot_at hi]; exact h3)
      refine ⟨t, ht, ?_, ?_⟩
      · rw [lnm_at ht, e2, slot_at hi, e]
      · rw [lps_at ht, e2, hv]
end

/-! ### The play's own object -/
structure En where
  t : V
  n : Int
  x : V
  y : V
  z : V
  th : Bool

def cellsP (E : Nat → En) (gv : V) : List V :=
  [(E 0).t, (E 1).t, (E 2).t, I (E 0).n, (E 0).x, (E 0).y, (E 0).z, I (E 1).n, (E 1).x, (E 1).y, (E 1).z, I (E 2).n, (E 2).x, (E 2).y, (E 2).z, .bool (E 0).th, .bool (E 1).th, .bool (E 2).th, gv]
def upd (E : Nat → En) (k : Nat) (e : En) : Nat → En := fun j => if j = k then e else E j
theorem upd_self (E : Nat → En) (k : Nat) (e : En) : upd E k e k = e := by simp [upd]
theorem upd_ne (E : Nat → En) {k j : Nat} (e : En) (h : j ≠ k) : upd E k e j = E j := by simp [upd, h]
theorem upd_upd (E : Nat → En) (k : Nat) (e e' : En) : upd (upd E k e) k e' = upd E k e' := by
  funext j; unfold upd; split <;> rfl

abbrev Obj (h : H) (E : Nat → En) (gv : V) : Prop := h[0]? = some (.cells 0 (cellsP E gv))

theorem three {k : Nat} (h : k < 3) : k = 0 ∨ k = 1 ∨ k = 2 := by omega

section
variable {h : H} {E : Nat → En} {gv : V} {k : Nat}

theorem aT (hk : k < 3) : aidx (padd (pt 0) 0) (k : Int) 3 1 = some (.ptr 0 0 k) := by
  rw [padd0, aidx_ptr (by omega) (by omega) (by omega)]; simp
theorem aR (hk : k < 3) : aidx (padd (pt 0) 3) (k : Int) 3 4 = some (.ptr 0 0 (3 + k * 4)) := by
  rw [padd0, aidx_ptr (by omega) (by omega) (by omega)]; simp
theorem aB (hk : k < 3) : aidx (padd (pt 0) 15) (k : Int) 3 1 = some (.ptr 0 0 (15 + k)) := by
  rw [padd0, aidx_ptr (by omega) (by omega) (by omega)]; simp
theorem aG : padd (pt 0) 18 = .ptr 0 0 18 := by rw [padd0]

theorem rT (o : Obj h E gv) (hk : k < 3) : rd h (.ptr 0 0 k) 0 = some (E k).t := by
  rw [rd_obj o]; rcases three hk with rfl | rfl | rfl <;> rfl
theorem rR0 (o : Obj h E gv) (hk : k < 3) : rd h (.ptr 0 0 (3 + k * 4)) 0 = some (I (E k).n) := by
  rw [rd_obj o]; rcases three hk with rfl | rfl | rfl <;> rfl
theorem rR1 (o : Obj h E gv) (hk : k < 3) : rd h (.ptr 0 0 (3 + k * 4)) 1 = some (E k).x := by
  rw [rd_obj o]; rcases three hk with rfl | rfl | rfl <;> rfl
theorem rR1p (o : Obj h E gv) (hk : k < 3) : rd h (padd (.ptr 0 0 (3 + k * 4)) 1) 0 = some (E k).x := by
  rw [padd0, rd_obj o]; rcases three hk with rfl | rfl | rfl <;> rfl
theorem rR2 (o : Obj h E gv) (hk : k < 3) : rd h (.ptr 0 0 (3 + k * 4)) 2 = some (E k).y := by
  rw [rd_obj o]; rcases three hk with rfl | rfl | rfl <;> rfl
theorem rR3 (o : Obj h E gv) (hk : k < 3) : rd h (.ptr 0 0 (3 + k * 4)) 3 = some (E k).z := by
  rw [rd_obj o]; rcases three hk with rfl | rfl | rfl <;> rfl
theorem rB (o : Obj h E gv) (hk : k < 3) : rd h (.ptr 0 0 (15 + k)) 0 = some (.bool (E k).th) := by
  rw [rd_obj o]; rcases three hk with rfl | rfl | rfl <;> rfl
theorem rG (o : Obj h E gv) : rd h (.ptr 0 0 18) 0 = some gv := by rw [rd_obj o]; rfl

abbrev setP (h : H) (E : Nat → En) (gv : V) : H := h.set 0 (.cells 0 (cellsP E gv))

theorem wT (o : Obj h E gv) (hk : k < 3) (v : V) : wr h (.ptr 0 0 k) [v] = some (setP h (upd E k { E k with t := v }) gv) := by
  rw [wr_obj o (by simp [cellsP]; omega), splice1]; rcases three hk with rfl | rfl | rfl <;> rfl
theorem wR (o : Obj h E gv) (hk : k < 3) (n : Int) (x y z : V) : wr h (.ptr 0 0 (3 + k * 4)) [I n, x, y, z] = some (setP h (upd E k { E k with n := n, x := x, y := y, z := z }) gv) := by
  rw [wr_obj o (by simp [cellsP]; omega)]; rcases three hk with rfl | rfl | rfl <;> rfl
theorem wB (o : Obj h E gv) (hk : k < 3) (b : Bool) : wr h (.ptr 0 0 (15 + k)) [.bool b] = some (setP h (upd E k { E k with th := b }) gv) := by
  rw [wr_obj o (by simp [cellsP]; omega), splice1]; rcases three hk with rfl | rfl | rfl <;> rfl
theorem wG (o : Obj h E gv) (v : V) : wr h (.ptr 0 0 18) [v] = some (setP h E v) := by
  rw [wr_obj o (by simp [cellsP]), splice1]; rfl
theorem obj_set (o : Obj h E gv) (E' : Nat → En) (gv' : V) : Obj (setP h E' gv') E' gv' := by
  have : 0 < h.length := (List.getElem?_eq_some_iff.1 o).1
  exact List.getElem?_set_self this
theorem setP_set (E' E'' : Nat → En) (g' g'' : V) : setP (setP h E' g') E'' g'' = setP h E'' g'' := List.set_set ..
end

/-- One of the three: a table, and what it is compared with. ro: whose an object is. -/
structure Ent (h : H) (ro : Nat → Nat) (i : Nat) (e : En) : Prop where
  no : e.th = false → e.t = .nilp
  yes : e.th = true → ∃ (a b c g l m : Nat) (S : List Slot) (M : List (ByteArray × Int)), e.t = pt c ∧ e.n = (S.length : Int) ∧ Tab a b c h S M ∧ Ref h e.x e.y e.z g l m S ∧ Cons S M ∧
    (ro a = 1 + i ∧ ro b = 1 + i ∧ ro c = 1 + i) ∧ (ro g = 5 ∧ ro l = 5 ∧ ro m = 5)

theorem Ent.frame {h h' : H} {ro ro' : Nat → Nat} {i : Nat} {e : En} (en : Ent h ro i e) (hro : ∀ k, k < h.length → ro' k = ro k) (hf : ∀ k, k < h.length → ro k = 1 + i ∨ ro k = 5 → h'[k]? = h[k]?) : Ent h' ro' i e := by
  refine ⟨en.no, fun hth => ?_⟩
  obtain ⟨a, b, c, g, l, m, S, M, h1, h2, T, R, C, ⟨ra, rb, rc⟩, rg, rl, rm⟩ := en.yes hth
  have la := (List.getElem?_eq_some_iff.1 T.slots).1
  have lb := (List.getElem?_eq_some_iff.1 T.map).1
  have lc := (List.getElem?_eq_some_iff.1 T.obj).1
  obtain ⟨lg, ll, lm⟩ := R.lt
  refine ⟨a, b, c, g, l, m, S, M, h1, h2, T.frame (hf a la (.inl ra)) (hf b lb (.inl rb)) (hf c lc (.inl rc)), R.frame fun k hk => ?_, C, ⟨(hro a la).trans ra, (hro b lb).trans rb, (hro c lc).trans rc⟩, (hro g lg).trans rg, (hro l ll).trans rl, (hro m lm).trans rm⟩
  rcases hk with rfl | rfl | rfl
  · exact hf _ lg (.inr rg)
  · exact hf _ ll (.inr rl)
  · exact hf _ lm (.inr rm)

structure Rest (h : H) (ro : Nat → Nat) (E : Nat → En) (gv : V) (G : List (Int × Int)) : Prop where
  ent : ∀ i, i < 3 → Ent h ro i (E i)
  giv : Own h 2 gv (twos G)
  gr : ∀ j, oid gv = some j → ro j = 4
  r0 : ro 0 = 0
  pos : 0 < h.length

section
variable {h h' : H} {ro ro' : Nat → Nat} {E : Nat → En} {gv : V} {G : List (Int × Int)}

theorem Rest.upd (R : Rest h ro E gv G) {i : Nat} (hi : i < 3) (hl : h.length ≤ h'.length) (hro : ∀ k, k < h.length → ro' k = ro k) (hf : ∀ k, k < h.length → ro k ≠ 1 + i → k ≠ 0 → h'[k]? = h[k]?) {e : En} (he : Ent h' ro' i e) :
    Rest h' ro' (upd E i e) gv G := by
  have nz : ∀ k, ro k ≠ 0 → k ≠ 0 := fun k hk e => hk (by rw [e]; exact R.r0)
  refine ⟨fun j hj => ?_, R.giv.frame fun j hj => hf j (R.giv.sl'.lt hj) (by rw [R.gr j hj]; omega) (nz j (by rw [R.gr j hj]; omega)), fun j hj => (hro j (R.giv.sl'.lt hj)).trans (R.gr j hj), (hro 0 R.pos).trans R.r0, by have := R.pos; omega⟩
  by_cases hij : j = i
  · subst hij; rw [upd_self]; exact he
  · rw [upd_ne _ _ hij]
    refine (R.ent j hj).frame hro fun k hk hr => hf k hk ?_ (nz k ?_)
    · rcases hr with h | h <;> omega
    · rcases hr with h | h <;> omega

/-- Only the play's own object, and new ones. -/
theorem Rest.frame (R : Rest h ro E gv G) (hl : h.length ≤ h'.length) (hro : ∀ k, k < h.length → ro' k = ro k) (hf : ∀ k, k < h.length → k ≠ 0 → h'[k]? = h[k]?) : Rest h' ro' E gv G := by
  have nz : ∀ k, ro k ≠ 0 → k ≠ 0 := fun k hk e => hk (by rw [e]; exact R.r0)
  refine ⟨fun j hj => (R.ent j hj).frame hro fun k hk hr => hf k hk (nz k ?_), R.giv.frame fun j hj => hf j (R.giv.sl'.lt hj) (nz j (by rw [R.gr j hj]; omega)), fun j hj => (hro j (R.giv.sl'.lt hj)).trans (R.gr j hj), (hro 0 R.pos).trans R.r0, by have := R.pos; omega⟩
  rcases hr with h | h <;> omega

theorem Rest.set (R : Rest h ro E gv G) (E' : Nat → En) (gv' : V) : Rest (setP h E' gv') ro E gv G :=
  R.frame (by simp) (fun _ _ => rfl) fun k _ hk => List.getElem?_set_ne (Ne.symm hk)
theorem Rest.over (R : Rest h ro E gv G) (o : Over h.length h h') : Rest h' ro E gv G :=
  R.frame o.1 (fun _ _ => rfl) fun k hk _ => o.2 k hk
end

end Go.Proofs.Ytbpibiapjangmaa.tabs
