/- Package table: the loops of the law TableFresh. -/
import Derived.Test.YtbpibiapjangmaaTabC
namespace Go.Proofs.Ytbpibiapjangmaa.tabs
open Go Go.L
set_option linter.unusedVariables false
set_option linter.unusedSimpArgs false

/-- A write of one cell. -/
theorem ownWr1 {h : H} {v : V} {xs : List V} (ho : Own h 1 v (xs.map fun x => [x])) (i : Nat) (hi : i < xs.length) (y : V) :
    ∃ q h', sidx v (i : Int) 1 = some q ∧ wr h q [y] = some h' ∧ Own h' 1 v ((xs.set i y).map fun x => [x]) ∧ Keeps h h' (oid v) := by
  generalize hX : xs.map (fun x => [x]) = X at ho
  have hl : X.length = xs.length := by rw [← hX]; simp
  have hfl : ∀ ys : List V, (ys.map fun x => [x]).flatten = ys := by
    intro ys; induction ys with
    | nil => rfl
    | cons y ys ih => simp [ih]
  cases ho with
  | nil => simp at hl; omega
  | z => simp at hl; omega
  | sl id ver X rest k1 k3 =>
    have hid : id < h.length := (List.getElem?_eq_some_iff.1 k1).1
    rw [← hX, hfl] at k1
    refine ⟨_, _, sidx_sl (by omega) (by omega), wr_obj k1 (by simp; omega), ?_, Keeps.set h _ _⟩
    have e : splice (xs ++ rest) (0 + Int.toNat (i : Int) * 1) [y] = ((xs.set i y).map fun x => [x]).flatten ++ rest := by
      rw [splice1, hfl]
      have : 0 + Int.toNat (i : Int) * 1 = i := by simp
      rw [this, List.set_append_left _ _ hi]
    rw [e]
    have := Own.sl (h := h.set id (.cells ver (((xs.set i y).map fun x => [x]).flatten ++ rest))) (es := 1) id ver ((xs.set i y).map fun x => [x]) rest (by simp [hid]) (fun x hx => by
      obtain ⟨z, _, rfl⟩ := List.mem_map.1 hx
      rfl)
    have hl2 : ((xs.set i y).map fun x => [x]).length = X.length := by simp [hl]
    rw [hl2] at this
    exact this

/-- How many are alive. -/
def alive (S : List Slot) : Nat := (S.filter fun s => s.live).length

theorem alive_set : ∀ (S : List Slot) (i : Nat) (hi : i < S.length) (s : Slot), alive (S.set i s) + (if S[i].live = true then 1 else 0) = alive S + (if s.live = true then 1 else 0)
  | [], i, hi, s => by simp at hi
  | t :: S, 0, hi, s => by
    simp only [alive, List.set_cons_zero, List.filter_cons, List.getElem_cons_zero]
    by_cases h1 : s.live = true <;> by_cases h2 : t.live = true <;> simp [h1, h2]
  | t :: S, i + 1, hi, s => by
    have ih := alive_set S i (by simpa using hi) s
    simp only [alive, List.set_cons_succ, List.filter_cons, List.getElem_cons_succ] at ih ⊢
    by_cases h2 : t.live = true <;> simp [h2] at ih ⊢ <;> omega

theorem alive_app (S : List Slot) (s : Slot) : alive (S ++ [s]) = alive S + if s.live = true then 1 else 0 := by
  by_cases h : s.live = true <;> simp [alive, List.filter_append, h]

theorem alive_le (S : List Slot) : alive S ≤ S.length := List.length_filter_le ..
theorem alive_all {S : List Slot} (h : ∀ j (hj : j < S.length), S[j].live = true) : alive S = S.length := by
  rw [alive, List.filter_eq_self.2]
  intro s hs
  obtain ⟨j, hj, rfl⟩ := List.mem_iff_getElem.1 hs
  exact h j hj
theorem alive_lt {S : List Slot} {j : Nat} (hj : j < S.length) (h : S[j].live = false) : alive S < S.length := by
  have h1 := alive_set S j hj ⟨0, true, noname⟩
  rw [h] at h1
  have := alive_le (S.set j ⟨0, true, noname⟩)
  rw [List.length_set] at this
  simp at h1
  omega

def far (v : V) : Prop := ∀ i, oid v = some i → 3 ≤ i

abbrev pcs (p : Nat × Int) : List V := [I (p.1 : Int), I p.2]

/-- What holds between the table and what was given. -/
structure Fr (h : H) (S : List Slot) (M : List (ByteArray × Int)) (gv dv : V) (G : List (Nat × Int)) (D : List Bool) (room t : Nat) : Prop where
  T : Tab 0 1 2 h S M
  g : Own h 2 gv (G.map pcs)
  d : Own h 1 dv ((D.map V.bool).map fun x => [x])
  gf : far gv
  df : far dv
  gd : ∀ j, oid gv = some j → oid dv ≠ some j
  len : S.length = room
  DG : D.length = G.length
  nd : ∀ (k k' : Nat) (hk : k < G.length) (hk' : k' < G.length), G[k] = G[k'] → k = k'
  ok : ∀ (k : Nat) (hk : k < G.length) (hd : k < D.length), ∃ hi : G[k].1 < S.length, G[k].2 ≤ S[G[k].1].gen ∧ isB S (G[k].1 : Int) G[k].2 = !D[k]
  gens : ∀ i (hi : i < S.length), 0 ≤ S[i].gen ∧ S[i].gen ≤ t
  lenG : G.length ≤ t

theorem farLow {v : V} (hf : far v) {i : Nat} (hi : i < 3) : oid v ≠ some i := fun e => by have := hf i e; omega

theorem Tab.keep3 {h h' : H} {S : List Slot} {M : List (ByteArray × Int)} (T : Tab 0 1 2 h S M) {o : Option Nat} (k : Keeps h h' o) (ho : ∀ i, i < 3 → o ≠ some i) : Tab 0 1 2 h' S M := by
  have l0 := (List.getElem?_eq_some_iff.1 T.slots).1
  have l1 := (List.getElem?_eq_some_iff.1 T.map).1
  have l2 := (List.getElem?_eq_some_iff.1 T.obj).1
  exact T.frame (k.2 0 l0 (ho 0 (by omega))) (k.2 1 l1 (ho 1 (by omega))) (k.2 2 l2 (ho 2 (by omega)))

theorem Tab.len3 {h : H} {S : List Slot} {M : List (ByteArray × Int)} (T : Tab 0 1 2 h S M) : 3 ≤ h.length := (List.getElem?_eq_some_iff.1 T.obj).1

section
variable {h : H} {S : List Slot} {M : List (ByteArray × Int)} {gv dv : V} {G : List (Nat × Int)} {D : List Bool} {room t : Nat}

theorem givenAt (v : Fr h S M gv dv G D room t) {k : Nat} (hk : k < G.length) : ∃ q, sidx gv (k : Int) 2 = some q ∧ rd h q 0 = some (I (G[k].1 : Int)) ∧ rd h q 1 = some (I G[k].2) := by
  obtain ⟨q, e, hq⟩ := v.g.sl'.at k (by simpa using hk)
  refine ⟨q, e, ?_, ?_⟩ <;> rw [hq _ (by omega)] <;> simp [hk]

theorem deadAt (v : Fr h S M gv dv G D room t) {k : Nat} (hk : k < D.length) : ∃ q, sidx dv (k : Int) 1 = some q ∧ rd h q 0 = some (.bool D[k]) := by
  obtain ⟨q, e, hq⟩ := v.d.sl'.at k (by simpa using hk)
  refine ⟨q, e, ?_⟩
  rw [hq _ (by omega)]; simp [hk]

theorem Fr.mono (v : Fr h S M gv dv G D room t) : Fr h S M gv dv G D room (t + 1) :=
  ⟨v.T, v.g, v.d, v.gf, v.df, v.gd, v.len, v.DG, v.nd, v.ok, fun i hi => by have := v.gens i hi; omega, by have := v.lenG; omega⟩

/-- No pid is given twice. -/
theorem freshL (N : Nat) (v : Fr h S M gv dv G D room t) (ht : t < 4611686018427387903) {n : Nat} {g : Int} (hn : ∀ k (hk : k < G.length), G[k] ≠ (n, g)) (x1 : Int) (x2 x3 x4 : V) (x5 x6 : Int) : ∀ (k m i : Nat), i + k = G.length → k < m →
    L6_1 N m (x1, x2, x3, gv, x4, x5, x6, (i : Int), (n : Int), g, h) = some (.inl (x1, x2, x3, gv, x4, x5, x6, (n : Int), g, h))
  | 0, m + 1, i, hi, hm => by
    rw [L6_1]
    simp only [v.g.sl'.len, List.length_map, bs, itT, itF, ifT, ifF, dF (show ¬ (i : Int) < (G.length : Int) by omega)]
  | k + 1, m + 1, i, hi, hm => by
    have hi1 : i < G.length := by omega
    have hlG := v.lenG
    have e2 : IntKind.i64.wrap ((i : Int) + 1) = ((i + 1 : Nat) : Int) := by rw [wrapIn (by omega)]; omega
    obtain ⟨q, eq, r0, r1⟩ := givenAt v hi1
    have hne : (((G[i].1 : Int) == (n : Int)) && ((G[i].2 == g) && true)) = false := by
      rw [Bool.eq_false_iff]
      intro hh
      simp only [Bool.and_eq_true, beq_iff_eq, Bool.and_true] at hh
      exact hn i hi1 (Prod.ext (by omega) hh.2)
    rw [L6_1]
    simp only [v.g.sl'.len, List.length_map, bs, itT, itF, ifT, ifF, dT (show (i : Int) < (G.length : Int) by omega), eq, r0, r1, asInt_some, hne, e2, Bool.false_eq_true, if_false]
    exact freshL N v ht hn x1 x2 x3 x4 x5 x6 k m (i + 1) (by omega) (by omega)

/-- A pid more. -/
theorem Fr.add (v : Fr h S M gv dv G D room t) {j : Nat} (hj : j < S.length) (hlv : S[j].live = false) {h1 h2 h3 : H} {gv' dv' : V} (hT : Tab 0 1 2 h1 (S.set j ⟨S[j].gen + 1, true, S[j].name⟩) M) (hf : ∀ k, k ≠ 0 → h1[k]? = h[k]?) (hl : h1.length = h.length)
    (g2 : Own h2 2 gv' (G.map pcs ++ [pcs (j, S[j].gen + 1)])) (k2 : Keeps h1 h2 (oid gv)) (i2 : oid gv' = oid gv ∨ oid gv' = some h1.length) (d3 : Own h3 1 dv' ((D.map V.bool).map (fun x => [x]) ++ [[.bool false]])) (k3 : Keeps h2 h3 (oid dv)) (i3 : oid dv' = oid dv ∨ oid dv' = some h2.length) :
    Fr h3 (S.set j ⟨S[j].gen + 1, true, S[j].name⟩) M gv' dv' (G ++ [(j, S[j].gen + 1)]) (D ++ [false]) room (t + 1) := by
  have hlt := v.T.len3
  have hk2 := k2.1
  have hk3 := k3.1
  have dlt : ∀ i, oid dv = some i → i < h.length := fun i hi => v.d.sl'.lt hi
  have glt : ∀ i, oid gv = some i → i < h.length := fun i hi => v.g.sl'.lt hi
  have hgv' : ∀ i, oid gv' = some i → i < h2.length := fun i hi => g2.sl'.lt hi
  refine ⟨(hT.keep3 k2 fun i hi => farLow v.gf hi).keep3 k3 fun i hi => farLow v.df hi, ?_, ?_, ?_, ?_, ?_, by simpa using v.len, by simp [v.DG], ?_, ?_, ?_, by have := v.lenG; simp; omega⟩
  · rw [List.map_append]
    refine g2.frame fun i hi => k3.2 i (hgv' i hi) ?_
    rcases i2 with e | e
    · rw [e] at hi; exact v.gd i hi
    · rw [e] at hi; intro hh; have := dlt i hh; have := Option.some.inj hi; omega
  · rw [List.map_append, List.map_append]; exact d3
  · intro i hi
    rcases i2 with e | e
    · exact v.gf i (by rw [← e]; exact hi)
    · rw [e] at hi; have := Option.some.inj hi; omega
  · intro i hi
    rcases i3 with e | e
    · exact v.df i (by rw [← e]; exact hi)
    · rw [e] at hi; have := Option.some.inj hi; omega
  · intro i hi
    rcases i3 with e | e
    · rw [e]
      rcases i2 with e2 | e2
      · rw [e2] at hi; exact v.gd i hi
      · rw [e2] at hi; intro hh; have := dlt i hh; have := Option.some.inj hi; omega
    · rw [e]; intro hh; have := hgv' i hi; have := Option.some.inj hh; omega
  · intro k k' hk hk' he
    have old : ∀ k (hk : k < G.length), G[k] ≠ (j, S[j].gen + 1) := by
      intro k hk hh
      obtain ⟨hi, h1, _⟩ := v.ok k hk (by rw [v.DG]; exact hk)
      rw [hh] at hi
      simp only [hh] at h1
      omega
    simp only [List.getElem_append] at he
    simp only [List.length_append, List.length_cons, List.length_nil] at hk hk'
    by_cases c1 : k < G.length
    · rw [dif_pos c1] at he
      by_cases c2 : k' < G.length
      · rw [dif_pos c2] at he
        exact v.nd k k' c1 c2 he
      · rw [dif_neg c2] at he
        simp only [List.getElem_singleton] at he
        exact absurd he (old k c1)
    · rw [dif_neg c1] at he
      by_cases c2 : k' < G.length
      · rw [dif_pos c2] at he
        simp only [List.getElem_singleton] at he
        exact absurd he.symm (old k' c2)
      · omega
  · intro k hk hd
    simp only [List.length_append, List.length_cons, List.length_nil] at hk
    by_cases c1 : k < G.length
    · have c2 : k < D.length := by rw [v.DG]; exact c1
      obtain ⟨hi, h1, h2⟩ := v.ok k c1 c2
      have eG : (G ++ [(j, S[j].gen + 1)])[k] = G[k] := by rw [List.getElem_append_left c1]
      have eD : (D ++ [false])[k] = D[k] := by rw [List.getElem_append_left c2]
      rw [eG, eD]
      refine ⟨by simpa using hi, ?_, ?_⟩
      · rw [List.getElem_set]
        by_cases hj1 : j = G[k].1
        · rw [if_pos hj1]
          subst hj1
          simp only; omega
        · rw [if_neg hj1]; exact h1
      · rw [← h2, isB_at (by simpa using hi), isB_at hi, List.getElem_set]
        by_cases hj1 : j = G[k].1
        · rw [if_pos hj1]
          subst hj1
          rw [hlv]
          simp; omega
        · rw [if_neg hj1]
    · have hk' : k = G.length := by omega
      subst hk'
      have eG : (G ++ [(j, S[j].gen + 1)])[G.length] = (j, S[j].gen + 1) := by simp
      have eD : (D ++ [false])[G.length] = false := by
        have := v.DG
        rw [List.getElem_append_right (by omega)]; simp
      rw [eG, eD]
      refine ⟨by simpa using hj, by simp, ?_⟩
      rw [isB_at (by simpa using hj)]; simp
  · intro i hi
    rw [List.getElem_set]
    split
    · have := v.gens j hj; simp only; omega
    · have := v.gens i (by simpa using hi); omega

/-- A pid ends. -/
theorem Fr.free (v : Fr h S M gv dv G D room t) {k : Nat} (hk : k < G.length) (hkd : k < D.length) (hi : G[k].1 < S.length) (hlv : S[G[k].1].live = true) (hgn : S[G[k].1].gen = G[k].2) {h1 h2 : H} (hT : Tab 0 1 2 h1 (S.set G[k].1 ⟨S[G[k].1].gen, false, noname⟩) (rem S[G[k].1].name M))
    (hf : ∀ k, k ≠ 0 → k ≠ 1 → h1[k]? = h[k]?) (hl : h1.length = h.length) (d2 : Own h2 1 dv (((D.map V.bool).set k (.bool true)).map fun x => [x])) (k2 : Keeps h1 h2 (oid dv)) :
    Fr h2 (S.set G[k].1 ⟨S[G[k].1].gen, false, noname⟩) (rem S[G[k].1].name M) gv dv G (D.set k true) room (t + 1) := by
  have hD : ((D.map V.bool).set k (.bool true)) = (D.set k true).map V.bool := by rw [List.map_set]
  rw [hD] at d2
  refine ⟨hT.keep3 k2 fun i hi => farLow v.df hi, ?_, d2, v.gf, v.df, v.gd, by simpa using v.len, by simpa using v.DG, v.nd, ?_, ?_, by have := v.lenG; omega⟩
  · refine v.g.frame fun i hi => ?_
    have h3 := v.gf i hi
    rw [k2.2 i (by rw [hl]; exact v.g.sl'.lt hi) (v.gd i hi), hf i (by omega) (by omega)]
  · intro q hq hqd
    have hqd' : q < D.length := by simpa using hqd
    obtain ⟨hi', h1, h2⟩ := v.ok q hq hqd'
    refine ⟨by simpa using hi', ?_, ?_⟩
    · rw [List.getElem_set]
      split
      · rename_i he
        simp only [he]; exact h1
      · exact h1
    · rw [isB_at (by simpa using hi'), List.getElem_set, List.getElem_set]
      by_cases he : G[k].1 = G[q].1
      · rw [if_pos he]
        simp only [Bool.false_and]
        by_cases hkq : k = q
        · rw [if_pos hkq]; rfl
        · rw [if_neg hkq, ← h2, isB_at hi']
          have : S[G[q].1].gen ≠ G[q].2 := by
            intro hh
            refine hkq (v.nd k q hk hq (Prod.ext he ?_))
            rw [← hgn, ← hh]
            simp only [he]
          simp [this]
      · rw [if_neg he, if_neg (fun e => he (by subst e; rfl)), ← h2, isB_at hi']
  · intro i hi
    rw [List.getElem_set]
    split
    · have := v.gens _ ‹G[k].1 < S.length›; simp only; omega
    · have := v.gens i (by simpa using hi); omega

/-- Who is dead is not. -/
theorem endsL (N : Nat) (v : Fr h S M gv dv G D room t) (ht : t < 4611686018427387903) (x5 : Int) : ∀ (k m i : Nat), i + k = G.length → k < m → L6_2 N m (pt 2, gv, dv, x5, (i : Int), h) = some (.inl (pt 2, x5, h))
  | 0, m + 1, i, hi, hm => by
    rw [L6_2]
    simp only [v.g.sl'.len, List.length_map, bs, itT, itF, ifT, ifF, dF (show ¬ (i : Int) < (G.length : Int) by omega)]
  | k + 1, m + 1, i, hi, hm => by
    have hi1 : i < G.length := by omega
    have hi2 : i < D.length := by rw [v.DG]; exact hi1
    have hlG := v.lenG
    have e2 : IntKind.i64.wrap ((i : Int) + 1) = ((i + 1 : Nat) : Int) := by rw [wrapIn (by omega)]; omega
    obtain ⟨q, eq, r0, r1⟩ := givenAt v hi1
    obtain ⟨q2, eq2, r2⟩ := deadAt v hi2
    obtain ⟨_, _, hb⟩ := v.ok i hi1 hi2
    have hz := is v.T N (G[i].1 : Int) G[i].2
    rw [hb] at hz
    have hne : ((!D[i]) == D[i]) = false := by cases D[i] <;> rfl
    rw [L6_2]
    simp only [v.g.sl'.len, List.length_map, bs, itT, itF, ifT, ifF, dT (show (i : Int) < (G.length : Int) by omega), eq, r0, r1, asInt_some, hz, eq2, r2, asBool_some, hne, e2, Bool.false_eq_true, if_false]
    exact endsL N v ht x5 k m (i + 1) (by omega) (by omega)
end

/-- Who is alive. -/
theorem liveL {a b c : Nat} (N : Nat) {cp : Option Nat} {S : List Slot} {M : List (ByteArray × Int)} : ∀ (k m i : Nat) (h : H) (l : V) (L : List (List V)), i + k = S.length → k < m → Tab a b c h S M → Own h 2 l L → (∀ j, oid l = some j → j ≠ a ∧ j ≠ b ∧ j ≠ c) → L.length = alive (S.take i) →
    ∃ h' l' L', L32_0 N m (pt c, l, .sl a 0 0 S.length 3 cp, (S.length : Int), (i : Int), h) = some (l', h') ∧ Own h' 2 l' L' ∧ L'.length = alive S
  | 0, m + 1, i, h, l, L, hi, hm, T, O, hl, hL => by
    have : i = S.length := by omega
    subst this
    rw [List.take_length] at hL
    refine ⟨h, l, L, ?_, O, hL⟩
    rw [L32_0]
    simp only [itT, itF, ifT, ifF, dF (show ¬ (S.length : Int) < (S.length : Int) by omega)]
  | k + 1, m + 1, i, h, l, L, hi, hm, T, O, hl, hL => by
    have hi1 : i < S.length := by omega
    have hlen := T.len
    have ht : S.take (i + 1) = S.take i ++ [S[i]] := by rw [List.take_add_one, List.getElem?_eq_getElem hi1]; rfl
    have e2 : IntKind.i64.wrap ((i : Int) + 1) = ((i + 1 : Nat) : Int) := by rw [wrapIn (by omega)]; omega
    have g0 : rd h (.ptr a 0 (i * 3)) 0 = some (I S[i].gen) := T.g hi1
    have g1 : rd h (.ptr a 0 (i * 3)) 1 = some (.bool S[i].live) := by rw [rd_obj T.slots, flat_get hi1 1 (by omega)]; rfl
    have g2 : rd h (.ptr a 0 (i * 3)) 2 = some (.str S[i].name) := by rw [rd_obj T.slots, flat_get hi1 2 (by omega)]; rfl
    rw [L32_0]
    simp only [itT, itF, ifT, ifF, dT (show (i : Int) < (S.length : Int) by omega), sx hi1, bs, g0, g1, g2, asInt_some, asBool_some, asStr_some, pid T N hi1]
    cases hlv : S[i].live with
    | true =>
      have hal := alive_le (S.take i)
      have htl := List.length_take_le i S
      obtain ⟨l2, h2, e, o2, k2, f2, _⟩ := O.app1 [I (i : Int), I S[i].gen] rfl (by simp [mostCells]; omega)
      have la := (List.getElem?_eq_some_iff.1 T.slots).1
      have lb := (List.getElem?_eq_some_iff.1 T.map).1
      have lc := (List.getElem?_eq_some_iff.1 T.obj).1
      have T2 := T.frame (k2.2 a la fun e => (hl a e).1 rfl) (k2.2 b lb fun e => (hl b e).2.1 rfl) (k2.2 c lc fun e => (hl c e).2.2 rfl)
      obtain ⟨h', l', L', e', O', hL'⟩ := liveL N k m (i + 1) h2 l2 _ (by omega) (by omega) T2 o2 (by
        intro j hj
        rcases f2 with e | e
        · exact hl j (by rw [← e]; exact hj)
        · rw [e] at hj; have := Option.some.inj hj; omega) (by rw [ht, alive_app, hlv, List.length_append, hL]; rfl)
      refine ⟨h', l', L', ?_, O', hL'⟩
      simp only [itT, ifT, bs, e, e2]
      exact e'
    | false =>
      obtain ⟨h', l', L', e', O', hL'⟩ := liveL N k m (i + 1) h l L (by omega) (by omega) T O hl (by rw [ht, alive_app, hlv, hL]; rfl)
      refine ⟨h', l', L', ?_, O', hL'⟩
      simp only [itF, ifF, bs, e2]
      exact e'

theorem live {a b c : Nat} {N : Nat} (hN : 257 ≤ N) {h : H} {S : List Slot} {M : List (ByteArray × Int)} (T : Tab a b c h S M) : ∃ h' l' L', F32 N (pt c, h) = some (l', h') ∧ Own h' 2 l' L' ∧ L'.length = alive S := by
  have hlen := T.len
  have hg := given T N
  obtain ⟨h', l', L', e, O, hL⟩ := liveL (cp := capOf h c) N S.length N 0 h .nils [] (by omega) (by omega) T .nil (by simp [oid]) (by simp [alive])
  have e' : L32_0 N N (pt c, .nils, .sl a 0 0 S.length 3 (capOf h c), (S.length : Int), 0, h) = _ := e
  refine ⟨h', l', L', ?_, O, hL⟩
  rw [F32]
  simp only [hg, bs, nT, itF, ifF, pnck, padd0, T.r0, slen, e']

end Go.Proofs.Ytbpibiapjangmaa.tabs
