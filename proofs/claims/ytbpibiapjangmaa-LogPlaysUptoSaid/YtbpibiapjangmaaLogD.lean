/- Package log: the loops of the law LogLast. -/
import Derived.Test.YtbpibiapjangmaaLogC
namespace Go.Proofs.Ytbpibiapjangmaa.logs
open Go Go.L
set_option linter.unusedVariables false
set_option linter.unusedSimpArgs false

/-- Events as an argument. -/
def evs (E : List Ev) : V := .rs 6 (E.map fun e => .agg e.cs)

theorem evs_sl (h : H) (E : List Ev) : Sl h 6 (evs E) (E.map Ev.cs) := by
  have := Sl.rs (h := h) (es := 6) (E.map fun e => V.agg e.cs) (by
    intro x hx
    obtain ⟨e, _, rfl⟩ := List.mem_map.1 hx
    rfl)
  rw [List.map_map] at this
  exact this

theorem evs_at (E : List Ev) {i : Nat} (hi : i < E.length) : sidx (evs E) (i : Int) 6 = some (.rptr E[i].cs) := by
  unfold evs
  rw [sidx_rs (by omega)]
  simp [hi, V.cells]

theorem evs_len (E : List Ev) : slen (evs E) = some (E.length : Int) := by
  have := (evs_sl [] E).len
  rwa [List.length_map] at this

section
variable (h : H) (e : Ev)
theorem q0 : rd h (.rptr e.cs) 0 = some (I e.kind) := by rw [rd_rptr]; rfl
theorem q1 : rd h (.rptr e.cs) 1 = some (I e.core) := by rw [rd_rptr]; rfl
theorem q2 : rd h (.rptr e.cs) 2 = some (I e.n) := by rw [rd_rptr]; rfl
theorem q3 : rd h (.rptr e.cs) 3 = some (I e.gen) := by rw [rd_rptr]; rfl
theorem q4 : rd h (.rptr e.cs) 4 = some (I e.a) := by rw [rd_rptr]; rfl
theorem q5 : rd h (.rptr e.cs) 5 = some (I e.b) := by rw [rd_rptr]; rfl
theorem o0 : rdRo (.rptr e.cs) 0 = some (I e.kind) := rfl
theorem o1 : rdRo (.rptr e.cs) 1 = some (I e.core) := rfl
theorem o2 : rdRo (.rptr e.cs) 2 = some (I e.n) := rfl
theorem o3 : rdRo (.rptr e.cs) 3 = some (I e.gen) := rfl
theorem o4 : rdRo (.rptr e.cs) 4 = some (I e.a) := rfl
theorem o5 : rdRo (.rptr e.cs) 5 = some (I e.b) := rfl
end

/-- The events that may be. -/
abbrev mays (E : List Ev) : List Ev := E.filter fun e => decide (May e)

theorem mays_le (E : List Ev) (i : Nat) : (mays (E.take i)).length ≤ E.length := by
  have := List.length_filter_le (fun e => decide (May e)) (E.take i)
  have h2 := List.length_take_le i E
  exact Nat.le_trans this (List.length_take_le' i E)

theorem addsL (N : Nat) (id : Nat) (a0 : Int) (E : List Ev) (hE : E.length ≤ 1048576) : ∀ (k m i : Nat) (h : H) (room : Int) (kept : V) (from' : Nat) (Ph : List Ev) (C A B : List Int) (added : V), i + k = E.length → k < m →
    Log id h room (mays (E.take i)) kept from' Ph C A B → Own h 6 added ((mays (E.take i)).map Ev.cs) → oid added ≠ some id → (∀ j, oid added = some j → oid kept ≠ some j) →
    ∃ (h' : H) (kept' : V) (from'' : Nat) (Ph' : List Ev) (C' A' B' : List Int) (added' : V), L7_0 N m (a0, evs E, (pt id), added, (i : Int), h) = some (.inl (a0, (pt id), added', h')) ∧ Log id h' room (mays E) kept' from'' Ph' C' A' B' ∧ Own h' 6 added' ((mays E).map Ev.cs)
  | 0, m + 1, i, h, room, kept, from', Ph, C, A, B, added, hi, hm, L, O, s0, sk => by
    have hi' : i = E.length := by omega
    subst hi'
    rw [List.take_length] at L O
    refine ⟨h, kept, from', Ph, C, A, B, added, ?_, L, O⟩
    rw [L7_0]
    simp only [evs_len, bs, itF, itT, ifT, ifF, dF (show ¬ (E.length : Int) < (E.length : Int) by omega)]
  | k + 1, m + 1, i, h, room, kept, from', Ph, C, A, B, added, hi, hm, L, O, s0, sk => by
    have hi1 : i < E.length := by omega
    have ht : E.take (i + 1) = E.take i ++ [E[i]] := by rw [List.take_add_one, List.getElem?_eq_getElem hi1]; rfl
    have e2 : IntKind.i64.wrap ((i : Int) + 1) = ((i + 1 : Nat) : Int) := by rw [wrapIn (by omega)]; omega
    have hml := mays_le E i
    rw [L7_0]
    simp only [evs_len, bs, itF, itT, ifT, ifF, dT (show (i : Int) < (E.length : Int) by omega), evs_at E hi1, q0, q1, q2, q3, q4, q5, o0, o1, o2, o3, o4, o5, asInt_some]
    by_cases hmay : May E[i]
    · have hm1 : mays (E.take (i + 1)) = mays (E.take i) ++ [E[i]] := by rw [mays, ht, List.filter_append]; simp [hmay]
      obtain ⟨h1, kept1, from1, Ph1, C1, A1, B1, ea, L1, hlen1, hk1, hid1, _⟩ := add L (by omega) N E[i] hmay
      rw [← hm1] at L1
      have O1 : Own h1 6 added ((mays (E.take i)).map Ev.cs) := O.frame fun j hj => hk1 j (O.sl'.lt hj) (fun e => s0 (by rw [hj, e])) (sk j hj)
      obtain ⟨v2, h2, e3, O2, k2, hid2, _⟩ := O1.app1 E[i].cs rfl (by simp [mostCells]; omega)
      have e3' : happ h1 added 6 1 [I E[i].kind, I E[i].core, I E[i].n, I E[i].gen, I E[i].a, I E[i].b] = some (v2, h2) := e3
      have sk1 : ∀ j, oid added = some j → oid kept1 ≠ some j := by
        intro j hj
        rcases hid1 with e | e
        · rw [e]; exact sk j hj
        · rw [e]; intro hh; have := Option.some.inj hh; have := O.sl'.lt hj; omega
      have L2 : Log id h2 room (mays (E.take (i + 1))) kept1 from1 Ph1 C1 A1 B1 := L1.keep k2 s0 (fun j hj hh => sk1 j hh hj)
      have s02 : oid v2 ≠ some id := by
        rcases hid2 with e | e
        · rw [e]; exact s0
        · rw [e]; intro hh; have := Option.some.inj hh; have := L1.lt0; omega
      have sk2 : ∀ j, oid v2 = some j → oid kept1 ≠ some j := by
        intro j hj
        rcases hid2 with e | e
        · exact sk1 j (by rw [← e]; exact hj)
        · rw [e] at hj; intro hh
          have := L1.own.sl'.lt hh
          have := Option.some.inj hj
          omega
      have O2' : Own h2 6 v2 ((mays (E.take (i + 1))).map Ev.cs) := by rw [hm1, List.map_append]; exact O2
      obtain ⟨h', kept', from'', Ph', C', A', B', added', ef, Lf, Of⟩ := addsL N id a0 E hE k m (i + 1) h2 room kept1 from1 Ph1 C1 A1 B1 v2 (by omega) (by omega) L2 O2' s02 sk2
      refine ⟨h', kept', from'', Ph', C', A', B', added', ?_, Lf, Of⟩
      simp only [ea, bs, may, dT hmay, itF, itT, ifT, ifF, beq_self_eq_true, Bool.not_true, e3', e2]
      exact ef
    · have hm1 : mays (E.take (i + 1)) = mays (E.take i) := by rw [mays, ht, List.filter_append]; simp [hmay]
      rw [← hm1] at L O
      obtain ⟨h', kept', from'', Ph', C', A', B', added', ef, Lf, Of⟩ := addsL N id a0 E hE k m (i + 1) h room kept from' Ph C A B added (by omega) (by omega) L O s0 sk
      refine ⟨h', kept', from'', Ph', C', A', B', added', ?_, Lf, Of⟩
      have e4 : (!((1 : Int) == 0) == false) = false := by decide
      simp only [add_not L.obj L.room1.1 N E[i] hmay, bs, may, dF hmay, itF, itT, ifT, ifF, show ((1 : Int) == 0) = false from rfl, beq_self_eq_true, Bool.not_true, e2]
      exact ef

section
variable {id : Nat} {h : H} {room : Int} {Ad : List Ev} {kept : V} {from' : Nat} {Ph : List Ev} {C A B : List Int}

theorem countsL (L : Log id h room Ad kept from' Ph C A B) (hb : Ad.length < 4611686018427387904) (N : Nat) (x1 : Int) (x2 x3 : V) (x4 x5 : Int) : ∀ (k m i : Nat) (s : Int), i + k = 11 → 1 ≤ i → k < m → s + (C.drop i).sum = Ad.length → 0 ≤ s →
    L7_1 N m (x1, (pt id), x2, x3, x4, s, x5, (i : Int), h) = some (x1, (pt id), x2, x3, x4, (Ad.length : Int), x5, h)
  | 0, m + 1, i, s, hi, h1, hm, hs, hp => by
    have : i = 11 := by omega
    subst this
    rw [L7_1]
    rw [List.drop_of_length_le (by rw [L.lenC]; omega)] at hs
    simp only [List.sum_nil, Int.add_zero] at hs
    simp only [itF, itT, ifT, ifF, dF (show ¬ ((11 : Nat) : Int) ≤ 10 by omega), hs]
  | k + 1, m + 1, i, s, hi, h1, hm, hs, hp => by
    have hi' : i < C.length := by rw [L.lenC]; omega
    have hd : C.drop i = at' C i :: C.drop (i + 1) := by rw [List.drop_eq_getElem_cons hi', at']; simp [hi']
    rw [hd, List.sum_cons] at hs
    have p1 := L.Cpos i
    have p2 : ∀ (X : List Int), (∀ x ∈ X, 0 ≤ x) → 0 ≤ X.sum := by
      intro X
      induction X with
      | nil => simp
      | cons x X ih => intro h; have := h x (by simp); have := ih fun y hy => h y (by simp [hy]); simp; omega
    have p3 : 0 ≤ (C.drop (i + 1)).sum := p2 _ fun x hx => by
      have hx' := List.mem_of_mem_drop hx
      obtain ⟨j, hj, rfl⟩ := List.mem_iff_getElem.1 hx'
      have := L.Cpos j
      simpa [at', hj] using this
    have e2 : IntKind.i64.wrap ((i : Int) + 1) = ((i + 1 : Nat) : Int) := by rw [wrapIn (by omega)]; omega
    have e3 : IntKind.i64.wrap (s + at' C i) = s + at' C i := wrapIn (by omega)
    rw [L7_1]
    simp only [itF, itT, ifT, ifF, dT (show (i : Int) ≤ 10 by omega), count L N h1 (show i ≤ 10 by omega), bs, e2, e3]
    exact countsL L hb N x1 x2 x3 x4 x5 k m (i + 1) _ (by omega) (by omega) (by omega) (by omega) (by omega)

/-- Of one process? -/
def eqp (a b : Ev) : Bool := (a.n == b.n) && (a.gen == b.gen)

theorem freshL (N : Nat) {v : V} {X : List Ev} (hv : Sl h 6 v (X.map Ev.cs)) (hb : X.length < 4611686018427387904) {i : Nat} (hi : i < X.length) (q : V) (cnt : Int) : ∀ (k m j : Nat) (b : Bool), j + k = i → k < m →
    L7_3 N m (q, v, cnt, (i : Int), b, (j : Int), h) = some (q, v, cnt, (i : Int), (b && ((X.take i).drop j).all fun f => !eqp f X[i]), h)
  | 0, m + 1, j, b, hj, hm => by
    have : j = i := by omega
    subst this
    rw [L7_3]
    rw [List.drop_of_length_le (by rw [List.length_take]; omega)]
    simp only [itF, itT, ifT, ifF, dF (show ¬ (j : Int) < (j : Int) by omega), List.all_nil, Bool.and_true]
  | k + 1, m + 1, j, b, hj, hm => by
    have hj1 : j < X.length := by omega
    have hj2 : j < (X.take i).length := by rw [List.length_take]; omega
    have hd : (X.take i).drop j = X[j] :: (X.take i).drop (j + 1) := by rw [List.drop_eq_getElem_cons hj2]; simp
    obtain ⟨q1, eq1, a0, a1, a2, a3, a4, a5⟩ := evAt hv hj1
    obtain ⟨q2, eq2, b0, b1, b2, b3, b4, b5⟩ := evAt hv hi
    have e2 : IntKind.i64.wrap ((j : Int) + 1) = ((j + 1 : Nat) : Int) := by rw [wrapIn (by omega)]; omega
    have pd : ∀ (q : V) (j : Nat), rd h (padd q 2) j = rd h q (2 + j) := by
      intro q j
      cases q <;> simp [padd, rd, Nat.add_assoc]
    rw [L7_3]
    cases b with
    | true =>
      simp only [itF, itT, ifT, ifF, dT (show (j : Int) < (i : Int) by omega), eq1, eq2, bs, pd, Nat.add_zero, Nat.reduceAdd, a2, a3, b2, b3, asInt_some, e2, Bool.and_true]
      rw [freshL N hv hb hi q cnt k m (j + 1) _ (by omega) (by omega), hd, List.all_cons, Bool.true_and]
      rfl
    | false =>
      simp only [itF, itT, ifT, ifF, dT (show (j : Int) < (i : Int) by omega), bs, e2, Bool.false_eq_true, if_false]
      rw [freshL N hv hb hi q cnt k m (j + 1) _ (by omega) (by omega), Bool.false_and, Bool.false_and]

theorem eqp_symm (a b : Ev) : eqp a b = eqp b a := by simp only [eqp, Bool.beq_comm]
theorem eqp_trans {a b c : Ev} (h1 : eqp a b = true) (h2 : eqp b c = true) : eqp a c = true := by
  simp only [eqp, Bool.and_eq_true, beq_iff_eq] at *; omega

theorem countStep (Y : List Ev) (x : Ev) : ∀ X : List Ev, (X.filter fun e => (Y ++ [x]).any (eqp e)).length = (X.filter fun e => Y.any (eqp e)).length + if (Y.all fun f => !eqp f x) = true then (X.filter fun e => eqp e x).length else 0
  | [] => by simp
  | e :: X => by
    have ih := countStep Y x X
    simp only [List.filter_cons, List.any_append, List.any_cons, List.any_nil, Bool.or_false] at ih ⊢
    cases h1 : Y.any (eqp e) with
    | true =>
      simp only [Bool.true_or, if_true, List.length_cons, ih]
      cases h2 : eqp e x with
      | true =>
        have : (Y.all fun f => !eqp f x) = false := by
          rw [List.any_eq_true] at h1
          obtain ⟨f, hf, h1⟩ := h1
          rw [List.all_eq_false]
          exact ⟨f, hf, by rw [eqp_trans (by rw [eqp_symm]; exact h1) h2]; simp⟩
        simp only [this, Bool.false_eq_true, if_false]
      | false => simp only [Bool.false_eq_true, if_false]; omega
    | false =>
      cases h2 : eqp e x with
      | true =>
        have : (Y.all fun f => !eqp f x) = true := by
          rw [List.all_eq_true]
          intro f hf
          cases h3 : eqp f x with
          | false => rfl
          | true =>
            rw [List.any_eq_false] at h1
            exact absurd (eqp_trans h2 (by rw [eqp_symm]; exact h3)) (h1 f hf)
        simp only [this, if_true, Bool.false_or, List.length_cons, ih, Bool.false_eq_true, if_false]
        omega
      | false => simp only [Bool.false_or, Bool.false_eq_true, if_false, ih]

/-- How many are of the processes of the first ones. -/
def among (X : List Ev) (i : Nat) : Nat := (X.filter fun e => (X.take i).any (eqp e)).length

theorem among_le (X : List Ev) (i : Nat) : among X i ≤ X.length := List.length_filter_le ..
theorem among_all (X : List Ev) : among X X.length = X.length := by
  rw [among, List.filter_eq_self.2]
  intro e he
  rw [List.take_length, List.any_eq_true]
  exact ⟨e, he, by simp [eqp]⟩

theorem distinctL (N : Nat) (hN : 4098 ≤ N) {X : List Ev} {v : V} : ∀ (k m i : Nat) (h : H), i + k = X.length → k < m → Log id h room Ad kept from' Ph C A B → X = last Ad Ph → Sl h 6 v (X.map Ev.cs) →
    ∃ h', L7_2 N m ((pt id), v, (among X i : Int), (i : Int), h) = some (v, (X.length : Int), h')
  | 0, m + 1, i, h, hi, hm, L, hX, hv => by
    have hi' : i = X.length := by omega
    subst hi'
    refine ⟨h, ?_⟩
    rw [L7_2]
    simp only [hv.len, List.length_map, bs, itF, itT, ifT, ifF, dF (show ¬ (X.length : Int) < (X.length : Int) by omega), among_all]
  | k + 1, m + 1, i, h, hi, hm, L, hX, hv => by
    have hi1 : i < X.length := by omega
    have hl : X.length ≤ Ph.length := by rw [hX]; simp [last]; omega
    have hlen := L.len
    have hroom := L.room1
    obtain ⟨q, eq, a0, a1, a2, a3, a4, a5⟩ := evAt hv hi1
    have e2 : IntKind.i64.wrap ((i : Int) + 1) = ((i + 1 : Nat) : Int) := by rw [wrapIn (by omega)]; omega
    have pd : ∀ (q : V) (j : Nat), rd h (padd q 2) j = rd h q (2 + j) := by
      intro q j
      cases q <;> simp [padd, rd, Nat.add_assoc]
    have fr := freshL N hv (by omega) hi1 (pt id) (among X i : Int) i N 0 true (by omega) (by omega)
    simp only [List.drop_zero, Bool.true_and, Int.ofNat_zero] at fr
    have st := countStep (X.take i) X[i] X
    have ht : X.take (i + 1) = X.take i ++ [X[i]] := by rw [List.take_add_one, List.getElem?_eq_getElem hi1]; rfl
    rw [← ht] at st
    have ale := among_le X (i + 1)
    rw [L7_2]
    simp only [hv.len, List.length_map, bs, itF, itT, ifT, ifF, dT (show (i : Int) < (X.length : Int) by omega)]
    rw [show L7_3 N N ((pt id), v, (among X i : Int), (i : Int), true, 0, h) = _ from fr]
    cases hf : (X.take i).all fun f => !eqp f X[i] with
    | true =>
      rw [hf] at st
      simp only [if_true] at st
      obtain ⟨v2, h2, e3, s3, k3, f3⟩ := ofs L X[i].n X[i].gen (N := N) (by omega)
      rw [← hX] at s3
      have hst : among X (i + 1) = among X i + (X.filter fun e => (e.n == X[i].n) && (e.gen == X[i].gen)).length := st
      have e4 : IntKind.i64.wrap ((among X i : Int) + ((X.filter fun e => (e.n == X[i].n) && (e.gen == X[i].gen)).length : Int)) = (among X (i + 1) : Int) := by rw [wrapIn (by omega)]; omega
      obtain ⟨h', ef⟩ := distinctL N hN k m (i + 1) h2 (by omega) (by omega) (L.keep k3 (by simp) (by simp)) hX (hv.frame fun j hj => k3.2 j (hv.lt hj) (by simp))
      refine ⟨h', ?_⟩
      simp only [bs, itF, itT, ifT, ifF, eq, pd, Nat.add_zero, Nat.reduceAdd, a2, a3, asInt_some, e3, s3.sl'.len, List.length_map, e4, e2]
      exact ef
    | false =>
      rw [hf] at st
      simp only [Bool.false_eq_true, if_false, Nat.add_zero] at st
      have hst : among X (i + 1) = among X i := st
      obtain ⟨h', ef⟩ := distinctL N hN k m (i + 1) h (by omega) (by omega) L hX hv
      refine ⟨h', ?_⟩
      simp only [bs, itF, itT, ifT, ifF, e2]
      rw [← hst]
      exact ef
end

end Go.Proofs.Ytbpibiapjangmaa.logs
