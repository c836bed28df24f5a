/- Package log: the loops of the law LogPlays. -/
import Derived.Test.YtbpibiapjangmaaLogD
import Derived.Test.YtbpibiapjangmaaLogF
namespace Go.Proofs.Ytbpibiapjangmaa.logs
open Go Go.L
set_option linter.unusedVariables false
set_option linter.unusedSimpArgs false

theorem asAgg35 {cs : List V} (h : cs.length = 35) : L.asAgg 35 (some (.agg cs)) = some cs := by
  simp [L.asAgg, h]

theorem cnt0 {C : List Int} (h0 : at' C 0 = 0) {z : Int} (hz : z < 1 ∨ z > 10) : cnt C z = 0 := by
  rw [cnt]
  by_cases h : 0 ≤ z ∧ z < 11
  · have : z = 0 := by omega
    subst this
    rw [if_pos h]; exact h0
  · rw [if_neg h]

section
variable {room : Int} {Ad : List Ev} {kept : V} {from' : Nat} {Ph : List Ev} {C A B : List Int}

theorem tallyL {id : Nat} {h : H} (L : Log id h room Ad kept from' Ph C A B) (N : Nat) (kr : V) (y1 y2 y3 : Int) : ∀ (k m i : Nat), i + k = 13 → k < m →
    L9_1 N m (y1, pt id, (i : Int) - 1, y2, y3, lr room kr C A B, h) = some (.inl (y1, pt id, y2, y3, lr room kr C A B, h))
  | 0, m + 1, i, hi, hm => by
    have : i = 13 := by omega
    subst this
    rw [L9_1]
    simp only [itF, itT, ifT, ifF, dF (show ¬ ((13 : Nat) : Int) - 1 < 12 by omega)]
  | k + 1, m + 1, i, hi, hm => by
    have hl := lr_len (room := room) (kr := kr) L.lenC L.lenA L.lenB
    have hw := lr_whole (room := room) (kr := kr) L.lenC L.lenA L.lenB
    have e2 : IntKind.i64.wrap ((i : Int) - 1 + 1) = ((i + 1 : Nat) : Int) - 1 := by rw [wrapIn (by omega)]; omega
    have nn : ∀ x : Int, (x != x) = false := by simp
    rw [L9_1]
    by_cases hz : 0 ≤ (i : Int) - 1 ∧ (i : Int) - 1 < 11
    · obtain ⟨j, hj⟩ := Int.eq_ofNat_of_zero_le hz.1
      rw [hj] at hz e2 ⊢
      have c1 : cnt A (j : Int) = at' A j := by rw [cnt, if_pos hz]; rfl
      have c2 : cnt B (j : Int) = at' B j := by rw [cnt, if_pos hz]; rfl
      have g1 : (lr room kr C A B)[((13 + Int.toNat (j : Int) * 1) + 0)]? = some (I (at' A j)) := by
        have : (13 + Int.toNat (j : Int) * 1) + 0 = 13 + j := by simp
        rw [this, lr_A L.lenC L.lenA (by omega)]
      have g2 : (lr room kr C A B)[((24 + Int.toNat (j : Int) * 1) + 0)]? = some (I (at' B j)) := by
        have : (24 + Int.toNat (j : Int) * 1) + 0 = 24 + j := by simp
        rw [this, lr_B L.lenC L.lenA L.lenB (by omega)]
      simp only [itF, itT, ifT, ifF, dT (show (j : Int) < 12 by omega), sumZ L, countZ L, refCount L.lenC L.lenA L.lenB, bs, hw, nn, dT (show (j : Int) ≥ 0 by omega), dT (show (j : Int) < 11 by omega), if_pos hz.1, if_pos hz.2, g1, g2, asInt_some, c1, c2, dF (show ¬ (j : Int) < 0 by omega), dF (show ¬ (j : Int) > 10 by omega), e2]
      exact tallyL L N kr y1 y2 y3 k m (i + 1) (by omega) (by omega)
    · have hz' : (i : Int) - 1 < 1 ∨ (i : Int) - 1 > 10 := by omega
      have c1 := cnt0 L.A0 hz'
      have c2 := cnt0 L.B0 hz'
      by_cases h1 : (i : Int) - 1 ≥ 0
      · simp only [itF, itT, ifT, ifF, dT (show (i : Int) - 1 < 12 by omega), sumZ L, countZ L, refCount L.lenC L.lenA L.lenB, bs, hw, nn, dT h1, dF (show ¬ (i : Int) - 1 < 11 by omega), c1, c2, dF (show ¬ (i : Int) - 1 < 0 by omega), dT (show (i : Int) - 1 > 10 by omega), e2]
        exact tallyL L N kr y1 y2 y3 k m (i + 1) (by omega) (by omega)
      · simp only [itF, itT, ifT, ifF, dT (show (i : Int) - 1 < 12 by omega), sumZ L, countZ L, refCount L.lenC L.lenA L.lenB, bs, hw, nn, dF h1, c1, c2, dT (show (i : Int) - 1 < 0 by omega), e2]
        exact tallyL L N kr y1 y2 y3 k m (i + 1) (by omega) (by omega)

/-- An event joins the log and the reference log. -/
theorem step {h : H} (L : Log 0 h room Ad kept from' Ph C A B) (hAd : Ad.length < 4611686018427387903) {kr : V} (ho : Own h 6 kr ((last Ad Ph).map Ev.cs)) (h0 : oid kr ≠ some 0) (hk : ∀ j, oid kr = some j → oid kept ≠ some j) (N : Nat) (e : Ev) :
    ∃ (code : Int) (h1 : H) (kr1 : V) (h2 : H) (kept1 : V) (from1 : Nat) (Ph1 : List Ev) (C1 A1 B1 : List Int), F36 N (pt 0, e.kind, e.core, e.n, e.gen, e.a, e.b, h) = some (code, h1) ∧
      F45 N (lr room kr C A B, e.kind, e.core, e.n, e.gen, e.a, e.b, h1) = some (lr room kr1 C1 A1 B1, code, h2) ∧ Log 0 h2 room (if May e then Ad ++ [e] else Ad) kept1 from1 Ph1 C1 A1 B1 ∧
      Own h2 6 kr1 ((last (if May e then Ad ++ [e] else Ad) Ph1).map Ev.cs) ∧ oid kr1 ≠ some 0 ∧ (∀ j, oid kr1 = some j → oid kept1 ≠ some j) := by
  by_cases he : May e
  · obtain ⟨h1, kept1, from1, Ph1, C1, A1, B1, ea, L1, hlen1, hk1, hid1, hA1, hB1, hC1⟩ := add L hAd N e he
    have o1 : Own h1 6 kr ((last Ad Ph).map Ev.cs) := ho.frame fun j hj => hk1 j (ho.sl'.lt hj) (fun e => h0 (by rw [hj, e])) (hk j hj)
    have hph := L.phle
    have hlen := L.len
    have hroom := L.room1
    have hll : (last Ad Ph).length = Ph.length := by simp [last]; omega
    have hs := L.sum
    obtain ⟨kr1, h2, e2, o2, k2, f2⟩ := refAdd o1 L.lenC L.lenA L.lenB (by omega) L.room1 (fun i => ⟨L.Cpos i, by have := sum_at C i L.Cpos; omega⟩) L.Ab L.Bb N e he
    rw [← hA1, ← hB1, ← hC1] at e2
    have hl1 := L1.lt0
    refine ⟨0, h1, kr1, h2, kept1, from1, Ph1, C1, A1, B1, ea, e2, ?_, ?_, fun hh => ?_, fun j hj hh => ?_⟩
    · rw [if_pos he]; exact L1.keep k2 (by simp) (by simp)
    · rw [if_pos he, last_step L L1]; exact o2
    · have := f2 _ hh; omega
    · have := f2 _ hj; have := L1.own.sl'.lt hh; omega
  · refine ⟨1, h, kr, h, kept, from', Ph, C, A, B, add_not L.obj L.room1.1 N e he, refAddNot L.lenC L.lenA L.lenB N e he, ?_, ?_, h0, hk⟩
    · rw [if_neg he]; exact L
    · rw [if_neg he]; exact ho

/-- An event joins a copy. -/
theorem joins {id b : Nat} {h : H} (L : Log id h room Ad kept from' Ph C A B) (hAd : Ad.length < 4611686018427387903) (hb : b ≤ id) (hk : ∀ j, oid kept = some j → b ≤ j) (N : Nat) (e : Ev) :
    ∃ (code : Int) (h1 : H) (Ad1 : List Ev) (kept1 : V) (from1 : Nat) (Ph1 : List Ev) (C1 A1 B1 : List Int), F36 N (pt id, e.kind, e.core, e.n, e.gen, e.a, e.b, h) = some (code, h1) ∧ Log id h1 room Ad1 kept1 from1 Ph1 C1 A1 B1 ∧
      Ad1.length ≤ Ad.length + 1 ∧ (∀ j, oid kept1 = some j → b ≤ j) ∧ Above b h h1 := by
  by_cases he : May e
  · obtain ⟨h1, kept1, from1, Ph1, C1, A1, B1, ea, L1, hlen1, hk1, hid1, hA1, hB1, hC1⟩ := add L hAd N e he
    have hlt := L.lt0
    refine ⟨0, h1, _, kept1, from1, Ph1, C1, A1, B1, ea, L1, by simp, fun j hj => ?_, hlen1, fun i hi => hk1 i (by omega) (by omega) (fun hh => by have := hk i hh; omega)⟩
    rcases hid1 with e | e
    · exact hk j (by rw [← e]; exact hj)
    · rw [e] at hj; have := Option.some.inj hj; omega
  · exact ⟨1, h, Ad, kept, from', Ph, C, A, B, add_not L.obj L.room1.1 N e he, L, by omega, hk, .refl _ _⟩

theorem playsL (N : Nat) (hN : 5000 ≤ N) (kd n g : Int) (E : List Ev) (hE : E.length ≤ 1048576) : ∀ (k m i : Nat) (h : H) (kept : V) (from' : Nat) (Ph : List Ev) (C A B : List Int) (kr : V), i + k = E.length → k < m →
    Log 0 h room (mays (E.take i)) kept from' Ph C A B → Own h 6 kr ((last (mays (E.take i)) Ph).map Ev.cs) → oid kr ≠ some 0 → (∀ j, oid kr = some j → oid kept ≠ some j) →
    ∃ (h' : H) (kept' : V) (from'' : Nat) (Ph' : List Ev) (C' A' B' : List Int) (kr' : V), L9_0 N m (evs E, kd, pt 0, (i : Int), n, g, lr room kr C A B, h) = some (.inl (kd, pt 0, n, g, lr room kr' C' A' B', h')) ∧
      Log 0 h' room (mays E) kept' from'' Ph' C' A' B' ∧ Own h' 6 kr' ((last (mays E) Ph').map Ev.cs)
  | 0, m + 1, i, h, kept, from', Ph, C, A, B, kr, hi, hm, L, O, s0, sk => by
    have hi' : i = E.length := by omega
    subst hi'
    rw [List.take_length] at L O
    refine ⟨h, kept, from', Ph, C, A, B, kr, ?_, L, O⟩
    rw [L9_0]
    simp only [evs_len, bs, itF, itT, ifT, ifF, dF (show ¬ (E.length : Int) < (E.length : Int) by omega)]
  | k + 1, m + 1, i, h, kept, from', Ph, C, A, B, kr, hi, hm, L, O, s0, sk => by
    have hi1 : i < E.length := by omega
    have ht : E.take (i + 1) = E.take i ++ [E[i]] := by rw [List.take_add_one, List.getElem?_eq_getElem hi1]; rfl
    have e2 : IntKind.i64.wrap ((i : Int) + 1) = ((i + 1 : Nat) : Int) := by rw [wrapIn (by omega)]; omega
    have hml := mays_le E i
    have hml1 := mays_le E (i + 1)
    have hm1 : mays (E.take (i + 1)) = if May E[i] then mays (E.take i) ++ [E[i]] else mays (E.take i) := by
      rw [mays, ht, List.filter_append]
      by_cases hmay : May E[i]
      · rw [if_pos hmay]; simp [hmay]
      · rw [if_neg hmay]; simp [hmay]
    have hl0 := lr_len (room := room) (kr := kr) L.lenC L.lenA L.lenB
    have hw0 := lr_whole (room := room) (kr := kr) L.lenC L.lenA L.lenB
    obtain ⟨code, h1, kr1, h2, kept1, from1, Ph1, C1, A1, B1, ea, eb, L2, O2, s2, sk2⟩ := step L (by omega) O s0 sk N E[i]
    rw [← hm1] at L2 O2
    have hl := lr_len (room := room) (kr := kr1) L2.lenC L2.lenA L2.lenB
    have hw := lr_whole (room := room) (kr := kr1) L2.lenC L2.lenA L2.lenB
    have hz : (((.int .i64 0) :: .nils :: List.replicate 33 (.int .i64 0) : List V)).length = 35 := rfl
    have c5 : splice ((.int .i64 0) :: .nils :: List.replicate 33 (.int .i64 0) : List V) 0 (lr room kr1 C1 A1 B1) = lr room kr1 C1 A1 B1 := splice_all (by rw [hl, hz]) (by rw [hz]; omega)
    have c6 : splice (lr room kr C A B) 0 (lr room kr1 C1 A1 B1) = lr room kr1 C1 A1 B1 := splice_all (by rw [hl, hl0]) (by rw [hl0]; omega)
    have nn : ∀ x : Int, (x != x) = false := by simp
    have ha := asAgg35 hl
    have l1 : 0 + (lr room kr1 C1 A1 B1).length ≤ 35 := by omega
    have l2 : 0 + (lr room kr1 C1 A1 B1).length ≤ (lr room kr C A B).length := by omega
    rw [L9_0]
    simp only [evs_len, bs, itF, itT, ifT, ifF, dT (show (i : Int) < (E.length : Int) by omega), evs_at E hi1, q0, q1, q2, q3, q4, q5, asInt_some, ea, hw0, eb, ha, if_pos hl, if_pos l1, c5, hw, if_pos l2, c6, nn]
    by_cases h7 : (Int.tmod (i : Int) 7 == 3) = true
    · -- a copy is made, compared and changed; the log's own slices are spoilt
      rw [if_pos h7]
      have hAd1 : (mays (E.take (i + 1))).length ≤ 1048576 := by omega
      generalize hAd1e : mays (E.take (i + 1)) = Ad1 at *
      obtain ⟨kept2, h3, e3, L3, k3, f3⟩ := copyL L2 N
      have b3 := k3.1
      have hlt2 := L2.lt0
      obtain ⟨v4, h4, e4, O4, k4, f4⟩ := events L3 N
      have hk4 := k4.1
      have hph := L2.phle
      have hlen := L2.len
      have hroom := L2.room1
      have hll : (last Ad1 Ph1).length = Ph1.length := by simp [last]; omega
      have A4 : Above h2.length h2 h4 := (Above.none k3 (by omega)).trans (Above.none k4 (by omega))
      have L4 := L3.keep k4 (by simp) (by simp)
      have S4 : Sl h4 6 kr1 ((last Ad1 Ph1).map Ev.cs) := A4.sl O2.sl' fun j hj => O2.sl'.lt hj
      have O4r : Own h4 6 kr1 ((last Ad1 Ph1).map Ev.cs) := A4.own O2 fun j hj => O2.sl'.lt hj
      obtain ⟨b5, e5, hb5⟩ := same (N := N) O4.sl' S4 (by omega) (by omega)
      have hb5' : b5 = true := hb5.2 rfl
      subst hb5'
      have e6 := lost L4 (by omega) (N := N) (by omega)
      have e7 := refLost (kr := kr1) L4 (by omega) (N := N) (by omega) O4r
      have e8 := countZ L4 N kd
      have e9 := refCount (room := room) (kr := kr1) L4.lenC L4.lenA L4.lenB N kd h4
      obtain ⟨code1, h5, Ad5, kept5, from5, Ph5, C5, A5, B5, e10, L5, hA5, f5, a5⟩ := joins (b := h2.length) L4 (by omega) (by omega) (fun j hj => by have := f3 j hj; omega) N E[i]
      obtain ⟨code2, h6, Ad6, kept6, from6, Ph6, C6, A6, B6, e11, L6, hA6, f6, a6⟩ := joins (b := h2.length) L5 (by omega) (by omega) f5 N E[0]
      have A6' : Above h2.length h2 h6 := (A4.trans a5).trans a6
      have M6 := L2.above A6' hlt2 fun j hj => L2.own.sl'.lt hj
      obtain ⟨v7, h7', e12, O7, k7, f7⟩ := events M6 N
      have hA6l := A6'.1
      have hk7 := k7.1
      obtain ⟨h8, e13, a8⟩ := spoil (b := h2.length) (N := N) (fun j hj => by have := f7 j hj; omega) (by rw [List.length_map]; omega) (by rw [List.length_map]; omega) (by omega) O7
      have hk8 := a8.1
      have A8 : Above h2.length h2 h8 := (A6'.trans (Above.none k7 (by omega))).trans a8
      have M8 := L2.above A8 hlt2 fun j hj => L2.own.sl'.lt hj
      obtain ⟨v9, h9, e14, O9, k9, f9⟩ := ofs M8 n g (N := N) (by omega)
      have hk9 := k9.1
      have hfl := List.length_filter_le (fun e : Ev => (e.n == n) && (e.gen == g)) (last Ad1 Ph1)
      obtain ⟨h10, e15, a10⟩ := spoil (b := h2.length) (N := N) (fun j hj => by have := f9 j hj; omega) (by rw [List.length_map]; omega) (by rw [List.length_map]; omega) (by omega) O9
      have A10 : Above h2.length h2 h10 := (A8.trans (Above.none k9 (by omega))).trans a10
      obtain ⟨h', kept', from'', Ph', C', A', B', kr', ef, Lf, Of⟩ := playsL N hN kd n g E hE k m (i + 1) h10 kept1 from1 Ph1 C1 A1 B1 kr1 (by omega) (by omega) (by rw [hAd1e]; exact L2.above A10 hlt2 fun j hj => L2.own.sl'.lt hj) (by rw [hAd1e]; exact A10.own O2 fun j hj => O2.sl'.lt hj) s2 sk2
      refine ⟨h', kept', from'', Ph', C', A', B', kr', ?_, Lf, Of⟩
      have ev0 : sidx (evs E) 0 6 = some (.rptr E[0].cs) := evs_at E (show 0 < E.length by omega)
      simp only [e3, bs, pnil, itF, itT, ifT, ifF, e4, lr_kr, e5, Bool.not_true, e6, hw, e7, nn, e8, e9, evs_at E hi1, ev0, q0, q1, q2, q3, q4, q5, asInt_some, e10, e11, e12, e13, e14, e15, e2]
      exact ef
    · rw [if_neg h7]
      obtain ⟨h', kept', from'', Ph', C', A', B', kr', ef, Lf, Of⟩ := playsL N hN kd n g E hE k m (i + 1) h2 kept1 from1 Ph1 C1 A1 B1 kr1 (by omega) (by omega) L2 O2 s2 sk2
      refine ⟨h', kept', from'', Ph', C', A', B', kr', ?_, Lf, Of⟩
      simp only [bs, e2]
      exact ef
end

end Go.Proofs.Ytbpibiapjangmaa.logs
