/- Package log, as plain lists: equal slices, and the events of a process. -/
import Derived.Test.YtbpibiapjangmaaLogB
namespace Go.Proofs.Ytbpibiapjangmaa.logs
open Go Go.L
set_option linter.unusedVariables false
set_option linter.unusedSimpArgs false

/-- An element of a slice of events. -/
theorem evAt {h : H} {v : V} {X : List Ev} (hs : Sl h 6 v (X.map Ev.cs)) {i : Nat} (hi : i < X.length) : ∃ q, sidx v (i : Int) 6 = some q ∧
    rd h q 0 = some (I X[i].kind) ∧ rd h q 1 = some (I X[i].core) ∧ rd h q 2 = some (I X[i].n) ∧ rd h q 3 = some (I X[i].gen) ∧ rd h q 4 = some (I X[i].a) ∧ rd h q 5 = some (I X[i].b) := by
  obtain ⟨q, e, hq⟩ := hs.at i (by simpa using hi)
  refine ⟨q, e, ?_, ?_, ?_, ?_, ?_, ?_⟩ <;> rw [hq _ (by omega)] <;> simp [hi, Ev.cs]

theorem ev_ext {a b : Ev} (h1 : a.kind = b.kind) (h2 : a.core = b.core) (h3 : a.n = b.n) (h4 : a.gen = b.gen) (h5 : a.a = b.a) (h6 : a.b = b.b) : a = b := by
  cases a; cases b; simp at *; exact ⟨h1, h2, h3, h4, h5, h6⟩

theorem sameL (N : Nat) {h : H} {v w : V} {X Y : List Ev} (hv : Sl h 6 v (X.map Ev.cs)) (hw : Sl h 6 w (Y.map Ev.cs)) (hl : X.length = Y.length) (hb : X.length < 4611686018427387904) :
    ∀ (k n i : Nat), i + k = X.length → k < n → (L41_0 N n (v, w, (i : Int), h) = some (.inl h) ∧ X.drop i = Y.drop i) ∨ (L41_0 N n (v, w, (i : Int), h) = some (.inr (false, h)) ∧ X.drop i ≠ Y.drop i)
  | 0, n + 1, i, hi, hn => by
    refine .inl ⟨?_, ?_⟩
    · rw [L41_0]
      simp only [hv.len, List.length_map, bs, itF, itT, ifT, ifF, dF (show ¬ (i : Int) < (X.length : Int) by omega)]
    · rw [List.drop_of_length_le (by omega), List.drop_of_length_le (by omega)]
  | k + 1, n + 1, i, hi, hn => by
    have hi1 : i < X.length := by omega
    have hi2 : i < Y.length := by omega
    obtain ⟨q, eq, a0, a1, a2, a3, a4, a5⟩ := evAt hv hi1
    obtain ⟨r, er, b0, b1, b2, b3, b4, b5⟩ := evAt hw hi2
    have dx : X.drop i = X[i] :: X.drop (i + 1) := List.drop_eq_getElem_cons hi1
    have dy : Y.drop i = Y[i] :: Y.drop (i + 1) := List.drop_eq_getElem_cons hi2
    have e2 : IntKind.i64.wrap ((i : Int) + 1) = ((i + 1 : Nat) : Int) := by rw [wrapIn (by omega)]; omega
    rw [L41_0, dx, dy]
    simp only [hv.len, List.length_map, bs, itF, itT, ifT, ifF, dT (show (i : Int) < (X.length : Int) by omega), eq, er, a0, a1, a2, a3, a4, a5, b0, b1, b2, b3, b4, b5, asInt_some, e2]
    by_cases hxy : X[i] = Y[i]
    · rw [hxy]
      simp only [beq_self_eq_true, Bool.true_and, Bool.not_true, itF, itT, ifT, ifF, ne_eq, List.cons.injEq, true_and]
      exact sameL N hv hw hl hb k n (i + 1) (by omega) (by omega)
    · refine .inr ⟨?_, fun e => hxy (List.cons.inj e).1⟩
      have : ((X[i].kind == Y[i].kind) && ((X[i].core == Y[i].core) && (((X[i].n == Y[i].n) && ((X[i].gen == Y[i].gen) && true)) && ((X[i].a == Y[i].a) && ((X[i].b == Y[i].b) && true))))) = false := by
        rw [Bool.eq_false_iff]
        intro hh
        simp only [Bool.and_eq_true, beq_iff_eq, Bool.and_true] at hh
        exact hxy (ev_ext hh.1 hh.2.1 hh.2.2.1.1 hh.2.2.1.2 hh.2.2.2.1 hh.2.2.2.2)
      rw [this]
      simp only [Bool.not_false, itF, itT, ifT, ifF]

/-- Same. -/
theorem same {N : Nat} {h : H} {v w : V} {X Y : List Ev} (hv : Sl h 6 v (X.map Ev.cs)) (hw : Sl h 6 w (Y.map Ev.cs)) (hb : X.length < 4611686018427387904) (hN : X.length < N) :
    ∃ b, F41 N (v, w, h) = some (b, h) ∧ (b = true ↔ X = Y) := by
  rw [F41]
  simp only [hv.len, hw.len, List.length_map, bs]
  by_cases hl : X.length = Y.length
  · have : ((X.length : Int) != (Y.length : Int)) = false := by rw [hl]; simp
    simp only [this, itF, itT, ifT, ifF]
    rcases sameL N hv hw hl hb X.length N 0 (by omega) (by omega) with ⟨e, hh⟩ | ⟨e, hh⟩
    · rw [show L41_0 N N (v, w, 0, h) = some (.inl h) from e]
      exact ⟨true, rfl, by simpa using hh⟩
    · rw [show L41_0 N N (v, w, 0, h) = some (.inr (false, h)) from e]
      exact ⟨false, rfl, by simpa using hh⟩
  · have : ((X.length : Int) != (Y.length : Int)) = true := by simp; omega
    simp only [this, itF, itT, ifT, ifF]
    exact ⟨false, rfl, by simp; intro e; rw [e] at hl; exact hl rfl⟩

/-- Is an event another process's? -/
def dels (n g : Int) (e : Ev) : Bool := !((e.n == n) && (e.gen == g))

theorem delF {N : Nat} {h : H} {p : V} {n g : Int} (hp0 : rd h p 0 = some (I n)) (hp1 : rd h p 1 = some (I g)) (e : Ev) : F69 N (e.kind, e.core, e.n, e.gen, e.a, e.b, p, h) = some (dels n g e, h) := by
  rw [F69]
  simp only [hp0, hp1, asInt_some, bs, Bool.and_true, dels]

theorem indexL (N : Nat) {h : H} {v p : V} {n g : Int} {X : List Ev} (hv : Sl h 6 v (X.map Ev.cs)) (hb : X.length < 4611686018427387904) (hp0 : rd h p 0 = some (I n)) (hp1 : rd h p 1 = some (I g)) :
    ∀ (k m i : Nat), i + k = X.length → k < m → (L82_0 N m (v, p, (X.length : Int), (i : Int), h) = some (.inl h) ∧ ∀ e ∈ X.drop i, dels n g e = false) ∨
      (∃ j, i ≤ j ∧ j < X.length ∧ L82_0 N m (v, p, (X.length : Int), (i : Int), h) = some (.inr ((j : Int), h)) ∧ (∀ e ∈ (X.drop i).take (j - i), dels n g e = false) ∧ ∀ hj : j < X.length, dels n g X[j] = true)
  | 0, m + 1, i, hi, hm => by
    refine .inl ⟨?_, ?_⟩
    · rw [L82_0]
      simp only [bs, itF, itT, ifT, ifF, dF (show ¬ (i : Int) < (X.length : Int) by omega)]
    · rw [List.drop_of_length_le (by omega)]; simp
  | k + 1, m + 1, i, hi, hm => by
    have hi1 : i < X.length := by omega
    obtain ⟨q, eq, a0, a1, a2, a3, a4, a5⟩ := evAt hv hi1
    have dx : X.drop i = X[i] :: X.drop (i + 1) := List.drop_eq_getElem_cons hi1
    have e2 : IntKind.i64.wrap ((i : Int) + 1) = ((i + 1 : Nat) : Int) := by rw [wrapIn (by omega)]; omega
    rw [L82_0, dx]
    simp only [bs, itF, itT, ifT, ifF, dT (show (i : Int) < (X.length : Int) by omega), eq, a0, a1, a2, a3, a4, a5, asInt_some, e2, delF hp0 hp1 X[i]]
    cases hd : dels n g X[i] with
    | true =>
      refine .inr ⟨i, by omega, hi1, ?_, ?_, fun _ => hd⟩
      · simp only [itT, ifT]
      · rw [Nat.sub_self]; simp
    | false =>
      simp only [itF, ifF]
      rcases indexL N hv hb hp0 hp1 k m (i + 1) (by omega) (by omega) with ⟨e, hh⟩ | ⟨j, j1, j2, e, hh, hd'⟩
      · exact .inl ⟨e, fun x hx => by
          rcases List.mem_cons.1 hx with rfl | hx
          · exact hd
          · exact hh x hx⟩
      · refine .inr ⟨j, by omega, j2, e, fun x hx => ?_, hd'⟩
        have : j - i = (j - (i + 1)) + 1 := by omega
        rw [this, List.take_succ_cons] at hx
        rcases List.mem_cons.1 hx with rfl | hx
        · exact hd
        · exact hh x hx

/-- The events that stay move up. -/
theorem compactL (N : Nat) {p : V} {n g : Int} {v : V} {X : List Ev} (hb : X.length < 4611686018427387904) :
    ∀ (k m w r : Nat) (h : H) (Z : List Ev), r + k = X.length → k < m → w < r → Z.length = X.length → Z.take w = (X.take r).filter (fun e => !dels n g e) → Z.drop r = X.drop r → Own h 6 v (Z.map Ev.cs) →
      rd h p 0 = some (I n) → rd h p 1 = some (I g) → (∀ i, oid p = some i → oid v ≠ some i ∧ i < h.length) → (∃ i ver off, p = .ptr i ver off) →
      ∃ (h' : H) (Z' : List Ev) (w' : Nat), L68_0 N m (v, p, (w : Int), (r : Int), h) = some (v, (w' : Int), h') ∧ Own h' 6 v (Z'.map Ev.cs) ∧ Z'.length = X.length ∧ w' ≤ X.length ∧ Z'.take w' = X.filter (fun e => !dels n g e) ∧ Keeps h h' (oid v)
  | 0, m + 1, w, r, h, Z, hr, hm, hw, hZ, ht, hd, ho, hp0, hp1, hs, hpp => by
    refine ⟨h, Z, w, ?_, ho, hZ, by omega, ?_, .refl _ _⟩
    · rw [L68_0]
      simp only [ho.sl'.len, List.length_map, bs, itF, itT, ifT, ifF, dF (show ¬ (r : Int) < (Z.length : Int) by omega)]
    · rw [ht, List.take_of_length_le (by omega)]
  | k + 1, m + 1, w, r, h, Z, hr, hm, hw, hZ, ht, hd, ho, hp0, hp1, hs, hpp => by
    have hr1 : r < X.length := by omega
    have hr2 : r < Z.length := by omega
    have hZX : Z[r] = X[r] := by
      have d1 : Z.drop r = Z[r] :: Z.drop (r + 1) := List.drop_eq_getElem_cons hr2
      have d2 : X.drop r = X[r] :: X.drop (r + 1) := List.drop_eq_getElem_cons hr1
      rw [d1, d2] at hd
      exact (List.cons.inj hd).1
    have hd1 : Z.drop (r + 1) = X.drop (r + 1) := by
      have := congrArg (List.drop 1) hd
      rwa [List.drop_drop, List.drop_drop] at this
    obtain ⟨q, eq, a0, a1, a2, a3, a4, a5⟩ := evAt ho.sl' hr2
    rw [hZX] at a0 a1 a2 a3 a4 a5
    have e2 : IntKind.i64.wrap ((r : Int) + 1) = ((r + 1 : Nat) : Int) := by rw [wrapIn (by omega)]; omega
    have e3 : IntKind.i64.wrap ((w : Int) + 1) = ((w + 1 : Nat) : Int) := by rw [wrapIn (by omega)]; omega
    have hX1 : X.take (r + 1) = X.take r ++ [X[r]] := by rw [List.take_add_one, List.getElem?_eq_getElem hr1]; rfl
    rw [L68_0]
    simp only [ho.sl'.len, List.length_map, bs, itF, itT, ifT, ifF, dT (show (r : Int) < (Z.length : Int) by omega), eq, a0, a1, a2, a3, a4, a5, asInt_some, e2, delF hp0 hp1 X[r]]
    cases hdl : dels n g X[r] with
    | true =>
      simp only [nT, itF, ifF, bs, e2]
      exact compactL N hb k m w (r + 1) h Z (by omega) (by omega) (by omega) hZ (by rw [hX1, List.filter_append, ht]; simp [hdl]) hd1 ho hp0 hp1 hs hpp
    | false =>
      obtain ⟨q', h39, eq', ew, o39, k39⟩ := ho.wr w (by simp; omega) X[r].cs rfl (by omega)
      have ew' : wr h q' [I X[r].kind, I X[r].core, I X[r].n, I X[r].gen, I X[r].a, I X[r].b] = some h39 := ew
      rw [← List.map_set] at o39
      obtain ⟨pi, pv, po, rfl⟩ := hpp
      obtain ⟨hs1, hs2⟩ := hs pi rfl
      have hob := k39.2 pi hs2 hs1
      have hrd : ∀ j, rd h39 (.ptr pi pv po) j = rd h (.ptr pi pv po) j := fun j => by simp only [rd, hob]
      obtain ⟨h', Z', w', e, o', l', wl, t', k'⟩ := compactL N hb k m (w + 1) (r + 1) h39 (Z.set w X[r]) (by omega) (by omega) (by omega) (by simpa using hZ)
        (by
          rw [hX1, List.filter_append, ← ht]
          simp only [List.filter_cons, hdl, Bool.not_false, if_true, List.filter_nil]
          rw [List.take_add_one, List.take_set_of_le (Nat.le_refl _), List.getElem?_set_self (by omega)]; rfl)
        (by rw [List.drop_set_of_lt (by omega)]; exact hd1) o39 (by rw [hrd]; exact hp0) (by rw [hrd]; exact hp1) (fun i hi => ⟨(hs i hi).1, by have := (hs i hi).2; have := k39.1; omega⟩) ⟨_, _, _, rfl⟩
      refine ⟨h', Z', w', ?_, o', l', wl, t', k39.trans k'⟩
      simp only [nF, itT, ifT, bs, eq', ew', e3, e2]
      exact e

/-- DeleteFunc of the events of others. -/
theorem drops {N : Nat} {p : V} {n g : Int} {v : V} {X : List Ev} {h : H} (hb : X.length < 4611686018427387904) (hN : X.length + 1 < N) (ho : Own h 6 v (X.map Ev.cs)) (hp0 : rd h p 0 = some (I n)) (hp1 : rd h p 1 = some (I g))
    (hs : ∀ i, oid p = some i → oid v ≠ some i ∧ i < h.length) (hpp : ∃ i ver off, p = .ptr i ver off) :
    ∃ v' h', F68 N (v, p, h) = some (v', h') ∧ Own h' 6 v' ((X.filter (fun e => !dels n g e)).map Ev.cs) ∧ Keeps h h' (oid v) ∧ oid v' = oid v := by
  rw [F68, F82]
  simp only [ho.sl'.len, List.length_map, bs]
  rcases indexL N ho.sl' hb hp0 hp1 X.length N 0 (by omega) (by omega) with ⟨e, hh⟩ | ⟨j, j1, j2, e, hh, hd⟩
  · refine ⟨v, h, ?_, ?_, .refl _ _, rfl⟩
    · rw [show L82_0 N N (v, p, (X.length : Int), 0, h) = some (.inl h) from e]
      simp only [bs, beq_self_eq_true, itT, ifT]
    · rw [List.filter_eq_self.2 (fun a ha => by rw [hh a (by simpa using ha)]; rfl)]
      exact ho
  · rw [show L82_0 N N (v, p, (X.length : Int), 0, h) = some (.inr ((j : Int), h)) from e]
    have e0 : ((j : Int) == -1) = false := by simp
    have e1 : IntKind.i64.wrap ((j : Int) + 1) = ((j + 1 : Nat) : Int) := by rw [wrapIn (by omega)]; omega
    have hX1 : X.take (j + 1) = X.take j ++ [X[j]] := by rw [List.take_add_one, List.getElem?_eq_getElem j2]; rfl
    simp only [List.drop_zero, Nat.sub_zero] at hh
    obtain ⟨h47, Z, w, el, oZ, lZ, wl, tZ, kZ⟩ := compactL N (p := p) hb (X.length - (j + 1)) N j (j + 1) h X (by omega) (by omega) (by omega) rfl
      (by
        rw [hX1, List.filter_append, List.filter_eq_self.2 (fun a ha => by rw [hh a ha]; rfl)]
        simp [hd j2]) rfl ho hp0 hp1 hs hpp
    obtain ⟨v1, v2, h50, c1, c2, c3, s2, k2, i2⟩ := oZ.wipe w (by simp; omega) (List.replicate 6 (.int .i64 0)) (by simp)
    rw [List.length_map] at c1
    refine ⟨v2, h50, ?_, ?_, kZ.trans k2, i2⟩
    · simp only [bs, e0, itF, ifF, e1, el, oZ.sl'.len, List.length_map, c1, c2, c3]
    · rw [← List.map_take, tZ] at s2
      exact s2

/-- The events of a process. -/
theorem ofs {id : Nat} {h : H} {room : Int} {Ad : List Ev} {kept : V} {from' : Nat} {Ph : List Ev} {C A B : List Int} (L : Log id h room Ad kept from' Ph C A B) (n g : Int) {N : Nat} (hN : Ph.length + 1 < N) :
    ∃ v h', F42 N ((pt id), n, g, h) = some (v, h') ∧ Own h' 6 v (((last Ad Ph).filter (fun e => (e.n == n) && (e.gen == g))).map Ev.cs) ∧ Keeps h h' none ∧ (∀ i, oid v = some i → h.length ≤ i) := by
  have k1 := Keeps.push h (O.cells 0 [I n, I g])
  have L1 := L.keep k1 (by simp) (by simp)
  obtain ⟨v2, h3, e2, o2, k3, f2⟩ := events L1 N
  have hl : (last Ad Ph).length ≤ Ph.length := by simp [last]; omega
  have hroom := L.room1
  have hlen := L.len
  have hob : h3[h.length]? = some (.cells 0 [I n, I g]) := by rw [k3.2 h.length (by simp) (by simp)]; simp
  have hl1 : (h ++ [O.cells 0 [I n, I g]]).length = h.length + 1 := by simp
  obtain ⟨v4, h5, e4, s4, k5, i4⟩ := drops (N := N) (p := .ptr h.length 0 0) (n := n) (g := g) (by omega) (by omega) o2 (by rw [rd_obj hob]; rfl) (by rw [rd_obj hob]; rfl)
    (fun i hi => by
      have hi' : h.length = i := by simpa [oid] using hi
      subst hi'
      refine ⟨fun hh => ?_, (List.getElem?_eq_some_iff.1 hob).1⟩
      have := f2 _ hh
      omega) ⟨_, _, _, rfl⟩
  refine ⟨v4, h5, ?_, ?_, ?_, ?_⟩
  · rw [F42]
    simp only [bs, e2, e4]
  · have : (fun e : Ev => !dels n g e) = fun e => (e.n == n) && (e.gen == g) := by funext e; simp [dels]
    rw [this] at s4
    exact s4
  · refine ⟨by have := k1.1; have := k3.1; have := k5.1; omega, fun i hi _ => ?_⟩
    have hk3 := k3.1
    rw [k5.2 i (by omega) (fun hh => by have := f2 i hh; omega), k3.2 i (by omega) (by simp), k1.2 i hi (by simp)]
  · intro i hi
    rw [i4] at hi
    have := f2 i hi
    omega

end Go.Proofs.Ytbpibiapjangmaa.logs
