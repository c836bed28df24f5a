/- What is lent, kept, written over. -/
import Derived.Test.YtbpibiapjangmaaTabO
import Derived.Test.YtbpibiapjangmaaTabF
namespace Go.Proofs.Ytbpibiapjangmaa.tabs
open Go Go.L
set_option linter.unusedVariables false
set_option linter.unusedSimpArgs false

def marks (i : Nat) : List V := (List.range i).map fun t : Nat => I (-770000 - (t : Int))
theorem marks_len (i : Nat) : (marks i).length = i := by simp [marks]
theorem marks_succ (i : Nat) : marks (i + 1) = marks i ++ [I (-770000 - (i : Int))] := by simp [marks, List.range_succ]
theorem marks_get {i t : Nat} (h : t < i) : (marks i)[t]? = some (I (-770000 - (t : Int))) := by simp [marks, h]

theorem ones_flat (G : List Int) : (ones G).flatten = G.map I := by
  induction G with
  | nil => rfl
  | cons x G ih => simp only [ones, List.map_cons, List.flatten_cons] at ih ⊢; rw [ih]; rfl

theorem splice_app (xs rest new : List V) (hl : new.length ≤ rest.length) : splice (xs ++ rest) xs.length new = xs ++ new ++ rest.drop new.length := by
  unfold splice
  split
  · rename_i x
    cases rest with
    | nil => simp at hl
    | cons r rest => simp
  · simp [List.drop_append, List.take_append]

/-- A slice with room behind it. -/
structure Cap (h : H) (v : V) (id : Nat) (xs : List V) (c : Nat) : Prop where
  is : v = .sl id 0 0 xs.length 1 (some c)
  obj : ∃ rest, h[id]? = some (.cells 0 (xs ++ rest)) ∧ xs.length + rest.length = c

theorem Cap.app {h : H} {v : V} {id : Nat} {xs : List V} {c : Nat} (C : Cap h v id xs c) (new : List V) (hc : xs.length + new.length ≤ c) (hb : c ≤ 4294967296) :
    ∃ v' h', happ h v 1 new.length new = some (v', h') ∧ Cap h' v' id (xs ++ new) c ∧ h'.length = h.length ∧ ∀ k, k ≠ id → h'[k]? = h[k]? := by
  obtain ⟨e, rest, ho, hr⟩ := C
  subst e
  by_cases h0 : new.length = 0
  · have : new = [] := List.eq_nil_of_length_eq_zero h0
    subst this
    refine ⟨.sl id 0 0 xs.length 1 (some c), h, ?_, ⟨by simp, rest, by simpa using ho, by simpa using hr⟩, rfl, fun _ _ => rfl⟩
    simp [happ, isSl]
  · have hid : id < h.length := (List.getElem?_eq_some_iff.1 ho).1
    refine ⟨.sl id 0 0 (xs.length + new.length) 1 (some c), h.set id (.cells 0 (splice (xs ++ rest) xs.length new)), ?_, ⟨by simp, rest.drop new.length, ?_, ?_⟩, by simp, fun k hk => List.getElem?_set_ne (Ne.symm hk)⟩
    · have e1 : 0 + xs.length * 1 ≤ (xs ++ rest).length := by simp
      have e2 : (xs.length + new.length) * 1 ≤ mostCells := by simp [mostCells]; omega
      have e3 : 0 + (xs.length + new.length) * 1 ≤ (xs ++ rest).length := by simp; omega
      simp only [happ, if_neg h0, Nat.mul_one, if_true, ho, List.length_append]
      rw [if_pos (by omega), if_pos (by simpa using e2), if_pos hc, if_pos (by omega)]
      simp
    · rw [List.getElem?_set_self hid, splice_app _ _ _ (by omega)]
    · simp; omega

theorem lentL (N : Nat) {id : Nat} {X : List V} (hX : X.length ≤ 1048576) (a0 : V) : ∀ (k m i : Nat) (h : H) (v : V), i + k = 70 → k < m → Cap h v id (X ++ marks i) (X.length + 70) →
    ∃ v' h', L52_0 N m (a0, v, (i : Int), h) = some (a0, v', h') ∧ Cap h' v' id (X ++ marks 70) (X.length + 70) ∧ h'.length = h.length ∧ ∀ k, k ≠ id → h'[k]? = h[k]?
  | 0, m + 1, i, h, v, hi, hm, C => by
    have : i = 70 := by omega
    subst this
    refine ⟨v, h, ?_, C, rfl, fun _ _ => rfl⟩
    rw [L52_0]
    simp only [itT, itF, ifT, ifF, dF (show ¬ ((70 : Nat) : Int) < 70 by omega), Bool.false_eq_true]
  | k + 1, m + 1, i, h, v, hi, hm, C => by
    have e2 : IntKind.i64.wrap ((i : Int) + 1) = ((i + 1 : Nat) : Int) := by rw [wrapIn (by omega)]; omega
    have e3 : IntKind.i64.wrap ((-770000) - (i : Int)) = -770000 - (i : Int) := wrapIn (by omega)
    obtain ⟨v1, h1, e, C1, l1, f1⟩ := C.app [I (-770000 - (i : Int))] (by simp [marks_len]; omega) (by omega)
    rw [List.append_assoc, ← marks_succ] at C1
    obtain ⟨v', h', e', C', l', f'⟩ := lentL N hX a0 k m (i + 1) h1 v1 (by omega) (by omega) C1
    refine ⟨v', h', ?_, C', by omega, fun k hk => (f' k hk).trans (f1 k hk)⟩
    have e' : L52_0 N m (a0, v1, ((i + 1 : Nat) : Int), h1) = _ := e'
    have e1 : happ h v 1 1 [I (-770000 - (i : Int))] = some (v1, h1) := e
    rw [L52_0]
    simp only [itT, ifT, dT (show (i : Int) < 70 by omega), e3, e1, bs, e2, e']

/-- A slice that is lent. -/
structure Lent (h : H) (v : V) (id : Nat) (G : List Int) : Prop where
  is : v = .sl id 0 0 G.length 1 (some (G.length + 70))
  obj : h[id]? = some (.cells 0 (G.map I ++ marks 70))

theorem Lent.sl {h : H} {v : V} {id : Nat} {G : List Int} (l : Lent h v id G) : Sl h 1 v (ones G) := by
  obtain ⟨rfl, ho⟩ := l
  have := Sl.sl (es := 1) id 0 0 (some (G.length + 70)) _ (ones G) ho (by simp) (by simp) (by rw [ones_flat]; simp)
  simpa using this
theorem Lent.frame {h h' : H} {v : V} {id : Nat} {G : List Int} (l : Lent h v id G) (hf : h'[id]? = h[id]?) : Lent h' v id G := ⟨l.is, by rw [hf]; exact l.obj⟩
theorem Lent.oid {h : H} {v : V} {id : Nat} {G : List Int} (l : Lent h v id G) : L.oid v = some id := by rw [l.is]; rfl

theorem lent {N : Nat} (hN : 300 ≤ N) {h : H} {a0 : V} {G : List Int} (hs : Sl h 1 a0 (ones G)) (h0 : oid a0 = none) (hG : G.length ≤ 1048576) :
    ∃ v h', F52 N (a0, h) = some (v, h') ∧ Lent h' v h.length G ∧ h'.length = h.length + 1 ∧ ∀ k, k < h.length → h'[k]? = h[k]? := by
  have sg : slen a0 = some (G.length : Int) := by have := hs.len; simpa using this
  have sn : snlen a0 = G.length := by have := hs.snlen; simpa using this
  have w : IntKind.i64.wrap ((G.length : Int) + 70) = ((G.length + 70 : Nat) : Int) := by rw [wrapIn (by omega)]; omega
  have hc : ((G.length + 70 : Nat) : Int) * ((1 : Nat) : Int) ≤ ((mostCells : Nat) : Int) := by simp [mostCells]; omega
  have f1 : ∀ k, k < h.length → (h ++ [O.cells 0 (repeatC (G.length + 70) [I 0])])[k]? = h[k]? := fun k hk => List.getElem?_append_left hk
  have o1 : (h ++ [O.cells 0 (repeatC (G.length + 70) [I 0])])[h.length]? = some (O.cells 0 (repeatC (G.length + 70) [I 0])) := by simp
  have l1 : (h ++ [O.cells 0 (repeatC (G.length + 70) [I 0])]).length = h.length + 1 := by simp
  generalize hh1 : h ++ [O.cells 0 (repeatC (G.length + 70) [I 0])] = h1 at *
  have hs1 : Sl h1 1 a0 (ones G) := hs.frame fun j hj => by rw [h0] at hj; cases hj
  have cs := hs1.cells
  rw [ones_flat] at cs
  have C0 : Cap h1 (.sl h.length 0 0 0 1 (some (G.length + 70))) h.length [] (G.length + 70) := ⟨rfl, _, by simpa using o1, by simp [repeatC_len]⟩
  obtain ⟨v2, h2, e2, C2, l2, f2⟩ := C0.app (G.map I) (by simp) (by omega)
  rw [List.nil_append] at C2
  have C2' : Cap h2 v2 h.length (G.map I ++ marks 0) ((G.map I).length + 70) := by simpa [marks] using C2
  obtain ⟨v3, h3, e3, C3, l3, f3⟩ := lentL N (by simpa using hG) a0 70 N 0 h2 v2 (by omega) (by omega) C2'
  have e3' : L52_0 N N (a0, v2, 0, h2) = _ := e3
  obtain ⟨iv, rest, hob, hrl⟩ := C3
  have hvl : (G.map I ++ marks 70).length = G.length + 70 := by simp [marks_len]
  have hrest : rest = [] := List.eq_nil_of_length_eq_zero (by rw [hvl, List.length_map] at hrl; omega)
  subst hrest
  rw [List.append_nil] at hob
  rw [hvl, List.length_map] at iv
  refine ⟨.sl h.length 0 0 G.length 1 (some (G.length + 70)), h3, ?_, ⟨rfl, hob⟩, by omega, fun k hk => (f3 k (by omega)).trans ((f2 k (by omega)).trans (f1 k hk))⟩
  have e2' : happ h1 (.sl h.length 0 0 0 1 (some (G.length + 70))) 1 G.length (G.map I) = some (v2, h2) := by simpa using e2
  have s3 : slen v3 = some (((G.length + 70 : Nat)) : Int) := by rw [iv]; rfl
  have c3 : ssl 1 v3 0 (G.length : Int) = some (.sl h.length 0 0 G.length 1 (some (G.length + 70))) := by
    rw [iv]
    have hc : (G.length : Int) ≤ (scap (.sl h.length 0 0 (G.length + 70) 1 (some (G.length + 70))) : Nat) := by simp [scap] <;> omega
    simp only [ssl, esIs, beq_self_eq_true, if_true, scut]
    rw [if_pos (by omega), if_pos (by omega), if_pos hc]
    simp
  rw [F52]
  have z : ∀ (x : Option (V × H)), (if (0 : Nat) ≤ 0 then x else none) = x := fun x => if_pos (Nat.le_refl 0)
  have z' : ∀ (x : Option (V × H)), (if (0 : Int) ≤ 0 then x else none) = x := fun x => if_pos (Int.le_refl 0)
  have t0 : Int.toNat 0 = 0 := rfl
  simp only [sg, bs, z, z', w, if_pos (show 0 ≤ ((G.length + 70 : Nat) : Int) by omega), if_pos hc, Int.toNat_natCast, t0, hh1, cs, sn, e2', e3', s3, c3]

theorem same73 (N : Nat) {h : H} {v w : V} {X : List Int} (hv : Sl h 1 v (ones X)) (hw : Sl h 1 w (ones X)) (hX : X.length ≤ 1048576) : ∀ (k m i : Nat), i + k = X.length → k < m → L73_0 N m (v, w, (i : Int), h) = some (.inl h)
  | 0, m + 1, i, hi, hm => by
    have sv : slen v = some (X.length : Int) := by have := hv.len; simpa using this
    rw [L73_0]
    simp only [sv, bs, itF, ifF, dF (show ¬ (i : Int) < (X.length : Int) by omega), Bool.false_eq_true]
  | k + 1, m + 1, i, hi, hm => by
    have sv : slen v = some (X.length : Int) := by have := hv.len; simpa using this
    have e2 : IntKind.i64.wrap ((i : Int) + 1) = ((i + 1 : Nat) : Int) := by rw [wrapIn (by omega)]; omega
    obtain ⟨q, eq, r⟩ := ones_at hv (i := i) (by omega)
    obtain ⟨p, ep, rp⟩ := ones_at hw (i := i) (by omega)
    rw [L73_0]
    simp only [sv, bs, itT, ifT, itF, ifF, dT (show (i : Int) < (X.length : Int) by omega), eq, r, ep, rp, asInt_some, nqT, Bool.false_eq_true, e2]
    exact same73 N hv hw hX k m (i + 1) (by omega) (by omega)

theorem keptL (N : Nat) {h : H} {id : Nat} {G : List Int} {x1 a0 : V} (ha : Sl h 1 a0 (ones G)) (ho : h[id]? = some (.cells 0 (G.map I ++ marks 70))) (hG : G.length ≤ 1048576) : ∀ (k m i : Nat), i + k = 70 → k < m →
    L55_0 N m (x1, a0, .sl id 0 0 (G.length + 70) 1 (some (G.length + 70)), (i : Int), h) = some (.inl (x1, a0, h))
  | 0, m + 1, i, hi, hm => by
    have : i = 70 := by omega
    subst this
    rw [L55_0]
    simp only [itF, ifF, dF (show ¬ ((70 : Nat) : Int) < 70 by omega), Bool.false_eq_true]
  | k + 1, m + 1, i, hi, hm => by
    have sa : slen a0 = some (G.length : Int) := by have := ha.len; simpa using this
    have e2 : IntKind.i64.wrap ((i : Int) + 1) = ((i + 1 : Nat) : Int) := by rw [wrapIn (by omega)]; omega
    have e3 : IntKind.i64.wrap ((-770000) - (i : Int)) = -770000 - (i : Int) := wrapIn (by omega)
    have e4 : IntKind.i64.wrap ((G.length : Int) + (i : Int)) = ((G.length + i : Nat) : Int) := by rw [wrapIn (by omega)]; omega
    have hx : sidx (.sl id 0 0 (G.length + 70) 1 (some (G.length + 70))) ((G.length + i : Nat) : Int) 1 = some (.ptr id 0 (G.length + i)) := by
      rw [sidx_sl (by omega) (by omega)]; simp; omega
    have hr : rd h (.ptr id 0 (G.length + i)) 0 = some (I (-770000 - (i : Int))) := by
      rw [rd_obj ho, Nat.add_zero, List.getElem?_append_right (by simp), List.length_map, Nat.add_sub_cancel_left, marks_get (by omega)]
    rw [L55_0]
    simp only [sa, bs, itT, ifT, itF, ifF, dT (show (i : Int) < 70 by omega), e4, hx, hr, asInt_some, e3, nqT, Bool.false_eq_true, e2]
    exact keptL N ha ho hG k m (i + 1) (by omega) (by omega)

theorem kept {N : Nat} (hN : 1048600 ≤ N) {h : H} {id : Nat} {G : List Int} {x1 a0 : V} (l : Lent h x1 id G) (ha : Sl h 1 a0 (ones G)) (hG : G.length ≤ 1048576) : F55 N (x1, a0, h) = some (true, h) := by
  have sa : slen a0 = some (G.length : Int) := by have := ha.len; simpa using this
  have sx : slen x1 = some (G.length : Int) := by have := l.sl.len; simpa using this
  have w : IntKind.i64.wrap ((G.length : Int) + 70) = ((G.length + 70 : Nat) : Int) := by rw [wrapIn (by omega)]; omega
  have c3 : ssl 1 x1 0 ((G.length + 70 : Nat) : Int) = some (.sl id 0 0 (G.length + 70) 1 (some (G.length + 70))) := by
    rw [l.is]
    have hc : ((G.length + 70 : Nat) : Int) ≤ (scap (.sl id 0 0 G.length 1 (some (G.length + 70))) : Nat) := by simp [scap] <;> omega
    simp only [ssl, esIs, beq_self_eq_true, if_true, scut]
    rw [if_pos (by omega), if_pos (by omega), if_pos hc]
    simp <;> omega
  have e1 := keptL (x1 := x1) N ha l.obj hG 70 N 0 (by omega) (by omega)
  have e1' : L55_0 N N (x1, a0, .sl id 0 0 (G.length + 70) 1 (some (G.length + 70)), 0, h) = _ := e1
  have e2 := same73 N l.sl ha hG G.length N 0 (by omega) (by omega)
  have e2' : L73_0 N N (x1, a0, 0, h) = _ := e2
  have e3 : F73 N (x1, a0, h) = some (true, h) := by
    rw [F73]
    simp only [sx, sa, bs, nqT, itF, ifF, Bool.false_eq_true, e2']
  rw [F55]
  simp only [sa, sx, bs, w, c3, e1', e3]

theorem same56 (N : Nat) {h : H} {v w : V} {X : List (Int × Int)} (hv : Sl h 2 v (twos X)) (hw : Sl h 2 w (twos X)) (hX : X.length ≤ 1048576) : ∀ (k m i : Nat), i + k = X.length → k < m → L56_0 N m (v, w, (i : Int), h) = some (.inl h)
  | 0, m + 1, i, hi, hm => by
    have sv : slen v = some (X.length : Int) := by have := hv.len; simpa using this
    rw [L56_0]
    simp only [sv, bs, itF, ifF, dF (show ¬ (i : Int) < (X.length : Int) by omega), Bool.false_eq_true]
  | k + 1, m + 1, i, hi, hm => by
    have sv : slen v = some (X.length : Int) := by have := hv.len; simpa using this
    have e2 : IntKind.i64.wrap ((i : Int) + 1) = ((i + 1 : Nat) : Int) := by rw [wrapIn (by omega)]; omega
    obtain ⟨q, eq, r0, r1⟩ := twos_at hv (i := i) (by omega)
    obtain ⟨p, ep, p0, p1⟩ := twos_at hw (i := i) (by omega)
    rw [L56_0]
    simp only [sv, bs, itT, ifT, itF, ifF, dT (show (i : Int) < (X.length : Int) by omega), eq, r0, r1, ep, p0, p1, asInt_some, eT, Bool.and_true, nT, Bool.false_eq_true, e2]
    exact same56 N hv hw hX k m (i + 1) (by omega) (by omega)

theorem samePids {N : Nat} (hN : 1048600 ≤ N) {h : H} {v w : V} {X : List (Int × Int)} (hv : Sl h 2 v (twos X)) (hw : Sl h 2 w (twos X)) (hX : X.length ≤ 1048576) : F56 N (v, w, h) = some (true, h) := by
  have sv : slen v = some (X.length : Int) := by have := hv.len; simpa using this
  have sw : slen w = some (X.length : Int) := by have := hw.len; simpa using this
  have e2' : L56_0 N N (v, w, 0, h) = _ := same56 N hv hw hX X.length N 0 (by omega) (by omega)
  rw [F56]
  simp only [sv, sw, bs, nqT, itF, ifF, Bool.false_eq_true, e2']

theorem markL (N : Nat) {id ver n : Nat} {cap : Option Nat} (hn : n ≤ 1048576) (x9 : Int) : ∀ (k m i : Nat) (h : H) (cs : List V), i + k = n → k < m → h[id]? = some (.cells ver cs) → n ≤ cs.length →
    ∃ h', L57_0 N m (.sl id ver 0 n 1 cap, x9, (i : Int), h) = some h' ∧ h'.length = h.length ∧ ∀ k, k ≠ id → h'[k]? = h[k]?
  | 0, m + 1, i, h, cs, hi, hm, ho, hc => by
    refine ⟨h, ?_, rfl, fun _ _ => rfl⟩
    rw [L57_0]
    simp only [slen_sl, bs, itF, ifF, dF (show ¬ (i : Int) < (n : Int) by omega), Bool.false_eq_true]
  | k + 1, m + 1, i, h, cs, hi, hm, ho, hc => by
    have e2 : IntKind.i64.wrap ((i : Int) + 1) = ((i + 1 : Nat) : Int) := by rw [wrapIn (by omega)]; omega
    have hid : id < h.length := (List.getElem?_eq_some_iff.1 ho).1
    have hx : sidx (.sl id ver 0 n 1 cap) (i : Int) 1 = some (.ptr id ver i) := by
      rw [sidx_sl (by omega) (by omega)]; simp
    have hw : wr h (.ptr id ver i) [I (IntKind.i64.wrap ((-1000000) - x9))] = some (h.set id (.cells ver (cs.set i (I (IntKind.i64.wrap ((-1000000) - x9)))))) := by
      rw [wr_obj ho (by simp; omega), splice1]
    obtain ⟨h', e, l', f'⟩ := markL (cap := cap) (ver := ver) N hn x9 k m (i + 1) (h.set id (.cells ver (cs.set i (I (IntKind.i64.wrap ((-1000000) - x9)))))) (cs.set i (I (IntKind.i64.wrap ((-1000000) - x9)))) (by omega) (by omega) (List.getElem?_set_self hid) (by simpa using hc)
    refine ⟨h', ?_, by rw [l']; simp, fun k hk => (f' k hk).trans (List.getElem?_set_ne (Ne.symm hk))⟩
    rw [L57_0]
    simp only [slen_sl, bs, itT, ifT, dT (show (i : Int) < (n : Int) by omega), hx, hw, e2, e]

theorem marked {N : Nat} (hN : 1048600 ≤ N) {h : H} {id : Nat} {G : List Int} {x1 : V} (l : Lent h x1 id G) (hG : G.length ≤ 1048576) (x9 : Int) : ∃ h', F57 N (x1, x9, h) = some h' ∧ h'.length = h.length ∧ ∀ k, k ≠ id → h'[k]? = h[k]? := by
  obtain ⟨h', e, l', f'⟩ := markL (cap := some (G.length + 70)) N hG x9 G.length N 0 h _ (by omega) (by omega) l.obj (by simp)
  refine ⟨h', ?_, l', f'⟩
  rw [← l.is] at e
  have e' : L57_0 N N (x1, x9, 0, h) = _ := e
  rw [F57]
  simp only [e', bs]

theorem spoilL (N : Nat) {v w : V} (hvw : oid v ≠ oid w ∨ oid v = none) (x3 : V) (x5 : Int) (x6 x7 x8 : V) : ∀ (k m i : Nat) (h : H) (X : List (List V)) (Y : List V), i + k = X.length → X.length = Y.length → X.length ≤ 1048576 → k < m → Own h 2 v X → Own h 1 w (Y.map fun y => [y]) →
    ∃ h', L11_0 N m (v, w, x3, (i : Int), x5, x6, x7, x8, h) = some (x3, x5, x6, x7, x8, h') ∧ h'.length = h.length ∧ ∀ k, oid v ≠ some k → oid w ≠ some k → h'[k]? = h[k]?
  | 0, m + 1, i, h, X, Y, hi, hxy, hX, hm, ov, ow => by
    refine ⟨h, ?_, rfl, fun _ _ _ => rfl⟩
    rw [L11_0]
    simp only [ov.sl'.len, bs, itF, ifF, dF (show ¬ (i : Int) < (X.length : Int) by omega), Bool.false_eq_true]
  | k + 1, m + 1, i, h, X, Y, hi, hxy, hX, hm, ov, ow => by
    have e2 : IntKind.i64.wrap ((i : Int) + 1) = ((i + 1 : Nat) : Int) := by rw [wrapIn (by omega)]; omega
    obtain ⟨q1, h1, eq1, w1, o1, k1⟩ := ov.wr i (by omega) [I 0, I 0] rfl (by omega)
    have ow1 : Own h1 1 w (Y.map fun y => [y]) := ow.frame fun j hj => k1.2 j (ow.sl'.lt hj) (fun e => by
      rcases hvw with h | h
      · exact h (by rw [e, hj])
      · rw [h] at e; cases e)
    obtain ⟨q2, h2, eq2, w2, o2, k2⟩ := ownWr1 ow1 i (by omega) (.str (ByteArray.mk #[115, 112, 111, 105, 108, 116]))
    have ov2 : Own h2 2 v (X.set i [I 0, I 0]) := o1.frame fun j hj => k2.2 j (o1.sl'.lt hj) (fun e => by
      rcases hvw with h | h
      · exact h (by rw [hj, e])
      · rw [h] at hj; cases hj)
    obtain ⟨h', e, l', f'⟩ := spoilL N hvw x3 x5 x6 x7 x8 k m (i + 1) h2 _ _ (by rw [List.length_set]; omega) (by simpa using hxy) (by rw [List.length_set]; omega) (by omega) ov2 o2
    have lw1 := wr_len w1
    have lw2 := wr_len w2
    refine ⟨h', ?_, by omega, fun k a b => ?_⟩
    · rw [L11_0]
      simp only [ov.sl'.len, bs, itT, ifT, dT (show (i : Int) < (X.length : Int) by omega), eq1, w1, eq2, w2, e2, e]
    · rw [f' k a b]
      by_cases hk : k < h.length
      · rw [k2.2 k (by omega) b, k1.2 k hk a]
      · rw [List.getElem?_eq_none (by omega), List.getElem?_eq_none (by omega)]
where
  wr_len {h h' : H} {p : V} {xs : List V} (hw : wr h p xs = some h') : h'.length = h.length := by
    unfold wr at hw
    split at hw
    · split at hw
      · split at hw
        · split at hw
          · cases hw; simp
          · cases hw
        · cases hw
      · cases hw
    · cases hw

end Go.Proofs.Ytbpibiapjangmaa.tabs
