/- All that is told of one of the three. -/
import Derived.Test.YtbpibiapjangmaaTabT
namespace Go.Proofs.Ytbpibiapjangmaa.tabs
open Go Go.L
set_option linter.unusedVariables false
set_option linter.unusedSimpArgs false

theorem one_flat : ∀ xs : List V, (xs.map fun x => [x]).flatten = xs
  | [] => rfl
  | x :: xs => by rw [List.map_cons, List.flatten_cons, one_flat xs]; rfl

theorem Arr.sl {h : H} {v : V} {id : Nat} {xs : List V} (A : Arr h v id xs) : Sl h 1 v (xs.map fun x => [x]) := by
  obtain ⟨ver, cap, rfl, ho⟩ := A.is
  have hf : (xs.map fun x => [x]).flatten = xs := by
    exact one_flat xs
  have := Sl.sl (es := 1) id ver 0 cap xs (xs.map fun x => [x]) ho (by simp) (by simp) (by rw [hf]; simp)
  simpa using this

theorem alike {N : Nat} (hN : 1048600 ≤ N) {h : H} {v w : V} {X : List Int} (hv : Sl h 1 v (ones X)) (hw : Sl h 1 w (ones X)) (hX : X.length ≤ 1048576) : F73 N (v, w, h) = some (true, h) := by
  have sv : slen v = some (X.length : Int) := by have := hv.len; simpa using this
  have sw : slen w = some (X.length : Int) := by have := hw.len; simpa using this
  have e2' : L73_0 N N (v, w, 0, h) = _ := same73 N hv hw hX X.length N 0 (by omega) (by omega)
  rw [F73]
  simp only [sv, sw, bs, nqT, itF, ifF, Bool.false_eq_true, e2']

theorem markO (N : Nat) {v : V} {base : Nat} (x9 : Int) (hv : ∀ j, oid v = some j → base ≤ j) : ∀ (k m i : Nat) (h : H) (Y : List V), i + k = Y.length → Y.length ≤ 1048576 → k < m → Own h 1 v (Y.map fun y => [y]) → base ≤ h.length →
    ∃ (h' : H) (Y' : List V), L57_0 N m (v, x9, (i : Int), h) = some h' ∧ Own h' 1 v (Y'.map fun y => [y]) ∧ Y'.length = Y.length ∧ Over base h h'
  | 0, m + 1, i, h, Y, hi, hY, hm, O, hb => by
    have sv : slen v = some (Y.length : Int) := by have := O.sl'.len; simpa using this
    refine ⟨h, Y, ?_, O, rfl, .refl _ _⟩
    rw [L57_0]
    simp only [sv, bs, itF, ifF, dF (show ¬ (i : Int) < (Y.length : Int) by omega), Bool.false_eq_true]
  | k + 1, m + 1, i, h, Y, hi, hY, hm, O, hb => by
    have sv : slen v = some (Y.length : Int) := by have := O.sl'.len; simpa using this
    have e2 : IntKind.i64.wrap ((i : Int) + 1) = ((i + 1 : Nat) : Int) := by rw [wrapIn (by omega)]; omega
    obtain ⟨q, h1, eq, ew, o1, k1⟩ := ownWr1 O i (by omega) (I (IntKind.i64.wrap ((-1000000) - x9)))
    have hk := k1.1
    obtain ⟨h', Y', e, o', l', ov⟩ := markO N x9 hv k m (i + 1) h1 _ (by rw [List.length_set]; omega) (by rw [List.length_set]; omega) (by omega) o1 (by omega)
    refine ⟨h', Y', ?_, o', by simpa using l', (Over.of k1 hb hv).trans ov⟩
    rw [L57_0]
    simp only [sv, bs, itT, ifT, dT (show (i : Int) < (Y.length : Int) by omega), eq, ew, e2, e]

theorem grownO (N : Nat) {base : Nat} (x8 : Int) : ∀ (k m i : Nat) (h : H) (v : V) (X : List (List V)), i + k = 20 → X.length + k ≤ 2000000 → k < m → Own h 1 v X → (∀ j, oid v = some j → base ≤ j) → base ≤ h.length →
    ∃ h', L81_0 N m (v, x8, (i : Int), h) = some h' ∧ Over base h h'
  | 0, m + 1, i, h, v, X, hi, hX, hm, O, hv, hb => by
    have : i = 20 := by omega
    subst this
    refine ⟨h, ?_, .refl _ _⟩
    rw [L81_0]
    simp only [itF, ifF, dF (show ¬ ((20 : Nat) : Int) < 20 by omega), Bool.false_eq_true]
  | k + 1, m + 1, i, h, v, X, hi, hX, hm, O, hv, hb => by
    have e2 : IntKind.i64.wrap ((i : Int) + 1) = ((i + 1 : Nat) : Int) := by rw [wrapIn (by omega)]; omega
    obtain ⟨v2, h2, e, o2, ov, hv2, hb2⟩ := app1b (b := base) O [I (IntKind.i64.wrap ((-2000000) - x8))] rfl (by simp [mostCells]; omega) hv hb
    obtain ⟨h', e', ov'⟩ := grownO N x8 k m (i + 1) h2 v2 _ (by omega) (by simp; omega) (by omega) o2 hv2 hb2
    refine ⟨h', ?_, ov.trans ov'⟩
    rw [L81_0]
    simp only [bs, itT, ifT, dT (show (i : Int) < 20 by omega), e, e2, e']

section
variable {a b c g l n base : Nat} {S : List Slot} {M : List (ByteArray × Int)} {E : Nat → En} {gv0 : V} {k0 : Nat}

theorem toldL (N : Nat) (hk0 : k0 < 3) (hn : (E k0).n = (S.length : Int)) (ha : a < base) (hb : b < base) (hc : c < base) (hg : g < base) (hl : l < base) (hnn : n < base) (h0 : 0 < base) {v : V} (x62 : V) (hv : ∀ j, oid v = some j → base ≤ j) :
    ∀ (k m i : Nat) (h : H) (X : List (List V)), i + k = X.length → X.length ≤ 1048576 → k < m → Own h 2 v X → (∀ j, i ≤ j → X[j]? = (twos (lps S S.length))[j]?) → X.length = (LN S S.length).length → Tab a b c h S M → Ref h (E k0).x (E k0).y (E k0).z g l n S → Obj h E gv0 → base ≤ h.length →
    ∃ h', L60_0 N m (pt 0, (k0 : Int), pt c, v, x62, (i : Int), h) = some (.inl (x62, h')) ∧ h'.length = h.length ∧ ∀ j, oid v ≠ some j → h'[j]? = h[j]?
  | 0, m + 1, i, h, X, hi, hX, hm, O, hsame, hXl, T, R, o, hbl => by
    refine ⟨h, ?_, rfl, fun _ _ => rfl⟩
    rw [L60_0]
    simp only [O.sl'.len, bs, itF, ifF, dF (show ¬ (i : Int) < (X.length : Int) by omega), Bool.false_eq_true]
  | k + 1, m + 1, i, h, X, hi, hX, hm, O, hsame, hXl, T, R, o, hbl => by
    have e2 : IntKind.i64.wrap ((i : Int) + 1) = ((i + 1 : Nat) : Int) := by rw [wrapIn (by omega)]; omega
    have hi1 : i < (LN S S.length).length := by omega
    obtain ⟨q, eq, hq⟩ := O.sl'.at i (by omega)
    have r0 : rd h q 0 = some (I (pa (lps S S.length) i).1) := by rw [hq 0 (by omega), hsame i (Nat.le_refl _)]; simp [hi1, List.getD]
    have r1 : rd h q 1 = some (I (pa (lps S S.length) i).2) := by rw [hq 1 (by omega), hsame i (Nat.le_refl _)]; simp [hi1, List.getD]
    have e26 := nameOf T N (pa (lps S S.length) i).1 (pa (lps S S.length) i).2
    have e80 := nameOf80 R N (pa (lps S S.length) i).1 (pa (lps S S.length) i).2
    obtain ⟨q', h1, eq', ew, o1, k1⟩ := O.wr i (by omega) [I (-1), I (-7)] rfl (by omega)
    have hqq : q' = q := by rw [eq] at eq'; exact (Option.some.inj eq').symm
    subst hqq
    have ov := Over.of k1 hbl hv
    have hk := k1.1
    have lw := spoilL.wr_len ew
    obtain ⟨h', e, lh, fh⟩ := toldL N hk0 hn ha hb hc hg hl hnn h0 x62 hv k m (i + 1) h1 _ (by rw [List.length_set]; omega) (by rw [List.length_set]; omega) (by omega) o1 (fun j hj => by rw [List.getElem?_set_ne (by omega)]; exact hsame j (by omega)) (by rw [List.length_set]; exact hXl)
      (T.over ov ha hb hc) (R.over ov hg hl hnn) ((ov.2 0 h0).trans o) (by omega)
    refine ⟨h', ?_, by omega, fun j hj => ?_⟩
    case refine_2 =>
      rw [fh j hj]
      by_cases hjl : j < h.length
      · exact k1.2 j hjl hj
      · rw [List.getElem?_eq_none (by omega), List.getElem?_eq_none (by omega)]
    rw [L60_0]
    simp only [O.sl'.len, bs, itT, ifT, itF, ifF, dT (show (i : Int) < (X.length : Int) by omega), eq, r0, r1, asInt_some, e26, pnck, aR hk0, rR0 o hk0, rR1 o hk0, rR2 o hk0, rR3 o hk0, hn, e80, seq, dT (show nameB S (pa (lps S S.length) i).1 (pa (lps S S.length) i).2 = nameB S (pa (lps S S.length) i).1 (pa (lps S S.length) i).2 from rfl), nT, Bool.false_eq_true, ew, e2]
    exact e
end

section
variable {h : H} {ro : Nat → Nat} {E : Nat → En} {gv : V} {G : List (Int × Int)} {k : Nat}

theorem told60 {N : Nat} (hN : 1048600 ≤ N) (hk : k < 3) (o : Obj h E gv) (R : Rest h ro E gv G) : ∃ h', F60 N (pt 0, (k : Int), h) = some (true, h') ∧ Over h.length h h' := by
  have en := R.ent k hk
  have hpos := R.pos
  cases hth : (E k).th with
  | false =>
    have ht := en.no hth
    refine ⟨h, ?_, .refl _ _⟩
    rw [F60]
    simp only [pnck, bs, aT hk, rT o hk, aB hk, rB o hk, tabs.asBool_some, hth, ht, nF, itT, ifT, nil32, show slen .nils = some 0 from rfl, eT, nil77, nil76, show isNil .nilp = some true from rfl]
  | true =>
    obtain ⟨a, b, c, g, l, n, S, M, ht, hn, T, Rf, C, _⟩ := en.yes hth
    have la := (List.getElem?_eq_some_iff.1 T.slots).1
    have lb := (List.getElem?_eq_some_iff.1 T.map).1
    have lc := (List.getElem?_eq_some_iff.1 T.obj).1
    obtain ⟨lg, ll, ln⟩ := Rf.lt
    have hlen := T.len
    have hle := LN_le S S.length
    obtain ⟨h1, v1, e1, O1, ov1, hv1⟩ := live32 (N := N) (by omega) T
    have T1 := T.over ov1 la lb lc
    have n1 := ov1.1
    obtain ⟨h2, v2, e2, O2, ov2, hv2⟩ := gens77 (N := N) (by omega) T1
    have n2 := ov2.1
    have ov02 := ov1.trans (ov2.mono n1)
    have T2 := T.over ov02 la lb lc
    have R2 := Rf.over ov02 lg ll ln
    have o2 : Obj h2 E gv := (ov02.2 0 hpos).trans o
    obtain ⟨h3, v3, e3, O3, ov3, hv3⟩ := pids79 (N := N) (by omega) R2
    have n3 := ov3.1
    have ov03 := ov02.trans (ov3.mono (by omega))
    have T3 := T.over ov03 la lb lc
    have R3 := Rf.over ov03 lg ll ln
    have o3 : Obj h3 E gv := (ov03.2 0 hpos).trans o
    have O13 : Own h3 2 v1 (twos (lps S S.length)) := O1.frame fun j hj => (ov3.2 j (by have := O1.sl'.lt hj; omega)).trans (ov2.2 j (O1.sl'.lt hj))
    have O23 : Own h3 1 v2 (ones (gns S)) := O2.frame fun j hj => ov3.2 j (O2.sl'.lt hj)
    have e56 := samePids hN O13.sl' O3.sl' (by simp; omega)
    have hx : Sl h3 1 (E k).x (ones (gns S)) := by
      have := R3.gens.sl
      rw [List.map_map] at this
      rw [ones, gns, List.map_map]
      exact this
    have e73 := alike hN O23.sl' hx (by simp; omega)
    have hsep : ∀ j, oid v1 = some j → oid v2 ≠ some j := fun j hj e => by
      have h1' := O1.sl'.lt hj
      have h2' := hv2 j e
      omega
    obtain ⟨h4, e4, lh4, fh4⟩ := toldL (a := a) (b := b) (c := c) (g := g) (l := l) (n := n) (base := h.length) (S := S) (M := M) (E := E) (gv0 := gv) (k0 := k) N hk hn la lb lc lg ll ln hpos v2 hv1 (LN S S.length).length N 0 h3 (twos (lps S S.length)) (by simp) (by simp; omega) (by omega) O13 (fun _ _ => rfl) (by simp) T3 R3 o3 (by omega)
    have e4' : L60_0 N N (pt 0, (k : Int), pt c, v1, v2, 0, h3) = _ := e4
    have ov4 : Over h.length h3 h4 := ⟨by omega, fun j hj => fh4 j (fun e => by have := hv1 j e; omega)⟩
    have O24 : Own h4 1 v2 (((gns S).map I).map fun y => [y]) := by
      rw [List.map_map]
      exact O23.frame fun j hj => fh4 j fun e => hsep j e hj
    have n4 := ov4.1
    obtain ⟨h5, Y', e5, O5, l5, ov5⟩ := markO (base := h.length) N 1 (fun j hj => by have := hv2 j hj; omega) ((gns S).map I).length N 0 h4 ((gns S).map I) (by omega) (by simp; omega) (by simp; omega) O24 (by omega)
    have e5' : L57_0 N N (v2, 1, 0, h4) = some h5 := e5
    have n5 := ov5.1
    obtain ⟨h6, e6, ov6⟩ := grownO (base := h.length) N 1 20 N 0 h5 v2 _ (by omega) (by simp at l5 ⊢; omega) (by omega) O5 (fun j hj => by have := hv2 j hj; omega) (by omega)
    have e6' : L81_0 N N (v2, 1, 0, h5) = some h6 := e6
    refine ⟨h6, ?_, (ov03.trans ov4).trans (ov5.trans ov6)⟩
    have e57 : F57 N (v2, 1, h4) = some h5 := by rw [F57]; simp only [e5', bs]
    have e81 : F81 N (v2, 1, h5) = some h6 := by rw [F81]; simp only [e6', bs]
    rw [F60]
    simp only [pnck, bs, aT hk, rT o hk, aB hk, rB o hk, tabs.asBool_some, hth, ht, nT, itF, ifF, Bool.false_eq_true, e1, e2, aR hk, rR0 o2 hk, rR1 o2 hk, rR2 o2 hk, rR3 o2 hk, asInt_some, hn, e3, e56, rR1p o3 hk, e73, e4', e57, e81]
end

end Go.Proofs.Ytbpibiapjangmaa.tabs

/- The script's steps: each answers true, and what holds goes on to hold. -/
namespace Go.Proofs.Ytbpibiapjangmaa.tabs
open Go Go.L
set_option linter.unusedVariables false
set_option linter.unusedSimpArgs false

/-- What holds between steps. -/
def InvP (n : Nat) (h : H) : Prop := ∃ (ro : Nat → Nat) (E : Nat → En) (gv : V) (G : List (Int × Int)), Obj h E gv ∧ Rest h ro E gv G ∧ G.length ≤ n

section
variable {h : H} {ro : Nat → Nat} {E : Nat → En} {gv : V} {G : List (Int × Int)} {k : Nat}

theorem Rest.given (R : Rest h ro E gv G) {h' : H} {gv' : V} {G' : List (Int × Int)} (O' : Own h' 2 gv' (twos G')) (kp : Keeps h h' (oid gv)) (hid : oid gv' = oid gv ∨ oid gv' = some h.length) : ∃ ro', Rest h' ro' E gv' G' := by
  refine ⟨fun j => if j < h.length then ro j else 4, fun i hi => (R.ent i hi).frame (fun k hk => if_pos hk) fun k hk hr => kp.2 k hk fun e => ?_, O', fun j hj => ?_, ?_, ?_⟩
  · have := R.gr k e
    rcases hr with h | h <;> omega
  · rcases hid with e | e
    · rw [e] at hj
      show (if j < h.length then ro j else 4) = 4
      rw [if_pos (R.giv.sl'.lt hj)]; exact R.gr j hj
    · rw [e] at hj
      have := Option.some.inj hj
      show (if j < h.length then ro j else 4) = 4
      rw [if_neg (by omega)]
  · show (if 0 < h.length then ro 0 else 4) = 0
    rw [if_pos R.pos]; exact R.r0
  · have := R.pos; have := kp.1; omega

theorem pickOk (o : Obj h E gv) (R : Rest h ro E gv G) (late p q : Int) : ∃ u v, pick h late p q = some (u, v) := by
  have sg : slen gv = some (G.length : Int) := by have := R.giv.sl'.len; simpa using this
  rw [pick]
  by_cases h1 : late ≥ 0
  · obtain ⟨j, rfl⟩ := Int.eq_ofNat_of_zero_le h1
    by_cases h2 : j < G.length
    · obtain ⟨x, ex, r0, r1⟩ := twos_at R.giv.sl' h2
      exact ⟨(pa G j).1, (pa G j).2, by simp only [dT h1, itT, ifT, pnck, bs, aG, rG o, sg, dT (show (j : Int) < (G.length : Int) by omega), ex, r0, r1, asInt_some]⟩
    · exact ⟨p, q, by simp only [dT h1, itT, ifT, pnck, bs, aG, rG o, sg, dF (show ¬ (j : Int) < (G.length : Int) by omega), itF, ifF, Bool.false_eq_true]⟩
  · exact ⟨p, q, by simp only [dF h1, itF, ifF, bs, Bool.false_eq_true]⟩

/-- What the reference gives is put, and the pid kept. -/
theorem fin2 (o : Obj h E gv) (hk : k < 3) {n : Int} {x y z : V} (R : Rest h ro (upd E k { E k with n := n, x := x, y := y, z := z }) gv G) (hG : G.length ≤ 1048576) (u v : Int) :
    ∃ h47 v49 h50 h51, wr h (.ptr 0 0 (3 + k * 4)) [I n, x, y, z] = some h47 ∧ rd h47 (.ptr 0 0 18) 0 = some gv ∧ happ h47 gv 2 1 [I u, I v] = some (v49, h50) ∧ ck1 v49 = some () ∧ wr h50 (.ptr 0 0 18) [v49] = some h51 ∧ InvP (G.length + 1) h51 := by
  have w := wR o hk n x y z
  have R1 := R.set (upd E k { E k with n := n, x := x, y := y, z := z }) gv
  have o1 := obj_set o (upd E k { E k with n := n, x := x, y := y, z := z }) gv
  generalize setP h (upd E k { E k with n := n, x := x, y := y, z := z }) gv = h47 at w R1 o1
  obtain ⟨v49, h50, e, O, kp, hid, ck⟩ := R1.giv.app1 [I u, I v] rfl (by simp [mostCells]; omega)
  have O' : Own h50 2 v49 (twos (G ++ [(u, v)])) := by rw [twos, List.map_append]; exact O
  obtain ⟨ro', R2⟩ := R1.given O' kp hid
  have o2 : Obj h50 (upd E k { E k with n := n, x := x, y := y, z := z }) gv := (kp.2 0 R1.pos fun e => by have := R1.gr 0 e; rw [R1.r0] at this; cases this).trans o1
  exact ⟨h47, v49, h50, _, w, rG o1, e, ck, wG o2 v49, ro', _, v49, G ++ [(u, v)], obj_set o2 _ _, R2.set _ _, by simp⟩

/-- What the reference gives is put. -/
theorem fin1 (o : Obj h E gv) (hk : k < 3) {n : Int} {x y z : V} (R : Rest h ro (upd E k { E k with n := n, x := x, y := y, z := z }) gv G) :
    ∃ h47, wr h (.ptr 0 0 (3 + k * 4)) [I n, x, y, z] = some h47 ∧ InvP (G.length + 1) h47 :=
  ⟨_, wR o hk n x y z, ro, _, gv, G, obj_set o _ _, R.set _ _, by omega⟩

/-- A table changed, then the reference's lists. -/
theorem Rest.both (R : Rest h ro E gv G) (hk : k < 3) (o : Obj h E gv) {a b c g l m : Nat} {S S' : List Slot} {M M' : List (ByteArray × Int)} {h1 h2 : H} {x y z : V} (ht : (E k).t = pt c) (hth : (E k).th = true)
    (ra : ro a = 1 + k) (rb : ro b = 1 + k) (rc : ro c = 1 + k) (la : a < h.length) (lb : b < h.length) (lc : c < h.length)
    (T1 : Tab a b c h1 S' M') (l1 : h1.length = h.length) (f1 : ∀ j, j ≠ a → j ≠ b → h1[j]? = h[j]?) (Rf : Ref h2 x y z h1.length (h1.length + 1) (h1.length + 2) S') (ov : Over h1.length h1 h2) (C : Cons S' M') :
    Obj h2 E gv ∧ ∃ ro', Rest h2 ro' (tabs.upd E k { E k with n := (S'.length : Int), x := x, y := y, z := z }) gv G := by
  have hn := ov.1
  have nz : ∀ j, ro j = 1 + k → j ≠ 0 := fun j hj e => by rw [e, R.r0] at hj; omega
  have hf : ∀ j, j < h.length → j ≠ a → j ≠ b → h2[j]? = h[j]? := fun j hj h1' h2' => (ov.2 j (by omega)).trans (f1 j h1' h2')
  refine ⟨(hf 0 R.pos (Ne.symm (nz a ra)) (Ne.symm (nz b rb))).trans o, fun j => if j < h.length then ro j else 5, R.upd hk (by omega) (fun j hj => if_pos hj) (fun j hj hr _ => hf j hj (fun e => hr (by rw [e]; exact ra)) (fun e => hr (by rw [e]; exact rb))) ⟨fun hf => ?_, fun _ => ?_⟩⟩
  · exact absurd (hth.symm.trans hf) (by simp)
  · refine ⟨a, b, c, _, _, _, S', M', ht, rfl, T1.over ov (by omega) (by omega) (by omega), Rf, C, ⟨?_, ?_, ?_⟩, ?_, ?_, ?_⟩
    · show (if a < h.length then ro a else 5) = _; rw [if_pos la]; exact ra
    · show (if b < h.length then ro b else 5) = _; rw [if_pos lb]; exact rb
    · show (if c < h.length then ro c else 5) = _; rw [if_pos lc]; exact rc
    · show (if _ < h.length then _ else 5) = _; rw [if_neg (by omega)]
    · show (if _ < h.length then _ else 5) = _; rw [if_neg (by omega)]
    · show (if _ < h.length then _ else 5) = _; rw [if_neg (by omega)]

/-- Nothing changed. -/
theorem Rest.same (R : Rest h ro E gv G) (hk : k < 3) {n : Int} (hn : (E k).n = n) : Rest h ro (tabs.upd E k { E k with n := n, x := (E k).x, y := (E k).y, z := (E k).z }) gv G := by
  subst hn
  exact R.upd hk (Nat.le_refl _) (fun _ _ => rfl) (fun _ _ _ _ => rfl) (R.ent k hk)

theorem one {N : Nat} (hN : 1048600 ≤ N) (hk : k < 3) (o : Obj h E gv) (R : Rest h ro E gv G) (hG : G.length ≤ 1048576) (kind on at' n late p q u v : Int) (s : ByteArray) :
    ∃ h', one2 N (pt 0, (k : Int), (E k).t, kind, on, at', n, late, p, q, s, u, v, h) = some (true, h') ∧ InvP (G.length + 1) h' := by
  have en := R.ent k hk
  have here : InvP (G.length + 1) h := ⟨ro, E, gv, G, o, R, by omega⟩
  cases hth : (E k).th with
  | false =>
    have ht := en.no hth
    refine ⟨h, ?_, here⟩
    rw [one2]
    by_cases h2 : kind = 2
    · subst h2
      simp only [ht, eT, itT, ifT, nil24, bs, pnck, aB hk, rB o hk, hth, tabs.asBool_some, nF, Bool.and_true]
    by_cases h3 : kind = 3
    · subst h3
      simp only [ht, eF h2, itF, ifF, eT, itT, ifT, nil25, bs, pnck, aB hk, rB o hk, hth, tabs.asBool_some, nF, Bool.false_eq_true]
    by_cases h4 : kind = 4
    · subst h4
      simp only [ht, eF h2, eF h3, itF, ifF, eT, itT, ifT, nil28, bs, pnck, aB hk, rB o hk, hth, tabs.asBool_some, nF, Bool.false_eq_true]
    simp only [ht, eF h2, eF h3, eF h4, itF, ifF, eT, itT, ifT, nil29, nil27, nil26, bs, pnck, aB hk, rB o hk, hth, tabs.asBool_some, nF, Bool.false_eq_true, Bool.and_true, seq, dT (show noname = ByteArray.mk #[] from rfl), dTrue]
  | true =>
    obtain ⟨a, b, c, g, l, m, S, M, ht, hn, T, Rf, C, ⟨ra, rb, rc⟩, rg, rl, rm⟩ := en.yes hth
    have la := (List.getElem?_eq_some_iff.1 T.slots).1
    have lb := (List.getElem?_eq_some_iff.1 T.map).1
    have lc := (List.getElem?_eq_some_iff.1 T.obj).1
    obtain ⟨lg, ll, lm⟩ := Rf.lt
    have ne5 : ∀ {j i : Nat}, ro j = 1 + k → ro i = 5 → i ≠ j := fun h1 h2 e => by rw [e, h1] at h2; omega
    have nz : ∀ j, ro j = 1 + k → j ≠ 0 := fun j hj e => by rw [e, R.r0] at hj; omega
    have refAt : ∀ {h1 : H}, (∀ j, j ≠ a → j ≠ b → h1[j]? = h[j]?) → Ref h1 (E k).x (E k).y (E k).z g l m S := fun hf => Rf.frame fun j hj => by
      rcases hj with rfl | rfl | rfl
      · exact hf _ (ne5 ra rg) (ne5 rb rg)
      · exact hf _ (ne5 ra rl) (ne5 rb rl)
      · exact hf _ (ne5 ra rm) (ne5 rb rm)
    have objAt : ∀ {h1 : H}, (∀ j, j ≠ a → j ≠ b → h1[j]? = h[j]?) → Obj h1 E gv := fun hf => (hf 0 (Ne.symm (nz a ra)) (Ne.symm (nz b rb))).trans o
    rw [one2]
    by_cases h2 : kind = 2
    · subst h2
      rcases add T (show 257 ≤ N by omega) with ⟨ea, ha⟩ | ⟨j, hj, h1, ja, jb, jc, ea, Ta, na', fa⟩
      · rcases addR (N := N) (by omega) Rf with ⟨er, _⟩ | ⟨j, hj, _, _, _, _, ja, jb, _⟩
        · obtain ⟨h47, v49, h50, h51, w1, w2, w3, w4, w5, hi⟩ := fin2 o hk (R.same hk hn) hG 0 0
          refine ⟨h51, ?_, hi⟩
          simp only [ht, eT, itT, ifT, ea, bs, pnck, aB hk, rB o hk, hth, tabs.asBool_some, nT, Bool.false_eq_true, ifF, aR hk, rR0 o hk, rR1 o hk, rR2 o hk, rR3 o hk, hn, asInt_some, er, w1, aG, w2, w3, w4, w5, Bool.and_true]
        · rcases ha j hj with h | h
          · rw [h] at ja; cases ja
          · omega
      · have fa' : ∀ j, j ≠ a → j ≠ b → h1[j]? = h[j]? := fun j h1 _ => fa j h1
        have o1 := objAt fa'
        rcases addR (N := N) (by omega) (refAt fa') with ⟨er, hr⟩ | ⟨i, hi, gv2, lv2, nv2, h2, ia, ib, ic, er, R2, n2, f2⟩
        · rcases hr j hj with h | h
          · rw [h] at ja; cases ja
          · omega
        · have hij : i = j := by
            rcases Nat.lt_trichotomy i j with h | h | h
            · rcases jc i hi h with h | h
              · rw [h] at ia; cases ia
              · omega
            · exact h
            · rcases ic j hj h with h | h
              · rw [h] at ja; cases ja
              · omega
          subst hij
          obtain ⟨o2, ro', R3⟩ := R.both hk o (g := g) (l := l) (m := m) (S := S) (M := M) ht hth ra rb rc la lb lc Ta na' fa' R2 ⟨by omega, f2⟩ (C.add hj ja jb)
          rw [List.length_set] at R3
          obtain ⟨h47, v49, h50, h51, w1, w2, w3, w4, w5, hi⟩ := fin2 o2 hk R3 hG (i : Int) (IntKind.i64.wrap (S[i].gen + 1))
          refine ⟨h51, ?_, hi⟩
          simp only [ht, eT, itT, ifT, ea, bs, pnck, aB hk, rB o1 hk, hth, tabs.asBool_some, nT, Bool.false_eq_true, ifF, aR hk, rR0 o1 hk, rR1 o1 hk, rR2 o1 hk, rR3 o1 hk, hn, asInt_some, er, w1, aG, w2, w3, w4, w5, Bool.and_true]
    by_cases h3 : kind = 3
    · subst h3
      rcases free T N u v with ⟨hb, e⟩ | ⟨i, hi, h1, ei, hl, hg, e, T1, l1, f1⟩
      · rcases free84 Rf N u v with ⟨_, er⟩ | ⟨i, hi, _, _, _, _, ei, hl, hg, _⟩
        · obtain ⟨h47, w1, hi⟩ := fin1 o hk (R.same hk hn)
          refine ⟨h47, ?_, hi⟩
          simp only [ht, eF h2, eT, itT, ifT, itF, e, bs, pnck, aB hk, rB o hk, hth, tabs.asBool_some, nT, Bool.false_eq_true, ifF, aR hk, rR0 o hk, rR1 o hk, rR2 o hk, rR3 o hk, hn, asInt_some, er, w1]
        · rw [ei, isB_at hi, hl, hg] at hb; simp at hb
      · have o1 := objAt f1
        rcases free84 (refAt f1) N u v with ⟨hb, er⟩ | ⟨i', hi', gv2, lv2, nv2, g2, ei', hl', hg', er, R2, ov2⟩
        · rw [ei, isB_at hi, hl, hg] at hb; simp at hb
        · have hii : i' = i := by omega
          subst hii
          obtain ⟨o2, ro', R3⟩ := R.both hk o (g := g) (l := l) (m := m) (S := S) (M := M) ht hth ra rb rc la lb lc T1 l1 f1 R2 ov2 (C.free hi hl)
          rw [List.length_set] at R3
          obtain ⟨h47, w1, hi⟩ := fin1 o2 hk R3
          refine ⟨h47, ?_, hi⟩
          simp only [ht, eF h2, eT, itT, ifT, itF, e, bs, pnck, aB hk, rB o1 hk, hth, tabs.asBool_some, nT, Bool.false_eq_true, ifF, aR hk, rR0 o1 hk, rR1 o1 hk, rR2 o1 hk, rR3 o1 hk, hn, asInt_some, er, w1]
    by_cases h4 : kind = 4
    · subst h4
      have nob : ∀ {i : Nat} (hi : i < S.length), u = (i : Int) → S[i].live = true → S[i].gen = v → isB S u v = true := fun hi e1 e2 e3 => by rw [e1, isB_at hi, e2, e3]; simp
      have keep : ∀ x : Int, F28 N (pt c, u, v, s, h) = some (x, h) → F85 N ((S.length : Int), (E k).x, (E k).y, (E k).z, u, v, s, h) = some ((S.length : Int), (E k).x, (E k).y, (E k).z, x, h) → ∃ h', one2 N (pt 0, (k : Int), (E k).t, 4, on, at', n, late, p, q, s, u, v, h) = some (true, h') ∧ InvP (G.length + 1) h' := by
        intro x e er
        obtain ⟨h47, w1, hi⟩ := fin1 o hk (R.same hk hn)
        refine ⟨h47, ?_, hi⟩
        rw [one2]
        simp only [ht, eF h2, eF h3, eT, itT, ifT, itF, e, bs, pnck, aB hk, rB o hk, hth, tabs.asBool_some, nT, Bool.false_eq_true, ifF, aR hk, rR0 o hk, rR1 o hk, rR2 o hk, rR3 o hk, hn, asInt_some, er, w1]
      rw [← one2]
      rcases name T N u v s with ⟨ha, e⟩ | ⟨ha, hb, e⟩ | ⟨i, hi, ei, hl, hg, ha, ⟨hor, e⟩ | ⟨hk0, hnn, h1, e, T1, l1, f1⟩⟩
      · rcases name85 (N := N) (by omega) Rf u v s with ⟨_, er⟩ | ⟨ha', _⟩ | ⟨_, _, _, _, _, ha', _⟩
        · exact keep 1 e er
        · rw [ha] at ha'; cases ha'
        · rw [ha] at ha'; cases ha'
      · rcases name85 (N := N) (by omega) Rf u v s with ⟨ha', _⟩ | ⟨_, _, er⟩ | ⟨i, hi, ei, hl, hg, _⟩
        · rw [ha] at ha'; cases ha'
        · exact keep 3 e er
        · rw [nob hi ei hl hg] at hb; cases hb
      · rcases name85 (N := N) (by omega) Rf u v s with ⟨ha', _⟩ | ⟨_, hb, _⟩ | ⟨i', hi', ei', hl', hg', _, ⟨_, er⟩ | ⟨hno, hnn', _⟩⟩
        · rw [ha] at ha'; cases ha'
        · rw [nob hi ei hl hg] at hb; cases hb
        · exact keep 141 e er
        · have hii : i' = i := by omega
          subst hii
          rcases hor with h | h
          · obtain ⟨j, hj, hh⟩ := (C.has (atom_ne ha)).1 h
            rw [hno j hj] at hh; cases hh
          · exact absurd hnn' h
      · have o1 := objAt f1
        rcases name85 (N := N) (by omega) (refAt f1) u v s with ⟨ha', _⟩ | ⟨_, hb, _⟩ | ⟨i', hi', ei', hl', hg', _, ⟨hor, _⟩ | ⟨hno, hnn', gv2, lv2, nv2, g2, er, R2, ov2⟩⟩
        · rw [ha] at ha'; cases ha'
        · rw [nob hi ei hl hg] at hb; cases hb
        · have hii : i' = i := by omega
          subst hii
          rcases hor with h | h
          · have := (C.has (atom_ne ha)).2 h
            rw [hk0] at this; cases this
          · exact absurd hnn h
        · have hii : i' = i := by omega
          subst hii
          obtain ⟨o2, ro', R3⟩ := R.both hk o (g := g) (l := l) (m := m) (S := S) (M := M) ht hth ra rb rc la lb lc T1 l1 f1 R2 ov2 (C.name hi hl hnn ha hk0)
          rw [List.length_set] at R3
          obtain ⟨h47, w1, hi⟩ := fin1 o2 hk R3
          refine ⟨h47, ?_, hi⟩
          rw [one2]
          simp only [ht, eF h2, eF h3, eT, itT, ifT, itF, e, bs, pnck, aB hk, rB o1 hk, hth, tabs.asBool_some, nT, Bool.false_eq_true, ifF, aR hk, rR0 o1 hk, rR1 o1 hk, rR2 o1 hk, rR3 o1 hk, hn, asInt_some, er, w1]
    · refine ⟨h, ?_, here⟩
      have tail : ∀ (x y : Int) (z : Int), F29 N (pt c, s, h) = some (x, y, z, h) → F71 N ((S.length : Int), (E k).x, (E k).y, (E k).z, s, h) = some (x, y, z, h) → one2 N (pt 0, (k : Int), (E k).t, kind, on, at', n, late, p, q, s, u, v, h) = some (true, h) := by
        intro x y z e1 e2
        have i1 := is T N u v
        have i2 := is86 Rf N u v
        have n1 := nameOf T N u v
        have n2 := nameOf80 Rf N u v
        have bq : ∀ b : Bool, (b == b) = true := fun b => by cases b <;> rfl
        rw [one2]
        simp only [ht, eF h2, eF h3, eF h4, itF, ifF, eT, itT, ifT, e1, bs, pnck, aB hk, rB o hk, hth, tabs.asBool_some, nT, Bool.false_eq_true, aR hk, rR0 o hk, rR1 o hk, rR2 o hk, rR3 o hk, hn, asInt_some, e2, Bool.and_true, i1, i2, n1, n2, bq, seq, dT (show nameB S u v = nameB S u v from rfl), dTrue]
      rw [← one2]
      by_cases hs : s = noname
      · subst hs
        rcases where71 (N := N) (by omega) Rf noname with ⟨er, _⟩ | ⟨j, hj, hh, _⟩
        · exact tail 0 0 3 (whereOut T N noname C.no) er
        · simp [has] at hh
      · cases hlk : look s M with
        | none =>
          rcases where71 (N := N) (by omega) Rf s with ⟨er, _⟩ | ⟨j, hj, hh, _⟩
          · exact tail 0 0 3 (whereOut T N s hlk) er
          · have := (C.has hs).2 ⟨j, hj, hh⟩
            rw [hlk] at this; cases this
        | some w =>
          obtain ⟨i, hi, rfl, hl, hnm⟩ := (C.look s hs w).1 hlk
          rcases where71 (N := N) (by omega) Rf s with ⟨_, hno⟩ | ⟨j, hj, hh, _, er⟩
          · have : has s S[i] = true := by simp [has, hl, hnm, hs]
            rw [hno i hi] at this; cases this
          · have hh' := hh
            simp only [has, Bool.and_eq_true, Bool.not_eq_true', decide_eq_false_iff_not, decide_eq_true_eq] at hh'
            have hij : i = j := C.uniq hi hj (by rw [hnm]; exact hs) (by rw [hnm, hh'.2.2])
            subst hij
            exact tail (i : Int) S[i].gen 0 (whereIn T N s hi hlk) er
end

end Go.Proofs.Ytbpibiapjangmaa.tabs

/- The script. -/
namespace Go.Proofs.Ytbpibiapjangmaa.tabs
open Go Go.L
set_option linter.unusedVariables false
set_option linter.unusedSimpArgs false

theorem mod3 (x : Int) : ∃ k : Nat, k < 3 ∧ IntKind.i64.wrap (Int.tmod (IntKind.u64.wrap x) 3) = (k : Int) := by
  have hu : 0 ≤ IntKind.u64.wrap x := by
    simp only [IntKind.wrap, IntKind.signed, IntKind.bits]
    simp
    exact Int.emod_nonneg _ (by omega)
  rw [Int.tmod_eq_emod_of_nonneg hu]
  refine ⟨(IntKind.u64.wrap x % 3).toNat, by omega, ?_⟩
  rw [wrapIn (by omega)]; omega

section
variable {h : H} {ro : Nat → Nat} {E : Nat → En} {gv : V} {G : List (Int × Int)} {k i : Nat}

/-- All three that make one of the three are put. -/
theorem write3 (o : Obj h E gv) (hk : k < 3) (c : V) (n : Int) (x y z : V) (th : Bool) : ∃ h1 h2, wr h (.ptr 0 0 k) [c] = some h1 ∧ Obj h1 (upd E k { E k with t := c }) gv ∧
    wr h1 (.ptr 0 0 (3 + k * 4)) [I n, x, y, z] = some h2 ∧ Obj h2 (upd E k ⟨c, n, x, y, z, (E k).th⟩) gv ∧ wr h2 (.ptr 0 0 (15 + k)) [.bool th] = some (setP h (upd E k ⟨c, n, x, y, z, th⟩) gv) := by
  have o1 := obj_set o (upd E k { E k with t := c }) gv
  have w2 := wR o1 hk n x y z
  rw [upd_upd, upd_self, setP_set] at w2
  have o2 := obj_set o (upd E k ⟨c, n, x, y, z, (E k).th⟩) gv
  have w3 := wB o2 hk th
  rw [upd_upd, upd_self, setP_set] at w3
  exact ⟨_, _, wT o hk c, o1, w2, o2, w3⟩

theorem updN (c : V) : (upd E k { E k with t := c } i).n = (E i).n := by
  unfold upd; split
  · rename_i e; subst e; rfl
  · rfl
theorem updX (c : V) : (upd E k { E k with t := c } i).x = (E i).x := by
  unfold upd; split
  · rename_i e; subst e; rfl
  · rfl
theorem updY (c : V) : (upd E k { E k with t := c } i).y = (E i).y := by
  unfold upd; split
  · rename_i e; subst e; rfl
  · rfl
theorem updZ (c : V) : (upd E k { E k with t := c } i).z = (E i).z := by
  unfold upd; split
  · rename_i e; subst e; rfl
  · rfl
theorem updTh (c : V) (n : Int) (x y z : V) : (upd E k ⟨c, n, x, y, z, (E k).th⟩ i).th = (E i).th := by
  unfold upd; split
  · rename_i e; subst e; rfl
  · rfl
theorem updTh2 (c : V) (n : Int) (x y z : V) : (upd E k ⟨c, n, x, y, z, (E i).th⟩ i).th = (E i).th := by
  unfold upd; split <;> rfl

/-- A new table comes to one of the three. -/
theorem Rest.come (R : Rest h ro E gv G) (hk : k < 3) {h' : H} (hl : h.length ≤ h'.length) (ov : Over h.length h h') {a b c g l m : Nat} {S : List Slot} {M : List (ByteArray × Int)} {x y z : V} {B : Nat}
    (T : Tab a b c h' S M) (Rf : Ref h' x y z g l m S) (C : Cons S M) (ha : h.length ≤ a ∧ a < B) (hb : h.length ≤ b ∧ b < B) (hc : h.length ≤ c ∧ c < B)
    (hg : (g < h.length ∧ ro g = 5) ∨ (h.length ≤ g ∧ B ≤ g)) (hl' : (l < h.length ∧ ro l = 5) ∨ (h.length ≤ l ∧ B ≤ l)) (hm : (m < h.length ∧ ro m = 5) ∨ (h.length ≤ m ∧ B ≤ m)) :
    ∃ ro', Rest h' ro' (tabs.upd E k ⟨pt c, (S.length : Int), x, y, z, true⟩) gv G := by
  refine ⟨fun j => if j < h.length then ro j else if j < B then 1 + k else 5, R.upd hk hl (fun j hj => if_pos hj) (fun j hj _ _ => ov.2 j hj) ⟨fun hf => (by cases hf), fun _ => ⟨a, b, c, g, l, m, S, M, rfl, rfl, T, Rf, C, ⟨?_, ?_, ?_⟩, ?_, ?_, ?_⟩⟩⟩
  · show (if a < h.length then _ else if a < B then _ else _) = _; rw [if_neg (by omega), if_pos ha.2]
  · show (if b < h.length then _ else if b < B then _ else _) = _; rw [if_neg (by omega), if_pos hb.2]
  · show (if c < h.length then _ else if c < B then _ else _) = _; rw [if_neg (by omega), if_pos hc.2]
  · show (if g < h.length then _ else if g < B then _ else _) = _
    rcases hg with h | h
    · rw [if_pos h.1, h.2]
    · rw [if_neg (by omega), if_neg (by omega)]
  · show (if l < h.length then _ else if l < B then _ else _) = _
    rcases hl' with h | h
    · rw [if_pos h.1, h.2]
    · rw [if_neg (by omega), if_neg (by omega)]
  · show (if m < h.length then _ else if m < B then _ else _) = _
    rcases hm with h | h
    · rw [if_pos h.1, h.2]
    · rw [if_neg (by omega), if_neg (by omega)]

/-- None comes. -/
theorem Rest.gone (R : Rest h ro E gv G) (hk : k < 3) (n : Int) (x y z : V) : Rest h ro (tabs.upd E k ⟨.nilp, n, x, y, z, false⟩) gv G :=
  R.upd hk (Nat.le_refl _) (fun _ _ => rfl) (fun _ _ _ _ => rfl) ⟨fun _ => rfl, fun h => by cases h⟩

theorem step1 {N : Nat} (hN : 1048600 ≤ N) (o : Obj h E gv) (R : Rest h ro E gv G) (on at' n late p q : Int) (s : ByteArray) :
    ∃ h', F59 N (pt 0, 1, on, at', n, late, p, q, s, h) = some (true, h') ∧ InvP (G.length + 1) h' := by
  obtain ⟨k, hk, ek⟩ := mod3 on
  by_cases hr : 1 ≤ n ∧ n ≤ 256
  · obtain ⟨r, rfl⟩ := Int.eq_ofNat_of_zero_le (show 0 ≤ n by omega)
    obtain ⟨h3, e3, T3, n3, f3⟩ := newT N h (n := r) (by omega) (by omega)
    obtain ⟨gv2, lv2, nv2, h9, e9, R9, n9, f9⟩ := newR N h3 (k := r) (by omega) (by omega)
    have ov : Over h.length h h9 := ⟨by omega, fun j hj => (f9 j (by omega)).trans (f3 j hj)⟩
    have T9 := T3.over (base := h3.length) ⟨by omega, f9⟩ (by omega) (by omega) (by omega)
    obtain ⟨ro', R'⟩ := R.come hk (by omega) ov T9 R9 (Cons.fresh r) (B := h3.length) (by omega) (by omega) (by omega) (.inr (by omega)) (.inr (by omega)) (.inr (by omega))
    rw [List.length_replicate] at R'
    have o9 : Obj h9 E gv := (ov.2 0 R.pos).trans o
    obtain ⟨h11, h13, w1, _, w2, _, w3⟩ := write3 o9 hk (pt (h.length + 2)) (r : Int) gv2 lv2 nv2 true
    refine ⟨_, ?_, ro', _, gv, G, obj_set o9 _ _, R'.set _ _, by omega⟩
    rw [F59]
    simp only [eT, itT, ifT, e3, e9, bs, ek, pnck, aT hk, aR hk, aB hk, show ck1 (pt (h.length + 2)) = some () from rfl, w1, w2, w3, pnil, nF, show (true == true) = true from rfl]
  · have e3 := newNot N h hr
    have e9 := newRNot N h hr
    obtain ⟨h11, h13, w1, _, w2, _, w3⟩ := write3 o hk .nilp 0 .nils .nils .nils false
    refine ⟨_, ?_, ro, _, gv, G, obj_set o _ _, (R.gone hk 0 .nils .nils .nils).set _ _, by omega⟩
    rw [F59]
    simp only [eT, itT, ifT, e3, e9, bs, ek, pnck, aT hk, aR hk, aB hk, show ck1 .nilp = some () from rfl, w1, w2, show ((1 : Int) == 0) = false from rfl, w3, show isNil .nilp = some true from rfl, nT, show (false == false) = true from rfl]

theorem step6 {N : Nat} (hN : 1048600 ≤ N) (o : Obj h E gv) (R : Rest h ro E gv G) (on at' n late p q : Int) (s : ByteArray) :
    ∃ h', F59 N (pt 0, 6, on, at', n, late, p, q, s, h) = some (true, h') ∧ InvP (G.length + 1) h' := by
  obtain ⟨i, hi, ei⟩ := mod3 on
  obtain ⟨k, hk, ek⟩ := mod3 at'
  have d0 : decide ((6 : Int) = 2 ∨ (6 : Int) = 3 ∨ (6 : Int) = 4 ∨ (6 : Int) = 5) = false := by decide
  have bq : ∀ b : Bool, (b == b) = true := fun b => by cases b <;> rfl
  cases hth : (E i).th with
  | false =>
    have ht := (R.ent i hi).no hth
    obtain ⟨h11, h13, w1, o1, w2, o2, w3⟩ := write3 o hk .nilp (E i).n (E i).x (E i).y (E i).z (E i).th
    rw [hth] at w3
    have o3 := obj_set o (upd E k ⟨.nilp, (E i).n, (E i).x, (E i).y, (E i).z, false⟩) gv
    have hth3 : (upd E k ⟨.nilp, (E i).n, (E i).x, (E i).y, (E i).z, false⟩ i).th = false := by
      have := updTh2 (E := E) (k := k) (i := i) .nilp (E i).n (E i).x (E i).y (E i).z
      rw [hth] at this; exact this
    refine ⟨_, ?_, ro, _, gv, G, o3, (R.gone hk _ _ _ _).set _ _, by omega⟩
    rw [step_eq N _ _ _ _ _ _ _ _ _ (by omega), ei, ek, d0, step2]
    simp only [itF, ifF, Bool.false_eq_true, eT, itT, ifT, pnck, bs, aT hi, rT o hi, ht, nil76, aT hk, show ck1 .nilp = some () from rfl, w1, aR hi, rR0 o1 hi, rR1 o1 hi, rR2 o1 hi, rR3 o1 hi, updN, updX, updY, updZ, asInt_some, aR hk, w2, aB hi, rB o2 hi, updTh, tabs.asBool_some, hth, aB hk, w3, show isNil .nilp = some true from rfl, rB o3 hi, hth3, nT, bq]
  | true =>
    obtain ⟨a, b, c, g, l, m, S, M, ht, hn, T, Rf, C, _, rg, rl, rm⟩ := (R.ent i hi).yes hth
    obtain ⟨lg, ll, lm⟩ := Rf.lt
    obtain ⟨h38, e38, T38, ov⟩ := copy76 (N := N) (by omega) T
    have n38 := ov.1
    obtain ⟨ro', R'⟩ := R.come hk ov.1 ov T38 (Rf.over ov lg ll lm) C.copy (B := h.length + 4) (by omega) (by omega) (by omega) (.inl ⟨lg, rg⟩) (.inl ⟨ll, rl⟩) (.inl ⟨lm, rm⟩)
    have o38 : Obj h38 E gv := (ov.2 0 R.pos).trans o
    obtain ⟨h11, h13, w1, o1, w2, o2, w3⟩ := write3 o38 hk (pt (h.length + 3)) (E i).n (E i).x (E i).y (E i).z (E i).th
    rw [hth] at w3
    have o3 := obj_set o38 (upd E k ⟨pt (h.length + 3), (E i).n, (E i).x, (E i).y, (E i).z, true⟩) gv
    have hth3 : (upd E k ⟨pt (h.length + 3), (E i).n, (E i).x, (E i).y, (E i).z, true⟩ i).th = true := by
      have := updTh2 (E := E) (k := k) (i := i) (pt (h.length + 3)) (E i).n (E i).x (E i).y (E i).z
      rw [hth] at this; exact this
    rw [← hn] at R'
    refine ⟨_, ?_, ro', _, gv, G, o3, R'.set _ _, by omega⟩
    rw [step_eq N _ _ _ _ _ _ _ _ _ (by omega), ei, ek, d0, step2]
    simp only [itF, ifF, Bool.false_eq_true, eT, itT, ifT, pnck, bs, aT hi, rT o hi, ht, e38, aT hk, show ck1 (pt (h.length + 3)) = some () from rfl, w1, aR hi, rR0 o1 hi, rR1 o1 hi, rR2 o1 hi, rR3 o1 hi, updN, updX, updY, updZ, asInt_some, aR hk, w2, aB hi, rB o2 hi, updTh, tabs.asBool_some, hth, aB hk, w3, pnil, rB o3 hi, hth3, nF, bq]

theorem step7 {N : Nat} (hN : 1048600 ≤ N) (o : Obj h E gv) (R : Rest h ro E gv G) (on at' n late p q : Int) (s : ByteArray) :
    ∃ h', F59 N (pt 0, 7, on, at', n, late, p, q, s, h) = some (true, h') ∧ ∃ n', n' ≤ G.length + 1 ∧ InvP n' h' := by
  obtain ⟨i, hi, ei⟩ := mod3 on
  obtain ⟨k, hk, ek⟩ := mod3 at'
  have d0 : decide ((7 : Int) = 2 ∨ (7 : Int) = 3 ∨ (7 : Int) = 4 ∨ (7 : Int) = 5) = false := by decide
  have z6 : ((7 : Int) == 6) = false := rfl
  cases hth : (E i).th with
  | false =>
    refine ⟨h, ?_, G.length, by omega, ro, E, gv, G, o, R, Nat.le_refl _⟩
    rw [step_eq N _ _ _ _ _ _ _ _ _ (by omega), ei, ek, d0, step2]
    simp only [itF, ifF, Bool.false_eq_true, z6, eT, itT, ifT, pnck, bs, aB hi, rB o hi, tabs.asBool_some, hth]
  | true =>
    obtain ⟨a, b, c, g, l, m, S, M, ht, hn, T, Rf, C, _, rg, rl, rm⟩ := (R.ent i hi).yes hth
    have la := (List.getElem?_eq_some_iff.1 T.slots).1
    have lb := (List.getElem?_eq_some_iff.1 T.map).1
    have lc := (List.getElem?_eq_some_iff.1 T.obj).1
    obtain ⟨lg, ll, lm⟩ := Rf.lt
    have hlen := T.len
    have hle := LN_le S S.length
    obtain ⟨h1, v1, e1, O1, ov1, hv1⟩ := gens77 (N := N) (by omega) T
    have n1 := ov1.1
    obtain ⟨h2, v2, e2, O2, ov2, hv2⟩ := live32 (N := N) (by omega) (T.over ov1 la lb lc)
    have n2 := ov2.1
    have ov02 := ov1.trans (ov2.mono n1)
    obtain ⟨h3, v3, e3, O3, ov3, hv3⟩ := names78 (N := N) (by omega) (Rf.over ov02 lg ll lm)
    have n3 := ov3.1
    have ov03 := ov02.trans (ov3.mono (by omega))
    have O13 : Own h3 1 v1 (ones (gns S)) := O1.frame fun j hj => (ov3.2 j (by have := O1.sl'.lt hj; omega)).trans (ov2.2 j (O1.sl'.lt hj))
    have O23 : Own h3 2 v2 (twos (lps S S.length)) := O2.frame fun j hj => ov3.2 j (O2.sl'.lt hj)
    obtain ⟨hgood, hfin, hcons⟩ := back C hlen
    obtain ⟨h4, ov4, e4, T4⟩ := tabs.load (Nm := lnm S S.length) hN O13.sl' O23.sl' O3.sl' (by simp; omega)
    have n4 := ov4.1
    have T4 := T4 hgood
    rw [hfin] at T4
    rw [hgood] at e4
    simp only [itT, if_true] at e4
    have ov04 : Over h.length h h4 := ov03.trans (ov4.mono (by omega))
    have tl := (List.getElem?_eq_some_iff.1 T4.obj).1
    obtain ⟨ro', R'⟩ := R.come hk ov04.1 ov04 T4 (Rf.over ov04 lg ll lm) hcons (B := h3.length + 3) (by omega) (by omega) (by omega) (.inl ⟨lg, rg⟩) (.inl ⟨ll, rl⟩) (.inl ⟨lm, rm⟩)
    have o4 : Obj h4 E gv := (ov04.2 0 R.pos).trans o
    obtain ⟨h11, h13, w1, o1, w2, o2, w3⟩ := write3 o4 hk (pt (h3.length + 2)) (E i).n (E i).x (E i).y (E i).z true
    rw [← hn] at R'
    refine ⟨_, ?_, G.length, by omega, ro', _, gv, G, obj_set o4 _ _, R'.set _ _, Nat.le_refl _⟩
    rw [step_eq N _ _ _ _ _ _ _ _ _ (by omega), ei, ek, d0, step2]
    simp only [itF, ifF, Bool.false_eq_true, z6, eT, itT, ifT, pnck, bs, aB hi, rB o hi, tabs.asBool_some, hth, aT hi, rT o hi, ht, aR hi, rR0 o hi, rR1 o hi, rR2 o hi, rR3 o hi, hn, asInt_some, e1, e2, e3, e4, aT hk, show ck1 (pt (h3.length + 2)) = some () from rfl, w1, rR0 o1 hi, rR1 o1 hi, rR2 o1 hi, rR3 o1 hi, updN, updX, updY, updZ, aR hk, aB hk]
    rw [hn] at w2
    simp only [w2, bs, w3, pnil, nF, hn]

theorem step {N : Nat} (hN : 1048600 ≤ N) (o : Obj h E gv) (R : Rest h ro E gv G) (hG : G.length ≤ 1048576) (kind on at' n late p q : Int) (s : ByteArray) :
    ∃ h', F59 N (pt 0, kind, on, at', n, late, p, q, s, h) = some (true, h') ∧ InvP (G.length + 1) h' := by
  have up : ∀ {n' : Nat} {h' : H}, n' ≤ G.length + 1 → InvP n' h' → InvP (G.length + 1) h' := fun hn ⟨a, b, c, d, e, f, g⟩ => ⟨a, b, c, d, e, f, by omega⟩
  have here : InvP (G.length + 1) h := ⟨ro, E, gv, G, o, R, by omega⟩
  by_cases h1 : kind = 1
  · subst h1; exact step1 hN o R on at' n late p q s
  by_cases h25 : kind = 2 ∨ kind = 3 ∨ kind = 4 ∨ kind = 5
  · obtain ⟨i, hi, ei⟩ := mod3 on
    obtain ⟨u, v, hp⟩ := pickOk o R late p q
    obtain ⟨h', e, hinv⟩ := one hN hi o R hG kind on at' n late p q u v s
    refine ⟨h', ?_, hinv⟩
    rw [step_eq N _ _ _ _ _ _ _ _ _ h1, ei, decide_eq_true h25, step2]
    rw [← one_eq N (i : Int) kind on at' n late p q s h (aT hi) (rT o hi) hp] at e
    simp only [itT, ifT, e, bs]
  by_cases h6 : kind = 6
  · subst h6; exact step6 hN o R on at' n late p q s
  by_cases h7 : kind = 7
  · subst h7
    obtain ⟨h', e, n', hn, hinv⟩ := step7 hN o R on at' n late p q s
    exact ⟨h', e, up hn hinv⟩
  obtain ⟨i, hi, ei⟩ := mod3 on
  by_cases h8 : kind = 8
  · subst h8
    obtain ⟨h', e, ov⟩ := told60 hN hi o R
    refine ⟨h', ?_, ro, E, gv, G, (ov.2 0 R.pos).trans o, R.over ov, by omega⟩
    rw [step_eq N _ _ _ _ _ _ _ _ _ h1, ei, decide_eq_false h25, step2]
    simp only [itF, ifF, Bool.false_eq_true, eF h6, eF h7, eT, itT, ifT, e, bs]
  · refine ⟨h, ?_, here⟩
    rw [step_eq N _ _ _ _ _ _ _ _ _ h1, ei, decide_eq_false h25, step2]
    simp only [itF, ifF, Bool.false_eq_true, eF h6, eF h7, eF h8, bs]
end

/-- A step, as an argument. -/
structure Op where
  kind : Int
  on : Int
  at' : Int
  n : Int
  late : Int
  p : Int
  q : Int
  s : ByteArray
def Op.cs (x : Op) : List V := [I x.kind, I x.on, I x.at', I x.n, I x.late, I x.p, I x.q, .str x.s]
def opsV (E : List Op) : V := .rs 8 (E.map fun e => .agg e.cs)
theorem ops_len (E : List Op) : slen (opsV E) = some (E.length : Int) := by simp [opsV, slen]
theorem ops_at (E : List Op) {i : Nat} (hi : i < E.length) : sidx (opsV E) (i : Int) 8 = some (.rptr E[i].cs) := by
  unfold opsV
  rw [sidx_rs (by omega)]
  simp [hi, V.cells]

theorem scriptL {N : Nat} (hN : 1048600 ≤ N) (Q : List Op) (hQ : Q.length ≤ 1048576) : ∀ (k m i : Nat) (h : H), i + k = Q.length → k < m → InvP i h →
    ∃ h', L12_0 N m (opsV Q, pt 0, (i : Int), h) = some (.inl (pt 0, h')) ∧ InvP Q.length h'
  | 0, m + 1, i, h, hi, hm, hv => by
    refine ⟨h, ?_, by rw [show Q.length = i by omega]; exact hv⟩
    rw [L12_0]
    simp only [ops_len, bs, itF, ifF, dF (show ¬ (i : Int) < (Q.length : Int) by omega), Bool.false_eq_true]
  | k + 1, m + 1, i, h, hi, hm, hv => by
    have hi1 : i < Q.length := by omega
    have e2 : IntKind.i64.wrap ((i : Int) + 1) = ((i + 1 : Nat) : Int) := by rw [wrapIn (by omega)]; omega
    obtain ⟨ro, E, gv, G, o, R, hG⟩ := hv
    obtain ⟨h1, e1, ro1, E1, gv1, G1, o1, R1, hG1⟩ := step hN o R (by omega) Q[i].kind Q[i].on Q[i].at' Q[i].n Q[i].late Q[i].p Q[i].q Q[i].s
    obtain ⟨h', e, hv'⟩ := scriptL hN Q hQ k m (i + 1) h1 (by omega) (by omega) ⟨ro1, E1, gv1, G1, o1, R1, by omega⟩
    refine ⟨h', ?_, hv'⟩
    have r : ∀ (j : Nat) (x : V), (Q[i].cs)[j]? = some x → rd h (.rptr Q[i].cs) j = some x := fun j x hx => by rw [rd_rptr]; exact hx
    rw [L12_0]
    simp only [ops_len, bs, itT, ifT, itF, ifF, dT (show (i : Int) < (Q.length : Int) by omega), ops_at Q hi1, r 0 _ rfl, r 1 _ rfl, r 2 _ rfl, r 3 _ rfl, r 4 _ rfl, r 5 _ rfl, r 6 _ rfl, r 7 _ rfl, asInt_some, tabs.asStr_some, e1, nT, Bool.false_eq_true, e2, e]

theorem script {N : Nat} (hN : 1048600 ≤ N) (Q : List Op) (hQ : Q.length ≤ 1048576) (hw : ∃ h', F30 100 [] = some (true, h')) : ∃ h', F12 N (opsV Q, []) = some (true, h') := by
  obtain ⟨hw, aw⟩ := hw
  have o : Obj [O.cells 0 (cellsP (fun _ => ⟨.nilp, 0, .nils, .nils, .nils, false⟩) .nils)] (fun _ => ⟨.nilp, 0, .nils, .nils, .nils, false⟩) .nils := rfl
  have R : Rest [O.cells 0 (cellsP (fun _ => ⟨.nilp, 0, .nils, .nils, .nils, false⟩) .nils)] (fun _ => 0) (fun _ => ⟨.nilp, 0, .nils, .nils, .nils, false⟩) .nils [] :=
    ⟨fun i hi => ⟨fun _ => rfl, fun h => by cases h⟩, .nil, by simp [oid], rfl, by simp⟩
  obtain ⟨h1, e1, ro, E, gv, G, o1, R1, hG⟩ := scriptL hN Q hQ Q.length N 0 _ (by omega) (by omega) ⟨_, _, _, _, o, R, Nat.le_refl _⟩
  have e1' : L12_0 N N (opsV Q, pt 0, 0, [O.cells 0 [.nilp, .nilp, .nilp, (.int .i64 0), .nils, .nils, .nils, (.int .i64 0), .nils, .nils, .nils, (.int .i64 0), .nils, .nils, .nils, (.bool false), (.bool false), (.bool false), .nils]]) = some (.inl (pt 0, h1)) := e1
  have next : ∀ (k : Nat) (h : H), k < 3 → Obj h E gv → Rest h ro E gv G → ∃ h', F60 N (pt 0, (k : Int), h) = some (true, h') ∧ Obj h' E gv ∧ Rest h' ro E gv G := fun k h hk o R => by
    obtain ⟨h', e, ov⟩ := told60 hN hk o R
    exact ⟨h', e, (ov.2 0 R.pos).trans o, R.over ov⟩
  obtain ⟨h2, e2, o2, R2⟩ := next 0 h1 (by omega) o1 R1
  obtain ⟨h3, e3, o3, R3⟩ := next 1 h2 (by omega) o2 R2
  obtain ⟨h4, e4, o4, R4⟩ := next 2 h3 (by omega) o3 R3
  obtain ⟨h5, e5, o5, R5⟩ := next 0 h4 (by omega) o4 R4
  have e2' : F60 N (pt 0, 0, h1) = some (true, h2) := e2
  have e3' : F60 N (pt 0, 1, h2) = some (true, h3) := e3
  have e4' : F60 N (pt 0, 2, h3) = some (true, h4) := e4
  have e5' : F60 N (pt 0, 0, h4) = some (true, h5) := e5
  refine ⟨h5, ?_⟩
  rw [F12]
  simp only [List.nil_append, List.length_nil, bs, e1', e2', itT, ifT, e3', e4', e5', aw]

end Go.Proofs.Ytbpibiapjangmaa.tabs
