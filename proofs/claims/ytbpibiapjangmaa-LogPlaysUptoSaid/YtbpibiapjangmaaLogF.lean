/- The reference log, as plain lists. -/
import Derived.Test.YtbpibiapjangmaaLogE
namespace Go.Proofs.Ytbpibiapjangmaa.logs
open Go Go.L
set_option linter.unusedVariables false
set_option linter.unusedSimpArgs false

/-- A reference log's cells. -/
def lr (room : Int) (kr : V) (C A B : List Int) : List V := I room :: kr :: (C ++ (A ++ B)).map I

section
variable {room : Int} {kr : V} {C A B : List Int}

theorem lr_room : (lr room kr C A B)[0]? = some (I room) := rfl
theorem lr_kr : (lr room kr C A B)[1]? = some kr := rfl
theorem lr_C {k : Nat} (hC : C.length = 11) (hk : k < 11) : (lr room kr C A B)[2 + k]? = some (I (at' C k)) := by
  have e : 2 + k = k + 1 + 1 := by omega
  rw [e]
  simp only [lr, List.getElem?_cons_succ, List.getElem?_map, List.map_append]
  rw [List.getElem?_append_left (by simp; omega), List.getElem?_map, at_get (by omega)]; rfl
theorem lr_A {k : Nat} (hC : C.length = 11) (hA : A.length = 11) (hk : k < 11) : (lr room kr C A B)[13 + k]? = some (I (at' A k)) := by
  have e : 13 + k = (11 + k) + 1 + 1 := by omega
  rw [e]
  simp only [lr, List.getElem?_cons_succ, List.getElem?_map]
  rw [List.getElem?_append_right (by omega), List.getElem?_append_left (by omega), hC]
  have : 11 + k - 11 = k := by omega
  rw [this, at_get (by omega)]; rfl
theorem lr_B {k : Nat} (hC : C.length = 11) (hA : A.length = 11) (hB : B.length = 11) (hk : k < 11) : (lr room kr C A B)[24 + k]? = some (I (at' B k)) := by
  have e : 24 + k = (22 + k) + 1 + 1 := by omega
  rw [e]
  simp only [lr, List.getElem?_cons_succ, List.getElem?_map]
  rw [List.getElem?_append_right (by omega), List.getElem?_append_right (by omega), hC, hA]
  have : 22 + k - 11 - 11 = k := by omega
  rw [this, at_get (by omega)]; rfl
theorem lr_setK (v : V) : (lr room kr C A B).set 1 v = lr room v C A B := rfl
theorem lr_setC {k : Nat} (hC : C.length = 11) (hk : k < 11) (v : Int) : (lr room kr C A B).set (2 + k) (I v) = lr room kr (C.set k v) A B := by
  have e : 2 + k = k + 1 + 1 := by omega
  rw [e]
  simp only [lr, List.set_cons_succ, List.map_append]
  rw [List.set_append_left _ _ (by simp; omega), List.map_set]
theorem lr_setA {k : Nat} (hC : C.length = 11) (hA : A.length = 11) (hk : k < 11) (v : Int) : (lr room kr C A B).set (13 + k) (I v) = lr room kr C (A.set k v) B := by
  have e : 13 + k = (11 + k) + 1 + 1 := by omega
  rw [e]
  simp only [lr, List.set_cons_succ, List.map_append]
  rw [List.set_append_right _ _ (by simp; omega), List.set_append_left _ _ (by simp; omega), List.map_set]
  have : 11 + k - (List.map I C).length = k := by simp; omega
  rw [this]
theorem lr_setB {k : Nat} (hC : C.length = 11) (hA : A.length = 11) (hB : B.length = 11) (hk : k < 11) (v : Int) : (lr room kr C A B).set (24 + k) (I v) = lr room kr C A (B.set k v) := by
  have e : 24 + k = (22 + k) + 1 + 1 := by omega
  rw [e]
  simp only [lr, List.set_cons_succ, List.map_append]
  rw [List.set_append_right _ _ (by simp; omega), List.set_append_right _ _ (by simp; omega), List.map_set]
  have : 22 + k - (List.map I C).length - (List.map I A).length = k := by simp; omega
  rw [this]
theorem lr_len (hC : C.length = 11) (hA : A.length = 11) (hB : B.length = 11) : (lr room kr C A B).length = 35 := by simp [lr]; omega
theorem lr_whole (hC : C.length = 11) (hA : A.length = 11) (hB : B.length = 11) :
    (if 0 + 35 ≤ (lr room kr C A B).length then some (((lr room kr C A B).drop 0).take 35) else none) = some (lr room kr C A B) := by
  have := lr_len (room := room) (kr := kr) hC hA hB
  rw [if_pos (by omega), List.drop_zero, List.take_of_length_le (by omega)]

theorem refCount (hC : C.length = 11) (hA : A.length = 11) (hB : B.length = 11) (N : Nat) (z : Int) (h : H) : F48 N (lr room kr C A B, z, h) = some (cnt C z, h) := by
  have hl := lr_len (room := room) (kr := kr) hC hA hB
  rw [F48, if_pos hl]
  by_cases h1 : z < 0
  · simp only [itT, itF, ifT, ifF, dT h1, bs]
    rw [cnt, if_neg (by omega)]
  · by_cases h2 : z ≥ 11
    · simp only [itT, itF, ifT, ifF, dF h1, dT h2, bs]
      rw [cnt, if_neg (by omega)]
    · obtain ⟨k, rfl⟩ := Int.eq_ofNat_of_zero_le (show 0 ≤ z by omega)
      have e1 : cnt C (k : Int) = at' C k := by rw [cnt, if_pos (by omega)]; rfl
      have e2 : (lr room kr C A B)[((2 + Int.toNat (k : Int) * 1) + 0)]? = some (I (at' C k)) := by
        have : (2 + Int.toNat (k : Int) * 1) + 0 = 2 + k := by simp
        rw [this, lr_C hC (by omega)]
      simp only [itT, itF, ifT, ifF, dF h1, dF h2, bs, if_pos (show 0 ≤ (k : Int) by omega), if_pos (show (k : Int) < 11 by omega), e2, asInt_some, e1]

theorem sumL70 (N : Nat) (hC : C.length = 11) (hA : A.length = 11) (hB : B.length = 11) (hp : ∀ i, 0 ≤ at' C i) (h : H) : ∀ (k n i : Nat) (s : Int), i + k = 11 → k < n → 0 ≤ s → s + (C.drop i).sum < 4611686018427387904 →
    L70_0 N n (s, (i : Int), lr room kr C A B, h) = some (s + (C.drop i).sum, h)
  | 0, n + 1, i, s, hi, hn, hs, hb => by
    have : i = 11 := by omega
    subst this
    rw [L70_0]
    simp only [itF, itT, ifT, ifF, dF (show ¬ ((11 : Nat) : Int) < 11 by omega)]
    rw [List.drop_of_length_le (by omega)]; simp
  | k + 1, n + 1, i, s, hi, hn, hs, hb => by
    have hi' : i < C.length := by omega
    have hd : C.drop i = at' C i :: C.drop (i + 1) := by rw [List.drop_eq_getElem_cons hi', at']; simp [hi']
    rw [hd, List.sum_cons] at hb ⊢
    have p1 := hp i
    have p2 : ∀ (X : List Int), (∀ x ∈ X, 0 ≤ x) → 0 ≤ X.sum := by
      intro X
      induction X with
      | nil => simp
      | cons x X ih => intro h; have := h x (by simp); have := ih fun y hy => h y (by simp [hy]); simp; omega
    have p3 : 0 ≤ (C.drop (i + 1)).sum := p2 _ fun x hx => by
      have hx' := List.mem_of_mem_drop hx
      obtain ⟨j, hj, rfl⟩ := List.mem_iff_getElem.1 hx'
      have := hp j
      simpa [at', hj] using this
    have e1 : (2 + Int.toNat (i : Int) * 1) + 0 = 2 + i := by simp
    have e2 : IntKind.i64.wrap ((i : Int) + 1) = ((i + 1 : Nat) : Int) := by rw [wrapIn (by omega)]; omega
    have e3 : IntKind.i64.wrap (s + at' C i) = s + at' C i := wrapIn (by omega)
    rw [L70_0]
    simp only [itF, itT, ifT, ifF, dT (show (i : Int) < 11 by omega), if_pos (show 0 ≤ (i : Int) by omega), if_pos (show (i : Int) < 11 by omega), e1, lr_C hC (show i < 11 by omega), asInt_some, bs, e2, e3]
    rw [sumL70 N hC hA hB hp h k n (i + 1) (s + at' C i) (by omega) (by omega) (by omega) (by omega), Int.add_assoc]

theorem refLost {id : Nat} {h : H} {Ad : List Ev} {kept : V} {from' : Nat} {Ph : List Ev} (L : Log id h room Ad kept from' Ph C A B) (hAd : Ad.length < 4611686018427387903) {N : Nat} (hN : 12 ≤ N) (ho : Own h 6 kr ((last Ad Ph).map Ev.cs)) :
    F47 N (lr room kr C A B, h) = some (((Ad.length - Ph.length : Nat) : Int), h) := by
  have hl := lr_len (room := room) (kr := kr) L.lenC L.lenA L.lenB
  have hw := lr_whole (room := room) (kr := kr) L.lenC L.lenA L.lenB
  have hs := L.sum
  have h70 := sumL70 (room := room) (kr := kr) N L.lenC L.lenA L.lenB L.Cpos h 11 N 0 0 (by omega) (by omega) (by omega) (by simp; omega)
  simp only [List.drop_zero, Int.zero_add, Int.ofNat_zero, hs] at h70
  have hph := L.phle
  have hll : (last Ad Ph).length = Ph.length := by simp [last]; omega
  have hw2 : IntKind.i64.wrap ((Ad.length : Int) - (Ph.length : Int)) = ((Ad.length - Ph.length : Nat) : Int) := by rw [wrapIn (by omega)]; omega
  rw [F47, if_pos hl, hw]
  simp only [bs]
  rw [F70, if_pos hl, h70]
  simp only [bs, lr_kr, ho.sl'.len, List.length_map, hll, hw2]

/-- An event joins the reference log. -/
theorem refAdd {h : H} {Y : List Ev} (ho : Own h 6 kr (Y.map Ev.cs)) (hC : C.length = 11) (hA : A.length = 11) (hB : B.length = 11) (hY : (Y.length : Int) ≤ room) (hr : 1 ≤ room ∧ room ≤ 4096)
    (hCp : ∀ i, 0 ≤ at' C i ∧ at' C i < 4611686018427387904) (hAp : ∀ i, 0 ≤ at' A i ∧ at' A i ≤ 4611686018427387903) (hBp : ∀ i, 0 ≤ at' B i ∧ at' B i ≤ 4611686018427387903) (N : Nat) (e : Ev) (he : May e) :
    ∃ kr' h', F45 N (lr room kr C A B, e.kind, e.core, e.n, e.gen, e.a, e.b, h) = some (lr room kr' (C.set e.kind.toNat (at' C e.kind.toNat + 1)) (A.set e.kind.toNat ((at' A e.kind.toNat + e.a) % 4611686018427387904)) (B.set e.kind.toNat ((at' B e.kind.toNat + e.b) % 4611686018427387904)), 0, h') ∧
      Own h' 6 kr' ((Y.drop (if (Y.length : Int) = room then 1 else 0) ++ [e]).map Ev.cs) ∧ Keeps h h' none ∧ (∀ i, oid kr' = some i → h.length ≤ i) := by
  have hmay := may e
  rw [dT he] at hmay
  obtain ⟨k1, k2, a1, a2, b1, b2⟩ := he
  obtain ⟨kd, core, n, gen, a, b⟩ := e
  simp only at *
  obtain ⟨k, rfl⟩ := Int.eq_ofNat_of_zero_le (show 0 ≤ kd by omega)
  have hk11 : k < 11 := by omega
  have hkt : Int.toNat (k : Int) = k := by simp
  have cb := hCp k
  have ab := hAp k
  have bb := hBp k
  have m1 : Int.tmod (IntKind.i64.wrap (at' A k + a)) 4611686018427387904 = (at' A k + a) % 4611686018427387904 := by
    rw [wrapIn (by omega), Int.tmod_eq_emod_of_nonneg (by omega)]
  have m2 : Int.tmod (IntKind.i64.wrap (at' B k + b)) 4611686018427387904 = (at' B k + b) % 4611686018427387904 := by
    rw [wrapIn (by omega), Int.tmod_eq_emod_of_nonneg (by omega)]
  have m3 : IntKind.i64.wrap (at' C k + 1) = at' C k + 1 := wrapIn (by omega)
  have hl := lr_len (room := room) (kr := kr) hC hA hB
  -- what goes
  obtain ⟨d, hd1, hd2, hd3⟩ : ∃ d : Nat, (if (Y.length : Int) = room then 1 else 0) = d ∧ d ≤ Y.length ∧ ((if ((Y.length : Int) == room) = true then some ((1 : Int), lr room kr C A B, (k : Int), core, n, gen, a, b, ((.int .i64 0) :: .nils :: List.replicate 33 (.int .i64 0) : List V), h) else some (0, lr room kr C A B, (k : Int), core, n, gen, a, b, ((.int .i64 0) :: .nils :: List.replicate 33 (.int .i64 0)), h)) : Option (Int × List V × Int × Int × Int × Int × Int × Int × List V × H)) = some ((d : Int), lr room kr C A B, (k : Int), core, n, gen, a, b, ((.int .i64 0) :: .nils :: List.replicate 33 (.int .i64 0)), h) := by
    by_cases hf : (Y.length : Int) = room
    · exact ⟨1, if_pos hf, by omega, by rw [if_pos (by simpa using hf)]; rfl⟩
    · exact ⟨0, if_neg hf, by omega, by rw [if_neg (by simpa using hf)]; rfl⟩
  rw [hd1]
  obtain ⟨v19, e19, s19, i19⟩ := ho.sl'.cut d Y.length hd2 (by simp)
  have hX : List.take (Y.length - d) (List.drop d (List.map Ev.cs Y)) = (Y.drop d).map Ev.cs := by
    rw [← List.map_drop, List.take_of_length_le (by simp)]
  rw [hX] at s19
  obtain ⟨v20, h21, e20, o20, k20, f20, _⟩ := (Own.nil (h := h) (es := 6)).app _ s19.els (by simp [mostCells]; omega)
  rw [List.nil_append] at o20
  obtain ⟨v23, h24, e23, o23, k23, f23, c23⟩ := o20.app1 [I k, I core, I n, I gen, I a, I b] rfl (by simp [mostCells]; omega)
  have fr20 : ∀ i, oid v20 = some i → h.length ≤ i := by
    intro i hi
    rcases f20 with e | e
    · rw [e] at hi; simp [oid] at hi
    · rw [e] at hi; have := Option.some.inj hi; omega
  have hk20 := k20.1
  have hk23 := k23.1
  refine ⟨v23, h24, ?_, ?_, ?_, ?_⟩
  · have c1 : lr room v23 C A B = splice (lr room kr C A B) 1 [v23] := by rw [splice1, lr_setK]
    have hl1 := lr_len (room := room) (kr := v23) hC hA hB
    have g2 : (lr room v23 C A B)[((2 + Int.toNat (k : Int) * 1) + 0)]? = some (I (at' C k)) := by
      have : (2 + Int.toNat (k : Int) * 1) + 0 = 2 + k := by simp
      rw [this, lr_C hC hk11]
    have c2 : splice (lr room v23 C A B) (2 + Int.toNat (k : Int) * 1) [I (at' C k + 1)] = lr room v23 (C.set k (at' C k + 1)) A B := by
      have : (2 + Int.toNat (k : Int) * 1) = 2 + k := by simp
      rw [this, splice1, lr_setC hC hk11]
    have hC' : (C.set k (at' C k + 1)).length = 11 := by simpa using hC
    rw [hkt]
    generalize C.set k (at' C k + 1) = C' at *
    have hl2 := lr_len (room := room) (kr := v23) hC' hA hB
    have g3 : (lr room v23 C' A B)[((13 + Int.toNat (k : Int) * 1) + 0)]? = some (I (at' A k)) := by
      have : (13 + Int.toNat (k : Int) * 1) + 0 = 13 + k := by simp
      rw [this, lr_A hC' hA hk11]
    have c3 : splice (lr room v23 C' A B) (13 + Int.toNat (k : Int) * 1) [I ((at' A k + a) % 4611686018427387904)] = lr room v23 C' (A.set k ((at' A k + a) % 4611686018427387904)) B := by
      have : (13 + Int.toNat (k : Int) * 1) = 13 + k := by simp
      rw [this, splice1, lr_setA hC' hA hk11]
    have hA' : (A.set k ((at' A k + a) % 4611686018427387904)).length = 11 := by simpa using hA
    generalize A.set k ((at' A k + a) % 4611686018427387904) = A' at *
    have hl3 := lr_len (room := room) (kr := v23) hC' hA' hB
    have g4 : (lr room v23 C' A' B)[((24 + Int.toNat (k : Int) * 1) + 0)]? = some (I (at' B k)) := by
      have : (24 + Int.toNat (k : Int) * 1) + 0 = 24 + k := by simp
      rw [this, lr_B hC' hA' hB hk11]
    have c4 : splice (lr room v23 C' A' B) (24 + Int.toNat (k : Int) * 1) [I ((at' B k + b) % 4611686018427387904)] = lr room v23 C' A' (B.set k ((at' B k + b) % 4611686018427387904)) := by
      have : (24 + Int.toNat (k : Int) * 1) = 24 + k := by simp
      rw [this, splice1, lr_setB hC' hA' hB hk11]
    have hB' : (B.set k ((at' B k + b) % 4611686018427387904)).length = 11 := by simpa using hB
    generalize B.set k ((at' B k + b) % 4611686018427387904) = B' at *
    have hl4 := lr_len (room := room) (kr := v23) hC' hA' hB'
    have hw4 := lr_whole (room := room) (kr := v23) hC' hA' hB'
    have hz : (((.int .i64 0) :: .nils :: List.replicate 33 (.int .i64 0) : List V)).length = 35 := rfl
    have c5 : splice ((.int .i64 0) :: .nils :: List.replicate 33 (.int .i64 0) : List V) 0 (lr room v23 C' A' B') = lr room v23 C' A' B' := splice_all (by rw [hl4, hz]) (by rw [hz]; omega)
    have i0 : 0 ≤ (k : Int) := by omega
    have i1 : (k : Int) < 11 := by omega
    rw [F45, if_pos hl]
    simp only [hmay, bs, nT, itT, itF, ifT, ifF, lr_kr, lr_room, asInt_some, ho.sl'.len, List.length_map, hd3, e19, s19.cells, s19.snlen, List.length_drop]
    simp only [List.length_map, List.length_drop] at e20
    simp only [e20, bs, e23, c23, ← c1, g2, asInt_some, if_pos i0, if_pos i1, m3, c2, g3, m1, c3, g4, m2, c4, hw4, c5, hl, hl1, hl2, hl3, hl4, hz]
    have j1 : 1 + 1 ≤ 35 := by omega
    have j2 : 2 + Int.toNat (k : Int) * 1 + 1 ≤ 35 := by omega
    have j3 : 13 + Int.toNat (k : Int) * 1 + 1 ≤ 35 := by omega
    have j4 : 24 + Int.toNat (k : Int) * 1 + 1 ≤ 35 := by omega
    simp only [if_pos j1, if_pos j2, if_pos j3, if_pos j4, bs, if_true, Nat.zero_add, Nat.le_refl, List.drop_zero]
    have j5 : List.take 35 (lr room v23 C' A' B') = lr room v23 C' A' B' := List.take_of_length_le (by omega)
    rw [j5, if_pos hl4, if_pos (by omega), c5, if_pos (by omega), j5]
    rfl
  · rw [List.map_append]
    exact o23
  · refine ⟨by omega, fun i hi _ => ?_⟩
    rw [k23.2 i (by omega) (fun hh => by have := fr20 i hh; omega), k20.2 i hi (by simp [oid])]
  · intro i hi
    rcases f23 with e | e
    · exact fr20 i (by rw [← e]; exact hi)
    · rw [e] at hi; have := Option.some.inj hi; omega

theorem refAddNot {h : H} (hC : C.length = 11) (hA : A.length = 11) (hB : B.length = 11) (N : Nat) (e : Ev) (he : ¬ May e) :
    F45 N (lr room kr C A B, e.kind, e.core, e.n, e.gen, e.a, e.b, h) = some (lr room kr C A B, 1, h) := by
  have hmay := may e
  rw [dF he] at hmay
  have hl := lr_len (room := room) (kr := kr) hC hA hB
  have hw := lr_whole (room := room) (kr := kr) hC hA hB
  have hz : (((.int .i64 0) :: .nils :: List.replicate 33 (.int .i64 0) : List V)).length = 35 := rfl
  have c5 : splice ((.int .i64 0) :: .nils :: List.replicate 33 (.int .i64 0) : List V) 0 (lr room kr C A B) = lr room kr C A B := splice_all (by rw [hl, hz]) (by rw [hz]; omega)
  rw [F45, if_pos hl, hw]
  simp only [hmay, bs, nF, itT, itF, ifT, ifF, if_pos hl, c5]
  rw [if_pos (by omega), hw]
  rfl

/-- The events of a process, in the reference log. -/
theorem refOfL (N : Nat) (n g : Int) (hC : C.length = 11) (hA : A.length = 11) (hB : B.length = 11) {Y : List Ev} (hY : Y.length ≤ 4096) {b : Nat} (hk : ∀ i, oid kr = some i → i < b) : ∀ (k m i : Nat) (v : V) (h : H), i + k = Y.length → k < m → Sl h 6 kr (Y.map Ev.cs) →
    Own h 6 v (((Y.take i).filter fun e => (e.n == n) && (e.gen == g)).map Ev.cs) → b ≤ h.length → (∀ i, oid v = some i → b ≤ i) →
    ∃ v' h', L51_0 N m (v, (i : Int), lr room kr C A B, n, g, h) = some (v', h') ∧ Own h' 6 v' ((Y.filter fun e => (e.n == n) && (e.gen == g)).map Ev.cs) ∧ Above b h h' ∧ (∀ i, oid v' = some i → b ≤ i)
  | 0, m + 1, i, v, h, hi, hm, hs, ho, hb, hv => by
    have : i = Y.length := by omega
    subst this
    rw [List.take_length] at ho
    refine ⟨v, h, ?_, ho, .refl _ _, hv⟩
    rw [L51_0]
    simp only [lr_kr, bs, hs.len, List.length_map, itT, itF, ifT, ifF, dF (show ¬ (Y.length : Int) < (Y.length : Int) by omega)]
  | k + 1, m + 1, i, v, h, hi, hm, hs, ho, hb, hv => by
    have hi1 : i < Y.length := by omega
    have ht : Y.take (i + 1) = Y.take i ++ [Y[i]] := by rw [List.take_add_one, List.getElem?_eq_getElem hi1]; rfl
    obtain ⟨q, eq, a0, a1, a2, a3, a4, a5⟩ := evAt hs hi1
    have e2 : IntKind.i64.wrap ((i : Int) + 1) = ((i + 1 : Nat) : Int) := by rw [wrapIn (by omega)]; omega
    have pd : ∀ (q : V) (j : Nat), rd h (padd q 2) j = rd h q (2 + j) := by
      intro q j
      cases q <;> simp [padd, rd, Nat.add_assoc]
    rw [L51_0]
    simp only [lr_kr, bs, hs.len, List.length_map, itT, itF, ifT, ifF, dT (show (i : Int) < (Y.length : Int) by omega), eq, pd, Nat.add_zero, Nat.reduceAdd, a0, a1, a2, a3, a4, a5, asInt_some, Bool.and_true]
    cases hm1 : (Y[i].n == n) && (Y[i].gen == g) with
    | true =>
      have hf : ((Y.take (i + 1)).filter fun e => (e.n == n) && (e.gen == g)) = ((Y.take i).filter fun e => (e.n == n) && (e.gen == g)) ++ [Y[i]] := by rw [ht, List.filter_append]; simp [hm1]
      have hfl := List.length_filter_le (fun e : Ev => (e.n == n) && (e.gen == g)) (Y.take i)
      rw [List.length_take] at hfl
      obtain ⟨v1, h1, e1, o1, k1, hid, _⟩ := ho.app1 Y[i].cs rfl (by simp [mostCells]; omega)
      have e1' : happ h v 6 1 [I Y[i].kind, I Y[i].core, I Y[i].n, I Y[i].gen, I Y[i].a, I Y[i].b] = some (v1, h1) := e1
      have hk1 := k1.1
      have ab := Above.of k1 hb hv
      obtain ⟨v', h', e, o', a', f'⟩ := refOfL N n g hC hA hB hY hk k m (i + 1) v1 h1 (by omega) (by omega) (ab.sl hs hk) (by rw [hf, List.map_append]; exact o1) (by omega) (by
        intro j hj
        rcases hid with e | e
        · exact hv j (by rw [← e]; exact hj)
        · rw [e] at hj; have := Option.some.inj hj; omega)
      refine ⟨v', h', ?_, o', ab.trans a', f'⟩
      simp only [itT, ifT, e1', bs, e2]
      exact e
    | false =>
      have hf : ((Y.take (i + 1)).filter fun e => (e.n == n) && (e.gen == g)) = ((Y.take i).filter fun e => (e.n == n) && (e.gen == g)) := by rw [ht, List.filter_append]; simp [hm1]
      obtain ⟨v', h', e, o', a', f'⟩ := refOfL N n g hC hA hB hY hk k m (i + 1) v h (by omega) (by omega) hs (by rw [hf]; exact ho) hb hv
      refine ⟨v', h', ?_, o', a', f'⟩
      simp only [itF, ifF, bs, e2]
      exact e

theorem refOf {N : Nat} (n g : Int) (hC : C.length = 11) (hA : A.length = 11) (hB : B.length = 11) {Y : List Ev} (hY : Y.length ≤ 4096) (hN : 4097 < N) {h : H} (hs : Sl h 6 kr (Y.map Ev.cs)) :
    ∃ v' h', F51 N (lr room kr C A B, n, g, h) = some (v', h') ∧ Own h' 6 v' ((Y.filter fun e => (e.n == n) && (e.gen == g)).map Ev.cs) ∧ Above h.length h h' ∧ (∀ i, oid v' = some i → h.length ≤ i) := by
  have hl := lr_len (room := room) (kr := kr) hC hA hB
  obtain ⟨v', h', e, o, a, f⟩ := refOfL (room := room) N n g hC hA hB hY (b := h.length) (fun i hi => hs.lt hi) Y.length N 0 .nils h (by omega) (by omega) hs (by simpa using Own.nil) (by omega) (by simp [oid])
  refine ⟨v', h', ?_, o, a, f⟩
  rw [F51, if_pos hl, show L51_0 N N (.nils, 0, lr room kr C A B, n, g, h) = _ from e]
  rfl
end

/-- What is held after one event more. -/
theorem last_step {id id' : Nat} {h h' : H} {room : Int} {Ad : List Ev} {kept kept' : V} {from' from'' : Nat} {Ph Ph' : List Ev} {C A B C' A' B' : List Int} {e : Ev} (L : Log id h room Ad kept from' Ph C A B) (L' : Log id' h' room (Ad ++ [e]) kept' from'' Ph' C' A' B') :
    last (Ad ++ [e]) Ph' = (last Ad Ph).drop (if ((last Ad Ph).length : Int) = room then 1 else 0) ++ [e] := by
  have h1 := L.len
  have h2 := L'.len
  have h3 := L.room1
  have hp := L.phle
  have hp' := L'.phle
  have hll : (last Ad Ph).length = Ph.length := by simp [last]; omega
  rw [hll]
  simp only [List.length_append, List.length_cons, List.length_nil] at h2 hp'
  by_cases hf : (Ph.length : Int) = room
  · have e1 : Ph'.length = Ph.length := by omega
    rw [if_pos hf, last, last, List.drop_drop, e1]
    have : (Ad ++ [e]).length - Ph.length = Ad.length - Ph.length + 1 := by simp; omega
    rw [this, List.drop_append_of_le_length (by omega)]
  · have e1 : Ph.length = Ad.length := by omega
    have e2 : Ph'.length = Ad.length + 1 := by omega
    rw [if_neg hf, last, last, List.drop_zero, e1, e2]
    have : (Ad ++ [e]).length - (Ad.length + 1) = 0 := by simp
    rw [this]; simp

end Go.Proofs.Ytbpibiapjangmaa.logs
