/- Package log, as plain lists: what its functions make of a log. -/
import Derived.Test.YtbpibiapjangmaaL38
import Derived.Test.YtbpibiapjangmaaLg
namespace Go.Proofs.Ytbpibiapjangmaa.logs
open Go Go.L
set_option linter.unusedVariables false
set_option linter.unusedSimpArgs false

abbrev I (n : Int) : V := .int .i64 n
abbrev pt (id : Nat) : V := .ptr id 0 0
def at' (A : List Int) (i : Nat) : Int := A.getD i 0

structure Ev where
  kind : Int
  core : Int
  n : Int
  gen : Int
  a : Int
  b : Int

def Ev.cs (e : Ev) : List V := [I e.kind, I e.core, I e.n, I e.gen, I e.a, I e.b]

/-- A log's cells. -/
def lg (room : Int) (kept : V) (from' : Int) (C A B : List Int) : List V := I room :: kept :: I from' :: (C ++ (A ++ B)).map I

section
variable {room from' : Int} {kept : V} {C A B : List Int}

theorem at_get {A : List Int} {k : Nat} (hk : k < A.length) : A[k]? = some (at' A k) := by simp [at', hk]

theorem lg_room : (lg room kept from' C A B)[0]? = some (I room) := by simp [lg]
theorem lg_kept : (lg room kept from' C A B)[1]? = some kept := by simp [lg]
theorem lg_from : (lg room kept from' C A B)[2]? = some (I from') := by simp [lg]
theorem lg_C {k : Nat} (hC : C.length = 11) (hk : k < 11) : (lg room kept from' C A B)[3 + k]? = some (I (at' C k)) := by
  have e : 3 + k = k + 1 + 1 + 1 := by omega
  rw [e]
  simp only [lg, List.getElem?_cons_succ, List.getElem?_map, List.map_append]
  rw [List.getElem?_append_left (by simp; omega), List.getElem?_map, at_get (by omega)]; rfl
theorem lg_A {k : Nat} (hC : C.length = 11) (hA : A.length = 11) (hk : k < 11) : (lg room kept from' C A B)[14 + k]? = some (I (at' A k)) := by
  have e : 14 + k = (11 + k) + 1 + 1 + 1 := by omega
  rw [e]
  simp only [lg, List.getElem?_cons_succ, List.getElem?_map]
  rw [List.getElem?_append_right (by omega), List.getElem?_append_left (by omega), hC]
  have : 11 + k - 11 = k := by omega
  rw [this, at_get (by omega)]; rfl
theorem lg_B {k : Nat} (hC : C.length = 11) (hA : A.length = 11) (hB : B.length = 11) (hk : k < 11) : (lg room kept from' C A B)[25 + k]? = some (I (at' B k)) := by
  have e : 25 + k = (22 + k) + 1 + 1 + 1 := by omega
  rw [e]
  simp only [lg, List.getElem?_cons_succ, List.getElem?_map]
  rw [List.getElem?_append_right (by omega), List.getElem?_append_right (by omega), hC, hA]
  have : 22 + k - 11 - 11 = k := by omega
  rw [this, at_get (by omega)]; rfl

theorem lg_setK (v : V) : (lg room kept from' C A B).set 1 v = lg room v from' C A B := rfl
theorem lg_setF (v : Int) : (lg room kept from' C A B).set 2 (I v) = lg room kept v C A B := rfl
theorem lg_setC {k : Nat} (hC : C.length = 11) (hk : k < 11) (v : Int) : (lg room kept from' C A B).set (3 + k) (I v) = lg room kept from' (C.set k v) A B := by
  have e : 3 + k = k + 1 + 1 + 1 := by omega
  rw [e]
  simp only [lg, List.set_cons_succ, List.map_append]
  rw [List.set_append_left _ _ (by simp; omega), List.map_set]
theorem lg_setA {k : Nat} (hC : C.length = 11) (hA : A.length = 11) (hk : k < 11) (v : Int) : (lg room kept from' C A B).set (14 + k) (I v) = lg room kept from' C (A.set k v) B := by
  have e : 14 + k = (11 + k) + 1 + 1 + 1 := by omega
  rw [e]
  simp only [lg, List.set_cons_succ, List.map_append]
  rw [List.set_append_right _ _ (by simp; omega), List.set_append_left _ _ (by simp; omega), List.map_set]
  have : 11 + k - (List.map I C).length = k := by simp; omega
  rw [this]
theorem lg_setB {k : Nat} (hC : C.length = 11) (hA : A.length = 11) (hB : B.length = 11) (hk : k < 11) (v : Int) : (lg room kept from' C A B).set (25 + k) (I v) = lg room kept from' C A (B.set k v) := by
  have e : 25 + k = (22 + k) + 1 + 1 + 1 := by omega
  rw [e]
  simp only [lg, List.set_cons_succ, List.map_append]
  rw [List.set_append_right _ _ (by simp; omega), List.set_append_right _ _ (by simp; omega), List.map_set]
  have : 22 + k - (List.map I C).length - (List.map I A).length = k := by simp; omega
  rw [this]
theorem lg_len (hC : C.length = 11) (hA : A.length = 11) (hB : B.length = 11) : (lg room kept from' C A B).length = 36 := by simp [lg]; omega
end

/-- May an event be? -/
def May (e : Ev) : Prop := 1 ≤ e.kind ∧ e.kind ≤ 10 ∧ 0 ≤ e.a ∧ e.a ≤ 4611686018427387903 ∧ 0 ≤ e.b ∧ e.b ≤ 4611686018427387903
instance (e : Ev) : Decidable (May e) := by unfold May; exact inferInstance

/-- A log, and what was added to it. -/
structure Log (id : Nat) (h : H) (room : Int) (Ad : List Ev) (kept : V) (from' : Nat) (Ph : List Ev) (C A B : List Int) : Prop where
  room1 : 1 ≤ room ∧ room ≤ 4096
  obj : h[id]? = some (.cells 0 (lg room kept from' C A B))
  own : Own h 6 kept (Ph.map Ev.cs)
  sep : oid kept ≠ some id
  len : (Ph.length : Int) = min (Ad.length : Int) room
  fr : (from' : Int) < room ∧ ((Ph.length : Int) < room → from' = 0)
  rot : Ph.drop from' ++ Ph.take from' = Ad.drop (Ad.length - Ph.length)
  lenC : C.length = 11
  lenA : A.length = 11
  lenB : B.length = 11
  C0 : at' C 0 = 0
  Cpos : ∀ i, 0 ≤ at' C i
  sum : C.sum = Ad.length
  Ab : ∀ i, 0 ≤ at' A i ∧ at' A i ≤ 4611686018427387903
  Bb : ∀ i, 0 ≤ at' B i ∧ at' B i ≤ 4611686018427387903
  A0 : at' A 0 = 0
  B0 : at' B 0 = 0

theorem pnil (id : Nat) : isNil (pt id) = some false := by simp [isNil]
theorem pnck (id : Nat) : nck (pt id) = some () := by simp [nck]
theorem padd0 (id d : Nat) : padd (pt id) d = .ptr id 0 d := by simp [padd]

theorem given (N : Nat) {id : Nat} {h : H} {cs : List V} {room : Int} (ho : h[id]? = some (.cells 0 (I room :: cs))) (hr : 1 ≤ room) : F65 N (pt id, h) = some (true, h) := by
  unfold F65
  have e : rd h (.ptr id 0 0) 0 = some (I room) := by rw [rd_obj ho]; simp
  simp only [itT, itF, ifT, ifF, pnil, bs, nF, itT, pnck, padd0, e, asInt_some, dT (show room > 0 by omega)]

theorem kind (k : Int) : F66 100 (k, []) = some (decide (1 ≤ k ∧ k ≤ 10), []) := by
  unfold F66
  by_cases h1 : k ≥ 1
  · by_cases h2 : k ≤ 10
    · simp only [itT, itF, ifT, ifF, dT h1, dT h2, itT, bs, dT (show 1 ≤ k ∧ k ≤ 10 from ⟨h1, h2⟩)]
    · simp only [itT, itF, ifT, ifF, dT h1, dF h2, itT, bs, dF (show ¬ (1 ≤ k ∧ k ≤ 10) from fun h => h2 h.2)]
  · simp only [itT, itF, ifT, ifF, dF h1, itF, bs, dF (show ¬ (1 ≤ k ∧ k ≤ 10) from fun h => h1 h.1)]

theorem may (e : Ev) : F37 100 (e.kind, e.core, e.n, e.gen, e.a, e.b, []) = some (decide (May e), []) := by
  unfold F37
  by_cases h1 : e.kind ≥ 1
  case neg => simp only [itT, itF, ifT, ifF, dF h1, itF, bs, dF (show ¬ May e from fun h => h1 h.1)]
  by_cases h2 : e.kind ≤ 10
  case neg => simp only [itT, itF, ifT, ifF, dT h1, dF h2, itT, itF, bs, dF (show ¬ May e from fun h => h2 h.2.1)]
  by_cases h3 : e.a ≥ 0
  case neg => simp only [itT, itF, ifT, ifF, dT h1, dT h2, dF h3, itT, itF, bs, dF (show ¬ May e from fun h => h3 h.2.2.1)]
  by_cases h4 : e.a ≤ 4611686018427387903
  case neg => simp only [itT, itF, ifT, ifF, dT h1, dT h2, dT h3, dF h4, itT, itF, bs, dF (show ¬ May e from fun h => h4 h.2.2.2.1)]
  by_cases h5 : e.b ≥ 0
  case neg => simp only [itT, itF, ifT, ifF, dT h1, dT h2, dT h3, dT h4, dF h5, itT, itF, bs, dF (show ¬ May e from fun h => h5 h.2.2.2.2.1)]
  by_cases h6 : e.b ≤ 4611686018427387903
  case neg => simp only [itT, itF, ifT, ifF, dT h1, dT h2, dT h3, dT h4, dT h5, dF h6, itT, itF, bs, dF (show ¬ May e from fun h => h6 h.2.2.2.2.2)]
  simp only [itT, itF, ifT, ifF, dT h1, dT h2, dT h3, dT h4, dT h5, dT h6, itT, bs, dT (show May e from ⟨h1, h2, h3, h4, h5, h6⟩)]

theorem at_set {A : List Int} (i j : Nat) (v : Int) (hi : i < A.length) : at' (A.set i v) j = if i = j then v else at' A j := by
  simp only [at', List.getD_eq_getElem?_getD, List.getElem?_set]
  by_cases h : i = j
  · subst h; simp [hi]
  · simp [h]

theorem sum_set : ∀ {A : List Int} (i : Nat) (v : Int), i < A.length → (A.set i v).sum = A.sum + (v - at' A i)
  | [], i, v, h => by simp at h
  | a :: A, 0, v, h => by simp [at']; omega
  | a :: A, i + 1, v, h => by
    have := sum_set (A := A) i v (by simpa using h)
    simp only [List.set_cons_succ, List.sum_cons, this]
    have e : at' (a :: A) (i + 1) = at' A i := by simp [at']
    rw [e]; omega

theorem sum_at : ∀ (A : List Int) (i : Nat), (∀ i, 0 ≤ at' A i) → at' A i ≤ A.sum
  | [], i, _ => by simp [at']
  | a :: A, 0, h => by
    have h0 := h 0
    have : 0 ≤ A.sum := by
      have hA : ∀ i, 0 ≤ at' A i := fun i => by have := h (i + 1); simpa [at'] using this
      have := sum_at A A.length hA
      have h2 := hA A.length
      omega
    simp [at'] at h0 ⊢; omega
  | a :: A, i + 1, h => by
    have h0 := h 0
    have hA : ∀ i, 0 ≤ at' A i := fun i => by have := h (i + 1); simpa [at'] using this
    have := sum_at A i hA
    have e : at' (a :: A) (i + 1) = at' A i := by simp [at']
    rw [e]
    simp [at'] at h0
    simp; omega

theorem setget {h : H} {i : Nat} {o o' : O} (ho : h[i]? = some o') : (h.set i o)[i]? = some o := by
  have : i < h.length := (List.getElem?_eq_some_iff.1 ho).1
  simp [this]

/-- What an event that may be makes of a log. -/
theorem add {id : Nat} {h : H} {room : Int} {Ad : List Ev} {kept : V} {from' : Nat} {Ph : List Ev} {C A B : List Int} (L : Log id h room Ad kept from' Ph C A B) (hAd : Ad.length < 4611686018427387903) (N : Nat) (e : Ev) (he : May e) :
    ∃ h' kept' from'' Ph' C' A' B', F36 N (pt id, e.kind, e.core, e.n, e.gen, e.a, e.b, h) = some (0, h') ∧ Log id h' room (Ad ++ [e]) kept' from'' Ph' C' A' B' ∧
      h.length ≤ h'.length ∧ (∀ i, i < h.length → i ≠ id → oid kept ≠ some i → h'[i]? = h[i]?) ∧ (oid kept' = oid kept ∨ oid kept' = some h.length) ∧
      A' = A.set e.kind.toNat ((at' A e.kind.toNat + e.a) % 4611686018427387904) ∧ B' = B.set e.kind.toNat ((at' B e.kind.toNat + e.b) % 4611686018427387904) ∧ C' = C.set e.kind.toNat (at' C e.kind.toNat + 1) := by
  obtain ⟨k1, k2, a1, a2, b1, b2⟩ := he
  obtain ⟨k, hk⟩ := Int.eq_ofNat_of_zero_le (show 0 ≤ e.kind by omega)
  have hk11 : k < 11 := by omega
  have hk0 : k ≠ 0 := by omega
  rw [F36]
  have hgiv := given N L.obj L.room1.1
  simp only [hgiv, itT, itF, ifT, ifF, bs, kind, dT (show 1 ≤ e.kind ∧ e.kind ≤ 10 from ⟨k1, k2⟩), nT, itF, dF (show ¬ e.a < 0 by omega), dF (show ¬ e.a > 4611686018427387903 by omega), dF (show ¬ e.b < 0 by omega), dF (show ¬ e.b > 4611686018427387903 by omega)]
  have g3 : aidx (.ptr id 0 3) e.kind 11 1 = some (.ptr id 0 (3 + k)) := by rw [hk, aidx_ptr (by omega) (by omega) (by omega)]; simp
  have g14 : aidx (.ptr id 0 14) e.kind 11 1 = some (.ptr id 0 (14 + k)) := by rw [hk, aidx_ptr (by omega) (by omega) (by omega)]; simp
  have g25 : aidx (.ptr id 0 25) e.kind 11 1 = some (.ptr id 0 (25 + k)) := by rw [hk, aidx_ptr (by omega) (by omega) (by omega)]; simp
  have hlen := lg_len (room := room) (kept := kept) (from' := from') L.lenC L.lenA L.lenB
  have cb := sum_at C k L.Cpos
  have cs := L.sum
  have cp := L.Cpos k
  have ab := L.Ab k
  have bb := L.Bb k
  -- the counts
  have r1 : rd h (.ptr id 0 (3 + k)) 0 = some (I (at' C k)) := by rw [rd_obj L.obj, Nat.add_zero, lg_C L.lenC hk11]
  have w1 : wr h (.ptr id 0 (3 + k)) [I (at' C k + 1)] = some (h.set id (.cells 0 (lg room kept from' (C.set k (at' C k + 1)) A B))) := by
    rw [wr_obj L.obj (by rw [hlen]; simp; omega), splice1, lg_setC L.lenC hk11]
  generalize hC' : C.set k (at' C k + 1) = C' at *
  have lC' : C'.length = 11 := by rw [← hC']; simpa using L.lenC
  generalize hh1 : h.set id (.cells 0 (lg room kept from' C' A B)) = h1 at *
  have o1 : h1[id]? = some (.cells 0 (lg room kept from' C' A B)) := by rw [← hh1]; exact setget L.obj
  have r2 : rd h1 (.ptr id 0 (14 + k)) 0 = some (I (at' A k)) := by rw [rd_obj o1, Nat.add_zero, lg_A lC' L.lenA hk11]
  have w2 : wr h1 (.ptr id 0 (14 + k)) [I ((at' A k + e.a) % 4611686018427387904)] = some (h1.set id (.cells 0 (lg room kept from' C' (A.set k ((at' A k + e.a) % 4611686018427387904)) B))) := by
    rw [wr_obj o1 (by rw [lg_len lC' L.lenA L.lenB]; simp; omega), splice1, lg_setA lC' L.lenA hk11]
  generalize hA' : A.set k ((at' A k + e.a) % 4611686018427387904) = A' at *
  have lA' : A'.length = 11 := by rw [← hA']; simpa using L.lenA
  generalize hh2 : h1.set id (.cells 0 (lg room kept from' C' A' B)) = h2 at *
  have o2 : h2[id]? = some (.cells 0 (lg room kept from' C' A' B)) := by rw [← hh2]; exact setget o1
  have r3 : rd h2 (.ptr id 0 (25 + k)) 0 = some (I (at' B k)) := by rw [rd_obj o2, Nat.add_zero, lg_B lC' lA' L.lenB hk11]
  have w3 : wr h2 (.ptr id 0 (25 + k)) [I ((at' B k + e.b) % 4611686018427387904)] = some (h2.set id (.cells 0 (lg room kept from' C' A' (B.set k ((at' B k + e.b) % 4611686018427387904))))) := by
    rw [wr_obj o2 (by rw [lg_len lC' lA' L.lenB]; simp; omega), splice1, lg_setB lC' lA' L.lenB hk11]
  generalize hB' : B.set k ((at' B k + e.b) % 4611686018427387904) = B' at *
  have lB' : B'.length = 11 := by rw [← hB']; simpa using L.lenB
  generalize hh3 : h2.set id (.cells 0 (lg room kept from' C' A' B')) = h3 at *
  have o3 : h3[id]? = some (.cells 0 (lg room kept from' C' A' B')) := by rw [← hh3]; exact setget o2
  have hl3 : h3.length = h.length := by rw [← hh3, ← hh2, ← hh1]; simp
  have hf3 : ∀ i, i ≠ id → h3[i]? = h[i]? := by
    intro i hi
    rw [← hh3, ← hh2, ← hh1]
    simp [List.getElem?_set_ne (Ne.symm hi)]
  have m1 : Int.tmod (IntKind.i64.wrap (at' A k + e.a)) 4611686018427387904 = (at' A k + e.a) % 4611686018427387904 := by
    rw [wrapIn (by omega), Int.tmod_eq_emod_of_nonneg (by omega)]
  have m2 : Int.tmod (IntKind.i64.wrap (at' B k + e.b)) 4611686018427387904 = (at' B k + e.b) % 4611686018427387904 := by
    rw [wrapIn (by omega), Int.tmod_eq_emod_of_nonneg (by omega)]
  have m3 : IntKind.i64.wrap (at' C k + 1) = at' C k + 1 := wrapIn (by omega)
  have s1 : rd h3 (.ptr id 0 1) 0 = some kept := by rw [rd_obj o3]; exact lg_kept
  have s0 : rd h3 (.ptr id 0 0) 0 = some (I room) := by rw [rd_obj o3]; exact lg_room
  have s2 : rd h3 (.ptr id 0 2) 0 = some (I from') := by rw [rd_obj o3]; exact lg_from
  have ow3 : Own h3 6 kept (Ph.map Ev.cs) := L.own.frame fun i hi => hf3 i (fun e => L.sep (by rw [hi, e]))
  simp only [pnck, bs, padd0, g3, g14, g25, r1, r2, r3, asInt_some, m1, m2, m3, w1, w2, w3, s0, s1, s2, ow3.sl'.len, List.length_map]
  have hab : ∀ i, 0 ≤ at' A' i ∧ at' A' i ≤ 4611686018427387903 := by
    intro i
    rw [← hA', at_set _ _ _ (by rw [L.lenA]; exact hk11)]
    split
    · omega
    · exact L.Ab i
  have hbb : ∀ i, 0 ≤ at' B' i ∧ at' B' i ≤ 4611686018427387903 := by
    intro i
    rw [← hB', at_set _ _ _ (by rw [L.lenB]; exact hk11)]
    split
    · omega
    · exact L.Bb i
  have hcp : ∀ i, 0 ≤ at' C' i := by
    intro i
    rw [← hC', at_set _ _ _ (by rw [L.lenC]; exact hk11)]
    split
    · omega
    · exact L.Cpos i
  have hc0 : at' C' 0 = 0 := by rw [← hC', at_set _ _ _ (by rw [L.lenC]; exact hk11), if_neg hk0]; exact L.C0
  have ha0 : at' A' 0 = 0 := by rw [← hA', at_set _ _ _ (by rw [L.lenA]; exact hk11), if_neg hk0]; exact L.A0
  have hb0 : at' B' 0 = 0 := by rw [← hB', at_set _ _ _ (by rw [L.lenB]; exact hk11), if_neg hk0]; exact L.B0
  have hcs : C'.sum = ((Ad ++ [e]).length : Nat) := by rw [← hC', sum_set _ _ (by rw [L.lenC]; exact hk11), cs]; simp; omega
  have hkt : e.kind.toNat = k := by rw [hk]; simp
  rw [hkt]
  have hlen' := L.len
  by_cases hfull : (Ph.length : Int) < room
  · -- there is room
    have hf0 := L.fr.2 hfull
    have hPA : Ph.length = Ad.length := by omega
    have hroom := L.room1
    obtain ⟨v', h4, hap, ow4, kp, hid, hck⟩ := ow3.app1 e.cs rfl (by simp [mostCells]; omega)
    have happ' : happ h3 kept 6 1 [I e.kind, I e.core, I e.n, I e.gen, I e.a, I e.b] = some (v', h4) := hap
    have h0len : id < h3.length := (List.getElem?_eq_some_iff.1 o3).1
    have o4 : h4[id]? = some (.cells 0 (lg room kept from' C' A' B')) := by rw [kp.2 id h0len L.sep]; exact o3
    have w4 : wr h4 (.ptr id 0 1) [v'] = some (h4.set id (.cells 0 (lg room v' from' C' A' B'))) := by
      rw [wr_obj o4 (by rw [lg_len lC' lA' lB']; simp), splice1, lg_setK]
    simp only [itT, itF, ifT, ifF, dT hfull, itT, happ', bs, hck, w4]
    have hsep' : oid v' ≠ some id := by
      rcases hid with h | h'
      · rw [h]; exact L.sep
      · rw [h']; intro hh; have := Option.some.inj hh; omega
    refine ⟨_, v', from', Ph ++ [e], C', A', B', rfl, ⟨L.room1, setget o4, ?_, hsep', ?_, ⟨L.fr.1, fun h => hf0⟩, ?_, lC', lA', lB', hc0, hcp, hcs, hab, hbb, ha0, hb0⟩, ?_, ?_, ?_, hA'.symm, hB'.symm, hC'.symm⟩
    · rw [List.map_append]
      exact ow4.frame fun i hi => List.getElem?_set_ne (fun e => hsep' (by rw [hi, e]))
    · simp; omega
    · have hr := L.rot
      rw [hf0, show Ad.length - Ph.length = 0 by omega] at hr
      simp only [List.drop_zero, List.take_zero, List.append_nil] at hr
      rw [hf0, hr]; simp
    · rw [List.length_set]; have := kp.1; omega
    · intro i hi h0 hk'
      rw [List.getElem?_set_ne (Ne.symm h0), kp.2 i (by omega) hk', hf3 i h0]
    · rcases hid with h | h'
      · exact .inl h
      · exact .inr (by rw [h', hl3])
  · -- the eldest goes
    have hroom := L.room1
    have hPr : (Ph.length : Int) = room := by omega
    have hfr := L.fr.1
    have hfl : from' < Ph.length := by omega
    obtain ⟨q, h4, hq, hw, ow4, kp⟩ := ow3.wr from' (by simpa using hfl) e.cs rfl (by omega)
    have hw' : wr h3 q [I e.kind, I e.core, I e.n, I e.gen, I e.a, I e.b] = some h4 := hw
    have h0len : id < h3.length := (List.getElem?_eq_some_iff.1 o3).1
    have o4 : h4[id]? = some (.cells 0 (lg room kept from' C' A' B')) := by rw [kp.2 id h0len L.sep]; exact o3
    have t2 : rd h4 (.ptr id 0 2) 0 = some (I from') := by rw [rd_obj o4]; exact lg_from
    have t0 : rd h4 (.ptr id 0 0) 0 = some (I room) := by rw [rd_obj o4]; exact lg_room
    have m4 : Int.tmod (IntKind.i64.wrap ((from' : Int) + 1)) room = (((from' + 1) % Ph.length : Nat) : Int) := by
      rw [wrapIn (by omega), Int.tmod_eq_emod_of_nonneg (by omega), ← hPr, Int.natCast_emod, Int.natCast_add]; rfl
    have w4 : wr h4 (.ptr id 0 2) [I (((from' + 1) % Ph.length : Nat) : Int)] = some (h4.set id (.cells 0 (lg room kept (((from' + 1) % Ph.length : Nat) : Int) C' A' B'))) := by
      rw [wr_obj o4 (by rw [lg_len lC' lA' lB']; simp), splice1, lg_setF]
    simp only [itT, itF, ifT, ifF, dF hfull, itF, hq, bs, hw', t2, t0, asInt_some, if_neg (show ¬ room = 0 by omega), m4, w4]
    have hAP : Ph.length ≤ Ad.length := by omega
    refine ⟨_, kept, (from' + 1) % Ph.length, Ph.set from' e, C', A', B', rfl, ⟨L.room1, setget o4, ?_, L.sep, ?_, ⟨?_, ?_⟩, ?_, lC', lA', lB', hc0, hcp, hcs, hab, hbb, ha0, hb0⟩, ?_, ?_, .inl rfl, hA'.symm, hB'.symm, hC'.symm⟩
    · rw [List.map_set]
      exact ow4.frame fun i hi => List.getElem?_set_ne (fun e => L.sep (by rw [hi, e]))
    · simp; omega
    · have := Nat.mod_lt (from' + 1) (show 0 < Ph.length by omega)
      omega
    · intro h; simp at h; omega
    · have hrot := L.rot
      have hd : Ph.drop from' = Ph[from'] :: Ph.drop (from' + 1) := List.drop_eq_getElem_cons hfl
      have hA1 : Ad.drop (Ad.length - Ph.length) = Ph[from'] :: Ad.drop (Ad.length - Ph.length + 1) := by
        have hlt : Ad.length - Ph.length < Ad.length := by omega
        have := List.drop_eq_getElem_cons hlt
        rw [this] at hrot ⊢
        rw [hd] at hrot
        simp only [List.cons_append, List.cons.injEq] at hrot
        rw [hrot.1]
      have h2 : Ph.drop (from' + 1) ++ Ph.take from' = Ad.drop (Ad.length - Ph.length + 1) := by
        rw [hA1, hd] at hrot
        simp only [List.cons_append, List.cons.injEq, true_and] at hrot
        exact hrot
      have hgoal : (Ad ++ [e]).drop ((Ad ++ [e]).length - (Ph.set from' e).length) = Ad.drop (Ad.length - Ph.length + 1) ++ [e] := by
        rw [List.length_append, List.length_set]
        have : Ad.length + [e].length - Ph.length = Ad.length - Ph.length + 1 := by simp; omega
        rw [this, List.drop_append_of_le_length (by omega)]
      rw [hgoal, ← h2]
      by_cases hlast : from' + 1 = Ph.length
      · rw [hlast, Nat.mod_self]
        simp only [List.drop_zero, List.take_zero, List.append_nil, List.drop_length, List.nil_append]
        rw [List.set_eq_take_append_cons_drop, if_pos hfl, hlast, List.drop_length]
      · rw [Nat.mod_eq_of_lt (by omega)]
        have e1 : (Ph.set from' e).drop (from' + 1) = Ph.drop (from' + 1) := by rw [List.drop_set_of_lt (by omega)]
        have e2 : (Ph.set from' e).take (from' + 1) = Ph.take from' ++ [e] := by
          rw [List.set_eq_take_append_cons_drop, if_pos hfl, List.take_append]
          simp [Nat.min_eq_left (Nat.le_of_lt hfl)]
          rw [List.take_of_length_le (by simp; omega)]
        rw [e1, e2, List.append_assoc]
    · rw [List.length_set]; have := kp.1; omega
    · intro i hi h0 hk'
      rw [List.getElem?_set_ne (Ne.symm h0), kp.2 i (by omega) hk', hf3 i h0]

theorem add_not {id : Nat} {h : H} {cs : List V} {room : Int} (ho : h[id]? = some (.cells 0 (I room :: cs))) (hr : 1 ≤ room) (N : Nat) (e : Ev) (he : ¬ May e) :
    F36 N (pt id, e.kind, e.core, e.n, e.gen, e.a, e.b, h) = some (1, h) := by
  rw [F36]
  have hgiv := given N ho hr
  simp only [hgiv, itT, itF, ifT, ifF, bs, kind, nT, itF]
  by_cases h1 : 1 ≤ e.kind ∧ e.kind ≤ 10
  case neg => simp only [itT, itF, ifT, ifF, dF h1, nF, itT, bs]
  by_cases h2 : e.a < 0
  case pos => simp only [itT, itF, ifT, ifF, dT h1, nT, itF, dT h2, itT, bs]
  by_cases h3 : e.a > 4611686018427387903
  case pos => simp only [itT, itF, ifT, ifF, dT h1, nT, itF, dF h2, dT h3, itT, bs]
  by_cases h4 : e.b < 0
  case pos => simp only [itT, itF, ifT, ifF, dT h1, nT, itF, dF h2, dF h3, dT h4, itT, bs]
  by_cases h5 : e.b > 4611686018427387903
  case pos => simp only [itT, itF, ifT, ifF, dT h1, nT, itF, dF h2, dF h3, dF h4, dT h5, itT, bs]
  exact absurd ⟨h1.1, h1.2, by omega, by omega, by omega, by omega⟩ he

end Go.Proofs.Ytbpibiapjangmaa.logs
