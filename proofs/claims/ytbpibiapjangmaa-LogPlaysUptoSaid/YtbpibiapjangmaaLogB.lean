/- Package log, as plain lists: what its functions read in a log. -/
import Derived.Test.YtbpibiapjangmaaLog
namespace Go.Proofs.Ytbpibiapjangmaa.logs
open Go Go.L
set_option linter.unusedVariables false
set_option linter.unusedSimpArgs false

/-- What a log still holds. -/
def last (Ad Ph : List Ev) : List Ev := Ad.drop (Ad.length - Ph.length)

section
variable {id : Nat} {h : H} {room : Int} {Ad : List Ev} {kept : V} {from' : Nat} {Ph : List Ev} {C A B : List Int}

theorem Log.frame (L : Log id h room Ad kept from' Ph C A B) {h' : H} (h0 : h'[id]? = h[id]?) (hk : ∀ i, oid kept = some i → h'[i]? = h[i]?) : Log id h' room Ad kept from' Ph C A B :=
  ⟨L.room1, by rw [h0]; exact L.obj, L.own.frame hk, L.sep, L.len, L.fr, L.rot, L.lenC, L.lenA, L.lenB, L.C0, L.Cpos, L.sum, L.Ab, L.Bb, L.A0, L.B0⟩

theorem Log.lt0 (L : Log id h room Ad kept from' Ph C A B) : id < h.length := (List.getElem?_eq_some_iff.1 L.obj).1

theorem Log.keep (L : Log id h room Ad kept from' Ph C A B) {h' : H} {o : Option Nat} (k : Keeps h h' o) (h0 : o ≠ some id) (h1 : ∀ i, oid kept = some i → o ≠ some i) : Log id h' room Ad kept from' Ph C A B :=
  L.frame (k.2 id L.lt0 h0) fun i hi => k.2 i (L.own.sl'.lt hi) (h1 i hi)

theorem count (L : Log id h room Ad kept from' Ph C A B) (N : Nat) {k : Nat} (h1 : 1 ≤ k) (h2 : k ≤ 10) : F39 N ((pt id), (k : Int), h) = some (at' C k, h) := by
  rw [F39]
  have hgiv := given N L.obj L.room1.1
  have g3 : aidx (.ptr id 0 3) (k : Int) 11 1 = some (.ptr id 0 (3 + k)) := by rw [aidx_ptr (by omega) (by omega) (by omega)]; simp
  have r1 : rd h (.ptr id 0 (3 + k)) 0 = some (I (at' C k)) := by rw [rd_obj L.obj, Nat.add_zero, lg_C L.lenC (by omega)]
  simp only [itT, itF, ifT, ifF, hgiv, bs, nT, kind, dT (show 1 ≤ (k : Int) ∧ (k : Int) ≤ 10 by omega), pnck, padd0, g3, r1, asInt_some]

theorem lostL (N : Nat) {C : List Int} (hC : C.length = 11) (hp : ∀ i, 0 ≤ at' C i) (p : V) (h : H) : ∀ (k n i : Nat) (s : Int), i + k = 11 → k < n → 0 ≤ s → s + (C.drop i).sum < 4611686018427387904 →
    L40_0 N n (p, s, C.map I, (i : Int), h) = some (p, s + (C.drop i).sum, h)
  | 0, n + 1, i, s, hi, hn, hs, hb => by
    have : i = 11 := by omega
    subst this
    rw [L40_0]
    simp only [itF, itT, ifT, ifF, dF (show ¬ ((11 : Nat) : Int) < 11 by omega)]
    rw [List.drop_of_length_le (by omega)]; simp
  | k + 1, n + 1, i, s, hi, hn, hs, hb => by
    have hi' : i < C.length := by omega
    have hd : C.drop i = at' C i :: C.drop (i + 1) := by rw [List.drop_eq_getElem_cons hi', at']; simp [hi']
    have hg : (C.map I)[i]? = some (I (at' C i)) := by rw [List.getElem?_map, at_get hi']; rfl
    rw [hd, List.sum_cons] at hb ⊢
    have p1 := hp i
    have p2 : ∀ (X : List Int), (∀ x ∈ X, 0 ≤ x) → 0 ≤ X.sum := by
      intro X
      induction X with
      | nil => simp
      | cons x X ih => intro h; have := h x (by simp); have := ih fun y hy => h y (by simp [hy]); simp; omega
    have p3 : 0 ≤ (C.drop (i + 1)).sum := p2 _ fun x hx => by
      have hx' := List.mem_of_mem_drop hx
      obtain ⟨j, hj, rfl⟩ := List.mem_iff_getElem.1 hx'
      have := hp j
      simpa [at', hj] using this
    rw [L40_0]
    have e1 : Int.toNat (i : Int) * 1 = i := by simp
    have e2 : IntKind.i64.wrap ((i : Int) + 1) = ((i + 1 : Nat) : Int) := by rw [wrapIn (by omega)]; omega
    have e3 : IntKind.i64.wrap (s + at' C i) = s + at' C i := wrapIn (by omega)
    simp only [itF, itT, ifT, ifF, dT (show (i : Int) < 11 by omega), if_pos (show 0 ≤ (i : Int) by omega), if_pos (show (i : Int) < 11 by omega), e1, hg, asInt_some, bs, e2, e3]
    rw [lostL N hC hp p h k n (i + 1) (s + at' C i) (by omega) (by omega) (by omega) (by omega), Int.add_assoc]

theorem rdN_C (L : Log id h room Ad kept from' Ph C A B) : rdN h (.ptr id 0 3) 11 = some (C.map I) := by
  have hl := lg_len (room := room) (kept := kept) (from' := from') L.lenC L.lenA L.lenB
  simp only [rdN, L.obj, if_true, hl]
  rw [if_pos (by omega)]
  simp only [lg, List.drop_succ_cons, List.drop_zero, List.map_append]
  rw [List.take_append_of_le_length (by rw [List.length_map, L.lenC]; omega), List.take_of_length_le (by rw [List.length_map, L.lenC]; omega)]

theorem Log.phle (L : Log id h room Ad kept from' Ph C A B) : Ph.length ≤ Ad.length := by have := L.len; omega

theorem lost (L : Log id h room Ad kept from' Ph C A B) (hAd : Ad.length < 1048577) {N : Nat} (hN : 12 ≤ N) : F40 N ((pt id), h) = some (((Ad.length - Ph.length : Nat) : Int), h) := by
  rw [F40]
  have hgiv := given N L.obj L.room1.1
  have hs := L.sum
  have hl := lostL N L.lenC L.Cpos (pt id) h 11 N 0 0 (by omega) (by omega) (by omega) (by simp; omega)
  simp only [List.drop_zero, Int.zero_add, Int.ofNat_zero, hs] at hl
  have r1 : rd h (.ptr id 0 1) 0 = some kept := by rw [rd_obj L.obj]; exact lg_kept
  have hph := L.phle
  have hw : IntKind.i64.wrap ((Ad.length : Int) - (Ph.length : Int)) = ((Ad.length - Ph.length : Nat) : Int) := by rw [wrapIn (by omega)]; omega
  simp only [itF, itT, ifT, ifF, hgiv, bs, nT, pnck, padd0, rdN_C L, hl, r1, L.own.sl'.len, List.length_map, hw]

/-- Clone. -/
theorem clone {v : V} {xs : List (List V)} (hs : Sl h 6 v xs) {b : Bool} (hb : isNilS v = some b) (hbt : b = true → xs = []) (hm : xs.length * 6 ≤ mostCells) (N : Nat) :
    ∃ v' h', F67 N (v, h) = some (v', h') ∧ Own h' 6 v' xs ∧ Keeps h h' none ∧ (∀ i, oid v' = some i → h.length ≤ i) := by
  cases b with
  | true =>
    have := hbt rfl
    subst this
    refine ⟨.nils, h, ?_, .nil, .refl _ _, by simp [oid]⟩
    rw [F67]
    simp only [hb, bs, itT, itF, ifT, ifF]
  | false =>
    have o1 : Own (h ++ [O.cells 0 []]) 6 (.sl h.length 0 0 0 6 (some 0)) [] := .z _ (by simp)
    obtain ⟨v', h', e1, o2, k, hid, _⟩ := o1.app xs hs.els (by simpa using hm)
    refine ⟨v', h', ?_, by simpa using o2, ?_, ?_⟩
    · rw [F67]
      have hc := (hs.frame (h' := h ++ [O.cells 0 []]) fun i hi => (Keeps.push h _).2 i (hs.lt hi) (by simp)).cells
      simp only [hb, bs, itT, itF, ifT, ifF, hc, hs.snlen, e1]
    · have kp := Keeps.push h (O.cells 0 [])
      exact ⟨Nat.le_trans kp.1 k.1, fun i hi _ => by rw [k.2 i (by have := kp.1; omega) (by simp [oid]; omega), kp.2 i hi (by simp)]⟩
    · intro i hi
      rcases hid with e | e
      · rw [e] at hi; simp [oid] at hi; omega
      · rw [e] at hi; simp at hi; omega

theorem ssl_some {es : Nat} {v v' : V} {lo hi : Int} (e : ssl es v lo hi = some v') : v' = scut v lo.toNat hi.toNat := by
  unfold ssl at e
  by_cases h1 : esIs v es = true
  case neg => rw [if_neg h1] at e; cases e
  by_cases h2 : 0 ≤ lo
  case neg => rw [if_pos h1, if_neg h2] at e; cases e
  by_cases h3 : lo ≤ hi
  case neg => rw [if_pos h1, if_pos h2, if_neg h3] at e; cases e
  by_cases h4 : hi ≤ scap v
  case neg => rw [if_pos h1, if_pos h2, if_pos h3, if_neg h4] at e; cases e
  rw [if_pos h1, if_pos h2, if_pos h3, if_pos h4] at e
  exact (Option.some.inj e).symm

theorem ssl_nilS {es : Nat} {v v' : V} {xs : List (List V)} {lo hi : Int} (ho : Own h es v xs) (e : ssl es v lo hi = some v') : ∃ b, isNilS v' = some b ∧ (b = true → xs = []) := by
  have := ssl_some e
  subst this
  cases ho with
  | nil => exact ⟨true, by simp [scut, isNilS], fun _ => rfl⟩
  | z id h1 => exact ⟨false, by simp [scut, isNilS], by simp⟩
  | sl id ver xs h1 h3 => exact ⟨false, by simp [scut, isNilS], by simp⟩

/-- The events of a log. -/
theorem events (L : Log id h room Ad kept from' Ph C A B) (N : Nat) :
    ∃ v h', F38 N ((pt id), h) = some (v, h') ∧ Own h' 6 v ((last Ad Ph).map Ev.cs) ∧ Keeps h h' none ∧ (∀ i, oid v = some i → h.length ≤ i) := by
  have hgiv := given N L.obj L.room1.1
  have r1 : rd h (.ptr id 0 1) 0 = some kept := by rw [rd_obj L.obj]; exact lg_kept
  have r2 : rd h (.ptr id 0 2) 0 = some (I from') := by rw [rd_obj L.obj]; exact lg_from
  have hlen := L.len
  have hroom := L.room1
  have hfr := L.fr
  have hfl : from' ≤ Ph.length := by
    by_cases hf : (Ph.length : Int) < room
    · have := hfr.2 hf; omega
    · omega
  obtain ⟨v5, e5, s5, i5⟩ := L.own.sl'.cut from' Ph.length hfl (by simp)
  obtain ⟨b5, n5, z5⟩ := ssl_nilS L.own e5
  obtain ⟨v6, h7, e6, o6, k6, f6⟩ := clone s5 n5 (fun hb => by rw [z5 hb]; simp) (by simp [mostCells]; omega) N
  have L7 := L.keep k6 (by simp) (by simp)
  have r1' : rd h7 (.ptr id 0 1) 0 = some kept := by rw [rd_obj L7.obj]; exact lg_kept
  have r2' : rd h7 (.ptr id 0 2) 0 = some (I from') := by rw [rd_obj L7.obj]; exact lg_from
  obtain ⟨v11, e11, s11, i11⟩ := L7.own.sl'.cut 0 from' (by omega) (by simpa using hfl)
  obtain ⟨v12, h13, e12, o12, k12, f12, _⟩ := o6.app _ s11.els (by simp [mostCells]; omega)
  refine ⟨v12, h13, ?_, ?_, ?_, ?_⟩
  · rw [F38]
    have e11' : ssl 6 kept 0 (from' : Int) = some v11 := e11
    simp only [itF, itT, ifT, ifF, hgiv, bs, nT, pnck, padd0, r1, r2, r1', r2', asInt_some, L.own.sl'.len, L7.own.sl'.len, List.length_map, e5, e6, e11', s11.cells, s11.snlen, e12]
  · have hrot := L.rot
    simp only [List.drop_zero, Nat.sub_zero] at o12
    rw [last, ← hrot, List.map_append, List.map_drop, List.map_take]
    have : List.take (Ph.length - from') (List.drop from' (List.map Ev.cs Ph)) = List.drop from' (List.map Ev.cs Ph) := List.take_of_length_le (by simp)
    rw [this] at o12
    exact o12
  · refine ⟨Nat.le_trans k6.1 k12.1, fun i hi _ => ?_⟩
    have := k6.1
    rw [k12.2 i (by omega) (fun e => by have := f6 i e; omega), k6.2 i hi (by simp)]
  · intro i hi
    rcases f12 with e | e
    · exact f6 i (by rw [← e]; exact hi)
    · rw [e] at hi; have := Option.some.inj hi; have := k6.1; omega
end

end Go.Proofs.Ytbpibiapjangmaa.logs
