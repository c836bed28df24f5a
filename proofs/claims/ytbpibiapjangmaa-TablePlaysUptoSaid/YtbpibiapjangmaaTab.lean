/- Package table, as plain lists. -/
import Derived.Test.YtbpibiapjangmaaL38
import Derived.Test.YtbpibiapjangmaaTg
import Derived.WideShapes
namespace Go.Proofs.Ytbpibiapjangmaa.tabs
open Go Go.L
set_option linter.unusedVariables false
set_option linter.unusedSimpArgs false

abbrev I (n : Int) : V := .int .i64 n
abbrev pt (c : Nat) : V := .ptr c 0 0

/-! ### Letters -/
theorem ba_beq (a b : ByteArray) : (a == b) = decide (a = b) := by
  cases a with | mk a => cases b with | mk b =>
    show (a == b) = _
    rw [Bool.eq_iff_iff]; simp
theorem seq (a b : ByteArray) : (a.toList == b.toList) = decide (a = b) := by
  rw [Bool.eq_iff_iff, ByteArray.toList_eq, ByteArray.toList_eq, beq_iff_eq, decide_eq_true_eq]
  exact ⟨WideShapes.bytes_inj, fun h => by rw [h]⟩

/-! ### Maps of names -/
def look (k : ByteArray) : List (ByteArray × Int) → Option Int
  | [] => none
  | e :: r => if (k == e.1) = true then some e.2 else look k r
def put (k : ByteArray) (v : Int) : List (ByteArray × Int) → List (ByteArray × Int)
  | [] => [(k, v)]
  | e :: r => if (k == e.1) = true then (k, v) :: r else e :: put k v r
def rem (k : ByteArray) : List (ByteArray × Int) → List (ByteArray × Int)
  | [] => []
  | e :: r => if (k == e.1) = true then r else e :: rem k r

abbrev ents (M : List (ByteArray × Int)) : List (V × V) := M.map fun e => (.str e.1, I e.2)

theorem mlook_ents (k : ByteArray) : ∀ M, mlook (.str k) (ents M) = some ((look k M).map I)
  | [] => rfl
  | e :: r => by
    simp only [List.map_cons, mlook, keq, Option.bind_some, look]
    split
    · rfl
    · exact mlook_ents k r
theorem mput_ents (k : ByteArray) (v : Int) : ∀ M, mput (.str k) (I v) (ents M) = some (ents (put k v M))
  | [] => rfl
  | e :: r => by
    simp only [List.map_cons, mput, keq, Option.bind_some, put]
    split
    · rfl
    · have := mput_ents k v r
      simp only [ents] at this
      rw [this]; rfl
theorem mrem_ents (k : ByteArray) : ∀ M, mrem (.str k) (ents M) = some (ents (rem k M))
  | [] => rfl
  | e :: r => by
    simp only [List.map_cons, mrem, keq, Option.bind_some, rem]
    split
    · rfl
    · have := mrem_ents k r
      simp only [ents] at this
      rw [this]; rfl

theorem look_put_self (k : ByteArray) (v : Int) : ∀ M, look k (put k v M) = some v
  | [] => by simp [put, look, ba_beq]
  | e :: r => by
    simp only [put]
    split
    · simp [look, ba_beq]
    · rename_i h
      rw [look, if_neg h]; exact look_put_self k v r
theorem look_put_ne {k j : ByteArray} (v : Int) (hj : j ≠ k) : ∀ M, look j (put k v M) = look j M
  | [] => by simp [put, look, ba_beq, hj]
  | e :: r => by
    simp only [put]
    split
    · rename_i h
      have h' : k = e.1 := by simpa [ba_beq] using h
      have e2 : j ≠ e.1 := by rw [← h']; exact hj
      simp [look, ba_beq, hj, e2]
    · rw [look, look, look_put_ne v hj r]
theorem look_rem_ne {k j : ByteArray} (hj : j ≠ k) : ∀ M, look j (rem k M) = look j M
  | [] => rfl
  | e :: r => by
    simp only [rem]
    split
    · rename_i h
      have h' : k = e.1 := by simpa [ba_beq] using h
      have e2 : j ≠ e.1 := by rw [← h']; exact hj
      simp [look, ba_beq, e2]
    · rw [look, look, look_rem_ne hj r]

/-! ### Slots -/
structure Slot where
  gen : Int
  live : Bool
  name : ByteArray

def Slot.cs (s : Slot) : List V := [I s.gen, .bool s.live, .str s.name]
abbrev noname : ByteArray := ByteArray.mk #[]

theorem cs3 (S : List Slot) : ∀ x ∈ S.map Slot.cs, x.length = 3 := by
  intro x hx
  obtain ⟨s, _, rfl⟩ := List.mem_map.1 hx
  rfl

abbrev flat (S : List Slot) : List V := (S.map Slot.cs).flatten

theorem flat_len (S : List Slot) : (flat S).length = S.length * 3 := by rw [flatLen (cs3 S), List.length_map]

theorem flat_get {S : List Slot} {i : Nat} (hi : i < S.length) (j : Nat) (hj : j < 3) : (flat S)[i * 3 + j]? = (S[i].cs)[j]? := by
  rw [flatGet (cs3 S) i j hj]; simp [hi]

theorem flat_put {S : List Slot} {i : Nat} (hi : i < S.length) (j : Nat) (hj : j < 3) (v : V) (s : Slot) (hs : s.cs = S[i].cs.set j v) : (flat S).set (i * 3 + j) v = flat (S.set i s) := by
  apply List.ext_getElem?
  intro k
  rw [List.getElem?_set]
  have hk : k = (k / 3) * 3 + k % 3 := by omega
  rw [hk, flatGet (cs3 _) _ _ (by omega), flatGet (cs3 _) _ _ (by omega)]
  simp only [List.getElem?_map, List.getElem?_set]
  have hl := flat_len S
  by_cases h1 : i = k / 3
  · subst h1
    rw [if_pos rfl, if_pos hi]
    simp only [Option.map_some, Option.bind_some, hs, List.getElem?_set]
    have hi' : S[k / 3]? = some S[k / 3] := List.getElem?_eq_getElem hi
    rw [hi']
    by_cases h2 : j = k % 3
    · subst h2
      rw [if_pos rfl, if_pos rfl, if_pos (by rw [hl]; omega), if_pos (by rw [show S[k / 3].cs.length = 3 from rfl]; omega)]
    · rw [if_neg (by omega), if_neg h2]; rfl
  · rw [if_neg (by omega), if_neg h1]

/-- How much room a table's slots have, as its object says. -/
def capOf (h : H) (c : Nat) : Option Nat :=
  match h[c]? with
  | some (.cells _ (.sl _ _ _ _ _ cp :: _)) => cp
  | _ => none

/-- A table: where its slots, its map and itself lie. -/
structure Tab (a b c : Nat) (h : H) (S : List Slot) (M : List (ByteArray × Int)) : Prop where
  slots : h[a]? = some (.cells 0 (flat S))
  map : h[b]? = some (.map (ents M))
  obje : ∃ cp, h[c]? = some (.cells 0 [.sl a 0 0 S.length 3 cp, .map b])
  ab : a ≠ b
  ac : a ≠ c
  bc : b ≠ c
  len : 1 ≤ S.length ∧ S.length ≤ 256

theorem pnil (id : Nat) : isNil (pt id) = some false := by simp [isNil]
theorem pnck (id : Nat) : nck (pt id) = some () := by simp [nck]
theorem padd0 (id o d : Nat) : padd (.ptr id 0 o) d = .ptr id 0 (o + d) := by simp [padd]
theorem asBool_some (b : Bool) : L.asBool (some (.bool b)) = some b := rfl
theorem asStr_some (b : ByteArray) : L.asStr (some (.str b)) = some b := rfl

section
variable {a b c : Nat} {h : H} {S : List Slot} {M : List (ByteArray × Int)}

theorem Tab.obj (T : Tab a b c h S M) : h[c]? = some (.cells 0 [.sl a 0 0 S.length 3 (capOf h c), .map b]) := by
  obtain ⟨cp, h1⟩ := T.obje
  rw [capOf, h1]
theorem Tab.r0 (T : Tab a b c h S M) : rd h (.ptr c 0 (0 + 0)) 0 = some (.sl a 0 0 S.length 3 (capOf h c)) := by rw [rd_obj T.obj]; rfl
theorem Tab.r1 (T : Tab a b c h S M) : rd h (.ptr c 0 (0 + 1)) 0 = some (.map b) := by rw [rd_obj T.obj]; rfl
theorem Tab.hm (T : Tab a b c h S M) : hmap h (.map b) = some (ents M) := by simp only [hmap, T.map]

theorem sx {n : Nat} {cap : Option Nat} {i : Nat} (hi : i < n) : sidx (.sl a 0 0 n 3 cap) (i : Int) 3 = some (.ptr a 0 (i * 3)) := by
  rw [sidx_sl (by omega) (by omega)]; simp

theorem sxNone {n : Nat} {cap : Option Nat} {i : Int} (hi : ¬ (0 ≤ i ∧ i < n)) : sidx (.sl a 0 0 n 3 cap) i 3 = none := by
  unfold sidx
  simp only [if_true]
  by_cases h1 : 0 ≤ i
  · rw [if_pos h1, if_neg (by omega)]
  · rw [if_neg h1]

theorem Tab.g (T : Tab a b c h S M) {i : Nat} (hi : i < S.length) : rd h (.ptr a 0 (i * 3 + 0)) 0 = some (I S[i].gen) := by rw [rd_obj T.slots]; exact flat_get hi 0 (by omega)
theorem Tab.l (T : Tab a b c h S M) {i : Nat} (hi : i < S.length) : rd h (.ptr a 0 (i * 3 + 1)) 0 = some (.bool S[i].live) := by rw [rd_obj T.slots, Nat.add_zero, flat_get hi 1 (by omega)]; rfl
theorem Tab.n (T : Tab a b c h S M) {i : Nat} (hi : i < S.length) : rd h (.ptr a 0 (i * 3 + 2)) 0 = some (.str S[i].name) := by rw [rd_obj T.slots, Nat.add_zero, flat_get hi 2 (by omega)]; rfl

/-- A slot is written. -/
theorem Tab.put (T : Tab a b c h S M) {i : Nat} (hi : i < S.length) (j : Nat) (hj : j < 3) (v : V) (s : Slot) (hs : s.cs = S[i].cs.set j v) :
    ∃ h', wr h (.ptr a 0 (i * 3 + j)) [v] = some h' ∧ Tab a b c h' (S.set i s) M ∧ h'.length = h.length ∧ (∀ k, k ≠ a → h'[k]? = h[k]?) := by
  refine ⟨_, by rw [wr_obj T.slots (by rw [flat_len]; simp; omega), splice1, flat_put hi j hj v s hs], ⟨setget T.slots, ?_, ?_, T.ab, T.ac, T.bc, by simpa using T.len⟩, by simp, fun k hk => List.getElem?_set_ne (Ne.symm hk)⟩
  · rw [List.getElem?_set_ne T.ab]; exact T.map
  · rw [List.getElem?_set_ne T.ac, List.length_set]; exact T.obje
where
  setget {h : H} {i : Nat} {o o' : O} (ho : h[i]? = some o') : (h.set i o)[i]? = some o := by
    have : i < h.length := (List.getElem?_eq_some_iff.1 ho).1
    simp [this]

/-- The map is written. -/
theorem Tab.setMap (T : Tab a b c h S M) (M' : List (ByteArray × Int)) : Tab a b c (h.set b (.map (ents M'))) S M' := by
  have : b < h.length := (List.getElem?_eq_some_iff.1 T.map).1
  refine ⟨?_, by simp [this], ?_, T.ab, T.ac, T.bc, T.len⟩
  · rw [List.getElem?_set_ne (Ne.symm T.ab)]; exact T.slots
  · rw [List.getElem?_set_ne T.bc]; exact T.obje

theorem Tab.frame (T : Tab a b c h S M) {h' : H} (ha : h'[a]? = h[a]?) (hb : h'[b]? = h[b]?) (hc : h'[c]? = h[c]?) : Tab a b c h' S M :=
  ⟨by rw [ha]; exact T.slots, by rw [hb]; exact T.map, by rw [hc]; exact T.obje, T.ab, T.ac, T.bc, T.len⟩

theorem given (T : Tab a b c h S M) (N : Nat) : F62 N (pt c, h) = some (true, h) := by
  have hl := T.len
  rw [F62]
  simp only [pnil, pnck, padd0, T.r0, bs, nF, itT, ifT, slen, dT (show (S.length : Int) > 0 by omega)]

theorem pid (T : Tab a b c h S M) (N : Nat) {i : Nat} (hi : i < S.length) : F63 N (pt c, (i : Int), h) = some ((i : Int), S[i].gen, h) := by
  rw [F63]
  simp only [pnck, padd0, T.r0, bs, sx hi, T.g hi, asInt_some]

/-- Is a pid alive? -/
def isB (S : List Slot) (n g : Int) : Bool := if 0 ≤ n then (match S[n.toNat]? with | some s => s.live && (s.gen == g) | none => false) else false

theorem isB_at {i : Nat} (hi : i < S.length) (g : Int) : isB S (i : Int) g = (S[i].live && (S[i].gen == g)) := by simp [isB, hi]

theorem isB_in {n g : Int} (hb : isB S n g = true) : ∃ i : Nat, n = i ∧ ∃ hi : i < S.length, S[i].live = true ∧ S[i].gen = g := by
  unfold isB at hb
  by_cases h0 : 0 ≤ n
  case neg => rw [if_neg h0] at hb; cases hb
  obtain ⟨i, rfl⟩ := Int.eq_ofNat_of_zero_le h0
  rw [if_pos h0] at hb
  refine ⟨i, rfl, ?_⟩
  by_cases hi : i < S.length
  · simp [hi] at hb
    exact ⟨hi, hb.1, hb.2⟩
  · simp [hi] at hb

theorem is (T : Tab a b c h S M) (N : Nat) (n g : Int) : F27 N (pt c, n, g, h) = some (isB S n g, h) := by
  have hg := given T N
  rw [F27]
  by_cases h0 : 0 ≤ n
  case neg =>
    have : isB S n g = false := by rw [isB, if_neg h0]
    simp only [hg, bs, itT, itF, ifT, ifF, dF (show ¬ n ≥ 0 from h0), this]
  obtain ⟨i, rfl⟩ := Int.eq_ofNat_of_zero_le h0
  by_cases hi : i < S.length
  case neg =>
    have : isB S (i : Int) g = false := by simp [isB, hi]
    simp only [hg, bs, itT, itF, ifT, ifF, dT (show (i : Int) ≥ 0 from h0), pnck, padd0, T.r0, slen, dF (show ¬ (i : Int) < (S.length : Int) by omega), this]
  have hb := isB_at hi g
  cases hl : S[i].live with
  | false =>
    rw [hl, Bool.false_and] at hb
    simp only [hg, bs, itT, itF, ifT, ifF, dT (show (i : Int) ≥ 0 from h0), pnck, padd0, T.r0, slen, dT (show (i : Int) < (S.length : Int) by omega), sx hi, T.l hi, hl, asBool_some, hb]
  | true =>
    rw [hl, Bool.true_and] at hb
    simp only [hg, bs, itT, itF, ifT, ifF, dT (show (i : Int) ≥ 0 from h0), pnck, padd0, T.r0, slen, dT (show (i : Int) < (S.length : Int) by omega), sx hi, T.l hi, hl, asBool_some, T.g hi, asInt_some, hb]

/-- The name of a pid. -/
def nameB (S : List Slot) (n g : Int) : ByteArray := if isB S n g = true then (match S[n.toNat]? with | some s => s.name | none => noname) else noname

theorem nameOf (T : Tab a b c h S M) (N : Nat) (n g : Int) : F26 N (pt c, n, g, h) = some (nameB S n g, h) := by
  have hi := is T N n g
  rw [F26]
  cases hb : isB S n g with
  | false =>
    rw [hb] at hi
    have : nameB S n g = noname := by rw [nameB, if_neg (by rw [hb]; simp)]
    simp only [hi, bs, nF, itT, ifT, this]
  | true =>
    rw [hb] at hi
    obtain ⟨i, rfl, hi', hl, hgn⟩ := isB_in hb
    have : nameB S (i : Int) g = S[i].name := by rw [nameB, if_pos hb]; simp [hi']
    simp only [hi, bs, nT, itF, ifF, pnck, padd0, T.r0, sx hi', T.n hi', asStr_some, this]

theorem addL (T : Tab a b c h S M) (N : Nat) (x4 x5 : Int) : ∀ (k m i : Nat), i + k = S.length → k < m →
    (L24_0 N m (pt c, (S.length : Int), (i : Int), x4, x5, h) = some (.inl (x4, x5, h)) ∧ ∀ j (hj : j < S.length), i ≤ j → S[j].live = true ∨ 4611686018427387903 ≤ S[j].gen) ∨
    (∃ (j : Nat) (hj : j < S.length) (h' : H), i ≤ j ∧ S[j].live = false ∧ S[j].gen < 4611686018427387903 ∧ (∀ q (hq : q < S.length), i ≤ q → q < j → S[q].live = true ∨ 4611686018427387903 ≤ S[q].gen) ∧
      L24_0 N m (pt c, (S.length : Int), (i : Int), x4, x5, h) = some (.inr (0, (j : Int), IntKind.i64.wrap (S[j].gen + 1), h')) ∧ Tab a b c h' (S.set j ⟨IntKind.i64.wrap (S[j].gen + 1), true, S[j].name⟩) M ∧ h'.length = h.length ∧ (∀ k, k ≠ a → h'[k]? = h[k]?))
  | 0, m + 1, i, hi, hm => by
    refine .inl ⟨?_, fun j hj hij => by omega⟩
    rw [L24_0]
    simp only [itT, itF, ifT, ifF, dF (show ¬ (i : Int) < (S.length : Int) by omega)]
  | k + 1, m + 1, i, hi, hm => by
    have hi1 : i < S.length := by omega
    have hlen := T.len
    have e2 : IntKind.i64.wrap ((i : Int) + 1) = ((i + 1 : Nat) : Int) := by rw [wrapIn (by omega)]; omega
    rw [L24_0]
    by_cases hf : S[i].live = false ∧ S[i].gen < 4611686018427387903
    · obtain ⟨h1, w1, T1, l1, f1⟩ := T.put hi1 1 (by omega) (.bool true) ⟨S[i].gen, true, S[i].name⟩ rfl
      have hi2 : i < (S.set i ⟨S[i].gen, true, S[i].name⟩).length := by simpa using hi1
      have hg1 : rd h1 (.ptr a 0 (i * 3 + 0)) 0 = some (I S[i].gen) := by rw [T1.g hi2]; simp
      obtain ⟨h2, w2, T2, l2, f2⟩ := T1.put hi2 0 (by omega) (I (IntKind.i64.wrap (S[i].gen + 1))) ⟨IntKind.i64.wrap (S[i].gen + 1), true, S[i].name⟩ (by simp [Slot.cs])
      rw [List.set_set] at T2
      refine .inr ⟨i, hi1, h2, by omega, hf.1, hf.2, fun q hq h1 h2 => by omega, ?_, T2, by omega, fun k hk => (f2 k hk).trans (f1 k hk)⟩
      have hi3 : i < (S.set i ⟨IntKind.i64.wrap (S[i].gen + 1), true, S[i].name⟩).length := by simpa using hi1
      have hp := pid T2 N hi3
      simp only [List.getElem_set_self] at hp
      simp only [itT, itF, ifT, ifF, dT (show (i : Int) < (S.length : Int) by omega), pnck, padd0, T.r0, bs, sx hi1, T.l hi1, asBool_some, hf.1, nF, T.g hi1, asInt_some, dT hf.2, w1, hg1, w2, hp]
    · have hor : S[i].live = true ∨ 4611686018427387903 ≤ S[i].gen := by
        cases hl : S[i].live with
        | true => exact .inl rfl
        | false => exact .inr (by rw [hl] at hf; simp at hf; omega)
      have hcont : ∀ {X : Prop}, X → X := fun x => x
      have key : L24_0 N (m + 1) (pt c, (S.length : Int), (i : Int), x4, x5, h) = L24_0 N m (pt c, (S.length : Int), ((i + 1 : Nat) : Int), x4, x5, h) := by
        rw [L24_0]
        cases hl : S[i].live with
        | true => simp only [itT, itF, ifT, ifF, dT (show (i : Int) < (S.length : Int) by omega), pnck, padd0, T.r0, bs, sx hi1, T.l hi1, asBool_some, hl, nT, e2]
        | false =>
          have hg : ¬ S[i].gen < 4611686018427387903 := fun h => hf ⟨hl, h⟩
          simp only [itT, itF, ifT, ifF, dT (show (i : Int) < (S.length : Int) by omega), pnck, padd0, T.r0, bs, sx hi1, T.l hi1, asBool_some, hl, nF, T.g hi1, asInt_some, dF hg, e2]
      rw [← L24_0, key]
      rcases addL T N x4 x5 k m (i + 1) (by omega) (by omega) with ⟨e, hh⟩ | ⟨j, hj, h', h1, h2, h3, h4, h5, h6, h7, h8⟩
      · exact .inl ⟨e, fun j hj hij => by
          by_cases he : i = j
          · subst he; exact hor
          · exact hh j hj (by omega)⟩
      · exact .inr ⟨j, hj, h', by omega, h2, h3, fun q hq q1 q2 => by
          by_cases he : i = q
          · subst he; exact hor
          · exact h4 q hq (by omega) q2, h5, h6, h7, h8⟩

/-- Add. -/
theorem add (T : Tab a b c h S M) {N : Nat} (hN : 257 ≤ N) :
    (F24 N (pt c, h) = some (0, 0, 140, h) ∧ ∀ j (hj : j < S.length), S[j].live = true ∨ 4611686018427387903 ≤ S[j].gen) ∨
    (∃ (j : Nat) (hj : j < S.length) (h' : H), S[j].live = false ∧ S[j].gen < 4611686018427387903 ∧ (∀ q (hq : q < S.length), q < j → S[q].live = true ∨ 4611686018427387903 ≤ S[q].gen) ∧
      F24 N (pt c, h) = some ((j : Int), IntKind.i64.wrap (S[j].gen + 1), 0, h') ∧ Tab a b c h' (S.set j ⟨IntKind.i64.wrap (S[j].gen + 1), true, S[j].name⟩) M ∧ h'.length = h.length ∧ (∀ k, k ≠ a → h'[k]? = h[k]?)) := by
  have hlen := T.len
  have hg := given T N
  rcases addL T N 0 0 S.length N 0 (by omega) (by omega) with ⟨e, hh⟩ | ⟨j, hj, h', h1, h2, h3, h4, h5, h6, h7, h8⟩
  · have e' : L24_0 N N (pt c, (S.length : Int), 0, 0, 0, h) = some (.inl (0, 0, h)) := e
    refine .inl ⟨?_, fun j hj => hh j hj (by omega)⟩
    rw [F24]
    simp only [hg, bs, nT, itF, ifF, pnck, padd0, T.r0, slen, e']
  · have e' : L24_0 N N (pt c, (S.length : Int), 0, 0, 0, h) = some (.inr (0, (j : Int), IntKind.i64.wrap (S[j].gen + 1), h')) := h5
    refine .inr ⟨j, hj, h', h2, h3, fun q hq q2 => h4 q hq (by omega) q2, ?_, h6, h7, h8⟩
    rw [F24]
    simp only [hg, bs, nT, itF, ifF, pnck, padd0, T.r0, slen, e']

/-- Free. -/
theorem free (T : Tab a b c h S M) (N : Nat) (n g : Int) :
    (isB S n g = false ∧ F25 N (pt c, n, g, h) = some (3, h)) ∨
    (∃ (i : Nat) (hi : i < S.length) (h' : H), n = i ∧ S[i].live = true ∧ S[i].gen = g ∧ F25 N (pt c, n, g, h) = some (0, h') ∧ Tab a b c h' (S.set i ⟨S[i].gen, false, noname⟩) (rem S[i].name M) ∧ h'.length = h.length ∧ (∀ k, k ≠ a → k ≠ b → h'[k]? = h[k]?)) := by
  have hg := given T N
  have hi := is T N n g
  cases hb : isB S n g with
  | false =>
    rw [hb] at hi
    refine .inl ⟨rfl, ?_⟩
    rw [F25]
    simp only [hg, bs, nT, nF, itT, ifT, itF, ifF, hi]
  | true =>
    rw [hb] at hi
    obtain ⟨i, rfl, hi', hl, hgn⟩ := isB_in hb
    have T1 := T.setMap (rem S[i].name M)
    have hd : hmapdel h (.map b) (.str S[i].name) = some (h.set b (.map (ents (rem S[i].name M)))) := by
      simp only [hmapdel, T.map, mrem_ents, Option.map_some]
    obtain ⟨h2, w2, T2, l2, f2⟩ := T1.put hi' 1 (by omega) (.bool false) ⟨S[i].gen, false, S[i].name⟩ rfl
    have hi2 : i < (S.set i ⟨S[i].gen, false, S[i].name⟩).length := by simpa using hi'
    obtain ⟨h3, w3, T3, l3, f3⟩ := T2.put hi2 2 (by omega) (.str noname) ⟨S[i].gen, false, noname⟩ (by simp [Slot.cs])
    rw [List.set_set] at T3
    refine .inr ⟨i, hi', h3, rfl, hl, hgn, ?_, T3, by rw [l3, l2]; simp, fun k k1 k2 => by rw [f3 k k1, f2 k k1, List.getElem?_set_ne (Ne.symm k2)]⟩
    rw [F25]
    simp only [hg, bs, nT, nF, itT, ifT, itF, ifF, hi, pnck, padd0, T.r0, T.r1, sx hi', T.n hi', asStr_some, hd, w2, w3]

/-- Where. -/
theorem whereIn (T : Tab a b c h S M) (N : Nat) (s : ByteArray) {i : Nat} (hi : i < S.length) (hl : look s M = some (i : Int)) : F29 N (pt c, s, h) = some ((i : Int), S[i].gen, 0, h) := by
  have hg := given T N
  have hm := mlook_ents s M
  rw [hl] at hm
  rw [F29]
  simp only [hg, bs, nT, nF, itT, ifT, itF, ifF, pnck, padd0, T.r1, T.hm, hm, Option.map_some, Option.getD_some, asInt_some, Option.isSome_some, pid T N hi]

theorem whereOut (T : Tab a b c h S M) (N : Nat) (s : ByteArray) (hl : look s M = none) : F29 N (pt c, s, h) = some (0, 0, 3, h) := by
  have hg := given T N
  have hm := mlook_ents s M
  rw [hl] at hm
  rw [F29]
  simp only [hg, bs, nT, nF, itT, ifT, itF, ifF, pnck, padd0, T.r1, T.hm, hm, Option.map_none, Option.getD_none, asInt_some, Option.isSome_none]
end

end Go.Proofs.Ytbpibiapjangmaa.tabs
