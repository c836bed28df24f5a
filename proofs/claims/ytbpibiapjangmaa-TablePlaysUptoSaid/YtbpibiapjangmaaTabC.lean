/- Package table: a new one; the loops of the law TableNames. -/
import Derived.Test.YtbpibiapjangmaaTabB
namespace Go.Proofs.Ytbpibiapjangmaa.tabs
open Go Go.L
set_option linter.unusedVariables false
set_option linter.unusedSimpArgs false

theorem repeat_flat (s : Slot) : ∀ n, repeatC n s.cs = flat (List.replicate n s)
  | 0 => rfl
  | n + 1 => by rw [repeatC, repeat_flat s n]; simp [flat, List.replicate_succ]

theorem dTrue {h : Decidable True} : @decide True h = true := by simp

/-- New. -/
theorem newT (N : Nat) (h : H) {n : Nat} (h1 : 1 ≤ n) (h2 : n ≤ 256) :
    ∃ h', F23 N ((n : Int), h) = some (pt (h.length + 2), 0, h') ∧ Tab h.length (h.length + 1) (h.length + 2) h' (List.replicate n ⟨0, false, noname⟩) [] ∧ h'.length = h.length + 3 ∧ (∀ i, i < h.length → h'[i]? = h[i]?) := by
  refine ⟨h ++ [O.cells 0 (flat (List.replicate n ⟨0, false, noname⟩))] ++ [O.map []] ++ [O.cells 0 [.sl h.length 0 0 n 3 (some n), .map (h.length + 1)]], ?_, ⟨?_, ?_, ⟨some n, ?_⟩, by omega, by omega, by omega, by simpa using ⟨h1, h2⟩⟩, by simp, fun i hi => ?_⟩
  · have hr := repeat_flat ⟨0, false, noname⟩ n
    have hr' : repeatC n [(.int .i64 0), (.bool false), (.str (ByteArray.mk #[]))] = flat (List.replicate n ⟨0, false, noname⟩) := hr
    have hc : (n : Int) * ((3 : Nat) : Int) ≤ ((mostCells : Nat) : Int) := by simp [mostCells]; omega
    have k1 : ∀ s : V, ck1 (.sl h.length 0 0 n 3 (some n)) = some () := fun _ => rfl
    have k2 : ck1 (.map (h.length + 1)) = some () := rfl
    have l1 : (h ++ [O.cells 0 (flat (List.replicate n ⟨0, false, noname⟩))]).length = h.length + 1 := by simp
    have l2 : (h ++ [O.cells 0 (flat (List.replicate n ⟨0, false, noname⟩))] ++ [O.map []]).length = h.length + 2 := by simp
    rw [F23]
    simp only [itT, itF, ifT, ifF, dF (show ¬ (n : Int) < 1 by omega), dF (show ¬ (n : Int) > 256 by omega), bs, if_pos (show 0 ≤ (n : Int) by omega), if_pos (show (n : Int) ≤ (n : Int) by omega), if_pos hc, Int.toNat_natCast, hr', k1 .nils, k2, l1, l2]
  · rw [List.getElem?_append_left (by simp), List.getElem?_append_left (by simp)]; simp
  · rw [List.getElem?_append_left (by simp)]
    have : h.length + 1 = (h ++ [O.cells 0 (flat (List.replicate n ⟨0, false, noname⟩))]).length := by simp
    rw [this, List.getElem?_concat_length]; rfl
  · have : h.length + 2 = (h ++ [O.cells 0 (flat (List.replicate n ⟨0, false, noname⟩))] ++ [O.map []]).length := by simp
    rw [this, List.getElem?_concat_length, List.length_replicate]
  · rw [List.getElem?_append_left (by simp; omega), List.getElem?_append_left (by simp; omega), List.getElem?_append_left hi]

theorem newNot (N : Nat) (h : H) {n : Int} (hn : ¬ (1 ≤ n ∧ n ≤ 256)) : F23 N (n, h) = some (.nilp, 1, h) := by
  rw [F23]
  by_cases h1 : n < 1
  · simp only [itT, itF, ifT, ifF, dT h1, bs]
  · simp only [itT, itF, ifT, ifF, dF h1, dT (show n > 256 by omega), bs]

/-- The first slots, taken. -/
def slots8 (i : Nat) : List Slot := List.replicate i ⟨1, true, noname⟩ ++ List.replicate (8 - i) ⟨0, false, noname⟩
def pids (i : Nat) : List (List V) := (List.range i).map fun k : Nat => [I (k : Int), I 1]

theorem slots8_len {i : Nat} (hi : i ≤ 8) : (slots8 i).length = 8 := by simp [slots8]; omega
theorem slots8_get {i j : Nat} (hi : i ≤ 8) (hj : j < (slots8 i).length) : (slots8 i)[j] = if j < i then ⟨1, true, noname⟩ else ⟨0, false, noname⟩ := by
  simp only [slots8, List.getElem_append, List.length_replicate, List.getElem_replicate]
  split <;> rfl
theorem slots8_set {i : Nat} (hi : i < 8) : (slots8 i).set i ⟨1, true, noname⟩ = slots8 (i + 1) := by
  apply List.ext_getElem
  · rw [List.length_set, slots8_len (by omega), slots8_len (by omega)]
  · intro j h1 h2
    rw [List.getElem_set, slots8_get (by omega), slots8_get (by omega)]
    by_cases hj : i = j
    · rw [if_pos hj, if_pos (by omega)]
    · rw [if_neg hj]
      by_cases h3 : j < i
      · rw [if_pos h3, if_pos (by omega)]
      · rw [if_neg h3, if_neg (by omega)]
theorem pids_succ (i : Nat) : pids (i + 1) = pids i ++ [[I (i : Int), I 1]] := by simp [pids, List.range_succ]
theorem pids_len (i : Nat) : (pids i).length = i := by simp [pids]

/-- Eight actors come. -/
theorem comeL {a b c : Nat} (N : Nat) (hN : 300 ≤ N) (x0 : V) : ∀ (k m i : Nat) (h : H) (l : V), i + k = 8 → k < m → Tab a b c h (slots8 i) [] → Own h 2 l (pids i) → oid l ≠ some a → oid l ≠ some b → oid l ≠ some c →
    ∃ h' l', L5_0 N m (x0, pt c, l, (i : Int), h) = some (.inl (x0, pt c, l', h')) ∧ Tab a b c h' (slots8 8) [] ∧ Own h' 2 l' (pids 8) ∧ oid l' ≠ some a ∧ oid l' ≠ some b ∧ oid l' ≠ some c
  | 0, m + 1, i, h, l, hi, hm, T, O, oa, ob, oc => by
    have : i = 8 := by omega
    subst this
    refine ⟨h, l, ?_, T, O, oa, ob, oc⟩
    rw [L5_0]
    simp only [itT, itF, ifT, ifF, dF (show ¬ ((8 : Nat) : Int) < 8 by omega)]
  | k + 1, m + 1, i, h, l, hi, hm, T, O, oa, ob, oc => by
    have hi1 : i < (slots8 i).length := by rw [slots8_len (by omega)]; omega
    have hg := slots8_get (show i ≤ 8 by omega) hi1
    rw [if_neg (by omega)] at hg
    have e2 : IntKind.i64.wrap ((i : Int) + 1) = ((i + 1 : Nat) : Int) := by rw [wrapIn (by omega)]; omega
    rcases add T (show 257 ≤ N by omega) with ⟨e, hh⟩ | ⟨j, hj, h1, h2, h3, h4, h5, h6, h7, h8⟩
    · have := hh i hi1
      rw [hg] at this
      simp at this
    · have hji : j = i := by
        have hgj := slots8_get (show i ≤ 8 by omega) hj
        by_cases h9 : j < i
        · rw [if_pos h9] at hgj; rw [hgj] at h2; cases h2
        · by_cases h10 : i < j
          · have := h4 i hi1 h10
            rw [hg] at this
            simp at this
          · omega
      subst hji
      simp only [hg] at h5 h6
      have w1 : IntKind.i64.wrap ((0 : Int) + 1) = 1 := by rw [wrapIn (by omega)]; omega
      rw [w1] at h5 h6
      rw [slots8_set (by omega)] at h6
      have O1 : Own h1 2 l (pids j) := O.frame fun i hi => h8 i (fun e => oa (by rw [hi, e]))
      obtain ⟨l2, h11, e11, o11, k11, f11, _⟩ := O1.app1 [I (j : Int), I 1] rfl (by rw [pids_len]; simp [mostCells]; omega)
      rw [← pids_succ] at o11
      have la := (List.getElem?_eq_some_iff.1 h6.slots).1
      have lb := (List.getElem?_eq_some_iff.1 h6.map).1
      have lc := (List.getElem?_eq_some_iff.1 h6.obj).1
      have T11 := h6.frame (k11.2 a la oa) (k11.2 b lb ob) (k11.2 c lc oc)
      have fr : ∀ x, x < h1.length → oid l ≠ some x → oid l2 ≠ some x := by
        intro x hx hl
        rcases f11 with e | e
        · rw [e]; exact hl
        · rw [e]; intro hh; have := Option.some.inj hh; omega
      obtain ⟨h', l', e', T', O', oa', ob', oc'⟩ := comeL N hN x0 k m (j + 1) h11 l2 (by omega) (by omega) T11 o11 (fr a la oa) (fr b lb ob) (fr c lc oc)
      refine ⟨h', l', ?_, T', O', oa', ob', oc'⟩
      rw [L5_0]
      have z0 : ((0 : Int) != 0) = false := rfl
      simp only [itT, itF, ifT, ifF, dT (show (j : Int) < 8 by omega), h5, bs, z0, e11, e2]
      exact e'

/-- What holds between the slots and the map. -/
structure Inv (S : List Slot) (M : List (ByteArray × Int)) : Prop where
  len : S.length = 8
  gens : ∀ i (hi : i < S.length), S[i].gen = 1
  named : ∀ i (hi : i < S.length), S[i].live = true → S[i].name ≠ noname → look S[i].name M = some (i : Int)
  no : look noname M = none

theorem look_rem_none {j k : ByteArray} : ∀ {M}, look j M = none → look j (rem k M) = none
  | [], _ => rfl
  | e :: r, h => by
    rw [look] at h
    by_cases h1 : (j == e.1) = true
    · rw [if_pos h1] at h; cases h
    · rw [if_neg h1] at h
      rw [rem]
      split
      · exact h
      · rw [look, if_neg h1]; exact look_rem_none h

theorem Inv.free {S : List Slot} {M : List (ByteArray × Int)} (v : Inv S M) {i : Nat} (hi : i < S.length) (hl : S[i].live = true) : Inv (S.set i ⟨S[i].gen, false, noname⟩) (rem S[i].name M) := by
  refine ⟨by simpa using v.len, fun j hj => ?_, fun j hj h1 h2 => ?_, look_rem_none v.no⟩
  · rw [List.getElem_set]
    split
    · exact v.gens i hi
    · exact v.gens j (by simpa using hj)
  · rw [List.getElem_set] at h1 h2 ⊢
    by_cases hij : i = j
    · rw [if_pos hij] at h1; cases h1
    · rw [if_neg hij] at h1 h2 ⊢
      have hj' : j < S.length := by simpa using hj
      have hlk := v.named j hj' h1 h2
      rw [look_rem_ne (fun e => ?_)]
      · exact hlk
      · have := v.named i hi hl (by rw [← e]; exact h2)
        rw [← e, hlk] at this
        exact hij (by have := Option.some.inj this; omega)

theorem Inv.name {S : List Slot} {M : List (ByteArray × Int)} (v : Inv S M) {i : Nat} (hi : i < S.length) {s : ByteArray} (hs : s ≠ noname) (hn : look s M = none) : Inv (S.set i ⟨S[i].gen, S[i].live, s⟩) (put s (i : Int) M) := by
  refine ⟨by simpa using v.len, fun j hj => ?_, fun j hj h1 h2 => ?_, ?_⟩
  · rw [List.getElem_set]
    split
    · exact v.gens i hi
    · exact v.gens j (by simpa using hj)
  · rw [List.getElem_set] at h1 h2 ⊢
    by_cases hij : i = j
    · rw [if_pos hij]; simp only; rw [look_put_self, hij]
    · rw [if_neg hij] at h1 h2 ⊢
      have hlk := v.named j (by simpa using hj) h1 h2
      rw [look_put_ne _ (fun e => ?_)]
      · exact hlk
      · rw [e, hn] at hlk; cases hlk
  · rw [look_put_ne _ (Ne.symm hs)]; exact v.no

theorem atom_ne {s : ByteArray} (h : atomB s = true) : s ≠ noname := by
  intro e
  subst e
  rw [atomB, if_pos (.inl (by decide))] at h
  cases h

/-- A pid of the list. -/
theorem pidAt {h : H} {l : V} (hs : Sl h 2 l (pids 8)) {i : Nat} (hi : i < 8) : ∃ q, sidx l (i : Int) 2 = some q ∧ rd h q 0 = some (I (i : Int)) ∧ rd h q 1 = some (I 1) := by
  obtain ⟨q, e, hq⟩ := hs.at i (by rw [pids_len]; exact hi)
  refine ⟨q, e, ?_, ?_⟩ <;> rw [hq _ (by omega)] <;> simp [pids, hi]

section
variable {a b c : Nat} {h : H} {S : List Slot} {M : List (ByteArray × Int)}

/-- Every name leads to who has it. -/
theorem leadsL (N : Nat) (T : Tab a b c h S M) (v : Inv S M) {l : V} (hs : Sl h 2 l (pids 8)) (x0 : V) (x1 : Int) : ∀ (k m i : Nat), i + k = 8 → k < m → L5_2 N m (x0, pt c, l, x1, (i : Int), h) = some (.inl (x0, pt c, l, x1, h))
  | 0, m + 1, i, hi, hm => by
    have : i = 8 := by omega
    subst this
    rw [L5_2]
    simp only [itT, itF, ifT, ifF, dF (show ¬ ((8 : Nat) : Int) < 8 by omega)]
  | k + 1, m + 1, i, hi, hm => by
    have hi1 : i < S.length := by rw [v.len]; omega
    have e2 : IntKind.i64.wrap ((i : Int) + 1) = ((i + 1 : Nat) : Int) := by rw [wrapIn (by omega)]; omega
    obtain ⟨q, eq, r0, r1⟩ := pidAt hs (show i < 8 by omega)
    have hn := nameOf T N (i : Int) 1
    have hz := is T N (i : Int) 1
    have z0 : ((0 : Int) != 0) = false := rfl
    have bb : ∀ x : Int, (x == x) = true := by simp
    rw [L5_2]
    by_cases hnm : nameB S (i : Int) 1 = noname
    · have hw := whereOut T N noname v.no
      rw [hnm] at hn
      simp only [itT, itF, ifT, ifF, dT (show (i : Int) < 8 by omega), eq, r0, r1, asInt_some, bs, hn, hw, seq, dT (show noname = noname from rfl), nT, e2]
      exact leadsL N T v hs x0 x1 k m (i + 1) (by omega) (by omega)
    · have hb : isB S (i : Int) 1 = true := by
        cases hb : isB S (i : Int) 1 with
        | true => rfl
        | false => exact absurd (by rw [nameB, if_neg (by rw [hb]; simp)]) hnm
      have hnm2 : nameB S (i : Int) 1 = S[i].name := by rw [nameB, if_pos hb]; simp [hi1]
      rw [hnm2] at hnm hn
      rw [hb] at hz
      have hbb := hb
      rw [isB_at hi1] at hbb
      simp only [Bool.and_eq_true, beq_iff_eq] at hbb
      have hw := whereIn T N S[i].name hi1 (v.named i hi1 hbb.1 hnm)
      rw [hbb.2] at hw
      simp only [itT, itF, ifT, ifF, dT (show (i : Int) < 8 by omega), eq, r0, r1, asInt_some, bs, hn, hw, seq, dF hnm, nF, z0, bb, Bool.true_and, nT, hz, e2]
      exact leadsL N T v hs x0 x1 k m (i + 1) (by omega) (by omega)
end

/-- Namings as an argument. -/
structure Nm where
  act : Int
  name : ByteArray
  fin : Bool
def Nm.cs (x : Nm) : List V := [I x.act, .str x.name, .bool x.fin]
def nms (E : List Nm) : V := .rs 3 (E.map fun e => .agg e.cs)
theorem nms_len (E : List Nm) : slen (nms E) = some (E.length : Int) := by simp [nms, slen]
theorem nms_at (E : List Nm) {i : Nat} (hi : i < E.length) : sidx (nms E) (i : Int) 3 = some (.rptr E[i].cs) := by
  unfold nms
  rw [sidx_rs (by omega)]
  simp [hi, V.cells]
theorem n0 (h : H) (e : Nm) : rd h (padd (.rptr e.cs) 0) 0 = some (I e.act) := by rw [padd, rd_rptr]; rfl
theorem n1 (h : H) (e : Nm) : rd h (padd (.rptr e.cs) 1) 0 = some (.str e.name) := by rw [padd, rd_rptr]; rfl
theorem n2 (h : H) (e : Nm) : rd h (padd (.rptr e.cs) 2) 0 = some (.bool e.fin) := by rw [padd, rd_rptr]; rfl

theorem mod8 (x : Int) : ∃ k : Nat, k < 8 ∧ IntKind.i64.wrap (Int.tmod (IntKind.u64.wrap x) 8) = (k : Int) := by
  have hu : 0 ≤ IntKind.u64.wrap x := by
    simp only [IntKind.wrap, IntKind.signed, IntKind.bits]
    simp
    exact Int.emod_nonneg _ (by omega)
  rw [Int.tmod_eq_emod_of_nonneg hu]
  refine ⟨(IntKind.u64.wrap x % 8).toNat, by omega, ?_⟩
  rw [wrapIn (by omega)]; omega

theorem namesL {a b c : Nat} (N : Nat) (hN : 300 ≤ N) (E : List Nm) (hE : E.length ≤ 9223372036854775807) {l : V} (oa : oid l ≠ some a) (ob : oid l ≠ some b) : ∀ (k m i : Nat) (h : H) (S : List Slot) (M : List (ByteArray × Int)), i + k = E.length → k < m → Tab a b c h S M → Inv S M → Sl h 2 l (pids 8) →
    ∃ h', L5_1 N m (nms E, pt c, l, (i : Int), h) = some (.inl h')
  | 0, m + 1, i, h, S, M, hi, hm, T, v, hs => by
    refine ⟨h, ?_⟩
    rw [L5_1]
    simp only [nms_len, bs, itT, itF, ifT, ifF, dF (show ¬ (i : Int) < (E.length : Int) by omega)]
  | k + 1, m + 1, i, h, S, M, hi, hm, T, v, hs => by
    have hi1 : i < E.length := by omega
    have e2 : IntKind.i64.wrap ((i : Int) + 1) = ((i + 1 : Nat) : Int) := by rw [wrapIn (by omega)]; omega
    obtain ⟨p, hp, ep⟩ := mod8 E[i].act
    obtain ⟨q, eq, r0, r1⟩ := pidAt hs hp
    have hpS : p < S.length := by rw [v.len]; exact hp
    have z0 : ((0 : Int) == 0) = true := rfl
    have z1 : ((0 : Int) != 0) = false := rfl
    -- what follows every step
    have fin : ∀ (h1 : H) (S1 : List Slot) (M1 : List (ByteArray × Int)), Tab a b c h1 S1 M1 → Inv S1 M1 → Sl h1 2 l (pids 8) →
        ∃ h', ((L5_2 N N (nms E, pt c, l, (i : Int), 0, h1)).bind fun o178 => match o178 with
          | .inl (x179, x180, x181, x182, h183) => (L5_1 N m (x179, x180, x181, (IntKind.i64.wrap (x182 + 1)), h183))
          | .inr (x184, h185) => (some (.inr (x184, h185)))) = some (.inl h') := by
      intro h1 S1 M1 T1 v1 hs1
      have e := leadsL N T1 v1 hs1 (nms E) (i : Int) 8 N 0 (by omega) (by omega)
      have e' : L5_2 N N (nms E, pt c, l, (i : Int), 0, h1) = _ := e
      obtain ⟨h', ef⟩ := namesL N hN E hE oa ob k m (i + 1) h1 S1 M1 (by omega) (by omega) T1 v1 hs1
      refine ⟨h', ?_⟩
      rw [e']
      simp only [bs, e2]
      exact ef
    have keep : ∀ h1 : H, (∀ k, k ≠ a → k ≠ b → h1[k]? = h[k]?) → Sl h1 2 l (pids 8) := fun h1 hf => hs.frame fun j hj => hf j (fun e => oa (by rw [hj, e])) (fun e => ob (by rw [hj, e]))
    rw [L5_1]
    simp only [nms_len, bs, itT, itF, ifT, ifF, dT (show (i : Int) < (E.length : Int) by omega), nms_at E hi1, n0, n1, n2, asInt_some, asStr_some, asBool_some, ep, eq, r0, r1]
    cases hf : E[i].fin with
    | true =>
      simp only [itT, ifT]
      rcases free T N (p : Int) 1 with ⟨_, e⟩ | ⟨j, hj, h1, ej, hl, hg, e, T1, _, f1⟩
      · simp only [e, bs]
        exact fin h S M T v hs
      · have hjp : j = p := by omega
        subst hjp
        simp only [e, bs]
        exact fin h1 _ _ T1 (v.free hj hl) (keep h1 f1)
    | false =>
      have hn := nameOf T N (p : Int) 1
      have hz := is T N (p : Int) 1
      simp only [itF, ifF, hn, hz, bs]
      rcases name T N (p : Int) 1 E[i].name with ⟨_, e⟩ | ⟨_, _, e⟩ | ⟨j, hj, ej, hl, hg, hat, ⟨_, e⟩ | ⟨hlk, hnn, h1, e, T1, _, f1⟩⟩
      · simp only [e, bs, show ((1 : Int) == 0) = false from rfl, show ((1 : Int) != 0) = true from rfl, itT, itF, ifT, ifF, hn, seq, dT (show nameB S (p : Int) 1 = nameB S (p : Int) 1 from rfl), nT]
        exact fin h S M T v hs
      · simp only [e, bs, show ((3 : Int) == 0) = false from rfl, show ((3 : Int) != 0) = true from rfl, itT, itF, ifT, ifF, hn, seq, dT (show nameB S (p : Int) 1 = nameB S (p : Int) 1 from rfl), nT]
        exact fin h S M T v hs
      · simp only [e, bs, show ((141 : Int) == 0) = false from rfl, show ((141 : Int) != 0) = true from rfl, itT, itF, ifT, ifF, hn, seq, dT (show nameB S (p : Int) 1 = nameB S (p : Int) 1 from rfl), nT]
        exact fin h S M T v hs
      · have hjp : j = p := by omega
        subst hjp
        have hb : isB S (j : Int) 1 = true := by rw [isB_at hj, hl, hg]; rfl
        have hwas : nameB S (j : Int) 1 = noname := by rw [nameB, if_pos hb]; simp [hj, hnn]
        have hj1 : j < (S.set j ⟨S[j].gen, S[j].live, E[i].name⟩).length := by simpa using hj
        have hb1 : isB (S.set j ⟨S[j].gen, S[j].live, E[i].name⟩) (j : Int) 1 = true := by rw [isB_at hj1]; simp [hl, hg]
        have hnow : nameB (S.set j ⟨S[j].gen, S[j].live, E[i].name⟩) (j : Int) 1 = E[i].name := by rw [nameB, if_pos hb1]; simp [hj]
        have hn1 := nameOf T1 N (j : Int) 1
        rw [hnow] at hn1
        simp only [e, bs, z0, z1, itT, itF, ifT, ifF, hwas, hb, hn1, seq, dTrue, nT]
        exact fin h1 _ _ T1 (v.name hj (atom_ne hat) hlk) (keep h1 f1)

end Go.Proofs.Ytbpibiapjangmaa.tabs
