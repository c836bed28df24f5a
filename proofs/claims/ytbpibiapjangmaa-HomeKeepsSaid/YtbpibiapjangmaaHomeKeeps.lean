/- PROVED: 'carousellaw17.HomeKeeps' answers true for every number of cores and every script, and the arguments read afterwards as before. No condition. -/
import Derived.Test.YtbpibiapjangmaaL36
import Derived.Test.YtbpibiapjangmaaHg
import Derived.Test.YtbpibiapjangmaaRows
import Derived.WalkKit
import Derived.ProofKit
import Derived.OpenShut
namespace Go.Proofs.Ytbpibiapjangmaa.homeKeeps
open Go.L Go.ChangeShapes Go.WideShapes Go.ChangeAt Go.RowKit
set_option linter.unusedVariables false

abbrev I (n : Int) : V := .int .i64 n
def acc (c : Int) (A : List Int) : List V := I c :: A.map I
def hh (c : Int) (A : List Int) : L.H := [.cells 0 (acc c A)]
abbrev p0 : V := .ptr 0 0 0
def at' (A : List Int) (i : Nat) : Int := A.getD i 0

theorem rdA (c : Int) (A : List Int) (i : Nat) (hi : i < A.length) : rd (hh c A) (.ptr 0 0 (1 + i)) 0 = some (I (at' A i)) := by
  rw [rd_obj (cs := acc c A) rfl]
  have : 1 + i + 0 = i + 1 := by omega
  rw [this]
  simp [acc, at', hi]

theorem wrA (c : Int) (A : List Int) (i : Nat) (v : Int) (hi : i < A.length) : wr (hh c A) (.ptr 0 0 (1 + i)) [I v] = some (hh c (A.set i v)) := by
  rw [wr_obj (cs := acc c A) rfl (by simp [acc]; omega)]
  have : 1 + i = i + 1 := by omega
  simp [hh, splice1, acc, this, List.map_set]

theorem nck0 : nck p0 = some () := rfl
theorem isNil0 : isNil p0 = some false := rfl

theorem go1 {R : Type} (k cl : Nat) (hk : k < 16) (hc : cl < 3) (K : V → Option R) :
    ((aidx (padd p0 1) (k : Int) 16 3).bind fun q => (aidx q (cl : Int) 3 1).bind K) = K (.ptr 0 0 (1 + (k * 3 + cl))) := by
  have e1 : padd p0 1 = .ptr 0 0 1 := rfl
  rw [e1, aidx_ptr (by omega) (by omega) (by omega)]
  simp only [Option.bind_some, Int.toNat_natCast]
  rw [aidx_ptr (by omega) (by omega) (by omega)]
  simp only [Option.bind_some, Int.toNat_natCast, Nat.mul_one, Nat.add_assoc]

def Has (c k cl : Int) : Prop := 0 ≤ k ∧ k < c ∧ 0 ≤ cl ∧ cl < 3
instance (c k cl : Int) : Decidable (Has c k cl) := by unfold Has; exact inferInstance

theorem has (N : Nat) (c : Int) (A : List Int) (k cl : Int) : F61 N (p0, k, cl, hh c A) = some (decide (Has c k cl), hh c A) := by
  have e : F61 N (p0, k, cl, hh c A) = (if decide (k ≥ 0) = true then some (decide (k < c), hh c A) else some (false, hh c A)).bind fun (b4, h5) =>
    (if b4 = true then some (decide (cl ≥ 0), h5) else some (false, h5)).bind fun (b7, h8) => (if b7 = true then some (decide (cl < 3), h8) else some (false, h8)).bind fun (b9, h10) => some (b9, h10) := by kernel_rfl
  rw [e]
  unfold Has
  by_cases h1 : 0 ≤ k
  · by_cases h2 : k < c
    · by_cases h3 : 0 ≤ cl
      · simp [h1, h2, h3]
      · simp [h1, h2, h3]
    · simp [h1, h2]
  · simp [h1]

section
variable {c : Int} {A : List Int} (hA : A.length = 48) (hc : c ≤ 16)
include hA hc

theorem take (N : Nat) (k cl : Int) : F18 N (p0, k, cl, hh c A) = if Has c k cl then (if at' A (k.toNat * 3 + cl.toNat) ≥ 64 then some (170, hh c A) else
    some (0, hh c (A.set (k.toNat * 3 + cl.toNat) (IntKind.i64.wrap (at' A (k.toNat * 3 + cl.toNat) + 1))))) else some (1, hh c A) := by
  unfold F18
  simp only [has, Option.bind_some]
  by_cases h : Has c k cl
  · obtain ⟨a1, a2, a3, a4⟩ := h
    obtain ⟨k, rfl⟩ := Int.eq_ofNat_of_zero_le a1
    obtain ⟨cl, rfl⟩ := Int.eq_ofNat_of_zero_le a3
    have hi : k * 3 + cl < A.length := by omega
    have hd : Has c k cl := ⟨a1, a2, a3, a4⟩
    simp only [hd, decide_true, Bool.not_true, Bool.false_eq_true, if_false, if_true, nck0, Option.bind_some, go1 k cl (by omega) (by omega), rdA c A _ hi, asInt_some, Int.toNat_natCast, wrA c A _ _ hi]
    by_cases hx : at' A (k * 3 + cl) ≥ 64
    · simp [hx]
    · simp [hx]
  · simp [h]

theorem give (N : Nat) (k cl : Int) : F19 N (p0, k, cl, hh c A) = if Has c k cl then (if at' A (k.toNat * 3 + cl.toNat) = 0 then some (3, hh c A) else
    some (0, hh c (A.set (k.toNat * 3 + cl.toNat) (IntKind.i64.wrap (at' A (k.toNat * 3 + cl.toNat) - 1))))) else some (1, hh c A) := by
  unfold F19
  simp only [has, Option.bind_some]
  by_cases h : Has c k cl
  · obtain ⟨a1, a2, a3, a4⟩ := h
    obtain ⟨k, rfl⟩ := Int.eq_ofNat_of_zero_le a1
    obtain ⟨cl, rfl⟩ := Int.eq_ofNat_of_zero_le a3
    have hi : k * 3 + cl < A.length := by omega
    have hd : Has c k cl := ⟨a1, a2, a3, a4⟩
    simp only [hd, decide_true, Bool.not_true, Bool.false_eq_true, if_false, if_true, nck0, Option.bind_some, go1 k cl (by omega) (by omega), rdA c A _ hi, asInt_some, Int.toNat_natCast, wrA c A _ _ hi]
    by_cases hx : at' A (k * 3 + cl) = 0
    · simp [hx]
    · simp [hx]
  · simp [h]

theorem count (N : Nat) (k cl : Nat) (h1 : (k : Int) < c) (h2 : cl < 3) : F21 N (p0, (k : Int), (cl : Int), hh c A) = some (at' A (k * 3 + cl), hh c A) := by
  unfold F21
  simp only [has, Option.bind_some]
  have hi : k * 3 + cl < A.length := by omega
  have hd : Has c k cl := ⟨by omega, h1, by omega, by omega⟩
  simp only [hd, decide_true, Bool.not_true, Bool.false_eq_true, if_false, nck0, Option.bind_some, go1 k cl (by omega) (by omega), rdA c A _ hi, asInt_some]

omit hA hc in
theorem eq3 (x y z : Int) : aggEq Try.prog 90 [I x, I y, I z] [.int .i64 0, .int .i64 0, .int .i64 0] = some (x == 0 && (y == 0 && (z == 0 && true))) := by kernel_rfl

omit hc in
theorem drop3 (k : Nat) (hk : k < 16) : ((acc c A).drop (1 + k * 3)).take 3 = [I (at' A (k * 3)), I (at' A (k * 3 + 1)), I (at' A (k * 3 + 2))] := by
  have e : 1 + k * 3 = k * 3 + 1 := by omega
  rw [e]
  simp only [acc, List.drop_succ_cons]
  apply List.ext_getElem?
  intro i
  rw [List.getElem?_take]
  match i with
  | 0 => simp [at', show k * 3 < A.length by omega]
  | 1 => simp [at', show k * 3 + 1 < A.length by omega]
  | 2 => simp [at', show k * 3 + 2 < A.length by omega]
  | i + 3 => simp; omega

theorem room (N : Nat) (k : Nat) (h1 : (k : Int) < c) (hb : ∀ i, 0 ≤ at' A i ∧ at' A i ≤ 64) : F22 (N + 4) (p0, (k : Int), hh c A) =
    some ([I (64 - at' A (k * 3)), I (64 - at' A (k * 3 + 1)), I (64 - at' A (k * 3 + 2))], hh c A) := by
  unfold F22
  simp only [has, Option.bind_some]
  have hd : Has c k 0 := ⟨by omega, h1, by omega, by omega⟩
  have e1 : padd p0 1 = .ptr 0 0 1 := rfl
  have e2 : aidx (.ptr 0 0 1) (k : Int) 16 3 = some (.ptr 0 0 (1 + k * 3)) := by rw [aidx_ptr (by omega) (by omega) (by omega)]; simp
  have e3 : rdN (hh c A) (.ptr 0 0 (1 + k * 3)) 3 = some [I (at' A (k * 3)), I (at' A (k * 3 + 1)), I (at' A (k * 3 + 2))] := by
    have hl : 1 + k * 3 + 3 ≤ (acc c A).length := by simp [acc]; omega
    rw [← drop3 (c := c) hA k (by omega)]
    simp [rdN, hh, hl]
  simp only [hd, decide_true, Bool.not_true, Bool.false_eq_true, if_false, nck0, Option.bind_some, e1, e2, e3, eq3]
  by_cases hz : (at' A (k * 3) == 0 && (at' A (k * 3 + 1) == 0 && (at' A (k * 3 + 2) == 0 && true))) = true
  · rw [if_pos hz]
    simp only [Bool.and_eq_true, beq_iff_eq] at hz
    simp [hz.1, hz.2.1, hz.2.2.1]
  · rw [if_neg hz]
    have b0 := hb (k * 3); have b1 := hb (k * 3 + 1); have b2 := hb (k * 3 + 2)
    have g : ∀ (j : Nat), j < 3 → aidx (.ptr 0 0 (1 + k * 3)) (j : Int) 3 1 = some (.ptr 0 0 (1 + (k * 3 + j))) := by
      intro j hj
      rw [aidx_ptr (by omega) (by omega) (by omega)]; simp [Nat.add_assoc]
    have g0 : aidx (.ptr 0 0 (1 + k * 3)) 0 3 1 = some (.ptr 0 0 (1 + (k * 3 + 0))) := g 0 (by omega)
    have g1 : aidx (.ptr 0 0 (1 + k * 3)) 1 3 1 = some (.ptr 0 0 (1 + (k * 3 + 1))) := g 1 (by omega)
    have g2 : aidx (.ptr 0 0 (1 + k * 3)) 2 3 1 = some (.ptr 0 0 (1 + (k * 3 + 2))) := g 2 (by omega)
    have w1 : IntKind.i64.wrap (0 + 1) = 1 := by rfl
    have w2 : IntKind.i64.wrap (1 + 1) = 2 := by rfl
    have w3 : IntKind.i64.wrap (2 + 1) = 3 := by rfl
    have hl : ∀ j, j < 3 → k * 3 + j < A.length := by intro j hj; omega
    have r0 := rdA c A (k * 3) (hl 0 (by omega)); have r1 := rdA c A (k * 3 + 1) (hl 1 (by omega)); have r2 := rdA c A (k * 3 + 2) (hl 2 (by omega))
    simp only [L22_0, nck0, Option.bind_some, e1, e2, g0, g1, g2, r0, r1, r2, asInt_some, w1, w2, w3, Nat.add_zero, wrapIn (x := 64 - at' A (k * 3)) (by omega), wrapIn (x := 64 - at' A (k * 3 + 1)) (by omega), wrapIn (x := 64 - at' A (k * 3 + 2)) (by omega)]
    simp [splice]

omit hA hc in
theorem at_set (i j : Nat) (v : Int) (hi : i < A.length) : at' (A.set i v) j = if i = j then v else at' A j := by
  simp only [at', List.getD_eq_getElem?_getD, List.getElem?_set]
  by_cases h : i = j
  · subst h; simp [hi]
  · simp [h]

theorem move (hb : ∀ i, 0 ≤ at' A i ∧ at' A i ≤ 64) (N : Nat) (k to cl n : Int) (hn : -9223372036854775808 ≤ n ∧ n ≤ 9223372036854775807) :
    ∃ r A', F20 N (p0, k, to, cl, n, hh c A) = some (r, hh c A') ∧ (A' = A ∨
      ∃ (k' t' l' : Nat), (k' : Int) < c ∧ (t' : Int) < c ∧ l' < 3 ∧ k' ≠ t' ∧ 0 ≤ n ∧ n ≤ at' A (k' * 3 + l') ∧ at' A (t' * 3 + l') + n ≤ 64 ∧
        A' = (A.set (k' * 3 + l') (at' A (k' * 3 + l') - n)).set (t' * 3 + l') (at' A (t' * 3 + l') + n)) := by
  unfold F20
  simp only [has, Option.bind_some]
  by_cases h1 : Has c k cl
  case neg => exact ⟨1, A, by simp [h1], .inl rfl⟩
  by_cases h2 : Has c to cl
  case neg => exact ⟨1, A, by simp [h1, h2], .inl rfl⟩
  by_cases h3 : n < 0
  case pos => exact ⟨1, A, by simp [h1, h2, h3], .inl rfl⟩
  have d1 := h1; have d2 := h2
  obtain ⟨a1, a2, a3, a4⟩ := h1
  obtain ⟨b1, b2, _, _⟩ := h2
  obtain ⟨k, rfl⟩ := Int.eq_ofNat_of_zero_le a1
  obtain ⟨to, rfl⟩ := Int.eq_ofNat_of_zero_le b1
  obtain ⟨cl, rfl⟩ := Int.eq_ofNat_of_zero_le a3
  have hi : k * 3 + cl < A.length := by omega
  have hj : to * 3 + cl < A.length := by omega
  have vi := hb (k * 3 + cl); have vj := hb (to * 3 + cl)
  simp only [d1, d2, h3, decide_true, decide_false, Bool.not_true, Bool.false_eq_true, if_false, nck0, Option.bind_some, go1 k cl (by omega) (by omega), go1 to cl (by omega) (by omega), rdA c A _ hi, rdA c A _ hj, asInt_some, wrA c A _ _ hi]
  by_cases h4 : at' A (k * 3 + cl) < n
  case pos => exact ⟨3, A, by simp [h4], .inl rfl⟩
  by_cases h5 : k = to
  case pos => exact ⟨0, A, by subst h5; simp [h4], .inl rfl⟩
  have h5' : ((k : Int) == (to : Int)) = false := by simp; omega
  rw [wrapIn (x := 64 - at' A (to * 3 + cl)) (by omega)]
  by_cases h6 : n > 64 - at' A (to * 3 + cl)
  case pos => exact ⟨170, A, by simp [h4, h5', h6], .inl rfl⟩
  have hj2 : to * 3 + cl < (A.set (k * 3 + cl) (IntKind.i64.wrap (at' A (k * 3 + cl) - n))).length := by simpa using hj
  have hne : ¬ (k * 3 + cl = to * 3 + cl) := by omega
  simp only [h4, h5', h6, decide_false, Bool.false_eq_true, if_false, rdA c _ _ hj2, asInt_some, Option.bind_some, wrA c _ _ _ hj2, at_set _ _ _ hi, if_neg hne]
  rw [wrapIn (x := at' A (k * 3 + cl) - n) (by omega), wrapIn (x := at' A (to * 3 + cl) + n) (by omega)]
  exact ⟨0, _, rfl, .inr ⟨k, to, cl, a2, b2, by omega, h5, by omega, by omega, by omega, rfl⟩⟩

end

/-- A class's sum over the first cores. -/
def tot (A : List Int) : Nat → Nat → Int
  | 0, _ => 0
  | k + 1, cl => tot A k cl + at' A (k * 3 + cl)

theorem tot_set {A : List Int} (k' cl' : Nat) (v : Int) (hi : k' * 3 + cl' < A.length) (h3 : cl' < 3) (cl : Nat) (hc : cl < 3) : ∀ n, tot (A.set (k' * 3 + cl') v) n cl = tot A n cl + (if cl = cl' ∧ k' < n then v - at' A (k' * 3 + cl') else 0)
  | 0 => by simp [tot]
  | n + 1 => by
    simp only [tot, tot_set k' cl' v hi h3 cl hc n]
    have e : at' (A.set (k' * 3 + cl') v) (n * 3 + cl) = if k' * 3 + cl' = n * 3 + cl then v else at' A (n * 3 + cl) := by
      simp only [at', List.getD_eq_getElem?_getD, List.getElem?_set]
      by_cases h : k' * 3 + cl' = n * 3 + cl
      · rw [if_pos h, if_pos h, if_pos (by omega)]; rfl
      · rw [if_neg h, if_neg h]
    rw [e]
    by_cases h : k' * 3 + cl' = n * 3 + cl
    · have h1 : cl = cl' := by omega
      have h2 : k' = n := by omega
      subst h1; subst h2
      simp; omega
    · rw [if_neg h]
      by_cases h1 : cl = cl' ∧ k' < n
      · rw [if_pos h1, if_pos ⟨h1.1, by omega⟩]; omega
      · rw [if_neg h1, if_neg (by intro h2; apply h; omega)]; omega

theorem tot_bound {A : List Int} (hb : ∀ i, 0 ≤ at' A i ∧ at' A i ≤ 64) (cl : Nat) : ∀ n : Nat, 0 ≤ tot A n cl ∧ tot A n cl ≤ 64 * n
  | 0 => by simp [tot]
  | n + 1 => by
    have := tot_bound hb cl n
    have := hb (n * 3 + cl)
    simp only [tot]
    omega

/-- What the accounts and the sums keep to. -/
structure Inv (c : Int) (A T : List Int) : Prop where
  lenA : A.length = 48
  lenT : T.length = 3
  bnd : ∀ i, 0 ≤ at' A i ∧ at' A i ≤ 64
  sum : ∀ cl, cl < 3 → at' T cl = tot A c.toNat cl

theorem at_set' {A : List Int} (i j : Nat) (v : Int) (hi : i < A.length) : at' (A.set i v) j = if i = j then v else at' A j := by
  simp only [at', List.getD_eq_getElem?_getD, List.getElem?_set]
  by_cases h : i = j
  · subst h; simp [hi]
  · simp [h]

/-- An operation of the script. -/
structure Op5 where
  kind : Int
  a : Int
  b : Int
  to : Int
  n : Int

def Op5.v (o : Op5) : V := .agg [I o.kind, I o.a, I o.b, I o.to, I o.n]
def Op5.ok (o : Op5) : Prop := -9223372036854775808 ≤ o.n ∧ o.n ≤ 9223372036854775807

theorem Inv.upd {c : Int} {A T : List Int} (h : Inv c A T) (hc : 1 ≤ c ∧ c ≤ 16) (k cl : Nat) (v d : Int) (hk : (k : Int) < c) (hcl : cl < 3) (hv : 0 ≤ v ∧ v ≤ 64) (hd : v - at' A (k * 3 + cl) = d) :
    Inv c (A.set (k * 3 + cl) v) (T.set cl (at' T cl + d)) where
  lenA := by simpa using h.lenA
  lenT := by simpa using h.lenT
  bnd i := by
    rw [at_set' _ _ _ (by have := h.lenA; omega)]
    split
    · exact hv
    · exact h.bnd i
  sum cl2 h2 := by
    rw [at_set' _ _ _ (by have := h.lenT; omega), tot_set k cl v (by have := h.lenA; omega) hcl cl2 h2]
    by_cases e : cl = cl2
    · subst e
      rw [if_pos rfl, if_pos ⟨rfl, by omega⟩, h.sum cl hcl]; omega
    · rw [if_neg e, if_neg (fun x => e x.1.symm), h.sum cl2 h2]; omega

theorem Inv.move {c : Int} {A T : List Int} (h : Inv c A T) (hc : 1 ≤ c ∧ c ≤ 16) (k t l : Nat) (n : Int) (hk : (k : Int) < c) (ht : (t : Int) < c) (hl : l < 3) (hne : k ≠ t) (h0 : 0 ≤ n) (h1 : n ≤ at' A (k * 3 + l)) (h2 : at' A (t * 3 + l) + n ≤ 64) :
    Inv c ((A.set (k * 3 + l) (at' A (k * 3 + l) - n)).set (t * 3 + l) (at' A (t * 3 + l) + n)) T := by
  have b1 := h.bnd (k * 3 + l); have b2 := h.bnd (t * 3 + l)
  have s1 := h.upd hc k l (at' A (k * 3 + l) - n) (-n) hk hl (by omega) (by omega)
  have e : at' (A.set (k * 3 + l) (at' A (k * 3 + l) - n)) (t * 3 + l) = at' A (t * 3 + l) := by
    rw [at_set' _ _ _ (by have := h.lenA; omega), if_neg (by omega)]
  have s2 := s1.upd hc t l (at' A (t * 3 + l) + n) n ht hl (by omega) (by rw [e]; omega)
  have : (T.set l (at' T l + -n)).set l (at' (T.set l (at' T l + -n)) l + n) = T := by
    rw [at_set' _ _ _ (by have := h.lenT; omega), if_pos rfl, List.set_set]
    have : at' T l + -n + n = at' T l := by omega
    rw [this]
    apply List.ext_getElem?
    intro i
    rw [List.getElem?_set]
    by_cases e : l = i
    · subst e
      have hlt : l < T.length := by have := h.lenT; omega
      simp [hlt, at']
    · simp [e]
  rwa [this] at s2

theorem sumT (T : List Int) (cl : Nat) (h : cl < T.length) : (T.map I)[0 + Int.toNat (cl : Int) * 1 + 0]? = some (I (at' T cl)) := by
  simp [at', h]

theorem round {c : Int} {A T : List Int} (h : Inv c A T) (hc : 1 ≤ c ∧ c ≤ 16) (N n : Nat) (ops : List Op5) (j : Nat) (o : Op5) (ho : ops[j]? = some o) (hok : o.ok) (hj : (j : Int) + 1 ≤ 9223372036854775807) :
    ∃ A' T', Inv c A' T' ∧ L4_0 N (n + 1) (c, .rs 5 (ops.map Op5.v), p0, (j : Int), T.map I, hh c A) = L4_0 N n (c, .rs 5 (ops.map Op5.v), p0, ((j + 1 : Nat) : Int), T'.map I, hh c A') := by
  have hlt : j < ops.length := (List.getElem?_eq_some_iff.1 ho).1
  have e1 : sidx (.rs 5 (ops.map Op5.v)) (j : Int) 5 = some (.rptr o.v.cells) := by
    rw [sidx_rs (by omega)]; simp [ho]
  have e2 : slen (.rs 5 (ops.map Op5.v)) = some (ops.length : Int) := by simp [slen]
  have e3 : ((j : Int) < (ops.length : Int)) := by omega
  have w : IntKind.i64.wrap ((j : Int) + 1) = ((j + 1 : Nat) : Int) := by rw [wrapIn (by omega)]; omega
  have hA := h.lenA; have hT := h.lenT
  have n21 : ((2 : Int) == 1) = false := eF (by omega)
  have n31 : ((3 : Int) == 1) = false := eF (by omega)
  have n32 : ((3 : Int) == 2) = false := eF (by omega)
  have m0 : ((170 : Int) == 0) = false := eF (by omega)
  have m1 : ((1 : Int) == 0) = false := eF (by omega)
  have m3 : ((3 : Int) == 0) = false := eF (by omega)
  rw [L4_0]
  simp only [e1, e2, bs, dT e3, ifT, rd_rptr, Op5.v, V.cells, g0, gS, asInt_some, take hA hc.2, give hA hc.2]
  by_cases k1 : o.kind = 1
  · simp only [k1, eT, ifT]
    by_cases hh1 : Has c o.a o.b
    · have hd := hh1
      obtain ⟨a1, a2, a3, a4⟩ := hh1
      obtain ⟨k, hk⟩ := Int.eq_ofNat_of_zero_le a1
      obtain ⟨cl, hcl⟩ := Int.eq_ofNat_of_zero_le a3
      rw [if_pos hd]
      by_cases hx : at' A (o.a.toNat * 3 + o.b.toNat) ≥ 64
      · rw [if_pos hx]
        exact ⟨A, T, h, by simp only [bs, m0, itF, w]⟩
      · rw [if_neg hx]
        rw [hk, hcl] at hx ⊢
        rw [hk] at a2; rw [hcl] at a4
        simp only [Int.toNat_natCast] at hx ⊢
        have b := h.bnd (k * 3 + cl)
        have bt := tot_bound h.bnd cl c.toNat
        have st := h.sum cl (by omega)
        refine ⟨_, _, h.upd hc k cl (at' A (k * 3 + cl) + 1) 1 a2 (by omega) (by omega) (by omega), ?_⟩
        have q1 : ¬ ((cl : Int) < 0) := by omega
        have q2 : ¬ ((cl : Int) ≥ 3) := by omega
        have q3 : (0 : Int) ≤ cl := by omega
        have q4 : (cl : Int) < 3 := by omega
        have q5 : 0 + cl * 1 + 1 ≤ (T.map I).length := by simp; omega
        have hs : (T.map I)[0 + cl * 1 + 0]? = some (I (at' T cl)) := sumT T cl (by omega)
        simp only [bs, eT, ifT, dF q1, dF q2, itF, if_pos q3, if_pos q4, if_pos q5, hs, asInt_some, w, splice1, wrapIn (x := at' A (k * 3 + cl) + 1) (by omega), wrapIn (x := at' T cl + 1) (by omega)]
        rw [List.map_set]
        simp only [Nat.zero_add, Nat.mul_one]
    · rw [if_neg hh1]
      exact ⟨A, T, h, by simp only [bs, m1, itF, w]⟩
  by_cases k2 : o.kind = 2
  · simp only [k2, eT, ifT, n21, itF]
    by_cases hh1 : Has c o.a o.b
    · have hd := hh1
      obtain ⟨a1, a2, a3, a4⟩ := hh1
      obtain ⟨k, hk⟩ := Int.eq_ofNat_of_zero_le a1
      obtain ⟨cl, hcl⟩ := Int.eq_ofNat_of_zero_le a3
      rw [if_pos hd]
      by_cases hx : at' A (o.a.toNat * 3 + o.b.toNat) = 0
      · rw [if_pos hx]
        exact ⟨A, T, h, by simp only [bs, m3, itF, w]⟩
      · rw [if_neg hx]
        rw [hk, hcl] at hx ⊢
        rw [hk] at a2; rw [hcl] at a4
        simp only [Int.toNat_natCast] at hx ⊢
        have b := h.bnd (k * 3 + cl)
        have bt := tot_bound h.bnd cl c.toNat
        have st := h.sum cl (by omega)
        refine ⟨_, _, h.upd hc k cl (at' A (k * 3 + cl) - 1) (-1) a2 (by omega) (by omega) (by omega), ?_⟩
        have q1 : ¬ ((cl : Int) < 0) := by omega
        have q2 : ¬ ((cl : Int) ≥ 3) := by omega
        have q3 : (0 : Int) ≤ cl := by omega
        have q4 : (cl : Int) < 3 := by omega
        have q5 : 0 + cl * 1 + 1 ≤ (T.map I).length := by simp; omega
        have hs : (T.map I)[0 + cl * 1 + 0]? = some (I (at' T cl)) := sumT T cl (by omega)
        simp only [bs, eT, ifT, dF q1, dF q2, itF, if_pos q3, if_pos q4, if_pos q5, hs, asInt_some, w, splice1, wrapIn (x := at' A (k * 3 + cl) - 1) (by omega), wrapIn (x := at' T cl - 1) (by omega)]
        rw [List.map_set]
        simp only [Nat.zero_add, Nat.mul_one, Int.sub_eq_add_neg]
    · rw [if_neg hh1]
      exact ⟨A, T, h, by simp only [bs, m1, itF, w]⟩
  by_cases k3 : o.kind = 3
  · obtain ⟨r, A', hm, hA'⟩ := move hA hc.2 h.bnd N o.a o.to o.b o.n hok
    simp only [k3, eT, ifT, n31, n32, itF, hm, bs, w]
    rcases hA' with rfl | ⟨k', t', l', q1, q2, q3, q4, q5, q6, q7, rfl⟩
    · exact ⟨A', T, h, rfl⟩
    · exact ⟨_, T, h.move hc k' t' l' o.n q1 q2 q3 q4 q5 q6 q7, rfl⟩
  · have f1 : (o.kind == 1) = false := eF k1
    have f2 : (o.kind == 2) = false := eF k2
    have f3 : (o.kind == 3) = false := eF k3
    simp only [f1, f2, f3, itF, bs, w]
    exact ⟨A, T, h, rfl⟩

theorem script {c : Int} (hc : 1 ≤ c ∧ c ≤ 16) (N : Nat) (ops : List Op5) (hok : ∀ o ∈ ops, o.ok) (hlen : (ops.length : Int) ≤ 9223372036854775807) : ∀ (n j : Nat) (A T : List Int), Inv c A T → j ≤ ops.length → ops.length - j < n →
    ∃ A' T', Inv c A' T' ∧ L4_0 N n (c, .rs 5 (ops.map Op5.v), p0, (j : Int), T.map I, hh c A) = some (.inl (c, p0, T'.map I, hh c A'))
  | 0, j, A, T, h, hj, hn => by omega
  | n + 1, j, A, T, h, hj, hn => by
    by_cases he : j = ops.length
    · refine ⟨A, T, h, ?_⟩
      rw [L4_0]
      have e2 : slen (.rs 5 (ops.map Op5.v)) = some (ops.length : Int) := by simp [slen]
      simp [e2, he]
    · have hlt : j < ops.length := by omega
      obtain ⟨A', T', h', hr⟩ := round h hc N n ops j _ (List.getElem?_eq_getElem hlt) (hok _ (List.getElem_mem hlt)) (by omega)
      rw [hr]
      exact script hc N ops hok hlen n (j + 1) A' T' h' (by omega) (by omega)

theorem cores {c : Int} {A T : List Int} (h : Inv c A T) (hc : 1 ≤ c ∧ c ≤ 16) (N cl : Nat) (hcl : cl < 3) : ∀ (n k : Nat), (k : Int) ≤ c → c.toNat - k < n →
    L4_2 (N + 4) n (c, p0, (cl : Int), tot A k cl, (k : Int), T.map I, hh c A) = some (.inl (c, p0, (cl : Int), tot A c.toNat cl, T.map I, hh c A))
  | 0, k, hk, hn => by omega
  | n + 1, k, hk, hn => by
    rw [L4_2]
    by_cases he : (k : Int) < c
    · have b := h.bnd (k * 3 + cl)
      have bt := tot_bound h.bnd cl k
      have r : ∀ x y z : Int, (cl = 0 → x = 64 - at' A (k * 3 + cl)) → (cl = 1 → y = 64 - at' A (k * 3 + cl)) → (cl = 2 → z = 64 - at' A (k * 3 + cl)) → [I x, I y, I z][Int.toNat (cl : Int) * 1]? = some (I (64 - at' A (k * 3 + cl))) := by
        intro x y z h0 h1 h2
        match cl, hcl with
        | 0, _ => simp [h0 rfl]
        | 1, _ => simp [h1 rfl]
        | 2, _ => simp [h2 rfl]
      have ag : ∀ x y z : V, L.asAgg 3 (some (.agg [x, y, z])) = some [x, y, z] := fun _ _ _ => rfl
      have hr := r (64 - at' A (k * 3)) (64 - at' A (k * 3 + 1)) (64 - at' A (k * 3 + 2)) (by rintro rfl; rfl) (by rintro rfl; rfl) (by rintro rfl; rfl)
      have g1 : ¬ (at' A (k * 3 + cl) < 0) := by omega
      have g2 : ¬ (at' A (k * 3 + cl) > 64) := by omega
      have g3 : (0 : Int) ≤ cl := by omega
      have g4 : (cl : Int) < 3 := by omega
      have w1 : IntKind.i64.wrap (tot A k cl + at' A (k * 3 + cl)) = tot A (k + 1) cl := by rw [wrapIn (by omega)]; rfl
      have w2 : IntKind.i64.wrap ((k : Int) + 1) = ((k + 1 : Nat) : Int) := by rw [wrapIn (by omega)]; omega
      simp only [he, decide_true, if_true, count h.lenA hc.2 (N + 4) k cl he hcl, Option.bind_some, g1, g2, g3, g4, decide_false, Bool.false_eq_true, if_false, room h.lenA hc.2 N k he h.bnd, ag, hr, asInt_some, wrapIn (x := 64 - at' A (k * 3 + cl)) (by omega), bne_self_eq_false, w1, w2]
      exact cores h hc N cl hcl n (k + 1) (by omega) (by omega)
    · have : (k : Int) = c := by omega
      have e : c.toNat = k := by omega
      simp [he, e]

theorem classes {c : Int} {A T : List Int} (h : Inv c A T) (hc : 1 ≤ c ∧ c ≤ 16) (N : Nat) (hN : 16 < N + 4) : ∀ (n k : Nat), k ≤ 3 → 3 - k < n →
    L4_1 (N + 4) n (c, p0, (k : Int), T.map I, hh c A) = some (.inl (hh c A))
  | 0, k, hk, hn => by omega
  | n + 1, k, hk, hn => by
    rw [L4_1]
    by_cases he : k < 3
    · have g : (k : Int) < 3 := by omega
      have g0 : (0 : Int) ≤ k := by omega
      have hT := h.lenT
      have hs := sumT T k (by omega)
      have hl := cores h hc N k he (N + 4) 0 (by omega) (by omega)
      have w2 : IntKind.i64.wrap ((k : Int) + 1) = ((k + 1 : Nat) : Int) := by rw [wrapIn (by omega)]; omega
      have hl' : L4_2 (N + 4) (N + 4) (c, p0, (k : Int), 0, 0, T.map I, hh c A) = some (.inl (c, p0, (k : Int), tot A c.toNat k, T.map I, hh c A)) := hl
      simp only [g, g0, decide_true, if_true, hl', Option.bind_some, hs, asInt_some, h.sum k he, bne_self_eq_false, Bool.false_eq_true, if_false, w2]
      exact classes h hc N hN n (k + 1) (by omega) (by omega)
    · have : k = 3 := by omega
      subst this
      simp

theorem awake : (F15 100 []).map (·.1) = some true := by kernel_rfl

theorem plays (c : Int) (ops : List Op5) (hok : ∀ o ∈ ops, o.ok) (hlen : (ops.length : Int) ≤ 9223372036854775807) : (F4 (ops.length + 17 + 4) (c, .rs 5 (ops.map Op5.v), [])).map (·.1) = some true := by
  have ⟨hw, ha⟩ : ∃ h, F15 100 [] = some (true, h) := by
    have := awake
    cases h : F15 100 [] with
    | none => rw [h] at this; cases this
    | some p => rw [h] at this; obtain ⟨a, b⟩ := p; simp at this; subst this; exact ⟨b, rfl⟩
  generalize hN : ops.length + 17 = N
  by_cases hc : 1 ≤ c ∧ c ≤ 16
  · have i0 : Inv c (List.replicate 48 0) [0, 0, 0] := by
      have at0 : ∀ i, at' (List.replicate 48 (0 : Int)) i = 0 := by
        intro i
        simp only [at', List.getD_eq_getElem?_getD, List.getElem?_replicate]
        split <;> rfl
      refine ⟨rfl, rfl, fun i => by rw [at0]; omega, fun cl hcl => ?_⟩
      have : ∀ n, tot (List.replicate 48 0) n cl = 0 := by
        intro n
        induction n with
        | zero => rfl
        | succ n ih => simp only [tot, ih, at0]; rfl
      rw [this]
      match cl, hcl with
      | 0, _ => rfl
      | 1, _ => rfl
      | 2, _ => rfl
    have e16 : F16 (N + 4) (c, []) = some (p0, 0, hh c (List.replicate 48 0)) := by
      unfold F16
      have g1 : ¬ (c < 1) := by omega
      have g2 : ¬ (c > 16) := by omega
      simp only [g1, g2, decide_false, Bool.false_eq_true, if_false, Option.bind_some]
      rfl
    obtain ⟨A', T', h', hs⟩ := script hc (N + 4) ops hok hlen (N + 4) 0 _ _ i0 (by omega) (by omega)
    have hs' : L4_0 (N + 4) (N + 4) (c, .rs 5 (ops.map Op5.v), p0, 0, [I 0, I 0, I 0], hh c (List.replicate 48 0)) = some (.inl (c, p0, T'.map I, hh c A')) := hs
    have hcl := classes h' hc N (by omega) (N + 4) 0 (by omega) (by omega)
    have hcl' : L4_1 (N + 4) (N + 4) (c, p0, 0, T'.map I, hh c A') = some (.inl (hh c A')) := hcl
    unfold F4
    simp only [e16, Option.bind_some, isNil0, bne_self_eq_false, Bool.false_eq_true, if_false, hs', hcl', ha]
    rfl
  · have e16 : F16 (N + 4) (c, []) = some (.nilp, 1, []) := by
      unfold F16
      by_cases g1 : c < 1
      · simp [g1]
      · have g2 : c > 16 := by omega
        simp [g1, g2]
    have e17 : ∀ h, F17 (N + 4) (c, h) = some (.nils, 1, h) := by
      intro h
      unfold F17
      by_cases g1 : c < 1
      · simp [g1]
      · have g2 : c > 16 := by omega
        simp [g1, g2]
    unfold F4
    simp only [e16, e17, Option.bind_some, show ((1 : Int) != 0) = true from rfl, if_true, beq_self_eq_true, ha]
    rfl

set_option maxRecDepth 100000 in
theorem op_of (x : V) (h : dataV Try.prog 7 38 x.cells) (hx : x = mkE 5 x.cells) : ∃ o : Op5, x = o.v ∧ o.ok := by
  obtain ⟨hl, hf⟩ := dataV_struct (n := 6) rfl Try.underlying38 h
  have hc : Try.prog.cellsOf 38 = 5 := by kernel_rfl
  rw [hc] at hl
  have f := fun i => hf i
  generalize hcs : x.cells = cs at *
  match cs, hl with
  | [a, b, c, d, e], _ =>
    obtain ⟨k, h0, _⟩ := dataV_int (n := 5) rfl Try.underlying3 (hf 0 _ rfl)
    obtain ⟨k1, h1, _⟩ := dataV_int (n := 5) rfl Try.underlying3 (hf 1 _ rfl)
    obtain ⟨k2, h2, _⟩ := dataV_int (n := 5) rfl Try.underlying3 (hf 2 _ rfl)
    obtain ⟨k3, h3, _⟩ := dataV_int (n := 5) rfl Try.underlying3 (hf 3 _ rfl)
    obtain ⟨k4, h4, w4⟩ := dataV_int (n := 5) rfl Try.underlying3 (hf 4 _ rfl)
    have c1 : Try.prog.cellsOf 3 = 1 := by kernel_rfl
    simp [c1] at h0 h1 h2 h3 h4
    refine ⟨⟨k, k1, k2, k3, k4⟩, ?_, wf64 w4⟩
    rw [hx, h0, h1, h2, h3, h4]
    rfl

set_option maxRecDepth 100000 in
theorem main : ∀ vs, dataA Try.prog 8 Try.f4.params.toList vs → ∃ h', Triple Try.prog 4 vs [] (.bool true) h' := by
  intro vs h
  rw [Try.params4] at h
  obtain ⟨c, r, rfl, _, h⟩ := dataA_int (n := 7) rfl Try.underlying3 h
  obtain ⟨xs, r, rfl, hlen, hxs, h⟩ := dataA_slice (n := 7) rfl Try.underlying27 h
  cases dataA_nil h
  have hc : Try.prog.cellsOf 38 = 5 := by kernel_rfl
  rw [hc] at hxs ⊢
  obtain ⟨ops, rfl, hok⟩ := list_of' (g := Op5.v) (p := Op5.ok) fun x hx => op_of x (hxs x hx).1 (hxs x hx).2
  have := plays c ops hok (by have : (maxLen : Int) ≤ 9223372036854775807 := by unfold maxLen; omega
                              simp at hlen; omega)
  cases hF : F4 (ops.length + 17 + 4) (c, .rs 5 (ops.map Op5.v), []) with
  | none => rw [hF] at this; cases this
  | some p =>
    rw [hF] at this
    obtain ⟨x, h'⟩ := p
    simp at this
    subst this
    exact ⟨h', (fine4 _).triple (good4 _) hF⟩


theorem own : ownKnob Try.prog.godebug = none := by kernel_rfl

set_option maxRecDepth 100000 in
theorem lifted (os : Os) (started : os.Started) (H : Type) (enc : TypeId × Value → H) :
    ReturnsInHanded {} Try.checked os 4 .any (Rows.homeKeepsSpec.pre6 enc Try.prog Try.f4 Rows.homeKeepsRow.domain false) (Rows.homeKeepsSpec.post enc Try.prog Try.f4 false true false false) := by
  refine returnsInHanded_of_change (C := Try.checked) own started (by kernel_rfl) Try.func4
    (ChangeSpec.witness6 (enc := enc) (C := Try.checked) false ⟨#[], #[.int .i64 0, .slice none 0 0], []⟩ 8 (by kernel_rfl) (by kernel_rfl) (by kernel_rfl) (by kernel_rfl)) ?_
  intro W base args ds gs before hval hW _ _
  exact row_calls (P := Try.prog) (fn := Try.f4) (n := 8) (by kernel_rfl) (by kernel_rfl) (by kernel_rfl) rfl Try.underlying4 (by kernel_rfl)
    (fun ds h => by
      match ds, h with
      | [_, _], _ => exact ⟨rfl, rfl, rfl⟩) rfl hval hW main

theorem over : Rows.homeKeepsRow.holds Try.pinned (OpenSpec.ofChange Rows.homeKeepsSpec) :=
  OpenClaim.holds_of_wide 4 Try.f4 rfl rfl rfl rfl rfl rfl rfl ⟨rfl, rfl, rfl, rfl, rfl⟩ rfl rfl rfl rfl rfl (by kernel_rfl) Try.func4 (by kernel_rfl)
    (of_decide_eq_true (by kernel_rfl)) (by unfold Func.isWrapper; first | (rw [if_pos (by decide +kernel)]; kernel_rfl) | (rw [if_neg (by decide +kernel)]; exact ⟨rfl, rfl⟩))
    (fun os started H enc _ => lifted os started H enc)

/-- ████ THE STATEMENT ████ -/
theorem proved : Rows.HomeKeepsSaid :=
  over
#print axioms proved

end Go.Proofs.Ytbpibiapjangmaa.homeKeeps
