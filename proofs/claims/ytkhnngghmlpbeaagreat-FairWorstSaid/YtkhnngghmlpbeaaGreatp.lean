/- The two 'Worst' and the two 'Bound', of any waits: they are alike. -/
import Derived.Test.YtkhnngghmlpbeaaGreatg1
import Derived.Test.YtkhnngghmlpbeaaGreatLC
set_option linter.unusedVariables false
set_option linter.unusedSimpArgs false
set_option maxRecDepth 100000
namespace Go.Proofs.YtkhnngghmlpbeaaGreat
open Go.L

structure Wt where
  p : Int
  g : Int
  s : Int
  t : Int
  a : Int
  m : Int
  r : Bool

def Wt.cs (e : Wt) : List V := [.int .i64 e.p, .int .i64 e.g, .int .i64 e.s, .int .i64 e.t, .int .i64 e.a, .int .i64 e.m, .bool e.r]

def wl (E : List Wt) : V := .rs 7 (E.map fun e => V.agg e.cs)

theorem wl_len (E : List Wt) : slen (wl E) = some (E.length : Int) := by rw [wl, slen_rs, List.length_map]

theorem wl_at {E : List Wt} {i : Nat} {e : Wt} (h : E[i]? = some e) : sidx (wl E) (i : Int) 7 = some (.rptr e.cs) := by
  rw [wl, sidx_rs (by omega)]
  rw [show ((i : Int)).toNat = i by omega, List.getElem?_map, h]
  rfl

theorem wt3 (e : Wt) (h : H) : L.asInt .i64 (rd h (padd (.rptr e.cs) 3) 0) = some e.t := rfl
theorem wt4 (e : Wt) (h : H) : L.asInt .i64 (rd h (padd (.rptr e.cs) 4) 0) = some e.a := rfl

def bd (w a : Int) : Int := if w < 1 then 0 else if w > 64 then 0 else if a < 0 then 0 else if a > 64 then 0 else IntKind.i64.wrap ((IntKind.i64.wrap (a + 2)) * w)

theorem f15 (N : Nat) (w a : Int) (h : H) : F15 N (w, a, h) = some (bd w a, h) := by
  rw [F15, bd]
  by_cases h1 : w < 1
  · simp only [dT h1, itT, if_true, itF, bs, if_pos h1]
  by_cases h2 : w > 64
  · simp only [dF h1, dT h2, itT, if_true, itF, bs, if_neg h1, if_pos h2]
  by_cases h3 : a < 0
  · simp only [dF h1, dF h2, dT h3, itT, if_true, itF, bs, if_neg h1, if_neg h2, if_pos h3]
  by_cases h4 : a > 64
  · simp only [dF h1, dF h2, dF h3, dT h4, itT, if_true, itF, bs, if_neg h1, if_neg h2, if_neg h3, if_pos h4]
  · simp only [dF h1, dF h2, dF h3, dF h4, itT, if_true, itF, bs, if_neg h1, if_neg h2, if_neg h3, if_neg h4]

theorem f16 (N : Nat) (w a : Int) (h : H) : F16 N (w, a, h) = some (bd w a, h) := by
  have e : F16 N (w, a, h) = F15 N (w, a, h) := by rw [F16, F15]
  rw [e, f15]

theorem scan (N : Nat) (w : Int) (E : List Wt) (hE : E.length ≤ 9223372036854775807) (h : H) : ∀ (k i n : Nat), i + k = E.length → k < n →
    ∃ o, (o = .inl (w, wl E, h) ∨ o = .inr (0, 1, h)) ∧ L13_0 N n (w, wl E, (E.length : Int), (i : Int), h) = some o ∧ L14_0 N n (w, wl E, (i : Int), h) = some o := by
  intro k
  induction k with
  | zero =>
    intro i n hi hn
    obtain ⟨n, rfl⟩ : ∃ m, n = m + 1 := ⟨n - 1, by omega⟩
    have hd : ¬ (i : Int) < (E.length : Int) := by omega
    refine ⟨_, .inl rfl, ?_, ?_⟩
    · rw [L13_0]; simp only [dF hd, itF]
    · rw [L14_0]; simp only [wl_len, bs, dF hd, itF]
  | succ k ih =>
    intro i n hi hn
    obtain ⟨n, rfl⟩ : ∃ m, n = m + 1 := ⟨n - 1, by omega⟩
    have hd : (i : Int) < (E.length : Int) := by omega
    have he := List.getElem?_eq_getElem (l := E) (i := i) (by omega)
    generalize E[i] = e at he
    have hw : IntKind.i64.wrap ((i : Int) + 1) = ((i + 1 : Nat) : Int) := by rw [wrapIn (by omega)]; omega
    by_cases h1 : e.t < 0
    · refine ⟨_, .inr rfl, ?_, ?_⟩
      · rw [L13_0]; simp only [dT hd, itT, if_true, wl_at he, bs, wt3, dT h1]
      · rw [L14_0]; simp only [wl_len, dT hd, itT, if_true, wl_at he, bs, wt3, dT h1]
    by_cases h2 : e.t > 4611686018427387903
    · refine ⟨_, .inr rfl, ?_, ?_⟩
      · rw [L13_0]; simp only [dT hd, itT, if_true, itF, wl_at he, bs, wt3, dF h1, dT h2]
      · rw [L14_0]; simp only [wl_len, dT hd, itT, if_true, itF, wl_at he, bs, wt3, dF h1, dT h2]
    obtain ⟨o, h3, h4, h5⟩ := ih (i + 1) n (by omega) (by omega)
    refine ⟨o, h3, ?_, ?_⟩
    · rw [L13_0]; simp only [dT hd, itT, if_true, itF, wl_at he, bs, wt3, dF h1, dF h2, hw]; exact h4
    · rw [L14_0]; simp only [wl_len, dT hd, itT, if_true, itF, wl_at he, bs, wt3, dF h1, dF h2, hw]; exact h5

theorem best (N : Nat) (w : Int) (E : List Wt) (hE : E.length ≤ 9223372036854775807) (h : H) : ∀ (k i b : Nat), i + k = E.length → b < E.length →
    ∃ r : Int, ∀ n, k < n → L13_1 N n (w, wl E, (b : Int), (E.length : Int), (i : Int), h) = some (r, h) ∧ L14_1 N n (w, wl E, (b : Int), (i : Int), h) = some (r, h) := by
  intro k
  induction k with
  | zero =>
    intro i b hi hb
    have hd : ¬ (i : Int) < (E.length : Int) := by omega
    refine ⟨(b : Int), fun n hn => ?_⟩
    obtain ⟨n, rfl⟩ : ∃ m, n = m + 1 := ⟨n - 1, by omega⟩
    constructor
    · rw [L13_1]; simp only [dF hd, itF]
    · rw [L14_1]; simp only [wl_len, bs, dF hd, itF]
  | succ k ih =>
    intro i b hi hb
    have hd : (i : Int) < (E.length : Int) := by omega
    have he := List.getElem?_eq_getElem (l := E) (i := i) (by omega)
    generalize E[i] = e at he
    have hf := List.getElem?_eq_getElem (l := E) (i := b) hb
    generalize E[b] = f at hf
    have hw : IntKind.i64.wrap ((i : Int) + 1) = ((i + 1 : Nat) : Int) := by rw [wrapIn (by omega)]; omega
    by_cases hc : IntKind.i64.wrap (bd w e.a - e.t) < IntKind.i64.wrap (bd w f.a - f.t)
    · obtain ⟨r, hr⟩ := ih (i + 1) i (by omega) (by omega)
      refine ⟨r, fun n hn => ?_⟩
      obtain ⟨n, rfl⟩ : ∃ m, n = m + 1 := ⟨n - 1, by omega⟩
      obtain ⟨h4, h5⟩ := hr n (by omega)
      constructor
      · rw [L13_1]; simp only [dT hd, itT, if_true, wl_at he, wl_at hf, bs, wt3, wt4, f15, dT hc, hw]; exact h4
      · rw [L14_1]; simp only [wl_len, dT hd, itT, if_true, wl_at he, wl_at hf, bs, wt3, wt4, f16, dT hc, hw]; exact h5
    · obtain ⟨r, hr⟩ := ih (i + 1) b (by omega) hb
      refine ⟨r, fun n hn => ?_⟩
      obtain ⟨n, rfl⟩ : ∃ m, n = m + 1 := ⟨n - 1, by omega⟩
      obtain ⟨h4, h5⟩ := hr n (by omega)
      constructor
      · rw [L13_1]; simp only [dT hd, itT, if_true, itF, wl_at he, wl_at hf, bs, wt3, wt4, f15, dF hc, hw]; exact h4
      · rw [L14_1]; simp only [wl_len, dT hd, itT, if_true, itF, wl_at he, wl_at hf, bs, wt3, wt4, f16, dF hc, hw]; exact h5

/-- The program's first step compares the first with itself. -/
theorem first (N n : Nat) (w : Int) (E : List Wt) (h : H) (h0 : 0 < E.length) : L13_1 N (n + 1) (w, wl E, 0, (E.length : Int), 0, h) = L13_1 N n (w, wl E, 0, (E.length : Int), 1, h) := by
  have hd : (0 : Int) < (E.length : Int) := by omega
  have he := List.getElem?_eq_getElem (l := E) (i := 0) h0
  generalize E[0] = e at he
  have hz := wl_at he
  rw [show ((0 : Nat) : Int) = 0 from rfl] at hz
  have hc : ¬ IntKind.i64.wrap (bd w e.a - e.t) < IntKind.i64.wrap (bd w e.a - e.t) := by omega
  have hw : IntKind.i64.wrap ((0 : Int) + 1) = 1 := by rw [wrapIn (by omega)]; omega
  rw [L13_1]
  simp only [dT hd, itT, if_true, itF, hz, bs, wt3, wt4, f15, dF hc, hw]

/-- The two 'Worst' of any waits. -/
theorem alike (w : Int) (E : List Wt) (hE : E.length ≤ 9223372036854775807) (h : H) : ∃ a b : Int, F13 (E.length + 2) (w, wl E, h) = some (a, b, h) ∧ F14 (E.length + 2) (w, wl E, h) = some (a, b, h) := by
  by_cases h1 : w < 1
  · refine ⟨0, 1, ?_, ?_⟩
    · rw [F13]; simp only [dT h1, itT, if_true, bs]
    · rw [F14]; simp only [dT h1, itT, if_true, bs]
  by_cases h2 : w > 64
  · refine ⟨0, 1, ?_, ?_⟩
    · rw [F13]; simp only [dF h1, dT h2, itT, if_true, itF, bs]
    · rw [F14]; simp only [dF h1, dT h2, itT, if_true, itF, bs]
  obtain ⟨o, ho, e1, e2⟩ := scan (E.length + 2) w E hE h E.length 0 (E.length + 2) (by omega) (by omega)
  rw [show ((0 : Nat) : Int) = 0 from rfl] at e1 e2
  by_cases h3 : E.length = 0
  · have h4 : ((E.length : Int) == 0) = true := by simp [h3]
    rcases ho with rfl | rfl
    · refine ⟨0, 3, ?_, ?_⟩
      · rw [F13]; simp only [dF h1, dF h2, itT, if_true, itF, bs, wl_len, h4]
      · rw [F14]; simp only [dF h1, dF h2, itT, if_true, itF, bs, wl_len, h4, e2]
    · exfalso
      have hE0 : E = [] := List.length_eq_zero_iff.1 h3
      subst hE0
      rw [List.length_nil] at e2
      have hd : ¬ (0 : Int) < (0 : Int) := by omega
      rw [show (0 + 2 : Nat) = 1 + 1 from rfl, L14_0] at e2
      simp only [wl_len, List.length_nil, bs, Int.natCast_zero, dF hd, itF] at e2
      cases Option.some.inj e2
  · have h4 : ((E.length : Int) == 0) = false := by simp [h3]
    rcases ho with rfl | rfl
    · obtain ⟨r, hr⟩ := best (E.length + 2) w E hE h (E.length - 1) 1 0 (by omega) (by omega)
      have f1 := first (E.length + 2) (E.length + 1) w E h (by omega)
      have r1 := (hr (E.length + 1) (by omega)).1
      have r2 := (hr (E.length + 2) (by omega)).2
      rw [show ((0 : Nat) : Int) = 0 from rfl, show ((1 : Nat) : Int) = 1 from rfl] at r1 r2
      have r1 := f1.trans r1
      refine ⟨r, 0, ?_, ?_⟩
      · rw [F13]; simp only [dF h1, dF h2, itT, if_true, itF, bs, wl_len, h4, e1, r1]
      · rw [F14]; simp only [dF h1, dF h2, itT, if_true, itF, bs, wl_len, h4, e2, r2]
    · refine ⟨0, 1, ?_, ?_⟩
      · rw [F13]; simp only [dF h1, dF h2, itT, if_true, itF, bs, wl_len, h4, e1]
      · rw [F14]; simp only [dF h1, dF h2, itT, if_true, itF, bs, e2]

end Go.Proofs.YtkhnngghmlpbeaaGreat
