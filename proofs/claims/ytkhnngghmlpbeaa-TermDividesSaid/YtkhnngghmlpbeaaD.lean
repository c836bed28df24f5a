/- The checks of a number, and division, as plain ones. -/
import Derived.Test.YtkhnngghmlpbeaaL39
import Derived.Test.Ytkhnngghmlpbeaag
namespace Go.Proofs.Ytkhnngghmlpbeaa.termDivides
open Go.L
set_option linter.unusedVariables false
set_option linter.unusedSimpArgs false

theorem top (h : H) (o : O) : (h ++ [o])[h.length]? = some o := by simp
theorem low {h : H} {i : Nat} {o o' : O} (e : h[i]? = some o) : (h ++ [o'])[i]? = some o := by
  have := (List.getElem?_eq_some_iff.1 e).1
  rw [List.getElem?_append_left this, e]

/-- Two numbers of their own. -/
structure St (i j : Nat) (h : H) (x y : Int) : Prop where
  ne : i ≠ j
  a : h[i]? = some (.cells 0 [.int .i64 x])
  b : h[j]? = some (.cells 0 [.int .i64 y])

theorem St.ra {i j : Nat} {h : H} {x y : Int} (s : St i j h x y) : rd h (.ptr i 0 0) 0 = some (.int .i64 x) := by rw [rd_obj s.a]; rfl
theorem St.rb {i j : Nat} {h : H} {x y : Int} (s : St i j h x y) : rd h (.ptr j 0 0) 0 = some (.int .i64 y) := by rw [rd_obj s.b]; rfl
theorem St.wa {i j : Nat} {h : H} {x y : Int} (s : St i j h x y) (z : Int) : ∃ h', wr h (.ptr i 0 0) [.int .i64 z] = some h' ∧ St i j h' z y := by
  have l := (List.getElem?_eq_some_iff.1 s.a).1
  refine ⟨_, wr_obj s.a (by simp), ⟨s.ne, ?_, ?_⟩⟩
  · rw [List.getElem?_set_self l]; rfl
  · rw [List.getElem?_set_ne s.ne]; exact s.b
theorem St.wb {i j : Nat} {h : H} {x y : Int} (s : St i j h x y) (z : Int) : ∃ h', wr h (.ptr j 0 0) [.int .i64 z] = some h' ∧ St i j h' x z := by
  have l := (List.getElem?_eq_some_iff.1 s.b).1
  refine ⟨_, wr_obj s.b (by simp), ⟨s.ne, ?_, ?_⟩⟩
  · rw [List.getElem?_set_ne (Ne.symm s.ne)]; exact s.a
  · rw [List.getElem?_set_self l]; rfl
theorem St.app {i j : Nat} {h : H} {x y : Int} (s : St i j h x y) (o : O) : St i j (h ++ [o]) x y := ⟨s.ne, low s.a, low s.b⟩

/-- A number, as its cells. -/
def cell (a : Int) : List V := [.int .i64 3, .int .i64 a, .cplx .f64 0 0, .str (ByteArray.mk #[]), .int .i64 0, .int .i64 0, .nils]

theorem rc (h : H) (a : Int) (k i : Nat) : rd (h ++ [.cells 0 (cell a)]) (.ptr h.length 0 k) i = (cell a)[k + i]? := rd_obj (top _ _)

def ok (a : Int) : Bool := decide (a ≥ -4611686018427387903) && decide (a ≤ 4611686018427387903)

theorem own1 (N : Nat) (h : H) (a : Int) : F79 N (true, false, false, false, false, .ptr h.length 0 0, h ++ [.cells 0 (cell a)]) = some (true, h ++ [.cells 0 (cell a)]) := by
  have n0 : nck (.ptr h.length 0 0) = some () := by simp [nck]
  have p2 : rd (h ++ [.cells 0 (cell a)]) (padd (.ptr h.length 0 0) 2) 0 = some (.cplx .f64 0 0) := by rw [show padd (.ptr h.length 0 0) 2 = .ptr h.length 0 2 from by simp [padd], rc]; rfl
  have p3 : rd (h ++ [.cells 0 (cell a)]) (padd (.ptr h.length 0 0) 3) 0 = some (.str (ByteArray.mk #[])) := by rw [show padd (.ptr h.length 0 0) 3 = .ptr h.length 0 3 from by simp [padd], rc]; rfl
  have p4 : rd (h ++ [.cells 0 (cell a)]) (padd (.ptr h.length 0 0) 4) 0 = some (.int .i64 0) := by rw [show padd (.ptr h.length 0 0) 4 = .ptr h.length 0 4 from by simp [padd], rc]; rfl
  have p5 : rd (h ++ [.cells 0 (cell a)]) (padd (.ptr h.length 0 0) 4) 1 = some (.int .i64 0) := by rw [show padd (.ptr h.length 0 0) 4 = .ptr h.length 0 4 from by simp [padd], rc]; rfl
  have p6 : rd (h ++ [.cells 0 (cell a)]) (padd (.ptr h.length 0 0) 6) 0 = some .nils := by rw [show padd (.ptr h.length 0 0) 6 = .ptr h.length 0 6 from by simp [padd], rc]; rfl
  have c : L.asCplx .f64 (some (.cplx .f64 0 0)) = some (0, 0) := rfl
  have f : (Op.floatEq .f64 0 0 && Op.floatEq .f64 0 0) = true := by kernel_rfl
  have s : ((ByteArray.mk #[]).toList == (ByteArray.mk #[]).toList) = true := by simp
  have sn : slen .nils = some 0 := rfl
  have t0 : (((0 : Int) == 0) && (((0 : Int) == 0) && true)) = true := rfl
  have t1 : ((0 : Int) == 0) = true := rfl
  rw [F79]
  simp only [itT, itF, bs, n0, p2, p3, p4, p5, p6, c, f, s, sn, t1, Bool.and_true, asInt_some, asStr_some, ifT, ifF, Bool.false_eq_true]

theorem own2 (N : Nat) (h : H) (a : Int) : F76 N (3, a, (0, 0), (ByteArray.mk #[]), 0, 0, .nils, h) = some (ok a, h ++ [.cells 0 (cell a)]) := by
  have p0 : rd (h ++ [.cells 0 (cell a)]) (.ptr h.length 0 0) 0 = some (.int .i64 3) := by rw [rc]; rfl
  have p1 : rd (h ++ [.cells 0 (cell a)]) (.ptr h.length 0 1) 0 = some (.int .i64 a) := by rw [rc]; rfl
  have k1 : ((3 : Int) == 1) = false := rfl
  have k2 : ((3 : Int) == 2) = false := rfl
  have k3 : ((3 : Int) == 3) = true := rfl
  rw [F76]
  have e : [V.int .i64 3, .int .i64 a, .cplx .f64 0 0, .str (ByteArray.mk #[]), .int .i64 0, .int .i64 0, .nils] = cell a := rfl
  simp only [e, bs, p0, p1, asInt_some, k1, k2, k3, itT, itF, ifT, ifF, Bool.false_eq_true, own1]
  by_cases a1 : a ≥ -4611686018427387903
  · by_cases a2 : a ≤ 4611686018427387903
    · simp only [dT a1, dT a2, ok, itT, ifT, bs, Bool.and_self, own1]
    · simp only [dT a1, dF a2, ok, itT, ifT, bs, itF, ifF, Bool.false_eq_true, Bool.and_false]
  · simp only [dF a1, ok, itT, ifT, bs, itF, ifF, Bool.false_eq_true, Bool.false_and]

theorem walked (N d : Nat) {i j : Nat} {h : H} (s : St i j h 0 0) (a : Int) : ∃ h' x y, St i j h' x y ∧
    F68 (N + 1) (d + 1) (3, a, (0, 0), (ByteArray.mk #[]), 0, 0, .nils, 1, .ptr i 0 0, .ptr j 0 0, h) = some (if ok a = true then 0 else 30, h') := by
  obtain ⟨h1, w1, s1⟩ := s.wa 1
  obtain ⟨h2, w2, s2⟩ := s1.wb 1
  refine ⟨_, _, _, s2.app (.cells 0 (cell a)), ?_⟩
  have n1 : nck (.ptr i 0 0) = some () := by simp [nck]
  have n2 : nck (.ptr j 0 0) = some () := by simp [nck]
  have k1 : IntKind.i64.wrap (0 + 1) = 1 := rfl
  have k2 : (if (1 : Int) > 0 then (1 : Int) else 0) = 1 := rfl
  have k3 : decide ((1 : Int) > 1024) = false := rfl
  have k4 : decide ((1 : Int) > 64) = false := rfl
  have k5 : decide ((0 : Int) < 0) = false := rfl
  have sn : slen .nils = some 0 := rfl
  rw [F68]
  simp only [n1, n2, bs, s.ra, asInt_some, k1, w1, s1.rb, k2, w2, s2.ra, k3, k4, itT, itF, ifT, ifF, Bool.false_eq_true, own2]
  cases ok a
  · simp only [nT, nF, itT, itF, ifT, ifF, Bool.false_eq_true]
  · simp only [nT, nF, itT, itF, ifT, ifF, Bool.false_eq_true, sn, bs, L68_0, k5]

theorem check (h : H) (a : Int) : ∃ h', F43 100 (3, a, (0, 0), (ByteArray.mk #[]), 0, 0, .nils, h) = some (if ok a = true then 0 else 30, h') := by
  have s : St h.length (h ++ [O.cells 0 [.int .i64 0]]).length ((h ++ [O.cells 0 [.int .i64 0]]) ++ [O.cells 0 [.int .i64 0]]) 0 0 := ⟨by simp, low (top _ _), top _ _⟩
  obtain ⟨h1, x, y, s1, e⟩ := walked 99 99 s a
  rw [F43, F62]
  simp only [bs]
  rw [show F68 100 100 = F68 (99 + 1) (99 + 1) from rfl]
  simp only [e, bs]
  have k0 : ((0 : Int) != 0) = false := rfl
  have k30 : ((30 : Int) != 0) = true := rfl
  cases ok a
  · obtain ⟨h2, w2, s2⟩ := s1.wa 0
    obtain ⟨h3, w3, s3⟩ := s2.wb 0
    refine ⟨h3, ?_⟩
    simp only [itT, itF, ifT, ifF, Bool.false_eq_true, k30, w2, w3, s3.ra, s3.rb, bs, asInt_some]
  · obtain ⟨h2, w2, s2⟩ := s1.wa x
    obtain ⟨h3, w3, s3⟩ := s2.wb y
    refine ⟨h3, ?_⟩
    simp only [itT, itF, ifT, ifF, Bool.false_eq_true, k0, s1.ra, s1.rb, w2, w3, s3.ra, s3.rb, bs, asInt_some]

/-- Both are checked. -/
theorem both (h : H) (a b : Int) : ∃ h', F18 100 (3, a, (0, 0), (ByteArray.mk #[]), 0, 0, .nils, 3, b, (0, 0), (ByteArray.mk #[]), 0, 0, .nils, h) = some (if (ok a && ok b) = true then 0 else 30, h') := by
  obtain ⟨h1, e1⟩ := check h a
  obtain ⟨h2, e2⟩ := check h1 b
  have k0 : ((0 : Int) != 0) = false := rfl
  have k30 : ((30 : Int) != 0) = true := rfl
  rw [F18]
  simp only [e1, bs]
  cases ha : ok a
  · exact ⟨h1, by simp only [itT, itF, ifT, ifF, Bool.false_eq_true, k30, Bool.false_and]⟩
  · exact ⟨h2, by simp only [itT, itF, ifT, ifF, Bool.false_eq_true, k0, e2, bs, Bool.true_and]⟩

abbrev R8 := Option (Int × Int × (Nat × Nat) × ByteArray × Int × Int × V × Int × H)
def out (x : Int) (n : Int) (h : H) : R8 := some (0, 0, (0, 0), (ByteArray.mk #[]), 0, 0, .nils, n, h)
def num (x : Int) (h : H) : R8 := some (3, x, (0, 0), (ByteArray.mk #[]), 0, 0, .nils, 0, h)

set_option maxRecDepth 100000 in
theorem f6div (h : H) (a b : Int) : F6 100 (9, 3, a, (0, 0), (ByteArray.mk #[]), 0, 0, .nils, 3, b, (0, 0), (ByteArray.mk #[]), 0, 0, .nils, h) =
    ((F18 100 (3, a, (0, 0), (ByteArray.mk #[]), 0, 0, .nils, 3, b, (0, 0), (ByteArray.mk #[]), 0, 0, .nils, h)).bind fun (x, h') =>
      ((if (x != 0) = true then out 0 x h' else
      if (b == 0) = true then out 0 33 h' else
      if b = 0 then none else num (IntKind.i64.wrap (Int.tdiv a b)) h') : R8)) := by kernel_rfl

set_option maxRecDepth 100000 in
theorem f6mod (h : H) (a b : Int) : F6 100 (10, 3, a, (0, 0), (ByteArray.mk #[]), 0, 0, .nils, 3, b, (0, 0), (ByteArray.mk #[]), 0, 0, .nils, h) =
    ((F18 100 (3, a, (0, 0), (ByteArray.mk #[]), 0, 0, .nils, 3, b, (0, 0), (ByteArray.mk #[]), 0, 0, .nils, h)).bind fun (x, h') =>
      ((if (x != 0) = true then out 0 x h' else
      if (b == 0) = true then out 0 33 h' else
      if b = 0 then none else num (Int.tmod a b) h') : R8)) := by kernel_rfl

/-- The reference's check of a number. -/
theorem refOne (N : Nat) (h : H) (a : Int) : F66 N (3, a, (0, 0), (ByteArray.mk #[]), 0, 0, .nils, h) = some (ok a, h) := by
  have s : ((ByteArray.mk #[]).toList == (ByteArray.mk #[]).toList) = true := by simp
  have sn : slen .nils = some 0 := rfl
  have k1 : ((3 : Int) == 1) = false := rfl
  have k2 : ((3 : Int) == 2) = false := rfl
  have k3 : ((3 : Int) == 3) = true := rfl
  have k4 : ((3 : Int) == 4) = false := rfl
  have t1 : ((0 : Int) == 0) = true := rfl
  have z' : F73 100 ((0, 0), []) = some (true, []) := by kernel_rfl
  rw [F66]
  simp only [k1, k2, k3, k4, itT, itF, ifT, ifF, Bool.false_eq_true]
  by_cases a1 : a ≥ -4611686018427387903
  · by_cases a2 : a ≤ 4611686018427387903
    · simp only [dT a1, dT a2, ok, itT, ifT, bs, Bool.and_self, sn, s, eT, t1, k4, z', ifF, Bool.false_eq_true]
    · simp only [dT a1, dF a2, ok, itT, ifT, bs, itF, ifF, Bool.false_eq_true, Bool.and_false]
  · simp only [dF a1, ok, itT, ifT, bs, itF, ifF, Bool.false_eq_true, Bool.false_and]

theorem refWalk (N d : Nat) (h : H) (a : Int) : ∃ x, F53 (N + 1) (d + 1) (3, a, (0, 0), (ByteArray.mk #[]), 0, 0, .nils, 0, 0, h) = some (x, (if ok a = true then 0 else 30), h) := by
  have k1 : decide ((0 : Int) ≥ 1024) = false := rfl
  have k2 : decide ((0 : Int) ≥ 64) = false := rfl
  have k5 : decide ((0 : Int) < 0) = false := rfl
  have sn : slen .nils = some 0 := rfl
  rw [F53]
  simp only [k1, k2, bs, itT, itF, ifT, ifF, Bool.false_eq_true, refOne]
  cases ok a
  · exact ⟨_, by simp only [nT, nF, itT, itF, ifT, ifF, Bool.false_eq_true]; rfl⟩
  · exact ⟨_, by simp only [nT, nF, itT, itF, ifT, ifF, Bool.false_eq_true, L53_0, sn, bs, k5]; rfl⟩

theorem refCheck (h : H) (a : Int) : F27 100 (3, a, (0, 0), (ByteArray.mk #[]), 0, 0, .nils, h) = some ((if ok a = true then 0 else 30), h) := by
  obtain ⟨x, e⟩ := refWalk 99 99 h a
  rw [F27, show F53 100 100 = F53 (99 + 1) (99 + 1) from rfl]
  simp only [e, bs]

theorem isBin : F26 100 (9, []) = some (true, []) := by kernel_rfl

set_option maxRecDepth 100000 in
theorem f7bad (h : H) (a b : Int) (hb : (ok a && ok b) = false) : F7 100 (9, 3, a, (0, 0), (ByteArray.mk #[]), 0, 0, .nils, 3, b, (0, 0), (ByteArray.mk #[]), 0, 0, .nils, h) = out 0 30 h := by
  rw [F7]
  simp only [isBin, refCheck, bs, nT, itF, ifF, Bool.false_eq_true]
  cases ha : ok a
  · kernel_rfl
  · cases hc : ok b
    · kernel_rfl
    · rw [ha, hc] at hb; cases hb

set_option maxRecDepth 100000 in
theorem f7zero (h : H) (a : Int) (ha : ok a = true) : F7 100 (9, 3, a, (0, 0), (ByteArray.mk #[]), 0, 0, .nils, 3, 0, (0, 0), (ByteArray.mk #[]), 0, 0, .nils, h) = out 0 33 h := by
  have h0 : ok 0 = true := by simp [ok]
  rw [F7]
  simp only [isBin, refCheck, bs, nT, itF, ifF, Bool.false_eq_true, ha, h0, ifT]
  change _ = _
  kernel_rfl

/-- What the two divisions answer. -/
theorem divs (h : H) (a b : Int) : ∃ h1 h2,
    F6 100 (9, 3, a, (0, 0), (ByteArray.mk #[]), 0, 0, .nils, 3, b, (0, 0), (ByteArray.mk #[]), 0, 0, .nils, h) =
      (if (ok a && ok b) = true then (if b = 0 then out 0 33 h1 else num (IntKind.i64.wrap (Int.tdiv a b)) h1) else out 0 30 h1) ∧
    F6 100 (10, 3, a, (0, 0), (ByteArray.mk #[]), 0, 0, .nils, 3, b, (0, 0), (ByteArray.mk #[]), 0, 0, .nils, h1) =
      (if (ok a && ok b) = true then (if b = 0 then out 0 33 h2 else num (Int.tmod a b) h2) else out 0 30 h2) := by
  obtain ⟨h1, e1⟩ := both h a b
  obtain ⟨h2, e2⟩ := both h1 a b
  refine ⟨h1, h2, ?_, ?_⟩
  · rw [f6div, e1]
    simp only [bs]
    cases (ok a && ok b)
    · rfl
    · by_cases hb : b = 0
      · subst hb; rfl
      · simp only [itT, ifT, if_neg hb, eF hb, itF, ifF, Bool.false_eq_true, nqT]
  · rw [f6mod, e2]
    simp only [bs]
    cases (ok a && ok b)
    · rfl
    · by_cases hb : b = 0
      · subst hb; rfl
      · simp only [itT, ifT, if_neg hb, eF hb, itF, ifF, Bool.false_eq_true, nqT]

/-! Plain numbers. -/
theorem parts (a b : Int) (hb : b ≠ 0) : Int.tdiv a b * b + Int.tmod a b = a ∧ (0 ≤ a → 0 ≤ Int.tmod a b) ∧ (a ≤ 0 → Int.tmod a b ≤ 0) ∧
    (Int.tmod a b).natAbs < b.natAbs ∧ (Int.tmod a b).natAbs ≤ a.natAbs ∧ (Int.tdiv a b).natAbs ≤ a.natAbs := by
  refine ⟨?_, ?_, ?_, ?_, ?_, ?_⟩
  · rw [Int.mul_comm]; exact Int.mul_tdiv_add_tmod a b
  · exact fun h => Int.tmod_nonneg b h
  · intro h
    have := Int.tmod_nonneg b (a := -a) (by omega)
    rw [Int.neg_tmod] at this
    omega
  · rw [Int.natAbs_tmod]; exact Nat.mod_lt _ (by omega)
  · rw [Int.natAbs_tmod]; exact Nat.mod_le _ _
  · rw [Int.natAbs_tdiv]; exact Nat.div_le_self _ _

theorem inR {a : Int} (h : ok a = true) : -4611686018427387903 ≤ a ∧ a ≤ 4611686018427387903 := by simpa [ok] using h

end Go.Proofs.Ytkhnngghmlpbeaa.termDivides
