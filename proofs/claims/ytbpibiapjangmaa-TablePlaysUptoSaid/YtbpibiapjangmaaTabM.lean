/- The reference table, as plain lists. -/
import Derived.Test.YtbpibiapjangmaaTabL
namespace Go.Proofs.Ytbpibiapjangmaa.tabs
open Go Go.L
set_option linter.unusedVariables false
set_option linter.unusedSimpArgs false

/-- A slice of single cells that is all of its object. -/
structure Arr (h : H) (v : V) (id : Nat) (xs : List V) : Prop where
  is : ∃ ver cap, v = .sl id ver 0 xs.length 1 cap ∧ h[id]? = some (.cells ver xs)

section
variable {h : H} {v : V} {id : Nat} {xs : List V}

theorem Arr.len (A : Arr h v id xs) : slen v = some (xs.length : Int) := by
  obtain ⟨ver, cap, rfl, _⟩ := A.is; rfl
theorem Arr.snlen (A : Arr h v id xs) : L.snlen v = xs.length := by
  obtain ⟨ver, cap, rfl, _⟩ := A.is; rfl
theorem Arr.lt (A : Arr h v id xs) : id < h.length := by
  obtain ⟨ver, cap, rfl, hi⟩ := A.is; exact (List.getElem?_eq_some_iff.1 hi).1
theorem Arr.cells (A : Arr h v id xs) : scells h v 1 = some xs := by
  obtain ⟨ver, cap, rfl, hi⟩ := A.is
  simp [scells, rdN, hi]
theorem Arr.frame (A : Arr h v id xs) {h' : H} (hf : h'[id]? = h[id]?) : Arr h' v id xs := by
  obtain ⟨ver, cap, e, hi⟩ := A.is
  exact ⟨ver, cap, e, by rw [hf]; exact hi⟩
theorem Arr.at (A : Arr h v id xs) {i : Nat} (hi : i < xs.length) : ∃ q, sidx v (i : Int) 1 = some q ∧ rd h q 0 = some xs[i] ∧
    ∀ y, ∃ h', wr h q [y] = some h' ∧ Arr h' v id (xs.set i y) ∧ h'.length = h.length ∧ ∀ k, k ≠ id → h'[k]? = h[k]? := by
  obtain ⟨ver, cap, rfl, hid⟩ := A.is
  have hlt : id < h.length := (List.getElem?_eq_some_iff.1 hid).1
  refine ⟨_, sidx_sl (by omega) (by omega), by rw [rd_obj hid]; simp [hi], fun y => ⟨_, by rw [wr_obj hid (by simp; omega), splice1], ⟨ver, cap, by simp, ?_⟩, by simp, fun k hk => List.getElem?_set_ne (Ne.symm hk)⟩⟩
  rw [List.getElem?_set_self hlt]
  simp

/-- A copy of it. -/
theorem Arr.copy (A : Arr h v id xs) (h1 : 1 ≤ xs.length) (hb : xs.length ≤ 4294967296) : ∃ v', happ h .nils 1 (L.snlen v) xs = some (v', h ++ [.cells 0 xs]) ∧ Arr (h ++ [.cells 0 xs]) v' h.length xs ∧ ck1 v' = some () := by
  refine ⟨.sl h.length 0 0 xs.length 1 none, ?_, ⟨0, none, rfl, by simp⟩, rfl⟩
  rw [A.snlen]
  have h0 : ¬ xs.length = 0 := by omega
  have h2 : xs.length ≤ mostCells := hb
  simp only [happ, if_neg h0, Nat.mul_one, if_true, if_pos h2]
end

/-- The reference's table: three lists of their own. -/
structure Ref (h : H) (gv lv nv : V) (g l n : Nat) (S : List Slot) : Prop where
  gens : Arr h gv g (S.map fun s => I s.gen)
  live : Arr h lv l (S.map fun s => V.bool s.live)
  names : Arr h nv n (S.map fun s => V.str s.name)
  gl : g ≠ l
  gn : g ≠ n
  ln : l ≠ n
  len : 1 ≤ S.length ∧ S.length ≤ 256

section
variable {h : H} {gv lv nv : V} {g l n : Nat} {S : List Slot}

theorem Ref.frame (R : Ref h gv lv nv g l n S) {h' : H} (hf : ∀ k, k = g ∨ k = l ∨ k = n → h'[k]? = h[k]?) : Ref h' gv lv nv g l n S :=
  ⟨R.gens.frame (hf g (.inl rfl)), R.live.frame (hf l (.inr (.inl rfl))), R.names.frame (hf n (.inr (.inr rfl))), R.gl, R.gn, R.ln, R.len⟩

theorem rep1 (z : V) : ∀ k, repeatC k [z] = List.replicate k z
  | 0 => rfl
  | k + 1 => by rw [repeatC, rep1 z k]; rfl

/-- A new one. -/
theorem newR (N : Nat) (h : H) {k : Nat} (h1 : 1 ≤ k) (h2 : k ≤ 256) : ∃ gv lv nv h', F31 N ((k : Int), h) = some ((k : Int), gv, lv, nv, 0, h') ∧
    Ref h' gv lv nv h.length (h.length + 1) (h.length + 2) (List.replicate k ⟨0, false, noname⟩) ∧ h'.length = h.length + 3 ∧ ∀ i, i < h.length → h'[i]? = h[i]? := by
  have g3 : (h ++ [O.rsv, O.rsv, O.rsv])[h.length]? = some .rsv := by simp
  have g4 : (h ++ [O.rsv, O.rsv, O.rsv])[h.length + 1]? = some .rsv := by simp
  have g5 : (h ++ [O.rsv, O.rsv, O.rsv])[h.length + 2]? = some .rsv := by simp
  have l3 : (h ++ [O.rsv, O.rsv, O.rsv]).length = h.length + 3 := by simp
  have old : ∀ i, i < h.length → (h ++ [O.rsv, O.rsv, O.rsv])[i]? = h[i]? := fun i hi => List.getElem?_append_left hi
  generalize hh3 : h ++ [O.rsv, O.rsv, O.rsv] = h3 at *
  have f4 : hfill h3 3 (List.replicate k (I 0)) = some (h3.set h.length (.cells 1 (List.replicate k (I 0)))) := by
    unfold hfill; rw [l3, show h.length + 3 - 3 = h.length by omega, g3]
  generalize hh4 : h3.set h.length (.cells 1 (List.replicate k (I 0))) = h4 at *
  have l4 : h4.length = h.length + 3 := by rw [← hh4]; simpa using l3
  have f5 : hfill h4 2 (List.replicate k (V.bool false)) = some (h4.set (h.length + 1) (.cells 1 (List.replicate k (V.bool false)))) := by
    unfold hfill; rw [l4, show h.length + 3 - 2 = h.length + 1 by omega, ← hh4, List.getElem?_set_ne (by omega), g4]
  generalize hh5 : h4.set (h.length + 1) (.cells 1 (List.replicate k (V.bool false))) = h5 at *
  have l5 : h5.length = h.length + 3 := by rw [← hh5]; simpa using l4
  have f6 : hfill h5 1 (List.replicate k (V.str noname)) = some (h5.set (h.length + 2) (.cells 1 (List.replicate k (V.str noname)))) := by
    unfold hfill; rw [l5, show h.length + 3 - 1 = h.length + 2 by omega, ← hh5, List.getElem?_set_ne (by omega), ← hh4, List.getElem?_set_ne (by omega), g5]
  have m1 : (k : Int) * ((1 : Nat) : Int) ≤ ((mostCells : Nat) : Int) := by simp [mostCells]; omega
  refine ⟨.sl h.length 1 0 k 1 (some k), .sl (h.length + 1) 1 0 k 1 (some k), .sl (h.length + 2) 1 0 k 1 (some k), h5.set (h.length + 2) (.cells 1 (List.replicate k (V.str noname))), ?_, ⟨⟨1, some k, by simp, ?_⟩, ⟨1, some k, by simp, ?_⟩, ⟨1, some k, by simp, ?_⟩, by omega, by omega, by omega, by simpa using ⟨h1, h2⟩⟩, by simpa using l5, fun i hi => ?_⟩
  · have c : ∀ id, ck1 (.sl id 1 0 k 1 (some k)) = some () := fun _ => rfl
    have e3 : h.length + 3 - 3 = h.length := by omega
    have e4 : h.length + 3 - 2 = h.length + 1 := by omega
    have e5 : h.length + 3 - 1 = h.length + 2 := by omega
    rw [F31]
    simp only [itT, itF, ifT, ifF, dF (show ¬ (k : Int) < 1 by omega), dF (show ¬ (k : Int) > 256 by omega), bs, if_pos (show 0 ≤ (k : Int) by omega), if_pos (show (k : Int) ≤ (k : Int) by omega), if_pos m1, Int.toNat_natCast, rep1, hh3, f4, f5, f6, l3, l4, l5, e3, e4, e5, c]
  · rw [List.getElem?_set_ne (by omega), ← hh5, List.getElem?_set_ne (by omega), ← hh4, List.getElem?_set_self (by omega)]; simp
  · rw [List.getElem?_set_ne (by omega), ← hh5, List.getElem?_set_self (by omega)]; simp
  · rw [List.getElem?_set_self (by omega)]; simp
  · rw [List.getElem?_set_ne (by omega), ← hh5, List.getElem?_set_ne (by omega), ← hh4, List.getElem?_set_ne (by omega), old i hi]

theorem newRNot (N : Nat) (h : H) {k : Int} (hk : ¬ (1 ≤ k ∧ k ≤ 256)) : F31 N (k, h) = some (0, .nils, .nils, .nils, 1, h) := by
  rw [F31]
  by_cases h1 : k < 1
  · simp only [itT, itF, ifT, ifF, dT h1, bs]
  · simp only [itT, itF, ifT, ifF, dF h1, dT (show k > 256 by omega), bs]
end

end Go.Proofs.Ytbpibiapjangmaa.tabs
