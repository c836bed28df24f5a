/- append. -/
import Derived.Test.YtkhnngghmlpbeaaGreatL17
namespace Go.L
noncomputable section

theorem flat_get : ∀ {xs : List V} {es : Nat}, es ≠ 0 → (∀ v ∈ xs, v.cells.length = es) → ∀ (k : Nat) (y : V), (xs.flatMap V.cells)[k]? = some y → ∃ i j v, k = i * es + j ∧ xs[i]? = some v ∧ v.cells[j]? = some y ∧ j < es
  | [], es, _, _, k, y, h => by simp at h
  | x :: xs, es, he, hx, k, y, h => by
    rw [List.flatMap_cons] at h
    have hl := hx x (by simp)
    by_cases hk : k < es
    · rw [List.getElem?_append_left (by omega)] at h
      exact ⟨0, k, x, by omega, rfl, h, hk⟩
    · rw [List.getElem?_append_right (by omega), hl] at h
      obtain ⟨i, j, v, h1, h2, h3, h4⟩ := flat_get he (fun v hv => hx v (by simp [hv])) (k - es) y h
      exact ⟨i + 1, j, v, by rw [Nat.add_mul, Nat.one_mul]; omega, by simpa using h2, h3, h4⟩

theorem flat_length {es : Nat} : ∀ {xs : List V}, (∀ v ∈ xs, v.cells.length = es) → (xs.flatMap V.cells).length = xs.length * es
  | [], _ => by simp
  | x :: xs, h => by
    rw [List.flatMap_cons, List.length_append, h x (by simp), flat_length (fun v hv => h v (by simp [hv]))]
    simp [Nat.add_mul]; omega

section ops
variable {R : Type} {E : Env} {o : Oper} {st : St} {K : St → Option R} {r : R} {ρ : Ren} {lo : Nat → Option Nat} {a : Act} {w : World}
  {next : Act → World → Prop} {Q : Exit → Act → World → Prop}

theorem cell_heap {w w' : World} (h : w'.heap = w.heap) (a : Addr) : w'.cell? a = w.cell? a := by simp [World.cell?, h]

theorem scells_rel {P : Program} {h : H} (hh : RelH ρ h w) {x : V} {xv : Value} (hx : RelV ρ x xv) {es : Nat} (hes : es ≠ 0) {cs : List V} (hc : scells h x es = some cs) :
    ∃ ad cap ys, xv = .slice ad (snlen x) cap ∧ RelL ρ cs ys ∧ cs.length = snlen x * es ∧ ∀ w' : World, w'.heap = w.heap → (Builtin.firstCells es (snlen x) xv).run P w' = .ok ys.toArray w' := by
  unfold scells at hc
  split at hc
  · cases hc
    cases hx
    exact ⟨none, 0, [], rfl, ⟨rfl, by simp⟩, by simp [snlen], fun _ _ => rfl⟩
  · rename_i id ver off len es' cap
    split at hc
    · rename_i he
      subst he
      obtain ⟨hl, hg⟩ := rdN_rd hc
      cases hx with
      | sl _ _ _ _ _ _ ad rc h1 h2 h3 h4 h5 =>
        by_cases h0 : len = 0
        · subst h0
          have hcs : cs = [] := by simpa using hl
          subst hcs
          exact ⟨some ad, rc, [], rfl, ⟨rfl, by simp⟩, by simp [snlen], fun _ _ => by simp [Builtin.firstCells, snlen, loadCells, loadCellsFrom]⟩
        · have hp : RelV ρ (.ptr id ver off) (.pointer (some ad)) := .ptr _ _ _ _ h1 h2 fun g hv hg => (h5 g hv hg (by omega)).1
          have hpos : 0 < len * es' := Nat.mul_pos (by omega) (by omega)
          obtain ⟨ad', had, ys, hys, hcell⟩ := rds_of (fun e => by rw [e] at hl; simp at hl; omega) (fun j v hj => rd_rel hh hp (hg j v hj))
          cases had
          refine ⟨some ad, rc, ys, rfl, hys, hl, fun w' hw' => ?_⟩
          simp only [Builtin.firstCells, snlen]
          rw [← hl, hys.1]
          exact run_loadCells_list w' ad ys (fun j v hj => by rw [cell_heap hw']; exact hcell j v hj)
    · cases hc
  · rename_i es' xs
    split at hc
    · rename_i he
      subst he
      cases hc
      cases hx with
      | rs0 _ ad rc _ =>
        refine ⟨ad, rc, [], rfl, ⟨rfl, by simp⟩, by simp [snlen], fun _ _ => ?_⟩
        cases ad <;> simp [Builtin.firstCells, snlen, loadCells, loadCellsFrom]
      | rs _ _ b off c e fr rc h0 h1 h2 h3 h4 h5 =>
        have hwb := hh.ro b _ h1
        have hlen := flat_length h3
        by_cases hx0 : xs = []
        · subst hx0
          exact ⟨_, rc, [], rfl, ⟨rfl, by simp⟩, by simp [snlen], fun _ _ => by simp [Builtin.firstCells, snlen, loadCells, loadCellsFrom]⟩
        · have hxp : 0 < xs.length := List.length_pos_iff.2 hx0
          have hpos : 0 < xs.length * es' := Nat.mul_pos hxp (by omega)
          have key : ∀ (j : Nat) (v : V), (xs.flatMap V.cells)[j]? = some v → ∃ ad y, Value.pointer (some ⟨b, off, none⟩) = .pointer (some ad) ∧ w.cell? (ad.add j) = some y ∧ RelV ρ v y ∧ y.oneCell' = true := by
            intro k v hv
            obtain ⟨i, j, u, hk, hi, hj, hjl⟩ := flat_get hes h3 k v hv
            have hkl : k < xs.length * es' := by rw [← hlen]; exact (List.getElem?_eq_some_iff.1 hv).1
            have hlt : off + k < c.size := by omega
            refine ⟨_, c[off + k], rfl, ?_, h4 i u j v _ hi hj (by rw [← Array.getElem?_eq_getElem hlt]; congr 1; omega), h5 k _ hkl (Array.getElem?_eq_getElem hlt)⟩
            rw [add_none, cell_of hwb, Array.getElem?_eq_getElem hlt]
          obtain ⟨ad', had, ys, hys, hcell⟩ := rds_of (fun e => by rw [e] at hlen; simp at hlen; omega) key
          cases had
          refine ⟨_, rc, ys, rfl, hys, hlen, fun w' hw' => ?_⟩
          simp only [Builtin.firstCells, snlen]
          rw [← hlen, hys.1]
          exact run_loadCells_list w' _ ys (fun j v hj => by rw [cell_heap hw']; exact hcell j v hj)
    · cases hc
  · cases hc

theorem grow_le (need : Nat) : ∀ rounds c, c ≤ 2 * need + 768 → Builtin.growBy need rounds c ≤ 2 * need + 768
  | 0, c, h => h
  | n + 1, c, h => by
    simp only [Builtin.growBy]
    split
    · exact h
    · exact grow_le need n _ (by omega)

theorem next_le (need old : Nat) (h : old < need) : Builtin.nextslicecap need old ≤ 2 * need + 768 := by
  unfold Builtin.nextslicecap
  split
  · omega
  · split
    · omega
    · exact grow_le need 4 old (by omega)

theorem arr3 (xs ys : List Value) (z : Array Value) : xs.toArray ++ (ys.toArray ++ z) = (xs ++ ys).toArray ++ z := by
  apply Array.ext'
  simp

/-- The machine's append, where there is room. -/
theorem append_fits {P : Program} {sT xT ty e : TypeId} {e' : TypeId} (hu : P.underlying sT = some (.slice e)) (hu' : P.underlying xT = some (.slice e')) (hne : P.cellsOf e ≠ 0) {base : Option Addr} {sLen sCap n : Nat} {xv : Value} {ys : List Value}
    (hlen : (Builtin.lenOf xv).run P w = .ok n w) (hcells : (Builtin.firstCells (P.cellsOf e) n xv).run P w = .ok ys.toArray w) (hfit : sLen + n ≤ sCap) {w' : World}
    (hst : match base with
      | some ad => (storeCells (ad.add (sLen * P.cellsOf e)) ys 0).run P w = .ok () w'
      | none => w' = w) : (Builtin.append_ #[sT, xT] ty #[.slice base sLen sCap, xv]).run P w = .ok (.slice base (sLen + n) sCap) w' := by
  cases base with
  | none =>
    simp only at hst
    subst hst
    simp [Builtin.append_, run_underlying hu, run_underlying hu', run_sizeOf_ne hne, hlen, hcells, hfit]
  | some ad =>
    simp only at hst
    simp [Builtin.append_, run_underlying hu, run_underlying hu', run_sizeOf_ne hne, hlen, hcells, hfit, hst]

theorem append_grows {P : Program} {sT xT ty e : TypeId} {e' : TypeId} {inf : TypeInfo} {zv : Value} (hu : P.underlying sT = some (.slice e)) (hu' : P.underlying xT = some (.slice e')) (hi : P.info? e = some inf) (hz : inf.zero = some zv) (hne : P.cellsOf e ≠ 0)
    {base : Option Addr} {sLen sCap n : Nat} {xv : Value} {olds ys : List Value}
    (hlen : (Builtin.lenOf xv).run P w = .ok n w) (hcells : ∀ w' : World, w'.heap = w.heap → (Builtin.firstCells (P.cellsOf e) n xv).run P w' = .ok ys.toArray w')
    (holds : ∀ w' : World, w'.heap = w.heap → (Builtin.firstCells (P.cellsOf e) sLen (.slice base sLen sCap)).run P w' = .ok olds.toArray w')
    (hgrow : sCap < sLen + n) (hbig : (sLen + n) * P.cellsOf e ≤ mostCells) (hbytes : P.bytesOf e ≤ P.cellsOf e * 64) :
    ∃ newCap w', sLen + n ≤ newCap ∧ (Builtin.append_ #[sT, xT] ty #[.slice base sLen sCap, xv]).run P w = .ok (.slice (some ⟨w.heap.size, 0, none⟩) (sLen + n) newCap) w' ∧
      Pushes w w' (.cells (olds.toArray ++ ys.toArray ++ Builtin.zeroCells zv.cells (newCap - (sLen + n))) e) := by
  have hm : mostCells = 4294967296 := rfl
  have hb : P.bytesOf e = inf.bytes := by simp [Program.bytesOf, hi]
  have hneed : sLen + n ≤ 4294967296 := by
    have : (sLen + n) * 1 ≤ (sLen + n) * P.cellsOf e := Nat.mul_le_mul_left _ (by omega)
    omega
  have hbig2 : Builtin.nextslicecap (sLen + n) sCap * inf.bytes ≤ 2 ^ 48 := by
    have h1 := next_le (sLen + n) sCap hgrow
    have h2 : Builtin.nextslicecap (sLen + n) sCap * inf.bytes ≤ (2 * (sLen + n) + 768) * (P.cellsOf e * 64) := Nat.mul_le_mul h1 (by omega)
    have h3 : (2 * (sLen + n) + 768) * (P.cellsOf e * 64) = 128 * ((sLen + n) * P.cellsOf e) + 49152 * P.cellsOf e := by
      rw [Nat.add_mul, Nat.mul_comm (P.cellsOf e) 64, ← Nat.mul_assoc, ← Nat.mul_assoc]
      have : 2 * (sLen + n) * 64 = 128 * (sLen + n) := by omega
      rw [this, Nat.mul_assoc]
    have h4 : P.cellsOf e ≤ (sLen + n) * P.cellsOf e := Nat.le_mul_of_pos_left _ (by omega)
    omega
  have hmax : ¬ (((sLen + n : Nat) : Int) > IntKind.i64.max) := by
    have : IntKind.i64.max = 9223372036854775807 := by decide
    omega
  refine ⟨(Question.appendCap (sLen + n) sCap e).cut (w.tape w.drawn (.appendCap (sLen + n) sCap e)), ?w', ?_, ?_, ?_⟩
  case w' => exact { w with drawn := w.drawn + 1, heap := w.heap.push (.cells (olds.toArray ++ ys.toArray ++ Builtin.zeroCells zv.cells ((Question.appendCap (sLen + n) sCap e).cut (w.tape w.drawn (.appendCap (sLen + n) sCap e)) - (sLen + n))) e) }
  · simp only [Question.cut]; omega
  · have hnf : ¬ sLen + n ≤ sCap := by omega
    have hmax0 : IntKind.i64.max = 9223372036854775807 := by decide
    have hmax' : ¬ 9223372036854775807 < ((sLen : Int) + (n : Int)) := by omega
    simp [Builtin.append_, run_underlying hu, run_underlying hu', run_sizeOf_ne hne, hlen, hnf, run_typeInfo hi, hmax', hmax0, Question.forced, run_zeroValue hi hz]
    have ho2 := holds w.drew rfl
    have hc2 := hcells w.drew rfl
    rw [if_neg (by omega), ho2]
    simp only [Result.andThen_ok]
    rw [hc2]
    simp only [Result.andThen_ok, newRow, Sem.run_bind, run_newObj, Sem.run_pure]
    rw [arr3]
    rfl
  · exact ⟨rfl, rfl, rfl⟩

end ops
end
end Go.L
