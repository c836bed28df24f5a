/- Operations: literals of structs and slices, makes. -/
import Derived.Test.YtkhnngghmlpbeaaGreatL11
import Derived.IntWalk
namespace Go.L
noncomputable section

section ops
variable {R : Type} {E : Env} {o : Oper} {st : St} {K : St → Option R} {r : R} {ρ : Ren} {lo : Nat → Option Nat} {a : Act} {w : World}
  {next : Act → World → Prop} {Q : Exit → Act → World → Prop}

/-- The model's way to lay a part. -/
theorem foldl_set (ys : List Value) : ∀ (k off : Nat) (c : Array Value), (ys.zipIdx k).foldl (fun cs (p : Value × Nat) => cs.setIfInBounds (off + p.2) p.1) c =
    (ys.zipIdx 0).foldl (fun cs (p : Value × Nat) => cs.setIfInBounds (off + k + p.2) p.1) c := by
  induction ys with
  | nil => intro k off c; rfl
  | cons y ys ih =>
    intro k off c
    simp only [List.zipIdx_cons, List.foldl_cons, Nat.add_zero]
    rw [ih (k + 1) off, ih (0 + 1) (off + k)]
    simp only [Nat.zero_add, Nat.add_assoc]

theorem fold_get (ys : List Value) : ∀ (off : Nat) (c : Array Value) (j : Nat), off + ys.length ≤ c.size →
    ((ys.zipIdx 0).foldl (fun cs (p : Value × Nat) => cs.setIfInBounds (off + p.2) p.1) c)[j]? = if j < off then c[j]? else if j < off + ys.length then ys[j - off]? else c[j]? := by
  induction ys with
  | nil => intro off c j _; simp; intro h1 h2; omega
  | cons y ys ih =>
    intro off c j h
    simp only [List.zipIdx_cons, List.foldl_cons, Nat.add_zero, List.length_cons] at h ⊢
    rw [foldl_set, ih (off + (0 + 1)) _ j (by simp; omega)]
    simp only [Nat.zero_add, Array.getElem?_setIfInBounds]
    by_cases h1 : j < off
    · rw [if_pos (by omega), if_neg (by omega), if_pos h1]
    · rw [if_neg h1]
      by_cases h2 : off = j
      · subst h2
        rw [if_pos (by omega), if_pos rfl, if_pos (by omega), if_pos (by omega)]
        simp
      · rw [if_neg h2, if_neg (by omega)]
        by_cases h3 : j < off + (ys.length + 1)
        · rw [if_pos (by omega), if_pos h3]
          have : j - off = (j - (off + 1)) + 1 := by omega
          rw [this]; simp
        · rw [if_neg (by omega), if_neg h3]

theorem fold_size (ys : List Value) : ∀ (off : Nat) (c : Array Value), ((ys.zipIdx 0).foldl (fun cs (p : Value × Nat) => cs.setIfInBounds (off + p.2) p.1) c).size = c.size := by
  induction ys with
  | nil => intro off c; rfl
  | cons y ys ih =>
    intro off c
    simp only [List.zipIdx_cons, List.foldl_cons]
    rw [foldl_set, ih]; simp

theorem fold_rel {cs : List V} {c : Array Value} (hc : RelL ρ cs c.toList) {xs : List V} {ys : List Value} (hl : RelL ρ xs ys) {off : Nat} (hle : off + xs.length ≤ cs.length) :
    RelL ρ (splice cs off xs) ((ys.zipIdx 0).foldl (fun cs (p : Value × Nat) => cs.setIfInBounds (off + p.2) p.1) c).toList := by
  have hlen := hc.1
  have hxy := hl.1
  simp at hlen
  refine ⟨by rw [splice_length cs off xs hle]; simp [fold_size, hlen], fun i v y hv hy => ?_⟩
  rw [splice_get cs off xs i hle] at hv
  rw [Array.getElem?_toList, fold_get ys off c i (by omega)] at hy
  by_cases h1 : i < off
  · rw [if_pos h1] at hv hy
    exact hc.2 i v y hv (by simpa using hy)
  · rw [if_neg h1] at hv hy
    by_cases h2 : i < off + xs.length
    · rw [if_pos h2] at hv
      rw [if_pos (by omega)] at hy
      exact hl.2 _ v y hv hy
    · rw [if_neg h2] at hv
      rw [if_neg (by omega)] at hy
      exact hc.2 i v y hv (by simpa using hy)

theorem buildS_inv (hr : RelA E.n ρ lo st a w) {place : Nat → Option (Nat × TypeId)} : ∀ {l : List (Nat × Operand)} {cs : List V} {c : Array Value} {K' : List V → Option R},
    RelL ρ cs c.toList → buildS E place st l cs K' = some r →
    ∃ cs' c', Instr.fill (fun i => (place i).map fun p => (p.1, E.P.cellsOf p.2)) c (l.map fun p => (p.1, a.eval p.2)) = some c' ∧ RelL ρ cs' c'.toList ∧ cs'.length = cs.length ∧ K' cs' = some r
  | [], cs, c, K', hc, h => ⟨cs, c, rfl, hc, rfl, h⟩
  | (i, x) :: l, cs, c, K', hc, h => by
    simp only [buildS] at h
    split at h
    · rename_i off t v hp hv
      obtain ⟨xs, hl, hlen, h, hpos, _⟩ := cellsAs_inv (opnd_v hr hv) h
      split at h
      · rename_i hle
        have hsz : (a.eval x).cells.size = xs.length := by rw [hl.1]; simp
        have hcl : cs.length = c.size := by rw [hc.1]; simp
        obtain ⟨cs', c', h1, h2, h3, h4⟩ := buildS_inv hr (fold_rel hc hl hle) h
        refine ⟨cs', c', ?_, h2, by rw [h3, splice_length cs off xs hle], h4⟩
        simp only [List.map_cons, Instr.fill, hp, Option.map_some]
        rw [if_neg (by simp only [hsz, hlen, ne_eq, not_true, decide_false, Bool.false_or]; simp; omega)]
        rw [← h1]
        congr 1
        rw [← Array.foldl_toList]
        simp [Array.toList_zipIdx]
      · cases h
    · cases h

theorem places_run {P : Program} {fs : Array Field} (h : fs.toList.all (fun f => decide (P.cellsOf f.type ≠ 0)) = true) (w : World) :
    (fs.mapM (fun f => do pure (f.offset, ← sizeOf f.type) : Field → Sem (Nat × Nat))).run P w = .ok (fs.map fun f => (f.offset, P.cellsOf f.type)) w := by
  have key : ∀ l : List Field, l.all (fun f => decide (P.cellsOf f.type ≠ 0)) = true →
      (l.mapM (fun f => do pure (f.offset, ← sizeOf f.type) : Field → Sem (Nat × Nat))).run P w = .ok (l.map fun f => (f.offset, P.cellsOf f.type)) w := by
    intro l hl
    induction l with
    | nil => rfl
    | cons f l ih =>
      simp only [List.all_cons, Bool.and_eq_true, decide_eq_true_eq] at hl
      simp only [List.mapM_cons, Sem.run_bind, run_sizeOf_ne hl.1, Result.andThen_ok, Sem.run_pure, ih hl.2, List.map_cons]
  rw [Array.mapM_eq_mapM_toList, Sem.run_map, key fs.toList h]
  simp only [Result.andThen_ok]
  congr 1
  apply Array.ext'
  simp

theorem build_sound {t : TypeId} {parts : Array (Nat × Operand)} (ho : o.op = .build t parts) (he : evOp E o st K = some r) (hr : RelA E.n ρ lo st a w) (hn : Owes E o st ρ lo w K r next) :
    o.wp E.P a w next Q := by
  unfold evOp at he
  simp only [ho] at he
  split at he
  · rename_i hok
    simp only [Option.bind_eq_some_iff] at he
    obtain ⟨zs, hzs, he⟩ := he
    obtain ⟨i, v, hi, hz, hc⟩ := zeroCells_inv hzs
    obtain ⟨cs', c', h1, h2, h3, he⟩ := buildS_inv hr (c := v.cells) (cstVs_relL ρ hc) he
    refine finV_sound he hr hn (y := .agg c') ?_ (by simpa using h2.agg)
    unfold partsOk at hok
    have hm : (parts.map fun (p : Nat × Operand) => (p.1, a.eval p.2)).toList = parts.toList.map fun p => (p.1, a.eval p.2) := by simp
    split at hok
    · rename_i fs hu
      have hpl : (fun i => (placeOf E.P t i).map fun p => (p.1, E.P.cellsOf p.2)) = fun i => (fs.map fun f => (f.offset, E.P.cellsOf f.type))[i]? := by
        funext i
        simp [placeOf, hu, Function.comp_def]
      rw [hpl] at h1
      unfold execOp
      simp only [ho, Instr.build, Sem.run_bind, run_zeroValue hi hz, Result.andThen_ok, run_underlying hu, places_run hok]
      rw [hm, h1]
      rfl
    · rename_i n e hu
      have hne : E.P.cellsOf e ≠ 0 := by simpa using hok
      have hpl : (fun i => (placeOf E.P t i).map fun p => (p.1, E.P.cellsOf p.2)) = fun i => some (i * E.P.cellsOf e, E.P.cellsOf e) := by
        funext i
        simp [placeOf, hu]
      rw [hpl] at h1
      unfold execOp
      simp only [ho, Instr.build, Sem.run_bind, run_zeroValue hi hz, Result.andThen_ok, run_underlying hu, run_sizeOf_ne hne]
      rw [hm, h1]
      rfl
    · cases hok
  · cases he

theorem elemOf_inv {P : Program} {t e : TypeId} (h : elemOf P t = some e) : P.underlying t = some (.slice e) := by
  unfold elemOf at h
  split at h
  · rename_i e' hu; cases h; exact hu
  · cases h

/-- New cells that are never written, as a slice's value. -/
theorem new_ro (hr : RelA E.n ρ lo st a w) {cs : List V} {c : Array Value} (hl : RelL ρ cs c.toList) (t : TypeId) {len es : Nat} (hes : es ≠ 0) (hlen : cs.length = len * es)
    {rc : Nat} (hrc : len ≤ rc) :
    ∃ ρ', RelA E.n ρ' lo ⟨st.s, st.l, st.h⟩ a (pushed w (.cells c t)) ∧ Step ρ lo w ρ' lo (pushed w (.cells c t)) ∧
      RelV ρ' (.rs es (chunks es len cs)) (.slice (some ⟨w.heap.size, 0, none⟩) len rc) := by
  obtain ⟨hh, hs⟩ := addRo_rel (ob := .cells c t (0, 0)) hr.h (w' := pushed w (.cells c t)) ⟨rfl, rfl, rfl⟩ rfl
  obtain ⟨h1, h2⟩ := hr.lift hh hs
  refine ⟨_, h1, h2, ?_⟩
  have hcl : cs.length = c.size := by rw [hl.1]; simp
  have hk := chunks_length es len cs
  have hle := hs.le
  have hcell : ∀ (k : Nat) (y : Value), c[k]? = some y → ∃ v, cs[k]? = some v ∧ RelV ρ v y ∧ y.oneCell' = true := by
    intro k y hy
    have hk' : k < cs.length := by rw [hcl]; exact (Array.getElem?_eq_some_iff.1 hy).1
    exact ⟨cs[k], List.getElem?_eq_getElem hk', hl.2 k _ y (List.getElem?_eq_getElem hk') (by simpa using hy)⟩
  have key := RelV.rs (ρ := ρ.addRo w.heap.size (.cells c t (0, 0))) es (chunks es len cs) w.heap.size 0 c t (0, 0) rc (by omega)
    (by simp [Ren.addRo]) (by rw [hk]; omega) ?_ ?_ ?_
  · rw [hk] at key; exact key
  · intro v hv
    obtain ⟨i, hi⟩ := List.getElem?_of_mem hv
    obtain ⟨hin, hve⟩ := chunks_get _ _ _ _ _ hi
    have hm : (i + 1) * es ≤ len * es := Nat.mul_le_mul_right _ hin
    rw [Nat.add_mul, Nat.one_mul] at hm
    by_cases e1 : es = 1
    · subst e1
      simp only [Nat.mul_one, if_true] at hve
      have hi2 : i < c.size := by omega
      obtain ⟨v2, hv2, hr2, ho2⟩ := hcell i c[i] (Array.getElem?_eq_getElem hi2)
      have : v = v2 := by rw [hve, List.headD_eq_head?_getD, List.head?_drop, hv2]; rfl
      subst this
      rw [cells_of_one hr2 ho2]; rfl
    · rw [if_neg e1] at hve
      subst hve
      simp [V.cells]; omega
  · intro i v j y x hi hj hx
    obtain ⟨hin, hve⟩ := chunks_get _ _ _ _ _ hi
    have hm : (i + 1) * es ≤ len * es := Nat.mul_le_mul_right _ hin
    rw [Nat.add_mul, Nat.one_mul] at hm
    rw [Nat.zero_add] at hx
    by_cases e1 : es = 1
    · subst e1
      simp only [Nat.mul_one, if_true] at hve hx
      have hi2 : i < c.size := by omega
      obtain ⟨v2, hv2, hr2, ho2⟩ := hcell i c[i] (Array.getElem?_eq_getElem hi2)
      have : v = v2 := by rw [hve, List.headD_eq_head?_getD, List.head?_drop, hv2]; rfl
      subst this
      rw [cells_of_one hr2 ho2] at hj
      cases j with
      | zero =>
        simp at hj; subst hj
        rw [Nat.add_zero, Array.getElem?_eq_getElem hi2] at hx
        cases hx
        exact RelV.mono hle hr2
      | succ j => simp at hj
    · rw [if_neg e1] at hve
      subst hve
      simp only [V.cells] at hj
      rw [List.getElem?_take] at hj
      split at hj
      · rw [List.getElem?_drop] at hj
        obtain ⟨v2, hv2, hr2, ho2⟩ := hcell (i * es + j) x hx
        have : y = v2 := by rw [hv2] at hj; cases hj; rfl
        subst this
        exact RelV.mono hle hr2
      · cases hj
  · intro k y hk hy
    rw [Nat.zero_add] at hy
    exact (hcell k y hy).choose_spec.2.2

theorem buildSlice_sound {t : TypeId} {len : Nat} {parts : Array (Nat × Operand)} (ho : o.op = .buildSlice t len parts) (he : evOp E o st K = some r) (hr : RelA E.n ρ lo st a w) (hn : Owes E o st ρ lo w K r next) :
    o.wp E.P a w next Q := by
  unfold evOp at he
  simp only [ho, Option.bind_eq_some_iff] at he
  obtain ⟨e, hel, z, hz0, he⟩ := he
  have hu := elemOf_inv hel
  obtain ⟨i, v, hi, hz, hc⟩ := zeroCells_inv hz0
  split at he
  · rename_i hbig
    split at he
    · cases he
    · rename_i hne
      split at he
      · rename_i hzl
        have hzr := cstVs_relL ρ hc
        have hzp : 0 < z.length := by omega
        have hzs := zeros_rel hzr hzp len
        obtain ⟨cs', c', h1, h2, h3, he⟩ := buildS_inv hr (c := (Array.range (len * z.length)).map (fun i => v.cells[i % v.cells.size]!)) hzs he
        rw [repeatC_length] at h3
        have hrun : (execOp a.eval o).run E.P w = .ok (.value (.slice (some ⟨w.heap.size, 0, none⟩) len len)) (pushed w (.cells c' e)) := by
          have hm : (parts.map fun (p : Nat × Operand) => (p.1, a.eval p.2)).toList = parts.toList.map fun p => (p.1, a.eval p.2) := by simp
          have hpl : (fun i => (some (i * E.P.cellsOf e, e)).map fun p => (p.1, E.P.cellsOf p.2)) = fun i => some (i * E.P.cellsOf e, E.P.cellsOf e) := rfl
          rw [hpl] at h1
          unfold execOp
          simp only [ho, Instr.buildSlice, Sem.run_bind, run_underlying hu, Result.andThen_ok, run_sizeOf_ne hne]
          rw [if_neg (by omega)]
          by_cases h00 : len * E.P.cellsOf e = 0
          · have h01 : len * z.length = 0 := by rw [hzl]; exact h00
            rw [h01] at h1
            rw [if_pos h00, h00]
            have hr0 : Array.range 0 = #[] := rfl
            simp only [pure_bind, hm]
            rw [hr0] at h1 ⊢
            simp only [List.map_toArray, List.map_nil] at h1 ⊢
            rw [h1]
            simp [newRow, pushed]
          · have h01 : len * z.length = len * E.P.cellsOf e := by rw [hzl]
            rw [h01] at h1
            rw [if_neg h00]
            simp only [pure_bind, Sem.run_bind, run_zeroValue hi hz, Result.andThen_ok, hm, h1]
            simp [newRow, pushed]
        split at he
        · obtain ⟨ρ', g1, g2, g3⟩ := new_ro hr h2 e hne (by rw [h3, hzl]) (Nat.le_refl len)
          exact upon_of hrun (fin_sound he g1 (x := .v _) g3 g2 hn)
        · obtain ⟨ρ', g1, g2, _, g4⟩ := new_heap hr h2 e
          refine upon_of hrun (fin_sound he g1 (x := .v _) ?_ g2 hn)
          exact g4 len _ (by rw [h3, hzl]; omega) (some len) (fun c hc' => by cases hc'; exact ⟨Nat.le_refl _, by rw [h3, hzl]; omega⟩) len (Nat.le_refl _) (by rw [h3, hzl]; omega) (fun c hc' => by cases hc'; rfl)
      · cases he
  · cases he

theorem replicate_chunks (es : Nat) (z : List V) (hz : z.length = es) : ∀ n, List.replicate n (if es = 1 then z.headD default else V.agg z) = chunks es n (repeatC n z)
  | 0 => rfl
  | n + 1 => by
    simp only [List.replicate_succ, chunks, repeatC]
    rw [replicate_chunks es z hz n]
    congr 1
    · split
      · rename_i h1
        match z, hz with
        | [x], _ => rfl
        | [], h => simp at h; omega
        | x :: y :: r, h => simp at h; omega
      · rw [List.take_append_of_le_length (by omega), ← hz, List.take_length]
    · rw [List.drop_append_of_le_length (by omega), ← hz, List.drop_length, List.nil_append]

theorem makeSlice_sound {t : TypeId} {l c : Operand} (ho : o.op = .makeSlice t l c) (he : evOp E o st K = some r) (hr : RelA E.n ρ lo st a w) (hn : Owes E o st ρ lo w K r next) :
    o.wp E.P a w next Q := by
  unfold evOp at he
  simp only [ho] at he
  split at he
  · rename_i lv cv e hl hcv hel
    have hlv := opnd_int hr hl
    have hcvv := opnd_int hr hcv
    have hu := elemOf_inv hel
    simp only [Option.bind_eq_some_iff] at he
    obtain ⟨z, hz0, he⟩ := he
    obtain ⟨i, v, hi, hz, hc⟩ := zeroCells_inv hz0
    split at he
    · cases he
    · rename_i hne
      split at he
      · rename_i hzl
        split at he
        · rename_i hbytes
          split at he
          · rename_i h0
            split at he
            · rename_i hlc
              split at he
              · rename_i hbig
                have hzr := cstVs_relL ρ hc
                have hzp : 0 < z.length := by omega
                have hzs := zeros_rel hzr hzp cv.toNat
                have hb : E.P.bytesOf e = i.bytes := by simp [Program.bytesOf, hi]
                have hcs : E.P.cellsOf e = i.size := by simp [Program.cellsOf, hi]
                have hcap : cv ≤ mostCells := by
                  have h1 : cv * 1 ≤ cv * E.P.cellsOf e := Int.mul_le_mul_of_nonneg_left (by omega) (by omega)
                  omega
                have hroom : (i.bytes : Int) * cv ≤ 2 ^ 48 := by
                  have h1 : (i.bytes : Int) * cv ≤ (E.P.cellsOf e * 64 : Nat) * cv := Int.mul_le_mul_of_nonneg_right (by omega) (by omega)
                  have h2 : ((E.P.cellsOf e * 64 : Nat) : Int) * cv = 64 * (cv * E.P.cellsOf e) := by
                    rw [Int.natCast_mul, Int.mul_assoc, Int.mul_comm, Int.mul_assoc]; rfl
                  have h3 : (64 : Int) * (cv * E.P.cellsOf e) ≤ 64 * mostCells := by omega
                  have h4 : (64 : Int) * mostCells ≤ 2 ^ 48 := by decide
                  omega
                have hm : (mostCells : Int) = 4294967296 := by decide
                have hw : ∀ n : Int, 0 ≤ n → n ≤ mostCells → IntKind.i64.wrap n = n := by
                  intro n g1 g2
                  exact IntWalk.i64_in n ⟨by omega, by omega⟩
                have hrun : (execOp a.eval o).run E.P w = .ok (.value (.slice (some ⟨w.heap.size, 0, none⟩) lv.toNat cv.toNat)) (pushed w (.cells ((Array.range (cv.toNat * z.length)).map (fun i => v.cells[i % v.cells.size]!)) e)) := by
                  unfold execOp
                  simp only [ho, Instr.makeSlice, Sem.run_bind, run_underlying hu, Result.andThen_ok, hlv, hcvv, Go.asInt, asIntOf, Sem.run_pure, run_typeInfo hi, hw lv h0 (by omega), hw cv (by omega) hcap]
                  rw [if_neg (by simp; omega)]
                  simp only [Sem.run_bind, Result.andThen_ok, run_askRoom, run_sizeOf_ne hne]
                  by_cases h00 : cv.toNat * E.P.cellsOf e = 0
                  · have h01 : cv.toNat * z.length = 0 := by rw [hzl]; exact h00
                    have hr0 : Array.range 0 = #[] := rfl
                    simp [h00, h01, hr0, newRow, pushed]
                  · have h01 : cv.toNat * z.length = cv.toNat * E.P.cellsOf e := by rw [hzl]
                    rw [if_neg h00, h01]
                    simp [run_zeroValue hi hz, newRow, pushed]
                split at he
                · split at he
                  · rename_i hlceq
                    subst hlceq
                    obtain ⟨ρ', g1, g2, g3⟩ := new_ro hr hzs e hne (len := lv.toNat) (by rw [repeatC_length, hzl]) (Nat.le_refl lv.toNat)
                    rw [← replicate_chunks _ z hzl] at g3
                    exact upon_of hrun (fin_sound he g1 (x := .v _) g3 g2 hn)
                  · cases he
                · split at he
                  · obtain ⟨ρ', g1, g2, _, g4⟩ := new_heap hr hzs e
                    refine upon_of hrun (fin_sound he g1 (x := .v _) ?_ g2 hn)
                    have hmul : lv.toNat * E.P.cellsOf e ≤ cv.toNat * E.P.cellsOf e := Nat.mul_le_mul_right _ (by omega)
                    exact g4 lv.toNat _ (by rw [repeatC_length, hzl]; exact hmul) (some cv.toNat) (fun c hc' => by cases hc'; exact ⟨by omega, by rw [repeatC_length, hzl]; omega⟩) cv.toNat (by omega) (by rw [repeatC_length, hzl]; omega) (fun c hc' => by cases hc'; rfl)
                  obtain ⟨h', hfl, he⟩ := Option.bind_eq_some_iff.1 he
                  obtain ⟨ρ', g1, g2, g4⟩ := new_fill hr hzs e hfl
                  refine upon_of hrun (fin_sound he g1 (x := .v _) ?_ g2 hn)
                  have hmul : lv.toNat * E.P.cellsOf e ≤ cv.toNat * E.P.cellsOf e := Nat.mul_le_mul_right _ (by omega)
                  exact g4 lv.toNat _ (by rw [repeatC_length, hzl]; exact hmul) (some cv.toNat) (fun c hc' => by cases hc'; exact ⟨by omega, by rw [repeatC_length, hzl]; omega⟩) cv.toNat (by omega) (by rw [repeatC_length, hzl]; omega) (fun c hc' => by cases hc'; rfl)
              · cases he
            · cases he
          · cases he
        · cases he
      · cases he
  · cases he

end ops
end
end Go.L
