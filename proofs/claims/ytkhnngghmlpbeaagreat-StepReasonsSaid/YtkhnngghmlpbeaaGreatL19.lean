/- append: what we play is what the machine does. -/
import Derived.Test.YtkhnngghmlpbeaaGreatL18
namespace Go.L
noncomputable section

section ops
variable {R : Type} {E : Env} {o : Oper} {st : St} {K : St → Option R} {r : R} {ρ : Ren} {lo : Nat → Option Nat} {a : Act} {w : World}
  {next : Act → World → Prop} {Q : Exit → Act → World → Prop}

theorem lenOf_slice {P : Program} (ad : Option Addr) (n c : Nat) : (Builtin.lenOf (.slice ad n c)).run P w = .ok n w := rfl

theorem row_append {cs new : List V} {olds ys : List Value} (h1 : RelL ρ cs olds) (h2 : RelL ρ new ys) (z : Array Value) :
    ∀ (i : Nat) (x : V) (y : Value), (cs ++ new)[i]? = some x → (olds.toArray ++ ys.toArray ++ z)[i]? = some y → RelV ρ x y ∧ y.oneCell' = true := by
  intro i x y hx hy
  have hl1 := h1.1
  have hl2 := h2.1
  have hi : i < (cs ++ new).length := (List.getElem?_eq_some_iff.1 hx).1
  simp at hi
  rw [Array.getElem?_append_left (by simp; omega)] at hy
  by_cases hk : i < cs.length
  · rw [List.getElem?_append_left hk] at hx
    rw [Array.getElem?_append_left (by simp; omega)] at hy
    exact h1.2 i x y hx (by simpa using hy)
  · rw [List.getElem?_append_right (by omega)] at hx
    rw [Array.getElem?_append_right (by simp; omega)] at hy
    exact h2.2 _ x y hx (by simp at hy; rw [hl1]; exact hy)

/-- A row that has grown into new memory: as an object of its own. -/
theorem grown_new (hr : RelA E.n ρ lo st a w) {cs : List V} {c : Array Value} {e : TypeId} (hc : cs.length ≤ c.size)
    (hcc : ∀ (i : Nat) (x : V) (y : Value), cs[i]? = some x → c[i]? = some y → RelV ρ x y ∧ y.oneCell' = true) {w' : World} (hw : Pushes w w' (.cells c e)) {len es rc : Nat} (h3 : len ≤ rc) (h4 : rc * es ≤ c.size) :
    ∃ ρ', RelA E.n ρ' lo ⟨st.s, st.l, st.h ++ [.cells 0 cs]⟩ a w' ∧ Step ρ lo w ρ' lo w' ∧ RelV ρ' (.sl st.h.length 0 0 len es none) (.slice (some ⟨w.heap.size, 0, none⟩) len rc) := by
  have hn := hr.h.n
  have hro : RelO ρ ⟨w.heap.size, 0, c.size⟩ (.cells 0 cs) (.cells c e) :=
    ⟨by simp, hc, rfl, fun i x y hx hy => hcc i x y hx (by simpa using hy)⟩
  obtain ⟨hh, hs⟩ := add_rel (o := .cells 0 cs) hr.h hw rfl hro
  obtain ⟨h1, h2⟩ := hr.lift hh hs
  refine ⟨_, h1, h2, .sl _ 0 0 len es none _ rc (by simp [Ren.add, hn]) (Nat.zero_le _) h3 (fun c h => by cases h) fun g hv hg hp => ?_⟩
  simp [Ren.add, hn] at hg
  subst hg
  exact ⟨rfl, by simpa using h4⟩

set_option maxHeartbeats 2000000 in
theorem happ_rel {sT xT ty e e' : TypeId} (hu : E.P.underlying sT = some (.slice e)) (hu' : E.P.underlying xT = some (.slice e')) {inf : TypeInfo} {zv : Value} (hi : E.P.info? e = some inf) (hz : inf.zero = some zv) (hzs : zv.cells.size = E.P.cellsOf e)
    (hne : E.P.cellsOf e ≠ 0) (hbytes : E.P.bytesOf e ≤ E.P.cellsOf e * 64) (hr : RelA E.n ρ lo st a w) {s x v : V} {sv xv : Value} {h' : H} {cs : List V} (hs : RelV ρ s sv) (hx : RelV ρ x xv)
    (hsc : scells st.h x (E.P.cellsOf e) = some cs) (hap : happ st.h s (E.P.cellsOf e) (snlen x) cs = some (v, h')) :
    ∃ y w' ρ', (Builtin.append_ #[sT, xT] ty #[sv, xv]).run E.P w = .ok y w' ∧ RelA E.n ρ' lo ⟨st.s, st.l, h'⟩ a w' ∧ Step ρ lo w ρ' lo w' ∧ RelV ρ' v y := by
  obtain ⟨xad, xcap, ys, rfl, hys, hcl, hfc'⟩ := scells_rel (P := E.P) hr.h hx hne hsc
  have hfc := hfc' w rfl
  have hyl : ys.length = snlen x * E.P.cellsOf e := by rw [← hys.1]; exact hcl
  have hzc : ∀ n, (Builtin.zeroCells zv.cells n).size = n * E.P.cellsOf e := fun n => by simp [Builtin.zeroCells, hzs]
  unfold happ at hap
  split at hap
  · rename_i hk
    split at hap
    · rename_i hsl
      cases hap
      have hys0 : ys = [] := by
        rw [hk] at hcl
        have := hys.1
        simp at hcl
        rw [hcl] at this
        simpa using this.symm
      subst hys0
      have fits : ∀ base sLen sCap, sv = .slice base sLen sCap → sLen ≤ sCap → ∃ y w' ρ', (Builtin.append_ #[sT, xT] ty #[sv, .slice xad (snlen x) xcap]).run E.P w = .ok y w' ∧ RelA E.n ρ' lo ⟨st.s, st.l, st.h⟩ a w' ∧ Step ρ lo w ρ' lo w' ∧ RelV ρ' s y := by
        intro base sLen sCap hsv hle
        subst hsv
        have := append_fits (P := E.P) (ty := ty) (sLen := sLen) (sCap := sCap) (base := base) hu hu' hne (lenOf_slice xad (snlen x) xcap) hfc (by omega) (w' := w) (by cases base <;> rfl)
        rw [hk, Nat.add_zero] at this
        rw [hk]
        exact ⟨_, w, ρ, this, hr, Step.refl _ _ _, hs⟩
      cases s <;> simp [isSl] at hsl
      · cases hs; exact fits _ _ _ rfl (Nat.le_refl _)
      · cases hs with
        | sl _ _ _ _ _ _ _ _ _ _ h3 _ _ => exact fits _ _ _ rfl h3
      · cases hs with
        | rs0 => exact fits _ _ _ rfl (Nat.zero_le _)
        | rs _ _ _ _ _ _ _ _ h0 => exact fits _ _ _ rfl h0
    · cases hap
  · rename_i hk
    cases s with
    | nils =>
      simp only at hap
      split at hap
      · rename_i hbig
        cases hap
        cases hs
        obtain ⟨newCap, w', h1, h2, h3⟩ := append_grows (P := E.P) (ty := ty) (base := none) (sLen := 0) (sCap := 0) (olds := []) hu hu' hi hz hne (lenOf_slice xad (snlen x) xcap) hfc' (fun w' _ => rfl) (by omega) (by simpa using hbig) hbytes
        simp only [Nat.zero_add] at h1 h2 h3
        obtain ⟨ρ', g1, g2, g3⟩ := grown_new (cs := cs) (es := E.P.cellsOf e) hr (c := ([] : List Value).toArray ++ ys.toArray ++ Builtin.zeroCells zv.cells (newCap - snlen x)) (by simp; omega)
          (row_append (cs := []) ⟨rfl, by simp⟩ hys _) h3 h1 (by
            simp only [Array.size_append, hzc, List.size_toArray, List.length_nil, hyl]
            have : newCap * E.P.cellsOf e = snlen x * E.P.cellsOf e + (newCap - snlen x) * E.P.cellsOf e := by rw [← Nat.add_mul]; congr 1; omega
            omega)
        exact ⟨_, w', ρ', h2, g1, g2, g3⟩
      · cases hap
    | sl id ver off len es cap =>
      simp only at hap
      by_cases he : es = E.P.cellsOf e
      · subst he
        rw [if_pos rfl] at hap
        cases hid : st.h[id]? with
        | none => rw [hid] at hap; cases hap
        | some ob =>
          rw [hid] at hap
          cases ob with
          | cells v0 cs0 =>
            simp only at hap
            by_cases hv : v0 = ver
            · subst hv
              rw [if_pos rfl] at hap
              by_cases hle : off + len * E.P.cellsOf e ≤ cs0.length
              · rw [if_pos hle] at hap
                by_cases hbig : (len + snlen x) * E.P.cellsOf e ≤ mostCells
                · rw [if_pos hbig] at hap
                  have hsl : scells st.h (.sl id v0 off len (E.P.cellsOf e) cap) (E.P.cellsOf e) = some ((cs0.drop off).take (len * E.P.cellsOf e)) := by
                    simp [scells, rdN, hid, hle]
                  obtain ⟨oad, ocap, olds, hsv, holds, holen, hof⟩ := scells_rel (P := E.P) hr.h hs hne hsl
                  subst hsv
                  simp only [snlen] at hof holen
                  have hsl0 := hs
                  obtain ⟨g, hg⟩ := hr.h.live id _ hid rfl
                  obtain ⟨o1, ob, ho1, hwb, hro, hver⟩ := hr.h.obj id g hg
                  rw [hid] at ho1
                  cases ho1
                  cases ob with
                  | cells c et fr =>
                    obtain ⟨q1, q2, q3, q4⟩ := hro
                    cases hs with
                    | sl _ _ _ _ _ _ ad _ k1 k2 k3 k4 k5 =>
                      have hmul : (len + snlen x) * E.P.cellsOf e = len * E.P.cellsOf e + snlen x * E.P.cellsOf e := Nat.add_mul _ _ _
                      -- the machine's row, written behind the slice
                      have inplace : len + snlen x ≤ ocap → ∃ w', (Builtin.append_ #[sT, xT] ty #[.slice (some ad) len ocap, .slice xad (snlen x) xcap]).run E.P w = .ok (.slice (some ad) (len + snlen x) ocap) w' ∧
                          ad = ⟨g.blk, g.base + off, none⟩ ∧ off + ocap * E.P.cellsOf e ≤ g.size ∧
                          w' = w.setRow g.blk (c.toList.take (g.base + off + len * E.P.cellsOf e) ++ ys ++ c.toList.drop (g.base + off + len * E.P.cellsOf e + ys.length)).toArray := by
                        intro hfit
                        obtain ⟨e1, e2⟩ := k5 g hver.symm hg (by omega)
                        have hm2 : (len + snlen x) * E.P.cellsOf e ≤ ocap * E.P.cellsOf e := Nat.mul_le_mul_right _ hfit
                        have hst := run_storeCells_atF E.P g.blk (g.base + off + len * E.P.cellsOf e) et fr ys 0 c w hwb (by omega) (by omega) hys.one
                        simp only [Nat.add_zero] at hst
                        refine ⟨_, append_fits (P := E.P) (ty := ty) hu hu' hne (lenOf_slice xad (snlen x) xcap) hfc hfit (w' := w.setRow g.blk _) ?_, e1, e2, rfl⟩
                        show ((storeCells (ad.add (len * E.P.cellsOf e)) ys 0).run E.P w) = _
                        rw [e1, add_none]
                        exact hst
                      have grows : ocap < len + snlen x → ∃ newCap w', len + snlen x ≤ newCap ∧ (Builtin.append_ #[sT, xT] ty #[.slice (some ad) len ocap, .slice xad (snlen x) xcap]).run E.P w = .ok (.slice (some ⟨w.heap.size, 0, none⟩) (len + snlen x) newCap) w' ∧
                          Pushes w w' (.cells (olds.toArray ++ ys.toArray ++ Builtin.zeroCells zv.cells (newCap - (len + snlen x))) e) ∧
                          (olds.toArray ++ ys.toArray ++ Builtin.zeroCells zv.cells (newCap - (len + snlen x))).size = newCap * E.P.cellsOf e := by
                        intro hgr
                        obtain ⟨newCap, w', h1, h2, h3⟩ := append_grows (P := E.P) (ty := ty) (base := some ad) (sLen := len) (sCap := ocap) (olds := olds) hu hu' hi hz hne (lenOf_slice xad (snlen x) xcap) hfc' hof hgr hbig hbytes
                        refine ⟨newCap, w', h1, h2, h3, ?_⟩
                        have hol : olds.length = len * E.P.cellsOf e := by rw [← holds.1]; exact holen
                        simp only [Array.size_append, hzc, List.size_toArray, hyl, hol]
                        have : newCap * E.P.cellsOf e = (len + snlen x) * E.P.cellsOf e + (newCap - (len + snlen x)) * E.P.cellsOf e := by rw [← Nat.add_mul]; congr 1; omega
                        omega
                      have hol : olds.length = len * E.P.cellsOf e := by rw [← holds.1]; exact holen
                      cases cap with
                      | none =>
                        simp only at hap
                        cases hap
                        by_cases hfit : len + snlen x ≤ ocap
                        · obtain ⟨w', hrun, e1, e2, hw'⟩ := inplace hfit
                          have hm2 : (len + snlen x) * E.P.cellsOf e ≤ ocap * E.P.cellsOf e := Nat.mul_le_mul_right _ hfit
                          have hnew : w'.heap[g.blk]? = some (.cells (c.toList.take (g.base + off + len * E.P.cellsOf e) ++ ys ++ c.toList.drop (g.base + off + len * E.P.cellsOf e + ys.length)).toArray et fr) := by
                            rw [hw']; exact heap_setRow hwb
                          have hoth : ∀ b, b < w.heap.size → b ≠ g.blk → w'.heap[b]? = w.heap[b]? := fun b _ hb => by rw [hw']; exact setRow_other w g.blk b _ hb
                          have hsz : w'.heap.size = w.heap.size := by rw [hw']; simp
                          obtain ⟨hh, hs'⟩ := move_rel (g' := ⟨g.blk, g.base + off, g.size - off⟩) (cs' := (cs0.drop off).take (len * E.P.cellsOf e) ++ cs) hr.h hg hid hnew
                            ⟨by simp; omega, by simp; omega, q3, fun i u z hu' hz' => by
                              dsimp only at hz'
                              rw [List.getElem?_toArray, spl_get _ _ _ _ (by simp; omega)] at hz'
                              by_cases hil : i < len * E.P.cellsOf e
                              · rw [List.getElem?_append_left (by simp; omega), List.getElem?_take, if_pos hil, List.getElem?_drop] at hu'
                                rw [if_pos (by omega)] at hz'
                                exact q4 (off + i) u z hu' (by rw [Array.getElem?_toList] at hz'; rw [← hz']; congr 1; omega)
                              · rw [List.getElem?_append_right (by simp; omega)] at hu'
                                have hin : i - len * E.P.cellsOf e < cs.length := by
                                  have := (List.getElem?_eq_some_iff.1 hu').1
                                  simp at this; omega
                                rw [if_neg (by omega), if_pos (by omega)] at hz'
                                refine hys.2 (i - len * E.P.cellsOf e) u z ?_ (by rw [← hz']; congr 1; omega)
                                rw [← hu']; congr 1; simp; omega⟩
                            (by rw [hw']; exact still_setRow hwb q3) (by omega) (.inl rfl) hoth
                          obtain ⟨g1, g2⟩ := hr.lift hh hs'
                          refine ⟨_, w', _, hrun, g1, g2, ?_⟩
                          refine .sl _ _ 0 _ _ none _ _ k1 (by simp [Ren.move, hver, O.ver]) hfit (fun c h => by cases h) fun g3 hv3 hg3 hp3 => ?_
                          simp [Ren.move] at hg3
                          subst hg3
                          exact ⟨by rw [e1]; rfl, by simp; omega⟩
                        · obtain ⟨newCap, w', h1, hrun, h3, h4⟩ := grows (by omega)
                          have hnew : w'.heap[w.heap.size]? = some (.cells (olds.toArray ++ ys.toArray ++ Builtin.zeroCells zv.cells (newCap - (len + snlen x))) e) := by rw [h3.heap]; simp
                          have hm2 : (len + snlen x) * E.P.cellsOf e ≤ newCap * E.P.cellsOf e := Nat.mul_le_mul_right _ h1
                          obtain ⟨hh, hs'⟩ := move_rel (g' := ⟨w.heap.size, 0, newCap * E.P.cellsOf e⟩) (cs' := (cs0.drop off).take (len * E.P.cellsOf e) ++ cs) hr.h hg hid hnew
                            ⟨by rw [h4]; simp, by simp; omega, rfl, fun i u z hu' hz' => row_append holds hys _ i u z hu' (by simpa using hz')⟩
                            (h3.still rfl) (by rw [h3.heap]; simp) (.inr (Nat.le_refl _)) (fun b hb _ => heap_push h3.heap hb)
                          obtain ⟨g1, g2⟩ := hr.lift hh hs'
                          refine ⟨_, w', _, hrun, g1, g2, ?_⟩
                          refine .sl _ _ 0 _ _ none _ _ k1 (by simp [Ren.move, hver, O.ver]) h1 (fun c h => by cases h) fun g3 hv3 hg3 hp3 => ?_
                          simp [Ren.move] at hg3
                          subst hg3
                          exact ⟨rfl, by simp⟩
                      | some c1 =>
                        have hrc : ocap = c1 := k4 c1 rfl
                        subst hrc
                        simp only at hap
                        by_cases hfit : len + snlen x ≤ ocap
                        · rw [if_pos hfit] at hap
                          by_cases hin : off + (len + snlen x) * E.P.cellsOf e ≤ cs0.length
                          · rw [if_pos hin] at hap
                            cases hap
                            obtain ⟨w', hrun, e1, e2, hw'⟩ := inplace hfit
                            have hnew : w'.heap[g.blk]? = some (.cells (c.toList.take (g.base + (off + len * E.P.cellsOf e)) ++ ys ++ c.toList.drop (g.base + (off + len * E.P.cellsOf e) + ys.length)).toArray et fr) := by
                              rw [hw', ← Nat.add_assoc]; exact heap_setRow hwb
                            have hoth : ∀ b, b ≠ g.blk → w'.heap[b]? = w.heap[b]? := fun b hb => by rw [hw']; exact setRow_other w g.blk b _ hb
                            have hsz : w'.heap.size = w.heap.size := by rw [hw']; simp
                            have hspl : off + len * E.P.cellsOf e + cs.length ≤ cs0.length := by omega
                            have hh := hr.h.set_cells (o' := .cells v0 (splice cs0 (off + len * E.P.cellsOf e) cs)) hg hid rfl hnew
                              ⟨by simp; omega, by rw [splice_length _ _ _ hspl]; exact q2, q3, row_spliced hys hspl (by omega) q4⟩ hoth
                            refine ⟨_, w', ρ, hrun, hr.of_heap hh hsz hg hoth, step_in hsz hg (by rw [hw']; exact still_setRow hwb q3) hoth, ?_⟩
                            exact .sl _ _ _ _ _ _ _ _ k1 k2 hfit k4 k5
                          · rw [if_neg hin] at hap; cases hap
                        · rw [if_neg hfit] at hap
                          cases hap
                          obtain ⟨newCap, w', h1, hrun, h3, h4⟩ := grows (by omega)
                          have hm2 : (len + snlen x) * E.P.cellsOf e ≤ newCap * E.P.cellsOf e := Nat.mul_le_mul_right _ h1
                          obtain ⟨ρ', g1, g2, g3⟩ := grown_new (cs := (cs0.drop off).take (len * E.P.cellsOf e) ++ cs) (es := E.P.cellsOf e) hr (by rw [h4]; simp; omega)
                            (row_append holds hys _) h3 h1 (by rw [h4]; omega)
                          exact ⟨_, w', ρ', hrun, g1, g2, g3⟩
                  | _ => exact hro.elim
                · rw [if_neg hbig] at hap; cases hap
              · rw [if_neg hle] at hap; cases hap
            · rw [if_neg hv] at hap; cases hap
          | map _ => cases hap
          | dead => cases hap
          | rsv => cases hap
      · rw [if_neg he] at hap; cases hap
    | _ => cases hap

end ops
end
end Go.L
