/- An argument of leaves alone, opened into its leaves at once. -/
import Derived.Test.YtkhnngghmlpbeaaGreatL36
namespace Go.L
noncomputable section
open Go

def wfL : (l : LK) → l.T → Prop
  | .int k, n => (Lit.int k n).wf = true
  | .str, s => s.size ≤ maxLen
  | _, _ => True

def wfLs : (ls : List LK) → {E : Type} → TupL ls E → Prop
  | [], _, _ => True
  | l :: r, _, t => wfL l t.1 ∧ wfLs r t.2

def catL : (a : List LK) → {b : List LK} → TupL a Unit → TupL b Unit → TupL (a ++ b) Unit
  | [], _, _, y => y
  | _ :: r, _, x, y => (x.1, catL r x.2 y)

theorem catL_dec : ∀ (a : List LK) {b : List LK} (x : TupL a Unit) (y : TupL b Unit), (decLs (a ++ b) (catL a x y)).1 = (decLs a x).1 ++ (decLs b y).1
  | [], _, x, y => rfl
  | l :: r, b, x, y => by
    show l.toV x.1 :: (decLs (r ++ b) (catL r x.2 y)).1 = l.toV x.1 :: (decLs r x.2).1 ++ (decLs b y).1
    rw [catL_dec r x.2 y, List.cons_append]

theorem catL_wf : ∀ (a : List LK) {b : List LK} (x : TupL a Unit) (y : TupL b Unit), wfLs a x → wfLs b y → wfLs (a ++ b) (catL a x y)
  | [], _, _, _, _, h => h
  | _ :: r, _, x, y, h, h' => ⟨h.1, catL_wf r x.2 y h.2 h'⟩

section
variable {P : Program}

theorem collect_of {f : TypeId → Option (List LK)} : ∀ (ts : List TypeId) (ls : List LK) (vss : List (List V)), collect f ts = some ls → vss.length = ts.length →
    (∀ (j : Nat) (t : TypeId) (vs : List V) (l : List LK), ts[j]? = some t → vss[j]? = some vs → f t = some l → ∃ x : TupL l Unit, (decLs l x).1 = vs ∧ wfLs l x) →
    ∃ x : TupL ls Unit, (decLs ls x).1 = vss.flatten ∧ wfLs ls x
  | [], ls, vss, hc, hl, _ => by
    cases hc
    have : vss = [] := List.eq_nil_of_length_eq_zero (by simpa using hl)
    subst this
    exact ⟨(), rfl, trivial⟩
  | t :: ts, ls, vss, hc, hl, h => by
    cases vss with
    | nil => simp at hl
    | cons vs vss =>
      obtain ⟨a, ha, hc⟩ := Option.bind_eq_some_iff.1 hc
      obtain ⟨b, hb, hc⟩ := Option.bind_eq_some_iff.1 hc
      cases hc
      obtain ⟨x, hx, wx⟩ := h 0 t vs a rfl rfl ha
      obtain ⟨y, hy, wy⟩ := collect_of ts b vss hb (by simpa using hl) fun j t vs l h1 h2 h3 => h (j + 1) t vs l (by simpa using h1) (by simpa using h2) h3
      exact ⟨catL a x y, by rw [catL_dec, hx, hy, List.flatten_cons], catL_wf a x y wx wy⟩

theorem leaves_of (hK : Kids P (· < P.types.size)) : ∀ (n m : Nat) (t : TypeId) (vs : List V) (ls : List LK), dataV P n t vs → leaves P m t = some ls → t < P.types.size → ∃ x : TupL ls Unit, (decLs ls x).1 = vs ∧ wfLs ls x
  | 0, _, _, _, _, h, _, _ => h.elim
  | n + 1, 0, _, _, _, _, hl, _ => by cases hl
  | n + 1, m + 1, t, vs, ls, h, hl, ht => by
    unfold dataV at h
    unfold leaves at hl
    cases hu : P.underlying t with
    | none => rw [hu] at h; exact h.elim
    | some u =>
      rw [hu] at h hl
      cases u with
      | bool => cases hl; obtain ⟨b, rfl⟩ := h; exact ⟨(b, ()), rfl, trivial, trivial⟩
      | int k => cases hl; obtain ⟨b, rfl, hw⟩ := h; exact ⟨(b, ()), rfl, hw, trivial⟩
      | string => cases hl; obtain ⟨b, rfl, hw⟩ := h; exact ⟨(b, ()), rfl, hw, trivial⟩
      | slice e => cases hl; obtain ⟨xs, rfl, _⟩ := h; exact ⟨(V.rs (P.cellsOf e) xs, ()), rfl, trivial, trivial⟩
      | struct fs =>
        obtain ⟨hlen, hf⟩ := h
        obtain ⟨hty, hsum, hoff⟩ := hK.struct ht hu
        let lens := fs.toList.map fun f => P.cellsOf f.type
        have hfl := flat_pieces lens vs (by rw [hlen, hsum])
        have := collect_of (f := leaves P m) (fs.toList.map (·.type)) ls ((List.range lens.length).map fun j => (vs.drop (lens.take j).sum).take (lens.getD j 0)) hl (by simp [lens]) (fun j t' vs' l h1 h2 h3 => by
          rw [List.getElem?_map] at h1 h2
          have hj : j < fs.toList.length := by
            rcases Nat.lt_or_ge j fs.toList.length with h | h
            · exact h
            · rw [List.getElem?_eq_none h] at h1; cases h1
          have hfj : fs.toList[j]? = some fs.toList[j] := List.getElem?_eq_getElem hj
          rw [hfj] at h1
          simp only [Option.map_some, Option.some.injEq] at h1
          subst h1
          rw [List.getElem?_range (by simp only [lens, List.length_map]; exact hj)] at h2
          simp only [Option.map_some, Option.some.injEq] at h2
          have e1 : (vs.drop (lens.take j).sum).take (lens.getD j 0) = (vs.drop (fs.toList[j]).offset).take (P.cellsOf (fs.toList[j]).type) := by
            rw [hoff j _ hfj, ← List.map_take]
            simp only [lens, List.getD_eq_getElem?_getD, List.getElem?_map, hfj, Option.map_some, Option.getD_some]
          rw [e1] at h2
          subst h2
          exact leaves_of hK n m _ _ _ (hf j _ (by simp)) h3 (hty _ (List.getElem_mem hj)))
        rw [hfl] at this
        exact this
      | array k e => cases hl
      | _ => exact h.elim

end
end
end Go.L
