/- A law's arguments: what is read of memory as plain values; and read again behind the call. -/
import Derived.Test.YtkhnngghmlpbeaaGreatL32
import Derived.ReadAgain
import Derived.ChangeArms
import Derived.OpenShut
import Derived.ChangeSame
import Derived.RowKit
import GoSem.ClaimJoined
namespace Go.L
noncomputable section
open Go

def mkE (es : Nat) (cs : List V) : V := if es = 1 then cs.headD default else .agg cs

/-- What the cells of an argument of a type are. -/
def dataV (P : Program) : Nat → TypeId → List V → Prop
  | 0, _, _ => False
  | n + 1, t, vs => match P.underlying t with
    | some .bool => ∃ b, vs = [.bool b]
    | some (.int k) => ∃ m, vs = [.int k m] ∧ (Lit.int k m).wf = true
    | some .string => ∃ s, vs = [.str s] ∧ s.size ≤ maxLen
    | some (.slice e) => ∃ xs, vs = [.rs (P.cellsOf e) xs] ∧ xs.length ≤ maxLen ∧ ∀ x ∈ xs, dataV P n e x.cells ∧ x = mkE (P.cellsOf e) x.cells
    | some (.struct fs) => vs.length = P.cellsOf t ∧ ∀ (i : Nat) (f : Field), fs[i]? = some f → dataV P n f.type ((vs.drop f.offset).take (P.cellsOf f.type))
    | some (.array m e) => vs.length = P.cellsOf t ∧ ∀ i, i < m → dataV P n e ((vs.drop (i * P.cellsOf e)).take (P.cellsOf e))
    | _ => False

mutual
/-- How much a value holds. -/
def V.sz : V → Nat
  | .str s => s.size + 1
  | .rs _ xs => V.szs xs + 1
  | .agg cs => V.szs cs
  | _ => 1
def V.szs : List V → Nat
  | [] => 0
  | v :: r => v.sz + V.szs r
end

theorem szs_append : ∀ (a b : List V), V.szs (a ++ b) = V.szs a + V.szs b
  | [], b => by simp [V.szs]
  | v :: a, b => by simp only [List.cons_append, V.szs, szs_append a b]; omega

theorem szs_cells (v : V) : V.szs v.cells = v.sz := by
  cases v <;> simp [V.cells, V.szs, V.sz]

theorem szs_le : ∀ {xs : List V}, (∀ x ∈ xs, 1 ≤ x.sz) → xs.length ≤ V.szs xs
  | [], _ => by simp
  | x :: xs, h => by
    have := szs_le (xs := xs) fun y hy => h y (List.mem_cons_of_mem _ hy)
    have := h x (List.mem_cons_self ..)
    simp only [List.length_cons, V.szs]; omega

/-- A measure of what was read. -/
structure MuOk {K : Type} (mu : DataW K → Nat) : Prop where
  one : ∀ d, 1 ≤ mu d
  str : ∀ l : List UInt8, l.length + 1 ≤ mu (.lit (.string l))
  slice : ∀ es sp, (es.map mu).sum + 1 ≤ mu (.slice es sp)
  agg : ∀ ps, (ps.map mu).sum ≤ mu (.agg ps)

theorem szs_flatten {K : Type} {mu : DataW K → Nat} : ∀ (L : List (List V)) (ds : List (DataW K)), L.length = ds.length → (∀ (i : Nat) l d, L[i]? = some l → ds[i]? = some d → V.szs l ≤ mu d) → V.szs L.flatten ≤ (ds.map mu).sum
  | [], [], _, _ => by simp [V.szs]
  | l :: L, d :: ds, hl, h => by
    simp only [List.flatten_cons, szs_append, List.map_cons, List.sum_cons]
    have := h 0 l d rfl rfl
    have := szs_flatten L ds (by simpa using hl) fun i l d h1 h2 => h (i + 1) l d (by simpa using h1) (by simpa using h2)
    omega
  | [], _ :: _, hl, _ => by simp at hl
  | _ :: _, [], hl, _ => by simp at hl

theorem szs_list {K : Type} {mu : DataW K → Nat} : ∀ (xs : List V) (ds : List (DataW K)), xs.length = ds.length → (∀ (i : Nat) l d, xs[i]? = some l → ds[i]? = some d → l.sz ≤ mu d) → V.szs xs ≤ (ds.map mu).sum
  | [], [], _, _ => by simp [V.szs]
  | l :: L, d :: ds, hl, h => by
    simp only [V.szs, List.map_cons, List.sum_cons]
    have := h 0 l d rfl rfl
    have := szs_list L ds (by simpa using hl) fun i l d h1 h2 => h (i + 1) l d (by simpa using h1) (by simpa using h2)
    omega
  | [], _ :: _, hl, _ => by simp at hl
  | _ :: _, [], hl, _ => by simp at hl

/-- Types of such arguments. -/
def flatT (P : Program) : Nat → TypeId → Bool
  | 0, _ => false
  | n + 1, t => match P.underlying t with
    | some .bool | some (.int _) | some .string => true
    | some (.slice e) => flatT P n e && !(P.cellsOf e == 0)
    | some (.struct fs) => fs.toList.all fun f => flatT P n f.type
    | some (.array _ e) => flatT P n e
    | _ => false

structure RelC1 (ρ : Ren) (v : V) (x : Value) : Prop where
  rel : RelV ρ v x
  one : x.oneCell' = true
  leaf : v.cells = [v]

/-! Lists -/
theorem flat_pieces {α : Type} : ∀ (lens : List Nat) (cs : List α), cs.length = lens.sum →
    ((List.range lens.length).map fun j => (cs.drop (lens.take j).sum).take (lens.getD j 0)).flatten = cs
  | [], cs, h => by
    have : cs = [] := List.eq_nil_of_length_eq_zero (by simpa using h)
    subst this; rfl
  | l :: r, cs, h => by
    simp only [List.sum_cons] at h
    have ih := flat_pieces r (cs.drop l) (by simp; omega)
    rw [List.length_cons, List.range_succ_eq_map, List.map_cons, List.map_map, List.flatten_cons]
    simp only [List.take_zero, List.sum_nil, List.drop_zero, List.getD_cons_zero]
    have e : ((fun j => (cs.drop ((l :: r).take j).sum).take ((l :: r).getD j 0)) ∘ Nat.succ) = fun j => ((cs.drop l).drop (r.take j).sum).take (r.getD j 0) := by
      funext j
      simp [List.drop_drop]
    rw [e, ih, List.take_append_drop]

theorem piece_flat {α : Type} : ∀ (L : List (List α)) (j : Nat) (x : List α), L[j]? = some x → ((L.flatten).drop ((L.map List.length).take j).sum).take x.length = x
  | [], j, x, h => by simp at h
  | l :: r, 0, x, h => by simp at h; subst h; simp
  | l :: r, j + 1, x, h => by
    simp only [List.getElem?_cons_succ] at h
    have := piece_flat r j x h
    simp only [List.map_cons, List.take_succ_cons, List.sum_cons, List.flatten_cons]
    rw [← List.drop_drop, List.drop_left]
    exact this

theorem choose_list {α : Type} {p : Nat → α → Prop} : ∀ (n : Nat), (∀ i, i < n → ∃ x, p i x) → ∃ L : List α, L.length = n ∧ ∀ i x, L[i]? = some x → p i x
  | 0, _ => ⟨[], rfl, by simp⟩
  | n + 1, h => by
    obtain ⟨L, hl, hL⟩ := choose_list n fun i hi => h i (by omega)
    obtain ⟨x, hx⟩ := h n (by omega)
    refine ⟨L ++ [x], by simp [hl], fun i y hy => ?_⟩
    by_cases hi : i < L.length
    · rw [List.getElem?_append_left hi] at hy; exact hL i y hy
    · rw [List.getElem?_append_right (by omega)] at hy
      have : i = n := by
        have := (List.getElem?_eq_some_iff.1 hy).1
        simp at this; omega
      subst this
      simp [hl] at hy
      subst hy; exact hx

/-- Alike, one by one. -/
inductive All2 {α β : Type} (R : α → β → Prop) : List α → List β → Prop
  | nil : All2 R [] []
  | cons {a b l m} : R a b → All2 R l m → All2 R (a :: l) (b :: m)

theorem All2.length {α β : Type} {R : α → β → Prop} {l : List α} {m : List β} (h : All2 R l m) : l.length = m.length := by
  induction h with
  | nil => rfl
  | cons _ _ ih => simp [ih]

theorem All2.append {α β : Type} {R : α → β → Prop} {l l' : List α} {m m' : List β} (h : All2 R l m) (h' : All2 R l' m') : All2 R (l ++ l') (m ++ m') := by
  induction h with
  | nil => exact h'
  | cons h1 _ ih => exact .cons h1 ih

theorem All2.get {α β : Type} {R : α → β → Prop} {l : List α} {m : List β} (h : All2 R l m) : ∀ (i : Nat) (a : α) (b : β), l[i]? = some a → m[i]? = some b → R a b := by
  induction h with
  | nil => simp
  | cons h1 _ ih =>
    intro i a b ha hb
    cases i with
    | zero => simp at ha hb; subst ha; subst hb; exact h1
    | succ i => simp at ha hb; exact ih i a b ha hb

theorem All2.flatten {α β : Type} {R : α → β → Prop} : ∀ {L : List (List α)} {M : List (List β)}, L.length = M.length → (∀ (i : Nat) (l : List α) (m : List β), L[i]? = some l → M[i]? = some m → All2 R l m) → All2 R L.flatten M.flatten
  | [], [], _, _ => .nil
  | l :: L, m :: M, hl, h => by
    simp only [List.flatten_cons]
    exact (h 0 l m rfl rfl).append (All2.flatten (by simpa using hl) fun i a b ha hb => h (i + 1) a b (by simpa using ha) (by simpa using hb))
  | [], _ :: _, hl, _ => by simp at hl
  | _ :: _, [], hl, _ => by simp at hl

section
variable {K : Type} {enc : TypeId × Value → K} {P : Program} {W : World}

theorem cells?_get {base : Nat} {a : Addr} {n : Nat} {cs : List Value} (h : W.cells? base a n = some cs) : cs.length = n ∧ ∀ i, i < n → W.cell? (a.add i) = cs[i]? := by
  unfold World.cells? at h
  split at h
  · exact ⟨by simpa using mapM_some_length h, fun i hi => mapM_some_get h i i (by simp [hi])⟩
  · cases h

theorem cell?_inv {a : Addr} {v : Value} (h : W.cell? a = some v) : ∃ c e fr, W.heap[a.block]? = some (.cells c e fr) ∧ a.spot = none ∧ c[a.off]? = some v := by
  unfold World.cell? at h
  split at h
  · rename_i c e fr hb
    split at h
    · cases h
    · rename_i hs
      exact ⟨c, e, fr, hb, by simpa using hs, h⟩
  · cases h

theorem mkE_cells {es : Nat} {vs : List V} {cs : List Value} (h : All2 (RelC1 (Ren.all W)) vs cs) (hl : cs.length = es) : (mkE es vs).cells = vs := by
  unfold mkE
  split
  · rename_i h1
    cases h with
    | nil => simp at hl; omega
    | cons hr h' =>
      cases h' with
      | nil => simp only [List.headD_cons]; exact hr.leaf
      | cons _ _ => simp at hl; omega
  · rfl

/-- What is read of memory, as plain values. -/
theorem data_of_trod (hK : Kids P (· < P.types.size)) {sp : Nat → Bool} {held : Bool} : ∀ (n fuel : Nat) (t : TypeId) (cs : List Value) (x : DataW K × List MemPlace), flatT P n t = true → t < P.types.size →
    DataW.trod enc P W 0 sp held fuel t cs = some x → ∃ vs, All2 (RelC1 (Ren.all W)) vs cs ∧ dataV P n t vs ∧ ∀ mu : DataW K → Nat, MuOk mu → V.szs vs ≤ mu x.1
  | 0, _, _, _, _, hf, _, _ => by cases hf
  | n + 1, fuel, t, cs, x, hf, ht, h => by
    have ih := data_of_trod hK (sp := sp) (held := held) n
    unfold flatT at hf
    cases hu : P.underlying t with
    | none => rw [hu] at hf; cases hf
    | some u =>
      rw [hu] at hf
      cases u with
      | bool =>
        obtain ⟨b, rfl, _⟩ := DataW.trod_bool hu h
        exact ⟨[.bool b], .cons ⟨.bool b, rfl, rfl⟩ .nil, by unfold dataV; rw [hu]; exact ⟨b, rfl⟩, fun mu hmu => by have := hmu.one x.1; simpa [V.szs, V.sz] using this⟩
      | int k =>
        obtain ⟨m, rfl, _, hw⟩ := DataW.trod_int hu h
        exact ⟨[.int k m], .cons ⟨.int k m, rfl, rfl⟩ .nil, by unfold dataV; rw [hu]; exact ⟨m, rfl, hw⟩, fun mu hmu => by have := hmu.one x.1; simpa [V.szs, V.sz] using this⟩
      | string =>
        obtain ⟨s, rfl, hx, hs⟩ := DataW.trod_string hu h
        exact ⟨[.str s], .cons ⟨.str s, rfl, rfl⟩ .nil, by unfold dataV; rw [hu]; exact ⟨s, rfl, hs⟩, fun mu hmu => by
          have := hmu.str s.data.toList
          rw [hx]
          have e : s.size = s.data.toList.length := by
            show s.data.size = _
            exact (Array.length_toList).symm
          simp only [V.szs, V.sz]; omega⟩
      | slice e =>
        simp only [Bool.and_eq_true] at hf
        have hes : P.cellsOf e ≠ 0 := by simpa using hf.2
        have he := hK.slice ht hu
        rcases DataW.trod_slice hu h with ⟨rfl, _⟩ | ⟨a, len, cap, elems, rest, m, _, rfl, hx, hb, hlc, hcm, hlen, hel, _, _⟩
        · exact ⟨[.rs (P.cellsOf e) []], .cons ⟨.rs0 _ none 0 (fun _ => rfl), rfl, rfl⟩ .nil, by unfold dataV; rw [hu]; exact ⟨[], rfl, by simp, by simp⟩, fun mu hmu => by have := hmu.one x.1; simpa [V.szs, V.sz] using this⟩
        · have key : ∀ i, i < len → ∃ v : V, ∃ ci : List Value, W.cells? 0 (a.add (i * P.cellsOf e)) (P.cellsOf e) = some ci ∧ All2 (RelC1 (Ren.all W)) v.cells ci ∧ dataV P n e v.cells ∧ v = mkE (P.cellsOf e) v.cells ∧ ∀ mu : DataW K → Nat, MuOk mu → ∀ y, elems[i]? = some y → v.sz ≤ mu y.1 := by
            intro i hi
            have h1 := hel i hi
            rw [List.getElem?_eq_getElem (by omega)] at h1
            obtain ⟨ci, hci, htr⟩ := Option.bind_eq_some_iff.1 h1
            obtain ⟨vs, hv1, hv2, hv3⟩ := ih m e ci _ hf.1 he htr
            have hc := mkE_cells hv1 (cells?_get hci).1
            refine ⟨mkE (P.cellsOf e) vs, ci, hci, by rw [hc]; exact hv1, by rw [hc]; exact hv2, by rw [hc], fun mu hmu y hy => ?_⟩
            rw [List.getElem?_eq_getElem (by omega)] at hy
            cases hy
            rw [← szs_cells, hc]
            exact hv3 mu hmu
          obtain ⟨xs, hxl, hxs⟩ := choose_list len key
          have hdat : dataV P (n + 1) t [.rs (P.cellsOf e) xs] := by
            unfold dataV; rw [hu]
            refine ⟨xs, rfl, by omega, fun x hx => ?_⟩
            obtain ⟨i, hi⟩ := List.getElem?_of_mem hx
            obtain ⟨_, _, _, h1, h2, _⟩ := hxs i x hi
            exact ⟨h1, h2⟩
          refine ⟨_, .cons ⟨?_, rfl, rfl⟩ .nil, hdat, fun mu hmu => ?_⟩
          case refine_2 =>
            have h1 := szs_list (mu := mu) xs (elems.map (·.1)) (by simp; omega) (fun i v d hv hd => by
              obtain ⟨_, _, _, _, _, h3⟩ := hxs i v hv
              rw [List.getElem?_map] at hd
              obtain ⟨y, hy, rfl⟩ := Option.map_eq_some_iff.1 hd
              exact h3 mu hmu y hy)
            have h2 := hmu.slice (elems.map (·.1)) (rest.map (·.1))
            rw [hx]
            simp only [V.szs, V.sz]
            omega
          by_cases h0 : len = 0
          · have hn : xs = [] := List.eq_nil_of_length_eq_zero (by omega)
            subst hn; subst h0
            exact .rs0 _ _ _ (by simp)
          · have cell : ∀ (i j : Nat), i < len → j < P.cellsOf e → ∃ v y x, xs[i]? = some v ∧ v.cells[j]? = some y ∧ W.cell? ((a.add (i * P.cellsOf e)).add j) = some x ∧ RelC1 (Ren.all W) y x ∧ v.cells.length = P.cellsOf e := by
              intro i j hi hj
              have hg : xs[i]? = some xs[i] := List.getElem?_eq_getElem (by omega)
              obtain ⟨ci, hci, hall, _, _, _⟩ := hxs i _ hg
              obtain ⟨hcl, hcg⟩ := cells?_get hci
              have hvl : (xs[i]).cells.length = P.cellsOf e := by rw [hall.length, hcl]
              have hy : (xs[i]).cells[j]? = some (xs[i]).cells[j] := List.getElem?_eq_getElem (by omega)
              have hx : ci[j]? = some ci[j] := List.getElem?_eq_getElem (by omega)
              exact ⟨_, _, _, hg, hy, (hcg j hj).trans hx, hall.get j _ _ hy hx, hvl⟩
            have addr : ∀ (i j : Nat), ∀ v, W.cell? ((a.add (i * P.cellsOf e)).add j) = some v → ∃ c e' fr, W.heap[a.block]? = some (.cells c e' fr) ∧ c[a.off + i * P.cellsOf e + j]? = some v := by
              intro i j v hv
              obtain ⟨c, e', fr, h1, h2, h3⟩ := cell?_inv hv
              refine ⟨c, e', fr, ?_, ?_⟩
              · unfold Addr.add at h1; split at h1 <;> (try split at h1) <;> exact h1
              · have : ((a.add (i * P.cellsOf e)).add j).off = a.off + i * P.cellsOf e + j := by
                  unfold Addr.add; split <;> split <;> simp_all
                rw [this] at h3; exact h3
            have hspot : a.spot = none := by
              obtain ⟨_, _, x, _, _, hx, _⟩ := cell 0 0 (by omega) (by omega)
              obtain ⟨_, _, _, _, h2, _⟩ := cell?_inv hx
              simpa [Addr.add] using h2
            obtain ⟨_, _, x0, _, _, hx0, _⟩ := cell 0 0 (by omega) (by omega)
            obtain ⟨c, e', fr, hblk, _⟩ := addr 0 0 x0 hx0
            have ha : a = ⟨a.block, a.off, none⟩ := by cases a; simp at hspot; subst hspot; rfl
            have hcell : ∀ (i j : Nat) (v : Value), W.cell? ((a.add (i * P.cellsOf e)).add j) = some v → c[a.off + i * P.cellsOf e + j]? = some v := by
              intro i j v hv
              obtain ⟨c2, e2, f2, h1, h2⟩ := addr i j v hv
              rw [hblk] at h1
              cases h1
              exact h2
            rw [ha, ← hxl]
            refine .rs _ xs a.block a.off c e' fr cap (by omega) hblk ?_ ?_ ?_ ?_
            · obtain ⟨_, _, x, _, _, hx, _⟩ := cell (len - 1) (P.cellsOf e - 1) (by omega) (by omega)
              have := (Array.getElem?_eq_some_iff.1 (hcell _ _ _ hx)).1
              have e1 : xs.length * P.cellsOf e = (len - 1) * P.cellsOf e + P.cellsOf e := by
                rw [hxl]
                have : len = len - 1 + 1 := by omega
                rw [this, Nat.add_mul, Nat.one_mul]; simp
              omega
            · intro v hv
              obtain ⟨i, hi⟩ := List.getElem?_of_mem hv
              have hil : i < len := by have := (List.getElem?_eq_some_iff.1 hi).1; omega
              obtain ⟨v', _, _, h1, _, _, _, h5⟩ := cell i 0 hil (by omega)
              rw [hi] at h1; cases h1; exact h5
            · intro i v j y x hi hy hx
              have hil : i < len := by have := (List.getElem?_eq_some_iff.1 hi).1; omega
              obtain ⟨ci, hci, hall, _, _, _⟩ := hxs i v hi
              have hjl : j < P.cellsOf e := by
                have := (List.getElem?_eq_some_iff.1 hy).1
                rw [hall.length, (cells?_get hci).1] at this; exact this
              obtain ⟨v', y', x', h1, h2, h3, h4, _⟩ := cell i j hil hjl
              rw [hi] at h1; cases h1
              rw [hy] at h2; cases h2
              have := hcell i j x' h3
              rw [hx] at this; cases this
              exact h4.rel
            · intro i x hi hx
              rw [hxl] at hi
              have hpos : 0 < P.cellsOf e := by omega
              have hq : i / P.cellsOf e < len := (Nat.div_lt_iff_lt_mul hpos).2 hi
              obtain ⟨_, _, x', _, _, h3, h4, _⟩ := cell (i / P.cellsOf e) (i % P.cellsOf e) hq (Nat.mod_lt _ hpos)
              have := hcell _ _ x' h3
              have e1 : a.off + i / P.cellsOf e * P.cellsOf e + i % P.cellsOf e = a.off + i := by
                have := Nat.div_add_mod i (P.cellsOf e)
                rw [Nat.mul_comm] at this
                omega
              rw [e1, hx] at this; cases this
              exact h4.one
      | struct fs =>
        obtain ⟨ys, m, _, hx, hcl, hyl, hys⟩ := DataW.trod_struct hu h
        obtain ⟨hty, hsum, hoff⟩ := hK.struct ht hu
        have hall : ∀ f ∈ fs.toList, flatT P n f.type = true := fun f hm => List.all_eq_true.1 hf f hm
        let lens := fs.toList.map fun f => P.cellsOf f.type
        have hlens : lens.length = fs.size := by simp [lens]
        have hpl : ∀ (j : Nat) (f : Field), fs[j]? = some f → (cs.drop f.offset).take (P.cellsOf f.type) = (cs.drop (lens.take j).sum).take (lens.getD j 0) := by
          intro j f hj
          have hj' : fs.toList[j]? = some f := by simpa using hj
          rw [hoff j f hj', ← List.map_take]
          simp only [lens, List.getD_eq_getElem?_getD, List.getElem?_map, hj', Option.map_some, Option.getD_some]
        have key : ∀ j, j < fs.size → ∃ l : List V, All2 (RelC1 (Ren.all W)) l ((cs.drop (lens.take j).sum).take (lens.getD j 0)) ∧ (∀ f, fs[j]? = some f → dataV P n f.type l) ∧ ∀ mu : DataW K → Nat, MuOk mu → ∀ y, ys[j]? = some y → V.szs l ≤ mu y.1 := by
          intro j hj
          have hf' : fs[j]? = some fs[j] := Array.getElem?_eq_getElem hj
          have h1 := hys j _ hf'
          rw [List.getElem?_eq_getElem (by omega)] at h1
          have hm : fs[j] ∈ fs.toList := by simp
          obtain ⟨vs, hv1, hv2, hv3⟩ := ih m _ _ _ (hall _ hm) (hty _ hm) h1
          rw [hpl j _ hf'] at hv1
          exact ⟨vs, hv1, (fun f hf => by rw [hf'] at hf; cases hf; exact hv2), fun mu hmu y hy => by
            rw [List.getElem?_eq_getElem (by omega)] at hy
            cases hy
            exact hv3 mu hmu⟩
        obtain ⟨L, hL, hLs⟩ := choose_list fs.size key
        have hfl := flat_pieces lens cs (by rw [hcl, hsum])
        have hrel : All2 (RelC1 (Ren.all W)) L.flatten cs := by
          rw [← hfl]
          refine All2.flatten (by simp [hL, hlens]) fun i l m' hl hm' => ?_
          have := (hLs i l hl).1
          rw [List.getElem?_map] at hm'
          have hi : i < lens.length := by have := (List.getElem?_eq_some_iff.1 hl).1; omega
          rw [List.getElem?_range hi] at hm'
          simp only [Option.map_some, Option.some.injEq] at hm'
          rw [← hm']; exact this
        have hLlen : L.map List.length = lens := by
          apply List.ext_getElem?
          intro i
          by_cases hi : i < fs.size
          · have hg : L[i]? = some L[i] := List.getElem?_eq_getElem (by omega)
            have hl := (hLs i _ hg).1.length
            rw [List.getElem?_map, hg]
            have hgl : lens[i]? = some (lens.getD i 0) := by
              rw [List.getD_eq_getElem?_getD, List.getElem?_eq_getElem (by omega)]; rfl
            rw [hgl]
            simp only [Option.map_some, Option.some.injEq]
            have hpiece := flat_pieces lens cs (by rw [hcl, hsum])
            rw [hl, List.length_take, List.length_drop]
            have hle : (lens.take i).sum + lens.getD i 0 ≤ cs.length := by
              rw [hcl, hsum]
              show _ ≤ lens.sum
              have e1 : lens = lens.take i ++ (lens.getD i 0 :: lens.drop (i + 1)) := by
                rw [List.getD_eq_getElem?_getD, List.getElem?_eq_getElem (by omega)]
                simp
              conv => rhs; rw [e1]
              simp only [List.sum_append, List.sum_cons]
              omega
            omega
          · rw [List.getElem?_eq_none (by simp; omega), List.getElem?_eq_none (by omega)]
        refine ⟨L.flatten, hrel, ?_, fun mu hmu => ?_⟩
        case refine_2 =>
          have h1 := szs_flatten (mu := mu) L (ys.map (·.1)) (by simp; omega) (fun i l d hl hd => by
            rw [List.getElem?_map] at hd
            obtain ⟨y, hy, rfl⟩ := Option.map_eq_some_iff.1 hd
            exact (hLs i l hl).2.2 mu hmu y hy)
          have h2 := hmu.agg (ys.map (·.1))
          rw [hx]; simp only at h1 h2 ⊢; omega
        unfold dataV
        rw [hu]
        refine ⟨by rw [hrel.length, hcl], fun i f hi => ?_⟩
        have hil : i < fs.size := (Array.getElem?_eq_some_iff.1 hi).1
        have hg : L[i]? = some L[i] := List.getElem?_eq_getElem (by omega)
        have hp := piece_flat L i _ hg
        have hi' : fs.toList[i]? = some f := by simpa using hi
        have hlen : (L[i]).length = P.cellsOf f.type := by
          have : (L.map List.length)[i]? = lens[i]? := by rw [hLlen]
          rw [List.getElem?_map, hg] at this
          simp only [lens, List.getElem?_map, hi', Option.map_some, Option.some.injEq] at this
          exact this
        rw [hLlen, hlen] at hp
        have ho : f.offset = (lens.take i).sum := by rw [hoff i f hi', ← List.map_take]
        rw [ho, hp]
        exact (hLs i _ hg).2.1 f hi
      | array m' e =>
        obtain ⟨ys, m, _, hx, hcl, hyl, hys⟩ := DataW.trod_array hu h
        obtain ⟨hte, hsz⟩ := hK.array ht hu
        have key : ∀ j, j < m' → ∃ l : List V, All2 (RelC1 (Ren.all W)) l ((cs.drop (j * P.cellsOf e)).take (P.cellsOf e)) ∧ dataV P n e l ∧ ∀ mu : DataW K → Nat, MuOk mu → ∀ y, ys[j]? = some y → V.szs l ≤ mu y.1 := by
          intro j hj
          have h1 := hys j hj
          rw [List.getElem?_eq_getElem (by omega)] at h1
          obtain ⟨vs, hv1, hv2, hv3⟩ := ih m _ _ _ hf hte h1
          exact ⟨vs, hv1, hv2, fun mu hmu y hy => by
            rw [List.getElem?_eq_getElem (by omega)] at hy
            cases hy
            exact hv3 mu hmu⟩
        obtain ⟨L, hL, hLs⟩ := choose_list m' key
        let lens := List.replicate m' (P.cellsOf e)
        have hsum : lens.sum = m' * P.cellsOf e := by simp [lens]
        have htk : ∀ j, j ≤ m' → (lens.take j).sum = j * P.cellsOf e := by
          intro j hj
          simp [lens, List.take_replicate, Nat.min_eq_left hj]
        have hgd : ∀ j, j < m' → lens.getD j 0 = P.cellsOf e := by
          intro j hj
          simp [lens, List.getD_eq_getElem?_getD, hj]
        have hfl := flat_pieces lens cs (by rw [hcl, hsz, hsum])
        have hrel : All2 (RelC1 (Ren.all W)) L.flatten cs := by
          rw [← hfl]
          refine All2.flatten (by simp [hL, lens]) fun i l m2 hl hm2 => ?_
          have hi : i < m' := by have := (List.getElem?_eq_some_iff.1 hl).1; omega
          have := (hLs i l hl).1
          rw [List.getElem?_map, List.getElem?_range (by simpa [lens] using hi)] at hm2
          simp only [Option.map_some, Option.some.injEq] at hm2
          rw [htk i (by omega), hgd i hi] at hm2
          rw [← hm2]; exact this
        have hLlen : L.map List.length = lens := by
          apply List.ext_getElem?
          intro i
          by_cases hi : i < m'
          · have hg : L[i]? = some L[i] := List.getElem?_eq_getElem (by omega)
            have hl := (hLs i _ hg).1.length
            rw [List.getElem?_map, hg]
            have hgl : lens[i]? = some (P.cellsOf e) := by simp [lens, hi]
            rw [hgl]
            simp only [Option.map_some, Option.some.injEq]
            rw [hl, List.length_take, List.length_drop, hcl, hsz]
            have : (i + 1) * P.cellsOf e ≤ m' * P.cellsOf e := Nat.mul_le_mul_right _ (by omega)
            rw [Nat.add_mul, Nat.one_mul] at this
            omega
          · rw [List.getElem?_eq_none (by simp; omega), List.getElem?_eq_none (by simp [lens]; omega)]
        refine ⟨L.flatten, hrel, ?_, fun mu hmu => ?_⟩
        case refine_2 =>
          have h1 := szs_flatten (mu := mu) L (ys.map (·.1)) (by simp; omega) (fun i l d hl hd => by
            rw [List.getElem?_map] at hd
            obtain ⟨y, hy, rfl⟩ := Option.map_eq_some_iff.1 hd
            exact (hLs i l hl).2.2 mu hmu y hy)
          have h2 := hmu.agg (ys.map (·.1))
          rw [hx]; simp only at h1 h2 ⊢; omega
        unfold dataV
        rw [hu]
        refine ⟨by rw [hrel.length, hcl], fun i hi => ?_⟩
        have hg : L[i]? = some L[i] := List.getElem?_eq_getElem (by omega)
        have hp := piece_flat L i _ hg
        have hlen : (L[i]).length = P.cellsOf e := by
          have : (L.map List.length)[i]? = lens[i]? := by rw [hLlen]
          rw [List.getElem?_map, hg] at this
          simpa [lens, hi] using this
        rw [hLlen, hlen, htk i (by omega)] at hp
        rw [hp]
        exact (hLs i _ hg).2.1
      | _ => cases hf

/-- The arguments' kinds. -/
def argT (P : Program) (n : Nat) (t : TypeId) : Bool :=
  flatT P n t && decide (t < P.types.size) && match P.underlying t with
    | some (.struct _) | some (.array _ _) => true
    | _ => decide (P.cellsOf t = 1)

/-- An argument, from its cells. -/
def argV (P : Program) (t : TypeId) (cs : List V) : V :=
  match P.underlying t with
  | some (.struct _) | some (.array _ _) => .agg cs
  | _ => cs.headD default

/-- What the arguments are. -/
def dataA (P : Program) (n : Nat) : List TypeId → List V → Prop
  | [], as => as = []
  | t :: ts, as => ∃ cs r, as = argV P t cs :: r ∧ dataV P n t cs ∧ dataA P n ts r

theorem open_arg (hK : Kids P (· < P.types.size)) {sp : Nat → Bool} {held : Bool} {n : Nat} {r : Reach} {b0 : Nat} {t : TypeId} {v : Value} {d : DataW K} {ps : List MemPlace} (ht : argT P n t = true) (hval : Value.okWide P W r b0 t v)
    (hd : DataW.Trod enc P W 0 sp held t v d ps) : ∃ cs, dataV P n t cs ∧ RelV (Ren.all W) (argV P t cs) v ∧ ∀ mu : DataW K → Nat, MuOk mu → (argV P t cs).sz ≤ mu d := by
  obtain ⟨fuel, h⟩ := hd
  simp only [argT, Bool.and_eq_true, decide_eq_true_eq] at ht
  obtain ⟨vs, h1, h2, hsz⟩ := data_of_trod hK n fuel t _ _ ht.1.1 ht.1.2 h
  suffices hrel : RelV (Ren.all W) (argV P t vs) v by
    refine ⟨vs, h2, hrel, fun mu hmu => Nat.le_trans ?_ (hsz mu hmu)⟩
    unfold argV at hrel ⊢
    split
    · simp [V.sz]
    · simp [V.sz]
    · cases vs with
      | nil => exact absurd (hmu.one d) (fun h => by
          have := hsz mu hmu
          exact absurd h2 (by
            intro h2
            have hf := ht.1.1
            cases n with
            | zero => exact h2
            | succ n =>
              unfold dataV at h2
              unfold flatT at hf
              cases hu : P.underlying t with
              | none => rw [hu] at hf; cases hf
              | some u =>
                rw [hu] at h2 hf
                cases u <;> first
                  | (obtain ⟨_, h, _⟩ := h2; cases h; done)
                  | (obtain ⟨_, h⟩ := h2; cases h; done)
                  | (cases hf; done)
                  | (rename_i hns _; exact absurd hu (by simp_all)))) 
      | cons x r => simp [V.szs]
  have agg : ∀ cs : Array Value, v = .agg cs → RelV (Ren.all W) (.agg vs) v := by
    intro cs hv
    subst hv
    simp only [Value.cells] at h1
    refine .agg vs cs ?_ (fun i a x ha hx => (h1.get i a x ha (by simpa using hx)).rel) fun i x hx => ?_
    · have := h1.length; simpa using this.symm
    · have hi : i < vs.length := by
        have := (Array.getElem?_eq_some_iff.1 hx).1
        rw [h1.length]; simpa using this
      exact (h1.get i _ x (List.getElem?_eq_getElem hi) (by simpa using hx)).one
  have one : v.cells = #[v] → RelV (Ren.all W) (vs.headD default) v := by
    intro hv
    rw [hv] at h1
    cases h1 with
    | cons hr h' => exact hr.rel
  unfold argV
  have hf := ht.1.1
  cases n with
  | zero => cases hf
  | succ n =>
  unfold flatT at hf
  cases hu : P.underlying t with
  | none => rw [hu] at hf; cases hf
  | some u =>
    rw [hu] at hf
    cases u with
    | bool => obtain ⟨b, rfl⟩ := WideShapes.okWide_bool hu hval; exact one rfl
    | int k => obtain ⟨b, rfl⟩ := WideShapes.okWide_int hu hval; exact one rfl
    | string => obtain ⟨b, rfl⟩ := WideShapes.okWide_string hu hval; exact one rfl
    | slice e => obtain ⟨a, l, c, rfl⟩ := WideShapes.okWide_slice hu hval; exact one rfl
    | struct fs => obtain ⟨cs, hv, _⟩ := WideShapes.okWide_struct hu hval; exact agg cs hv
    | array m e =>
      unfold Value.okWide at hval
      rw [hu] at hval
      obtain ⟨cs, hv, _⟩ := hval
      exact agg cs hv
    | _ => cases hf

theorem open_args (hK : Kids P (· < P.types.size)) {sp : Nat → Bool} {held : Bool} {n : Nat} {r : Reach} {b0 : Nat} : ∀ {ts : List TypeId} {vs : List Value} {ds : List (DataW K)} {ps : List MemPlace}, (ts.all (argT P n)) = true →
    (∀ (j : Nat) t v, ts[j]? = some t → vs[j]? = some v → Value.okWide P W r b0 t v) → DataW.TrodAll enc P W 0 sp held ts vs ds ps →
    ∃ as : List V, vs.length = as.length ∧ dataA P n ts as ∧ (∀ (i : Nat) (a : V) (x : Value), as[i]? = some a → vs[i]? = some x → RelV (Ren.all W) a x) ∧ ∀ mu : DataW K → Nat, MuOk mu → V.szs as ≤ (ds.map mu).sum
  | [], [], [], _, _, _, _ => ⟨[], rfl, rfl, by simp, fun _ _ => by simp [V.szs]⟩
  | t :: ts, v :: vs, d :: ds, _, ht, hv, ⟨p, q, h1, h2, _⟩ => by
    simp only [List.all_cons, Bool.and_eq_true] at ht
    obtain ⟨cs, g1, g2, g3⟩ := open_arg hK ht.1 (hv 0 t v rfl rfl) h1
    obtain ⟨as, k1, k2, k3, k4⟩ := open_args hK ht.2 (fun j t v a b => hv (j + 1) t v (by simpa using a) (by simpa using b)) h2
    refine ⟨argV P t cs :: as, by simp [k1], ⟨cs, as, rfl, g1, k2⟩, fun i a x ha hx => ?_, fun mu hmu => by
      have := g3 mu hmu
      have := k4 mu hmu
      simp only [V.szs, List.map_cons, List.sum_cons]; omega⟩
    cases i with
    | zero => simp at ha hx; subst ha; subst hx; exact g2
    | succ i => simp at ha hx; exact k3 i a x ha hx

/-- The arguments read as they did. -/
theorem again {W' : World} (hK : Kids P (· < P.types.size)) (hz : ∀ t e, t < P.types.size → P.underlying t = some (.slice e) → 0 < P.cellsOf e) (hold : ∀ b, b < W.heap.size → W'.heap[b]? = W.heap[b]?) :
    ∀ {ts : List TypeId} {vs : List Value} {ds : List (DataW K)} {ps : List MemPlace}, (∀ t ∈ ts, t < P.types.size) → DataW.TrodAll enc P W 0 (fun _ => true) true ts vs ds ps → (∀ p ∈ ps, p.block < W.heap.size) →
    ∀ sp : Nat → Bool, (∀ p ∈ ps, sp p.block = true) → DataW.TrodAll enc P W' 0 sp true ts vs ds ps := by
  intro ts vs ds ps hts h hlt sp hsp
  have h' : DataW.TrodAll enc P W' 0 (fun _ => true) true ts vs ds ps := by
    have carry : ∀ {ts : List TypeId} {vs : List Value} {ds : List (DataW K)} {ps : List MemPlace}, DataW.TrodAll enc P W 0 (fun _ => true) true ts vs ds ps → (∀ p ∈ ps, p.block < W.heap.size) → DataW.TrodAll enc P W' 0 (fun _ => true) true ts vs ds ps := by
      intro ts
      induction ts with
      | nil => intro vs ds ps h _; cases vs <;> cases ds <;> exact h
      | cons t ts ih =>
        intro vs ds ps h hlt
        cases vs with
        | nil => cases ds <;> exact h
        | cons v vs =>
          cases ds with
          | nil => exact h
          | cons d ds =>
            obtain ⟨p, q, ⟨m, h1⟩, h2, e⟩ := h
            subst e
            refine ⟨p, q, ⟨m, DataW.trod_carry m t _ _ h1 fun x hx => ?_⟩, ih h2 fun x hx => hlt x (List.mem_append_right _ hx), rfl⟩
            have hb := hold x.block (hlt x (List.mem_append_left _ hx))
            cases x with
            | cell b off => simp only [World.sameAt, World.cell?]; simp only [MemPlace.block] at hb; rw [hb]
            | map b => exact hb
    exact carry h hlt
  exact h'.respare hK hz hts hsp

end
end
end Go.L
