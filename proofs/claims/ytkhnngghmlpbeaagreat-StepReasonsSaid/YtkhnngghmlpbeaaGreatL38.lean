/- Slices in plain memory: what is read, cut, appended. -/
import Derived.Test.YtkhnngghmlpbeaaGreatL37
namespace Go.L
noncomputable section
open Go

/-- The object that a value names. -/
def oid (v : V) : Option Nat :=
  match v with
  | .sl id .. => some id
  | .ptr id .. => some id
  | .map id => some id
  | _ => none

/-- A slice, and what is in it. -/
inductive Sl (h : H) (es : Nat) : V → List (List V) → Prop
  | nil : Sl h es .nils []
  | sl (id ver off : Nat) (cap : Option Nat) (cs : List V) (xs : List (List V)) (h1 : h[id]? = some (.cells ver cs)) (h2 : off + xs.length * es ≤ cs.length) (h3 : ∀ x ∈ xs, x.length = es)
      (h4 : (cs.drop off).take (xs.length * es) = xs.flatten) : Sl h es (.sl id ver off xs.length es cap) xs
  | rs (xs : List V) (h3 : ∀ x ∈ xs, x.cells.length = es) : Sl h es (.rs es xs) (xs.map V.cells)

theorem flatLen {α : Type} : ∀ {es : Nat} {xs : List (List α)}, (∀ x ∈ xs, x.length = es) → xs.flatten.length = xs.length * es
  | es, [], _ => by simp
  | es, x :: xs, h => by
    rw [List.flatten_cons, List.length_append, h x (List.mem_cons_self ..), flatLen fun y hy => h y (List.mem_cons_of_mem _ hy), List.length_cons, Nat.add_mul, Nat.one_mul, Nat.add_comm]

theorem flatGet {α : Type} : ∀ {es : Nat} {xs : List (List α)}, (∀ x ∈ xs, x.length = es) → ∀ (i j : Nat), j < es → (xs.flatten)[i * es + j]? = (xs[i]?).bind (·[j]?)
  | es, [], _, i, j, _ => by simp
  | es, x :: xs, h, 0, j, hj => by
    have hx := h x (List.mem_cons_self ..)
    rw [List.flatten_cons, List.getElem?_append_left (by omega)]
    simp
  | es, x :: xs, h, i + 1, j, hj => by
    have hx := h x (List.mem_cons_self ..)
    rw [List.flatten_cons, List.getElem?_append_right (by rw [hx, Nat.add_mul]; omega), hx]
    have : (i + 1) * es + j - es = i * es + j := by rw [Nat.add_mul]; omega
    rw [this, flatGet (fun y hy => h y (List.mem_cons_of_mem _ hy)) i j hj]
    simp

theorem flat_drop {α : Type} : ∀ {es : Nat} {xs : List (List α)}, (∀ x ∈ xs, x.length = es) → ∀ k, xs.flatten.drop (k * es) = (xs.drop k).flatten
  | es, xs, _, 0 => by simp
  | es, [], _, k + 1 => by simp
  | es, x :: xs, h, k + 1 => by
    have hx := h x (List.mem_cons_self ..)
    have e : (k + 1) * es = x.length + k * es := by rw [hx, Nat.add_mul]; omega
    rw [List.flatten_cons, e, ← List.drop_drop, List.drop_left, flat_drop (fun y hy => h y (List.mem_cons_of_mem _ hy)) k, List.drop_succ_cons]

theorem flat_take {α : Type} : ∀ {es : Nat} {xs : List (List α)}, (∀ x ∈ xs, x.length = es) → ∀ k, xs.flatten.take (k * es) = (xs.take k).flatten
  | es, xs, _, 0 => by simp
  | es, [], _, k + 1 => by simp
  | es, x :: xs, h, k + 1 => by
    have hx := h x (List.mem_cons_self ..)
    have e : (k + 1) * es = x.length + k * es := by rw [hx, Nat.add_mul]; omega
    rw [List.flatten_cons, e, List.take_append, List.take_succ_cons, List.flatten_cons]
    have e2 : x.length + k * es - x.length = k * es := by omega
    rw [e2, flat_take (fun y hy => h y (List.mem_cons_of_mem _ hy)) k, List.take_of_length_le (by omega)]

theorem flat_set {α : Type} : ∀ {es : Nat} {xs : List (List α)}, (∀ x ∈ xs, x.length = es) → ∀ (i : Nat) (y : List α), y.length = es → i < xs.length →
    xs.flatten.take (i * es) ++ (y ++ xs.flatten.drop (i * es + es)) = (xs.set i y).flatten
  | es, xs, h, i, y, hy, hi => by
    rw [flat_take h i]
    have e : i * es + es = (i + 1) * es := by rw [Nat.add_mul]; omega
    rw [e, flat_drop h (i + 1), List.set_eq_take_append_cons_drop, if_pos hi, List.flatten_append, List.flatten_cons]

section
variable {h : H} {es : Nat} {v : V} {xs : List (List V)}

theorem Sl.len (hs : Sl h es v xs) : slen v = some (xs.length : Int) := by
  cases hs with
  | nil => simp [slen]
  | sl => simp [slen]
  | rs => simp [slen]

theorem Sl.snlen (hs : Sl h es v xs) : snlen v = xs.length := by
  cases hs with
  | nil => simp [L.snlen]
  | sl => simp [L.snlen]
  | rs => simp [L.snlen]

theorem Sl.els (hs : Sl h es v xs) : ∀ x ∈ xs, x.length = es := by
  cases hs with
  | nil => simp
  | sl id ver off cap cs xs h1 h2 h3 h4 => exact h3
  | rs ys h3 =>
    intro x hx
    obtain ⟨y, hy, rfl⟩ := List.mem_map.1 hx
    exact h3 y hy

/-- An element's place, and what is there. -/
theorem Sl.at (hs : Sl h es v xs) (i : Nat) (hi : i < xs.length) : ∃ q, sidx v (i : Int) es = some q ∧ ∀ j, j < es → rd h q j = (xs[i]?).bind (·[j]?) := by
  cases hs with
  | nil => simp at hi
  | sl id ver off cap cs xs h1 h2 h3 h4 =>
    refine ⟨_, sidx_sl (by omega) (by omega), fun j hj => ?_⟩
    rw [rd_obj h1, Int.toNat_natCast, ← flatGet h3 i j hj, ← h4, List.getElem?_take, if_pos, List.getElem?_drop, Nat.add_assoc]
    have : (i + 1) * es ≤ xs.length * es := Nat.mul_le_mul_right _ hi
    rw [Nat.add_mul] at this
    omega
  | rs ys h3 =>
    have hi' : i < ys.length := by simpa using hi
    refine ⟨.rptr (ys[i]).cells, by rw [sidx_rs (by omega)]; simp [hi'], fun j hj => ?_⟩
    rw [rd_rptr]
    simp [hi']

theorem Sl.cells (hs : Sl h es v xs) : scells h v es = some xs.flatten := by
  cases hs with
  | nil => simp [scells]
  | sl id ver off cap cs xs h1 h2 h3 h4 => simp [scells, rdN, h1, h2, h4]
  | rs ys h3 => simp [scells, List.flatMap]

/-- A slice of a slice. -/
theorem Sl.cut (hs : Sl h es v xs) (lo hi : Nat) (h1 : lo ≤ hi) (h2 : hi ≤ xs.length) : ∃ v', ssl es v (lo : Int) (hi : Int) = some v' ∧ Sl h es v' ((xs.drop lo).take (hi - lo)) ∧ (oid v' = oid v ∨ oid v' = none) := by
  cases hs with
  | nil =>
    have h2' : hi = 0 := by simpa using h2
    subst h2'
    have : lo = 0 := by omega
    subst this
    exact ⟨.nils, by simp [ssl, esIs, scap, scut], by simpa using Sl.nil, .inl rfl⟩
  | sl id ver off cap cs xs k1 k2 k3 k4 =>
    have hl : ((xs.drop lo).take (hi - lo)).length = hi - lo := by simp; omega
    have hmul : hi * es ≤ xs.length * es := Nat.mul_le_mul_right _ h2
    have hmul2 : lo * es + (hi - lo) * es = hi * es := by rw [← Nat.add_mul]; congr 1; omega
    have hsl : Sl h es (.sl id ver (off + lo * es) ((xs.drop lo).take (hi - lo)).length es (cap.map (· - lo))) ((xs.drop lo).take (hi - lo)) := by
      refine .sl id ver _ _ cs _ k1 (by rw [hl]; omega) (fun x hx => k3 x (List.mem_of_mem_drop (List.mem_of_mem_take hx))) ?_
      rw [hl, ← flat_take (fun x hx => k3 x (List.mem_of_mem_drop hx)) (hi - lo), ← flat_drop k3 lo, ← k4]
      rw [List.drop_take, List.drop_drop, List.take_take]
      congr 1
      have : xs.length * es - lo * es ≥ (hi - lo) * es := by omega
      omega
    rw [hl] at hsl
    refine ⟨.sl id ver (off + lo * es) (hi - lo) es (cap.map (· - lo)), ?_, hsl, .inl rfl⟩
    have hc : (hi : Int) ≤ (scap (.sl id ver off xs.length es cap) : Nat) := by
      unfold scap
      cases cap <;> simp <;> omega
    simp only [ssl, esIs, beq_self_eq_true, if_true, scut, Int.toNat_natCast]
    rw [if_pos (by omega), if_pos (by omega), if_pos hc]
  | rs ys h3 =>
    have h2' : hi ≤ ys.length := by simpa using h2
    refine ⟨.rs es ((ys.drop lo).take (hi - lo)), ?_, ?_, .inr rfl⟩
    · have hc : (hi : Int) ≤ (scap (.rs es ys) : Nat) := by
        unfold scap; simp only; omega
      simp only [ssl, esIs, beq_self_eq_true, if_true, scut, Int.toNat_natCast]
      rw [if_pos (by omega), if_pos (by omega), if_pos hc]
    · have := Sl.rs (h := h) (es := es) ((ys.drop lo).take (hi - lo)) fun x hx => h3 x (List.mem_of_mem_drop (List.mem_of_mem_take hx))
      rw [List.map_take, List.map_drop] at this
      exact this

/-- Other objects may change. -/
theorem Sl.frame (hs : Sl h es v xs) {h' : H} (hf : ∀ i, oid v = some i → h'[i]? = h[i]?) : Sl h' es v xs := by
  cases hs with
  | nil => exact .nil
  | sl id ver off cap cs xs h1 h2 h3 h4 => exact .sl id ver off cap cs xs (by rw [hf id rfl]; exact h1) h2 h3 h4
  | rs ys h3 => exact .rs ys h3

theorem Sl.lt (hs : Sl h es v xs) {i : Nat} (hi : oid v = some i) : i < h.length := by
  cases hs with
  | nil => cases hi
  | sl id ver off cap cs xs h1 h2 h3 h4 => cases hi; exact (List.getElem?_eq_some_iff.1 h1).1
  | rs ys h3 => cases hi

/-- A slice that nobody else holds: it is where its object begins. -/
inductive Own (h : H) (es : Nat) : V → List (List V) → Prop
  | nil : Own h es .nils []
  | z (id : Nat) (h1 : h[id]? = some (.cells 0 [])) : Own h es (.sl id 0 0 0 es (some 0)) []
  | sl (id ver : Nat) (xs : List (List V)) (rest : List V) (h1 : h[id]? = some (.cells ver (xs.flatten ++ rest))) (h3 : ∀ x ∈ xs, x.length = es) : Own h es (.sl id ver 0 xs.length es none) xs

theorem Own.sl' (ho : Own h es v xs) : Sl h es v xs := by
  cases ho with
  | nil => exact .nil
  | z id h1 => exact .sl id 0 0 (some 0) [] [] h1 (by simp) (by simp) (by simp)
  | sl id ver xs rest h1 h3 => exact .sl id ver 0 none _ xs h1 (by rw [List.length_append, flatLen h3]; omega) h3 (by rw [List.drop_zero, ← flatLen h3, List.take_left])

theorem Own.frame (ho : Own h es v xs) {h' : H} (hf : ∀ i, oid v = some i → h'[i]? = h[i]?) : Own h' es v xs := by
  cases ho with
  | nil => exact .nil
  | z id h1 => exact .z id (by rw [hf id rfl]; exact h1)
  | sl id ver xs rest h1 h3 => exact .sl id ver xs rest (by rw [hf id rfl]; exact h1) h3

/-- What else is there stays. -/
def Keeps (h h' : H) (o : Option Nat) : Prop := h.length ≤ h'.length ∧ ∀ i, i < h.length → o ≠ some i → h'[i]? = h[i]?

theorem Keeps.refl (h : H) (o : Option Nat) : Keeps h h o := ⟨Nat.le_refl _, fun _ _ _ => rfl⟩
theorem Keeps.none {h h' : H} {o : Option Nat} (k : Keeps h h' none) : Keeps h h' o := ⟨k.1, fun i hi _ => k.2 i hi (by simp)⟩
theorem Keeps.trans {a b c : H} {o : Option Nat} (k : Keeps a b o) (k' : Keeps b c o) : Keeps a c o :=
  ⟨Nat.le_trans k.1 k'.1, fun i hi ho => (k'.2 i (Nat.lt_of_lt_of_le hi k.1) ho).trans (k.2 i hi ho)⟩

theorem Keeps.push (h : H) (o : O) : Keeps h (h ++ [o]) .none := ⟨by simp, fun i hi _ => by rw [List.getElem?_append_left hi]⟩
theorem Keeps.set (h : H) (i : Nat) (o : O) : Keeps h (h.set i o) (some i) := ⟨by simp, fun j _ hj => by rw [List.getElem?_set_ne (fun e => hj (by rw [e]))]⟩

/-- Append. -/
theorem Own.app (ho : Own h es v xs) (new : List (List V)) (hn : ∀ x ∈ new, x.length = es) (hb : (xs.length + new.length) * es ≤ mostCells) :
    ∃ v' h', happ h v es new.length new.flatten = some (v', h') ∧ Own h' es v' (xs ++ new) ∧ Keeps h h' (oid v) ∧ (oid v' = oid v ∨ oid v' = some h.length) ∧ ck1 v' = some () := by
  by_cases h0 : new.length = 0
  · have : new = [] := List.eq_nil_of_length_eq_zero h0
    subst this
    refine ⟨v, h, ?_, by simpa using ho, .refl _ _, .inl rfl, ?_⟩
    · cases ho <;> simp [happ, isSl]
    · cases ho <;> rfl
  · have hl := flatLen hn
    cases ho with
    | nil =>
      refine ⟨.sl h.length 0 0 new.length es none, h ++ [.cells 0 new.flatten], ?_, ?_, (Keeps.push h _), .inr rfl, rfl⟩
      · simp only [List.length_nil, Nat.zero_add] at hb
        simp only [happ, if_neg h0, hl, if_true, if_pos hb]
      · simp only [List.nil_append]
        exact .sl h.length 0 new [] (by simp) hn
    | z id h1 =>
      refine ⟨.sl h.length 0 0 (0 + new.length) es none, h ++ [.cells 0 new.flatten], ?_, ?_, (Keeps.push h _).none, .inr rfl, rfl⟩
      · simp only [List.length_nil, Nat.zero_add] at hb
        have h2 : ¬ 0 + new.length ≤ 0 := by omega
        simp only [happ, if_neg h0, hl, if_true, h1, Nat.zero_add, Nat.zero_mul, List.length_nil, Nat.le_refl, if_pos hb, List.drop_zero, List.take_zero, List.nil_append]
        rw [if_neg (by omega)]
      · simp only [List.nil_append, Nat.zero_add]
        exact .sl h.length 0 new [] (by simp) hn
    | sl id ver xs rest h1 h3 =>
      have hl2 := flatLen h3
      refine ⟨.sl id (ver + 1) 0 (xs.length + new.length) es none, h.set id (.cells (ver + 1) (xs.flatten ++ new.flatten)), ?_, ?_, Keeps.set h _ _, .inl rfl, rfl⟩
      · have e1 : 0 + xs.length * es ≤ (xs.flatten ++ rest).length := by rw [List.length_append]; omega
        have e2 : ((xs.flatten ++ rest).drop 0).take (xs.length * es) = xs.flatten := by rw [List.drop_zero, ← hl2, List.take_left]
        simp only [happ, if_neg h0, hl, if_true, h1, e1, e2, if_pos hb]
      · have hid : id < h.length := (List.getElem?_eq_some_iff.1 h1).1
        have := Own.sl (h := h.set id (.cells (ver + 1) (xs.flatten ++ new.flatten))) (es := es) id (ver + 1) (xs ++ new) [] (by simp [hid]) (fun x hx => by
          rcases List.mem_append.1 hx with hx | hx
          · exact h3 x hx
          · exact hn x hx)
        rw [List.length_append] at this
        exact this

/-- Append of one element. -/
theorem Own.app1 (ho : Own h es v xs) (new : List V) (hn : new.length = es) (hb : (xs.length + 1) * es ≤ mostCells) :
    ∃ v' h', happ h v es 1 new = some (v', h') ∧ Own h' es v' (xs ++ [new]) ∧ Keeps h h' (oid v) ∧ (oid v' = oid v ∨ oid v' = some h.length) ∧ ck1 v' = some () := by
  have := ho.app [new] (by simpa using hn) (by simpa using hb)
  simpa using this

/-- A write of one element. -/
theorem Own.wr (ho : Own h es v xs) (i : Nat) (hi : i < xs.length) (y : List V) (hy : y.length = es) (h1 : es ≠ 1) :
    ∃ q h', sidx v (i : Int) es = some q ∧ L.wr h q y = some h' ∧ Own h' es v (xs.set i y) ∧ Keeps h h' (oid v) := by
  cases ho with
  | nil => simp at hi
  | z => simp at hi
  | sl id ver xs rest k1 k3 =>
    have hl := flatLen k3
    have hm : (i + 1) * es ≤ xs.length * es := Nat.mul_le_mul_right _ hi
    rw [Nat.add_mul] at hm
    refine ⟨_, _, sidx_sl (by omega) (by omega), wr_obj k1 (by rw [List.length_append, hl, hy, Int.toNat_natCast]; omega), ?_, Keeps.set h _ _⟩
    have e : splice (xs.flatten ++ rest) (0 + Int.toNat (i : Int) * es) y = (xs.set i y).flatten ++ rest := by
      have : splice (xs.flatten ++ rest) (0 + Int.toNat (i : Int) * es) y = xs.flatten.take (i * es) ++ (y ++ xs.flatten.drop (i * es + es)) ++ rest := by
        unfold splice
        split
        · simp at hy; omega
        · rw [hy]
          simp only [Nat.zero_add, Int.toNat_natCast]
          rw [List.take_append_of_le_length (by omega), List.drop_append_of_le_length (by omega)]
          simp
      rw [this, flat_set k3 i y hy hi]
    rw [e]
    have hid : id < h.length := (List.getElem?_eq_some_iff.1 k1).1
    have := Own.sl (h := h.set id (.cells ver ((xs.set i y).flatten ++ rest))) (es := es) id ver (xs.set i y) rest (by simp [hid]) (fun x hx => by
      rcases List.mem_or_eq_of_mem_set hx with hx | rfl
      · exact k3 x hx
      · exact hy)
    rw [List.length_set] at this
    exact this

theorem repeatC_len {z : List V} : ∀ n, (repeatC n z).length = n * z.length
  | 0 => by simp [repeatC]
  | n + 1 => by rw [repeatC, List.length_append, repeatC_len n, Nat.add_mul]; omega

theorem splice_take {cs xs : List V} {at_ n : Nat} (hn : n ≤ at_) (hb : at_ ≤ cs.length) : (splice cs at_ xs).take n = cs.take n := by
  unfold splice
  split
  · rw [List.take_set_of_le hn]
  · rw [List.take_append_of_le_length (by rw [List.length_take]; omega), List.take_take, Nat.min_eq_left hn]

theorem splice_len {cs xs : List V} {at_ : Nat} (hb : at_ + xs.length ≤ cs.length) : (splice cs at_ xs).length = cs.length := by
  unfold splice
  split
  · simp
  · simp; omega

/-- What is behind a place is wiped, and the slice cut there. -/
theorem Own.wipe (ho : Own h es v xs) (i : Nat) (hi : i ≤ xs.length) (z : List V) (hz : z.length = es) :
    ∃ v1 v2 h', ssl es v (i : Int) (xs.length : Int) = some v1 ∧ hwrAll h v1 es (repeatC (L.snlen v1) z) = some h' ∧ ssl es v 0 (i : Int) = some v2 ∧ Own h' es v2 (xs.take i) ∧ Keeps h h' (oid v) ∧ oid v2 = oid v := by
  cases ho with
  | nil =>
    have : i = 0 := by simpa using hi
    subst this
    exact ⟨.nils, .nils, h, by simp [ssl, esIs, scap, scut], by simp [hwrAll, repeatC, L.snlen], by simp [ssl, esIs, scap, scut], .nil, .refl _ _, rfl⟩
  | z id h1 =>
    have : i = 0 := by simpa using hi
    subst this
    exact ⟨.sl id 0 0 0 es (some 0), .sl id 0 0 0 es (some 0), h, by simp [ssl, esIs, scap, scut], by simp [hwrAll, repeatC, L.snlen], by simp [ssl, esIs, scap, scut], by simpa using Own.z id h1, .refl _ _, rfl⟩
  | sl id ver xs rest h1 h3 =>
    have hl := flatLen h3
    have hm : i * es ≤ xs.length * es := Nat.mul_le_mul_right _ hi
    have hm2 : i * es + (xs.length - i) * es = xs.length * es := by rw [← Nat.add_mul]; congr 1; omega
    have hid : id < h.length := (List.getElem?_eq_some_iff.1 h1).1
    have hL : (xs.flatten ++ rest).length = xs.length * es + rest.length := by rw [List.length_append, hl]
    have e1 : ssl es (.sl id ver 0 xs.length es none) (i : Int) (xs.length : Int) = some (.sl id ver (0 + i * es) (xs.length - i) es none) := by
      have hc : (xs.length : Int) ≤ (scap (.sl id ver 0 xs.length es none) : Nat) := by simp [scap]
      simp only [ssl, esIs, beq_self_eq_true, if_true, scut, Int.toNat_natCast, Option.map_none]
      rw [if_pos (by omega), if_pos (by omega), if_pos hc]
    have e2 : ssl es (.sl id ver 0 xs.length es none) 0 (i : Int) = some (.sl id ver 0 i es none) := by
      have hc : (i : Int) ≤ (scap (.sl id ver 0 xs.length es none) : Nat) := by simp [scap]; omega
      simp only [ssl, esIs, beq_self_eq_true, if_true, scut, Int.toNat_natCast, Option.map_none]
      rw [if_pos (by omega), if_pos (by omega), if_pos hc]; simp
    have hlt : (xs.take i).length = i := by rw [List.length_take]; omega
    have mk : ∀ cs' : List V, cs'.take (i * es) = (xs.flatten ++ rest).take (i * es) → ∀ h' : H, h'[id]? = some (.cells ver cs') → Own h' es (.sl id ver 0 i es none) (xs.take i) := by
      intro cs' k2 h' k3
      have := Own.sl (h := h') (es := es) id ver (xs.take i) (cs'.drop (i * es)) (by
        rw [k3, ← flat_take h3, ← List.take_append_of_le_length (l₂ := rest) (by omega), ← k2, List.take_append_drop]) (fun x hx => h3 x (List.mem_of_mem_take hx))
      rw [hlt] at this
      exact this
    have hrl := repeatC_len (z := z) (xs.length - i)
    rw [hz] at hrl
    cases hr : repeatC (xs.length - i) z with
    | nil =>
      refine ⟨_, _, h, e1, ?_, e2, mk _ rfl h h1, .refl _ _, rfl⟩
      simp [hwrAll, L.snlen, hr]
    | cons c cs =>
      rw [hr] at hrl
      refine ⟨_, _, h.set id (.cells ver (splice (xs.flatten ++ rest) (0 + i * es) (c :: cs))), e1, ?_, e2, mk (splice (xs.flatten ++ rest) (0 + i * es) (c :: cs)) ?_ _ ?_, Keeps.set h _ _, rfl⟩
      · simp only [hwrAll, L.snlen, hr, hrl, if_true, Nat.le_refl]
        rw [wr_obj h1 (by rw [hL, hrl]; omega)]
      · rw [splice_take (by omega) (by rw [hL]; omega)]
      · rw [List.getElem?_set_self hid]

end
end
end Go.L
