/- What a step hands on does not hang on what stands behind it. -/
import Derived.Test.YtkhnngghmlpbeaaGreatL23
namespace Go.L
noncomputable section

/-- A play that hands one thing on. -/
def Thru {α : Type} (F : ∀ R : Type, (α → Option R) → Option R) : Prop :=
  ∀ (R : Type) (K : α → Option R) (r : R), F R K = some r → ∃ v, K v = some r ∧ ∀ (R2 : Type) (K2 : α → Option R2), F R2 K2 = K2 v

theorem Thru.k {α : Type} (v : α) : Thru (fun R (K : α → Option R) => K v) := fun _ _ _ h => ⟨v, h, fun _ _ => rfl⟩
theorem Thru.no {α : Type} : Thru (fun R (_ : α → Option R) => (none : Option R)) := fun _ _ _ h => by cases h
theorem Thru.bd {α β : Type} (o : Option β) {F : β → ∀ R : Type, (α → Option R) → Option R} (h : ∀ b, o = some b → Thru (F b)) : Thru (fun R K => o.bind fun b => F b R K) := fun R K r he => by
  cases o with
  | none => cases he
  | some b => exact h b rfl R K r he
theorem Thru.ite {α : Type} {c : Prop} [Decidable c] {F G : ∀ R : Type, (α → Option R) → Option R} (hf : c → Thru F) (hg : ¬ c → Thru G) : Thru (fun R K => if c then F R K else G R K) := by
  by_cases h : c
  · simp only [if_pos h]; exact hf h
  · simp only [if_neg h]; exact hg h

theorem dest_thru (l : LK) (o : Option V) : Thru (fun R K => l.dest (R := R) o K) := by
  cases l <;> simp only [LK.dest] <;> first
    | exact Thru.bd _ fun b _ => Thru.k _
    | (cases o with
       | none => exact Thru.no
       | some v => exact Thru.k v)

theorem rdLs_thru : ∀ (ls : List LK) (get : Nat → Option V) (i : Nat), Thru (fun R K => rdLs (R := R) ls get i K)
  | [], _, _ => Thru.k _
  | l :: ls, get, i => fun R K r h => by
    simp only [rdLs] at h
    obtain ⟨v, h1, h2⟩ := dest_thru l (get i) _ _ _ h
    obtain ⟨vs, h3, h4⟩ := rdLs_thru ls get (i + 1) _ _ _ h1
    exact ⟨v :: vs, h3, fun R2 K2 => (h2 R2 _).trans (h4 R2 _)⟩

theorem tyDest1_thru (t : TY) (o : Option V) : Thru (fun R K => tyDest1 (R := R) t o K) := by
  cases t with
  | leaf l => exact dest_thru l o
  | strt ls =>
    refine Thru.bd _ fun vs _ => fun R K r h => ?_
    obtain ⟨cs, h1, h2⟩ := rdLs_thru ls _ 0 _ _ _ h
    exact ⟨.agg cs, h1, fun R2 K2 => h2 R2 _⟩
  | blk n => exact Thru.bd _ fun vs _ => Thru.k _
  | tup ts => exact Thru.no
  | no => exact Thru.no

theorem tupDest_thru : ∀ (ts : List TY) (get : Nat → Option V) (i : Nat), Thru (fun R K => tupDest (R := R) ts get i K)
  | [], _, _ => Thru.k _
  | t :: ts, get, i => fun R K r h => by
    simp only [tupDest] at h
    obtain ⟨v, h1, h2⟩ := tyDest1_thru t (get i) _ _ _ h
    obtain ⟨vs, h3, h4⟩ := tupDest_thru ts get (i + 1) _ _ _ h1
    exact ⟨v :: vs, h3, fun R2 K2 => (h2 R2 _).trans (h4 R2 _)⟩

theorem tyDest_thru (t : TY) (o : Option V) : Thru (fun R K => tyDest (R := R) t o K) := by
  unfold tyDest
  split
  · refine Thru.bd _ fun vs _ => fun R K r h => ?_
    obtain ⟨cs, h1, h2⟩ := tupDest_thru _ _ 0 _ _ _ h
    exact ⟨.tup cs, h1, fun R2 K2 => h2 R2 _⟩
  · exact tyDest1_thru t o

theorem cellsAs_thru (t : TY) (x : V) : Thru (fun R K => cellsAs (R := R) t x K) := by
  cases t with
  | leaf l => exact Thru.bd _ fun _ _ => Thru.k _
  | strt ls => cases x <;> first | exact Thru.ite (fun _ => Thru.k _) (fun _ => Thru.no) | exact Thru.no
  | blk n => cases x <;> first | exact Thru.ite (fun _ => Thru.k _) (fun _ => Thru.no) | exact Thru.no
  | tup ts => exact Thru.no
  | no => exact Thru.no

theorem intBin_thru (op : BinOp) (k : IntKind) (a b : Int) : Thru (fun R K => intBin (R := R) op k a b K) := by
  cases op <;> first | exact Thru.k _ | exact Thru.ite (fun _ => Thru.no) (fun _ => Thru.k _) | exact Thru.no

theorem shiftBin_thru (op : BinOp) (k : IntKind) (a b : Int) : Thru (fun R K => shiftBin (R := R) op k a b K) := by
  cases op <;> first | exact Thru.ite (fun _ => Thru.no) (fun _ => Thru.k _) | exact Thru.no

theorem strBin_thru (op : BinOp) (a b : ByteArray) : Thru (fun R K => strBin (R := R) op a b K) := by
  cases op <;> first | exact Thru.k _ | exact Thru.ite (fun _ => Thru.k _) (fun _ => Thru.no) | exact Thru.no

theorem floatBin_thru (op : BinOp) (k : FloatKind) (a b : Nat) : Thru (fun R K => floatBin (R := R) op k a b K) := by
  cases op <;> first | exact Thru.k _ | exact Thru.bd _ fun _ _ => Thru.k _ | exact Thru.no

theorem eqBin_thru (neg : Bool) (o : Option Bool) : Thru (fun R K => eqBin (R := R) neg o K) := Thru.bd _ fun _ _ => Thru.k _

theorem nilBin_thru (op : BinOp) (o : Option Bool) : Thru (fun R K => nilBin (R := R) op o K) := by
  cases op <;> first | exact eqBin_thru false o | exact eqBin_thru true o | exact Thru.no

theorem unS_thru (op : UnOp) (x : V) : Thru (fun R K => unS (R := R) op x K) := by
  unfold unS
  split <;> first | exact Thru.k _ | exact Thru.no

theorem convS_thru (P : Program) (s d : TypeId) (x : V) : Thru (fun R K => convS (R := R) P s d x K) := by
  unfold convS
  split <;> first | exact Thru.k _ | exact Thru.no | exact Thru.bd _ fun _ _ => Thru.k _

theorem strSub_thru (s : ByteArray) (lo hi : Int) : Thru (fun R K => strSub (R := R) s lo hi K) :=
  Thru.ite (fun _ => Thru.ite (fun _ => Thru.ite (fun _ => Thru.k _) (fun _ => Thru.no)) (fun _ => Thru.no)) (fun _ => Thru.no)

theorem min2_thru (m : Bool) (x y : V) : Thru (fun R K => min2 (R := R) m x y K) := by
  unfold min2
  split
  · refine Thru.ite (fun _ => ?_) (fun _ => Thru.no)
    cases m <;> exact Thru.k _
  · exact Thru.no

theorem binX_thru (E : Env) (op : BinOp) (t : TypeId) (x y : V) : Thru (fun R K => binX (R := R) E op t x y K) := by
  unfold binX
  split
  · exact shiftBin_thru _ _ _ _
  · exact shiftBin_thru _ _ _ _
  · exact Thru.ite (fun _ => intBin_thru _ _ _ _) (fun _ => Thru.no)
  · exact strBin_thru _ _ _
  · exact Thru.ite (fun _ => floatBin_thru _ _ _ _) (fun _ => Thru.no)
  · split <;> first | exact Thru.k _ | exact Thru.no
  · split <;> first | exact Thru.k _ | exact Thru.no
  · exact Thru.ite (fun _ => Thru.k _) (fun _ => Thru.no)
  · exact Thru.ite (fun _ => Thru.k _) (fun _ => Thru.no)
  · exact eqBin_thru _ _
  · exact eqBin_thru _ _
  · exact Thru.no

theorem binS_thru (E : Env) (op : BinOp) (t : TypeId) (x y : V) : Thru (fun R K => binS (R := R) E op t x y K) := by
  unfold binS
  split
  · split <;> first | exact nilBin_thru op _ | exact Thru.no
  · split <;> first | exact nilBin_thru op _ | exact Thru.no
  · split <;> first | exact nilBin_thru op _ | exact Thru.no
  · split <;> first | exact nilBin_thru op _ | exact Thru.no
  · exact binX_thru _ _ _ _ _

/-- What is known of a slot here is known of it there. -/
def S.le (x y : S) : Prop := x = .bad ∨ x = y

theorem S.le_refl (x : S) : S.le x x := .inr rfl

theorem S.le_v {x y : S} (h : S.le x y) {v : V} (hx : x = .v v) : y = .v v := by
  rcases h with h | h
  · rw [hx] at h; cases h
  · rw [← h, hx]

theorem S.le_trans {x y z : S} (h : S.le x y) (h' : S.le y z) : S.le x z := by
  rcases h with h | h
  · exact .inl h
  · rw [h]; exact h'

theorem buildS_thru (E : Env) (pl : Nat → Option (Nat × TypeId)) (st : St) : ∀ (ps : List (Nat × Operand)) (cs : List V),
    ∀ (R : Type) (K : List V → Option R) (r : R), buildS E pl st ps cs K = some r → ∃ v, K v = some r ∧
      ∀ (st2 : St), (∀ p ∈ ps, S.le (st.opnd p.2) (st2.opnd p.2)) → ∀ (R2 : Type) (K2 : List V → Option R2), buildS E pl st2 ps cs K2 = K2 v
  | [], cs, R, K, r, h => ⟨cs, h, fun _ _ _ _ => rfl⟩
  | (i, x) :: ps, cs, R, K, r, h => by
    simp only [buildS] at h
    split at h
    · rename_i off t v hp hx
      obtain ⟨xs, h1, h2⟩ := cellsAs_thru _ _ _ _ _ h
      split at h1
      · rename_i hlen
        obtain ⟨cs', h3, h4⟩ := buildS_thru E pl st ps _ R K r h1
        refine ⟨cs', h3, fun st2 hle R2 K2 => ?_⟩
        simp only [buildS, hp, S.le_v (hle (i, x) (List.mem_cons_self ..)) hx]
        refine (h2 R2 _).trans ?_
        simp only [if_pos hlen]
        exact h4 st2 (fun p hp => hle p (List.mem_cons_of_mem _ hp)) R2 K2
      · cases h1
    · cases h

theorem argsK_thru (st : St) : ∀ (l : List Operand),
    ∀ (R : Type) (K : List V → Option R) (r : R), argsK st l K = some r → ∃ v, K v = some r ∧ (∀ (i : Nat) (x : Operand) (u : V), l[i]? = some x → v[i]? = some u → st.opnd x = .v u) ∧
      ∀ (st2 : St), (∀ x ∈ l, S.le (st.opnd x) (st2.opnd x)) → ∀ (R2 : Type) (K2 : List V → Option R2), argsK st2 l K2 = K2 v
  | [], R, K, r, h => ⟨[], h, by simp, fun _ _ _ _ => rfl⟩
  | x :: l, R, K, r, h => by
    simp only [argsK] at h
    split at h
    · rename_i v hx
      obtain ⟨vs, h3, h5, h4⟩ := argsK_thru st l R _ r h
      refine ⟨v :: vs, h3, fun i y u hy hu => ?_, fun st2 hle R2 K2 => ?_⟩
      · cases i with
        | zero => simp at hy hu; subst hy; subst hu; exact hx
        | succ i => simp at hy hu; exact h5 i y u hy hu
      · simp only [argsK, S.le_v (hle x (List.mem_cons_self ..)) hx]
        rw [h4 st2 fun p hp => hle p (List.mem_cons_of_mem _ hp)]
    · cases h

theorem optInt_le {st st2 : St} {o : Option Operand} {d n : Int} (hle : ∀ x, o = some x → S.le (st.opnd x) (st2.opnd x)) (h : optInt st o d = some n) : optInt st2 o d = some n := by
  cases o with
  | none => exact h
  | some x =>
    simp only [optInt] at h ⊢
    split at h
    · rename_i k m hx
      rw [S.le_v (hle x rfl) hx]
      exact h
    · cases h

end
end Go.L
