/- What an operation looks at, and what it leaves (the rest). -/
import Derived.Test.YtkhnngghmlpbeaaGreatL25
namespace Go.L
noncomputable section

section
variable {R : Type} {E : Env} {o : Oper} {st : St} {K : St → Option R} {r : R}

theorem S.le_lp {x y : S} (h : S.le x y) {t off : Nat} (hx : x = .lp t off) : y = .lp t off := by
  rcases h with h | h
  · rw [hx] at h; cases h
  · rw [← h, hx]

theorem S.le_p {x y : S} (h : S.le x y) {v : V} (hx : x = .p v) : y = .p v := by
  rcases h with h | h
  · rw [hx] at h; cases h
  · rw [← h, hx]

theorem nilCheck_shape {x : Operand} (ho : o.op = .nilCheck x) (he : evOp E o st K = some r) : Shape E o st K r := by
  have hx0 : x ∈ o.op.operands := by simp [ho, Op.operands]
  unfold evOp at he
  simp only [ho] at he
  split at he
  · rename_i t off hx
    refine shape_v he fun st2 hs => ⟨_, .inr rfl, fun R2 K2 => ?_⟩
    unfold evOp
    simp only [ho, S.le_lp (hs.ops x hx0) hx]
  · rename_i p hx
    obtain ⟨u, hu, he⟩ := Option.bind_eq_some_iff.1 he
    refine shape_v he fun st2 hs => ⟨_, .inr rfl, fun R2 K2 => ?_⟩
    unfold evOp
    simp only [ho, S.le_v (hs.ops x hx0) hx, hu, Option.bind_some]
  · rename_i p hx
    refine shape_v he fun st2 hs => ⟨_, .inr rfl, fun R2 K2 => ?_⟩
    unfold evOp
    simp only [ho, S.le_p (hs.ops x hx0) hx]
  · cases he

theorem binOp_shape {op : BinOp} {t t' : TypeId} {x y : Operand} (ho : o.op = .binOp op t x y t') (he : evOp E o st K = some r) : Shape E o st K r := by
  have hx0 : x ∈ o.op.operands := by simp [ho, Op.operands]
  have hy0 : y ∈ o.op.operands := by simp [ho, Op.operands]
  unfold evOp at he
  simp only [ho] at he
  split at he
  · rename_i u v hx hy
    obtain ⟨z, he, hz⟩ := binS_thru _ _ _ _ _ _ _ _ he
    refine shape_v he fun st2 hs => ⟨_, .inr rfl, fun R2 K2 => ?_⟩
    unfold evOp
    simp only [ho, S.le_v (hs.ops x hx0) hx, S.le_v (hs.ops y hy0) hy]
    exact hz R2 _
  · cases he

theorem unOp_shape {op : UnOp} {t : TypeId} {x : Operand} (ho : o.op = .unOp op t x) (he : evOp E o st K = some r) : Shape E o st K r := by
  have hx0 : x ∈ o.op.operands := by simp [ho, Op.operands]
  unfold evOp at he
  simp only [ho] at he
  split at he
  · rename_i u hx
    obtain ⟨z, he, hz⟩ := unS_thru _ _ _ _ _ he
    refine shape_v he fun st2 hs => ⟨_, .inr rfl, fun R2 K2 => ?_⟩
    unfold evOp
    simp only [ho, S.le_v (hs.ops x hx0) hx]
    exact hz R2 _
  · cases he

theorem conv_shape {s t : TypeId} {x : Operand} (ho : o.op = .convert s t x) (he : evOp E o st K = some r) : Shape E o st K r := by
  have hx0 : x ∈ o.op.operands := by simp [ho, Op.operands]
  unfold evOp at he
  simp only [ho] at he
  split at he
  · rename_i u hx
    obtain ⟨z, he, hz⟩ := convS_thru _ _ _ _ _ _ _ he
    refine shape_v he fun st2 hs => ⟨_, .inr rfl, fun R2 K2 => ?_⟩
    unfold evOp
    simp only [ho, S.le_v (hs.ops x hx0) hx]
    exact hz R2 _
  · cases he

theorem makeFunc_shape {f : FuncId} {first cap : Array Operand} (ho : o.op = .makeFunc (.func f) first cap) (he : evOp E o st K = some r) : Shape E o st K r := by
  unfold evOp at he
  simp only [ho] at he
  split at he
  · rename_i hf
    obtain ⟨vs, he, _, hv⟩ := argsK_thru _ _ _ _ _ he
    refine shape_v he fun st2 hs => ⟨_, .inr rfl, fun R2 K2 => ?_⟩
    unfold evOp
    simp only [ho, hf]
    exact hv st2 (fun x hx => hs.ops x (by simp only [ho, Op.operands, Array.mem_append]; exact .inr (by simpa using hx))) R2 _
  · cases he

theorem makeMap_shape {t : TypeId} (ho : o.op = .makeMap t none) (he : evOp E o st K = some r) : Shape E o st K r := by
  unfold evOp at he
  simp only [ho] at he
  refine shape_h (by simp only [skey, ho]) he fun st2 hs hh R2 K2 => ?_
  unfold evOp
  simp only [ho, hh]

theorem makeSlice_shape {t : TypeId} {x y : Operand} (ho : o.op = .makeSlice t x y) (he : evOp E o st K = some r) : Shape E o st K r := by
  have hx0 : x ∈ o.op.operands := by simp [ho, Op.operands]
  have hy0 : y ∈ o.op.operands := by simp [ho, Op.operands]
  unfold evOp at he
  simp only [ho] at he
  split at he
  case h_2 => cases he
  rename_i l c e hx hy hel
  obtain ⟨z, hz, he⟩ := Option.bind_eq_some_iff.1 he
  split at he
  case isTrue => cases he
  rename_i h1
  split at he
  case isFalse => cases he
  rename_i h2
  split at he
  case isFalse => cases he
  rename_i h3
  split at he
  case isFalse => cases he
  rename_i h4
  split at he
  case isFalse => cases he
  rename_i h5
  split at he
  case isFalse => cases he
  rename_i h6
  cases hfz : fzOf E o with
  | true =>
    simp only [hfz] at he
    split at he
    case isFalse => cases he
    rename_i h7
    refine shape_v he fun st2 hs => ⟨_, .inr rfl, fun R2 K2 => ?_⟩
    unfold evOp
    simp only [ho, S.le_v (hs.ops x hx0) hx, S.le_v (hs.ops y hy0) hy, hel, hz, Option.bind_some, if_neg h1, if_pos h2, if_pos h3, if_pos h4, if_pos h5, if_pos h6, hfz, if_pos h7]
    rfl
  | false =>
    simp only [hfz] at he
    cases hrs : rsOf E o with
    | none =>
      simp only [hrs] at he
      refine shape_h (by simp only [skey, ho, hfz]) he fun st2 hs hh R2 K2 => ?_
      unfold evOp
      simp only [ho, S.le_v (hs.ops x hx0) hx, S.le_v (hs.ops y hy0) hy, hel, hz, Option.bind_some, if_neg h1, if_pos h2, if_pos h3, if_pos h4, if_pos h5, if_pos h6, hfz, hrs, hh]
    | some d =>
      simp only [hrs] at he
      obtain ⟨h', hfl, he⟩ := Option.bind_eq_some_iff.1 he
      refine shape_h (by simp only [skey, ho, hfz]) he fun st2 hs hh R2 K2 => ?_
      unfold evOp
      simp only [ho, S.le_v (hs.ops x hx0) hx, S.le_v (hs.ops y hy0) hy, hel, hz, Option.bind_some, if_neg h1, if_pos h2, if_pos h3, if_pos h4, if_pos h5, if_pos h6, hfz, hrs, hh, hfl]

theorem slice_shape {t : TypeId} {x : Operand} {lo hi mx : Option Operand} (ho : o.op = .slice t x lo hi mx) (he : evOp E o st K = some r) : Shape E o st K r := by
  have hx0 : x ∈ o.op.operands := by simp [ho, Op.operands]
  have hl0 : ∀ y, lo = some y → y ∈ o.op.operands := by intro y hy; simp [ho, Op.operands, hy]
  have hh0 : ∀ y, hi = some y → y ∈ o.op.operands := by intro y hy; simp [ho, Op.operands, hy]
  have hm0 : ∀ y, mx = some y → y ∈ o.op.operands := by intro y hy; simp [ho, Op.operands, hy]
  unfold evOp at he
  simp only [ho] at he
  split at he
  · rename_i e hel
    split at he
    case isTrue => cases he
    rename_i h1
    split at he
    case h_2 => cases he
    rename_i v hx
    obtain ⟨n, hn, he⟩ := Option.bind_eq_some_iff.1 he
    obtain ⟨l, hl, he⟩ := Option.bind_eq_some_iff.1 he
    obtain ⟨u, hu, he⟩ := Option.bind_eq_some_iff.1 he
    cases mx with
    | none =>
      obtain ⟨w, hw, he⟩ := Option.bind_eq_some_iff.1 he
      refine shape_v he fun st2 hs => ⟨_, .inr rfl, fun R2 K2 => ?_⟩
      unfold evOp
      simp only [ho, hel, if_neg h1, S.le_v (hs.ops x hx0) hx, hn, Option.bind_some, optInt_le (fun y hy => hs.ops y (hl0 y hy)) hl, optInt_le (fun y hy => hs.ops y (hh0 y hy)) hu, hw]
      rfl
    | some m =>
      cases hi with
      | none => cases he
      | some i =>
        obtain ⟨mm, hmm, he⟩ := Option.bind_eq_some_iff.1 he
        obtain ⟨w, hw, he⟩ := Option.bind_eq_some_iff.1 he
        refine shape_v he fun st2 hs => ⟨_, .inr rfl, fun R2 K2 => ?_⟩
        unfold evOp
        simp only [ho, hel, if_neg h1, S.le_v (hs.ops x hx0) hx, hn, Option.bind_some, optInt_le (fun y hy => hs.ops y (hl0 y hy)) hl, optInt_le (fun y hy => hs.ops y (hh0 y hy)) hu,
          optInt_le (o := some m) (fun y hy => hs.ops y (hm0 y hy)) hmm, hw]
        rfl
  · rename_i hel
    split at he
    case h_2 => cases he
    rename_i s hx
    split at he
    case h_2 => cases he
    split at he
    case h_2 => cases he
    rename_i hu0
    obtain ⟨l, hl, he⟩ := Option.bind_eq_some_iff.1 he
    obtain ⟨u, hu, he⟩ := Option.bind_eq_some_iff.1 he
    obtain ⟨w, he, hw⟩ := strSub_thru _ _ _ _ _ _ he
    refine shape_v he fun st2 hs => ⟨_, .inr rfl, fun R2 K2 => ?_⟩
    unfold evOp
    simp only [ho, hel, S.le_v (hs.ops x hx0) hx, hu0, Option.bind_some, optInt_le (fun y hy => hs.ops y (hl0 y hy)) hl, optInt_le (fun y hy => hs.ops y (hh0 y hy)) hu]
    exact hw R2 _

theorem fieldAddr_shape {t : TypeId} {x : Operand} {i : Nat} (ho : o.op = .fieldAddr t x i) (he : evOp E o st K = some r) : Shape E o st K r := by
  have hx0 : x ∈ o.op.operands := by simp [ho, Op.operands]
  unfold evOp at he
  simp only [ho] at he
  split at he
  case h_2 => cases he
  rename_i fs hfs
  split at he
  case h_2 => cases he
  rename_i f hf
  split at he
  case isTrue => cases he
  rename_i h1
  split at he
  · rename_i t off hx
    refine shape_v he fun st2 hs => ⟨_, .inr rfl, fun R2 K2 => ?_⟩
    unfold evOp
    simp only [ho, hfs, hf, if_neg h1, S.le_lp (hs.ops x hx0) hx]
  · rename_i p hx
    obtain ⟨u, hu, he⟩ := Option.bind_eq_some_iff.1 he
    refine shape_v he fun st2 hs => ⟨_, .inr rfl, fun R2 K2 => ?_⟩
    unfold evOp
    simp only [ho, hfs, hf, if_neg h1, S.le_v (hs.ops x hx0) hx, hu, Option.bind_some]
  · rename_i p hx
    refine shape_v he fun st2 hs => ⟨_, .inr rfl, fun R2 K2 => ?_⟩
    unfold evOp
    simp only [ho, hfs, hf, if_neg h1, S.le_p (hs.ops x hx0) hx]
  · cases he

theorem field_shape {t : TypeId} {x : Operand} {i : Nat} (ho : o.op = .field t x i) (he : evOp E o st K = some r) : Shape E o st K r := by
  have hx0 : x ∈ o.op.operands := by simp [ho, Op.operands]
  unfold evOp at he
  simp only [ho] at he
  split at he
  case h_2 => cases he
  rename_i cs off ft hx hp
  split at he
  case h_2 => cases he
  rename_i fs hfs
  split at he
  · rename_i l hl
    obtain ⟨v, he, hv⟩ := dest_thru _ _ _ _ _ he
    refine shape_v he fun st2 hs => ⟨_, .inr rfl, fun R2 K2 => ?_⟩
    unfold evOp
    simp only [ho, hfs, hp, S.le_v (hs.ops x hx0) hx, hl]
    exact hv R2 _
  · rename_i ls hl
    split at he
    case isFalse => cases he
    rename_i h1
    obtain ⟨v, he, hv⟩ := rdLs_thru _ _ _ _ _ _ he
    refine shape_v he fun st2 hs => ⟨_, .inr rfl, fun R2 K2 => ?_⟩
    unfold evOp
    simp only [ho, hfs, hp, S.le_v (hs.ops x hx0) hx, hl, if_pos h1]
    exact hv R2 _
  · rename_i n hl
    split at he
    case isFalse => cases he
    rename_i h1
    refine shape_v he fun st2 hs => ⟨_, .inr rfl, fun R2 K2 => ?_⟩
    unfold evOp
    simp only [ho, hfs, hp, S.le_v (hs.ops x hx0) hx, hl, if_pos h1]
    rfl
  · cases he

theorem indexAddr_shape {t : TypeId} {x i : Operand} (ho : o.op = .indexAddr t x i) (he : evOp E o st K = some r) : Shape E o st K r := by
  have hx0 : x ∈ o.op.operands := by simp [ho, Op.operands]
  have hi0 : i ∈ o.op.operands := by simp [ho, Op.operands]
  unfold evOp at he
  simp only [ho] at he
  split at he
  case h_2 => cases he
  rename_i k n hi
  split at he
  · rename_i m e hu
    split at he
    · rename_i t off hx
      split at he
      case isFalse => cases he
      rename_i h1
      split at he
      case isFalse => cases he
      rename_i h2
      split at he
      case isFalse => cases he
      rename_i h3
      refine shape_v he fun st2 hs => ⟨_, .inr rfl, fun R2 K2 => ?_⟩
      unfold evOp
      simp only [ho, S.le_v (hs.ops i hi0) hi, hu, S.le_lp (hs.ops x hx0) hx, if_pos h1, if_pos h2, if_pos h3]
    · rename_i p hx
      obtain ⟨u, h1, he⟩ := Option.bind_eq_some_iff.1 he
      obtain ⟨q, h2, he⟩ := Option.bind_eq_some_iff.1 he
      refine shape_v he fun st2 hs => ⟨_, .inr rfl, fun R2 K2 => ?_⟩
      unfold evOp
      simp only [ho, S.le_v (hs.ops i hi0) hi, hu, S.le_v (hs.ops x hx0) hx, h1, h2, Option.bind_some]
    · rename_i p hx
      obtain ⟨q, h2, he⟩ := Option.bind_eq_some_iff.1 he
      refine shape_v he fun st2 hs => ⟨_, .inr rfl, fun R2 K2 => ?_⟩
      unfold evOp
      simp only [ho, S.le_v (hs.ops i hi0) hi, hu, S.le_p (hs.ops x hx0) hx, h2, Option.bind_some]
    · cases he
  · rename_i e hu
    split at he
    case isTrue => cases he
    rename_i h1
    split at he
    case h_2 => cases he
    rename_i s hx
    obtain ⟨q, h2, he⟩ := Option.bind_eq_some_iff.1 he
    refine shape_v he fun st2 hs => ⟨_, .inr rfl, fun R2 K2 => ?_⟩
    unfold evOp
    simp only [ho, S.le_v (hs.ops i hi0) hi, hu, S.le_v (hs.ops x hx0) hx, if_neg h1, h2, Option.bind_some]
  · cases he

theorem index_shape {t : TypeId} {x i : Operand} (ho : o.op = .index t x i) (he : evOp E o st K = some r) : Shape E o st K r := by
  have hx0 : x ∈ o.op.operands := by simp [ho, Op.operands]
  have hi0 : i ∈ o.op.operands := by simp [ho, Op.operands]
  unfold evOp at he
  simp only [ho] at he
  split at he
  · rename_i cs k n hx hi
    split at he
    case h_2 => cases he
    rename_i m e hu
    split at he
    case isFalse => cases he
    rename_i h1
    split at he
    case isFalse => cases he
    rename_i h2
    split at he
    case isFalse => cases he
    rename_i h3
    split at he
    · rename_i l hl
      obtain ⟨v, he, hv⟩ := dest_thru _ _ _ _ _ he
      refine shape_v he fun st2 hs => ⟨_, .inr rfl, fun R2 K2 => ?_⟩
      unfold evOp
      simp only [ho, S.le_v (hs.ops i hi0) hi, hu, S.le_v (hs.ops x hx0) hx, if_pos h1, if_pos h2, if_pos h3, hl]
      exact hv R2 _
    · rename_i ls hl
      split at he
      case isFalse => cases he
      rename_i h4
      obtain ⟨v, he, hv⟩ := rdLs_thru _ _ _ _ _ _ he
      refine shape_v he fun st2 hs => ⟨_, .inr rfl, fun R2 K2 => ?_⟩
      unfold evOp
      simp only [ho, S.le_v (hs.ops i hi0) hi, hu, S.le_v (hs.ops x hx0) hx, if_pos h1, if_pos h2, if_pos h3, hl, if_pos h4]
      exact hv R2 _
    · rename_i mm hl
      split at he
      case isFalse => cases he
      rename_i h4
      refine shape_v he fun st2 hs => ⟨_, .inr rfl, fun R2 K2 => ?_⟩
      unfold evOp
      simp only [ho, S.le_v (hs.ops i hi0) hi, hu, S.le_v (hs.ops x hx0) hx, if_pos h1, if_pos h2, if_pos h3, hl, if_pos h4]
      rfl
    · cases he
  · rename_i s k n hx hi
    split at he
    case h_2 => cases he
    rename_i hu
    split at he
    case isFalse => cases he
    rename_i h1
    obtain ⟨q, h2, he⟩ := Option.bind_eq_some_iff.1 he
    refine shape_v he fun st2 hs => ⟨_, .inr rfl, fun R2 K2 => ?_⟩
    unfold evOp
    simp only [ho, S.le_v (hs.ops i hi0) hi, hu, S.le_v (hs.ops x hx0) hx, if_pos h1, h2, Option.bind_some]
    rfl
  · cases he

theorem lookup_shape {t : TypeId} {x i : Operand} {ok : Bool} (ho : o.op = .lookup t x i ok) (he : evOp E o st K = some r) : Shape E o st K r := by
  have hx0 : x ∈ o.op.operands := by simp [ho, Op.operands]
  have hi0 : i ∈ o.op.operands := by simp [ho, Op.operands]
  have hk : skey E o = some (none, false) := by simp only [skey, ho]
  unfold evOp at he
  simp only [ho] at he
  split at he
  case h_2 => cases he
  rename_i m key kt et hx hi hu
  split at he
  case isFalse => cases he
  rename_i h1
  obtain ⟨es, h2, he⟩ := Option.bind_eq_some_iff.1 he
  obtain ⟨q, h3, he⟩ := Option.bind_eq_some_iff.1 he
  obtain ⟨z, h4, he⟩ := Option.bind_eq_some_iff.1 he
  split at he
  case h_2 => cases he
  rename_i l hl
  cases ok with
  | true =>
    obtain ⟨v, he, hv⟩ := dest_thru _ _ _ _ _ he
    refine shape_v he fun st2 hs => ⟨_, .inr rfl, fun R2 K2 => ?_⟩
    unfold evOp
    simp only [ho, S.le_v (hs.ops i hi0) hi, hu, S.le_v (hs.ops x hx0) hx, if_pos h1, hs.h false hk, h2, h3, h4, Option.bind_some, hl]
    rw [← hs.h false hk]
    exact hv R2 _
  | false =>
    obtain ⟨v, he, hv⟩ := dest_thru _ _ _ _ _ he
    refine shape_v he fun st2 hs => ⟨_, .inr rfl, fun R2 K2 => ?_⟩
    unfold evOp
    simp only [ho, S.le_v (hs.ops i hi0) hi, hu, S.le_v (hs.ops x hx0) hx, if_pos h1, hs.h false hk, h2, h3, h4, Option.bind_some, hl]
    rw [← hs.h false hk]
    exact hv R2 _

theorem mapUpdate_shape {t : TypeId} {m k v : Operand} (ho : o.op = .mapUpdate t m k v) (he : evOp E o st K = some r) : Shape E o st K r := by
  have hm0 : m ∈ o.op.operands := by simp [ho, Op.operands]
  have hk0 : k ∈ o.op.operands := by simp [ho, Op.operands]
  have hv0 : v ∈ o.op.operands := by simp [ho, Op.operands]
  unfold evOp at he
  simp only [ho] at he
  split at he
  case h_2 => cases he
  rename_i mm key x kt et hm hk hv hu
  split at he
  case isFalse => cases he
  rename_i h1
  split at he
  case h_2 => cases he
  rename_i l hl
  obtain ⟨h, h2, he⟩ := Option.bind_eq_some_iff.1 he
  refine shape_h (by simp only [skey, ho]) he fun st2 hs hh R2 K2 => ?_
  unfold evOp
  simp only [ho, S.le_v (hs.ops m hm0) hm, hu, S.le_v (hs.ops k hk0) hk, S.le_v (hs.ops v hv0) hv, if_pos h1, hl, hh, h2, Option.bind_some]

theorem extract_shape {x : Operand} {i : Nat} (ho : o.op = .extract x i) (he : evOp E o st K = some r) : Shape E o st K r := by
  have hx0 : x ∈ o.op.operands := by simp [ho, Op.operands]
  unfold evOp at he
  simp only [ho] at he
  split at he
  case h_2 => cases he
  rename_i vs hx
  split at he
  case h_2 => cases he
  rename_i v hv
  refine shape_v he fun st2 hs => ⟨_, .inr rfl, fun R2 K2 => ?_⟩
  unfold evOp
  simp only [ho, S.le_v (hs.ops x hx0) hx, hv]
  rfl

end
end
end Go.L
