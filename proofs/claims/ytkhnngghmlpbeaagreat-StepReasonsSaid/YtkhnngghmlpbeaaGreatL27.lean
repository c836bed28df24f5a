/- What a call looks at, and what it leaves. -/
import Derived.Test.YtkhnngghmlpbeaaGreatL26
namespace Go.L
noncomputable section

section
variable {R : Type} {E : Env} {o : Oper} {st : St} {K : St → Option R} {r : R}

/-- A value goes into its slot (the same in either state). -/
theorem shape_eq {v : V} (he : finV E o st K v = some r)
    (h : ∀ st2, Alike E o st st2 → ∀ (R2 : Type) (K2 : St → Option R2), evOp E o st2 K2 = finV E o st2 K2 v) : Shape E o st K r :=
  shape_v he fun st2 hs => ⟨.v v, .inr rfl, h st2 hs⟩

theorem finF_cases {es : Nat} {v : V} {h : H} (he : finF E o st K es v h = some r) :
    ∃ v' h', fin E o st K (.v v') st.l h' = some r ∧ ∀ (st2 : St) (R2 : Type) (K2 : St → Option R2), finF E o st2 K2 es v h = fin E o st2 K2 (.v v') st2.l h' := by
  unfold finF at he
  cases hf : fzOf E o with
  | true =>
    rw [hf] at he
    obtain ⟨q, hq, he⟩ := Option.bind_eq_some_iff.1 he
    exact ⟨q.1, q.2, he, fun st2 R2 K2 => by simp only [finF, hf, hq, Option.bind_some]⟩
  | false =>
    rw [hf] at he
    exact ⟨v, h, he, fun st2 R2 K2 => by simp only [finF, hf]⟩

theorem builtin_shape {c : Call} {b : Builtin} (ho : o.op = .call c) (hc : c.callee = .builtin b) (he : evOp E o st K = some r) : Shape E o st K r := by
  unfold evOp at he
  simp only [ho, hc] at he
  obtain ⟨vs, he, _, hv⟩ := argsK_thru _ _ _ _ _ he
  have hev : ∀ st2, Alike E o st st2 → ∀ (R2 : Type) (K2 : St → Option R2), evOp E o st2 K2 = evBuiltin E o b c.argTypes vs st2 K2 := by
    intro st2 hs R2 K2
    unfold evOp
    simp only [ho, hc]
    exact hv st2 (fun x hx => hs.ops x (by simp only [ho, Op.operands, Call.operands, Array.mem_append]; exact .inr (by simpa using hx))) R2 _
  unfold evBuiltin at he
  split at he
  · rename_i x
    split at he
    · rename_i hu
      split at he
      case h_2 => cases he
      refine shape_eq he fun st2 hs R2 K2 => ?_
      rw [hev st2 hs]
      simp only [evBuiltin, hu]
    · rename_i e hu
      obtain ⟨n, hn, he⟩ := Option.bind_eq_some_iff.1 he
      refine shape_eq he fun st2 hs R2 K2 => ?_
      rw [hev st2 hs]
      simp only [evBuiltin, hu, hn, Option.bind_some]
    · rename_i n e hu
      refine shape_eq he fun st2 hs R2 K2 => ?_
      rw [hev st2 hs]
      simp only [evBuiltin, hu]
    · rename_i kt et hu
      obtain ⟨es, hn, he⟩ := Option.bind_eq_some_iff.1 he
      have hk : skey E o = some (none, false) := by simp only [skey, ho, hc, hu]
      refine shape_eq he fun st2 hs R2 K2 => ?_
      rw [hev st2 hs]
      simp only [evBuiltin, hu]
      rw [hs.h false hk, hn]
      rfl
    · cases he
  · rename_i s x
    have hk : skey E o = some (none, true) := by simp only [skey, ho, hc]
    split at he
    case h_2 => cases he
    rename_i e e' h1 h2
    split at he
    case isFalse => cases he
    rename_i h3
    split at he
    case isTrue => cases he
    rename_i h4
    split at he
    case isFalse => cases he
    rename_i h5
    split at he
    case isFalse => cases he
    rename_i h6
    obtain ⟨cs, h7, he⟩ := Option.bind_eq_some_iff.1 he
    obtain ⟨q, h8, he⟩ := Option.bind_eq_some_iff.1 he
    obtain ⟨v', h', he, hf⟩ := finF_cases he
    refine shape_h hk he fun st2 hs hh R2 K2 => ?_
    rw [hev st2 hs]
    simp only [evBuiltin, h1, h2, if_pos h3, if_neg h4, if_pos h5, if_pos h6, hh, h7, h8, Option.bind_some]
    exact hf st2 R2 K2
  · rename_i m key
    have hk : skey E o = some (none, true) := by simp only [skey, ho, hc]
    split at he
    case h_2 => cases he
    rename_i kt et hu
    split at he
    case isFalse => cases he
    rename_i h1
    obtain ⟨h', h2, he⟩ := Option.bind_eq_some_iff.1 he
    refine shape_h hk he fun st2 hs hh R2 K2 => ?_
    rw [hev st2 hs]
    simp only [evBuiltin, hu, if_pos h1, hh, h2, Option.bind_some]
  · rename_i s
    have hk : skey E o = some (none, true) := by simp only [skey, ho, hc]
    split at he
    case h_2 => cases he
    rename_i e h1
    split at he
    case isTrue => cases he
    rename_i h2
    obtain ⟨z, h3, he⟩ := Option.bind_eq_some_iff.1 he
    split at he
    case isFalse => cases he
    rename_i h4
    obtain ⟨h', h5, he⟩ := Option.bind_eq_some_iff.1 he
    refine shape_h hk he fun st2 hs hh R2 K2 => ?_
    rw [hev st2 hs]
    simp only [evBuiltin, h1, if_neg h2, h3, Option.bind_some, if_pos h4, hh, h5]
  · rename_i d s
    have hk : skey E o = some (none, true) := by simp only [skey, ho, hc]
    split at he
    case h_2 => cases he
    rename_i e h1
    split at he
    case isTrue => cases he
    rename_i h2
    obtain ⟨cs, h3, he⟩ := Option.bind_eq_some_iff.1 he
    split at he
    case isFalse => cases he
    rename_i h4
    obtain ⟨h', h5, he⟩ := Option.bind_eq_some_iff.1 he
    refine shape_h hk he fun st2 hs hh R2 K2 => ?_
    rw [hev st2 hs]
    simp only [evBuiltin, h1, if_neg h2, hh, h3, Option.bind_some, if_pos h4, h5]
  · rename_i s
    split at he
    case h_2 => cases he
    rename_i e h1
    obtain ⟨n, h2, he⟩ := Option.bind_eq_some_iff.1 he
    refine shape_eq he fun st2 hs R2 K2 => ?_
    rw [hev st2 hs]
    simp only [evBuiltin, h1, h2, Option.bind_some]
  · obtain ⟨v, he, hm⟩ := min2_thru _ _ _ _ _ _ he
    refine shape_eq he fun st2 hs R2 K2 => ?_
    rw [hev st2 hs]
    exact hm R2 _
  · obtain ⟨v, he, hm⟩ := min2_thru _ _ _ _ _ _ he
    refine shape_eq he fun st2 hs R2 K2 => ?_
    rw [hev st2 hs]
    exact hm R2 _
  · refine shape_eq he fun st2 hs R2 K2 => ?_
    rw [hev st2 hs]
    rfl
  · refine shape_eq he fun st2 hs R2 K2 => ?_
    rw [hev st2 hs]
    rfl
  · split at he
    case isFalse => cases he
    rename_i h1
    refine shape_eq he fun st2 hs R2 K2 => ?_
    rw [hev st2 hs]
    simp only [evBuiltin, if_pos h1]
  · cases he

theorem callK_shape {f : FuncId} {vs : List V} (hro : ∀ F, E.cal f = some (.ro F) → ∃ b, skey E o = some (none, b)) (hfull : ∀ F, E.cal f = some (.full F) → skey E o = some (none, true))
    (hgro : ∀ F, E.cal f = some (.gro F) → skey E o = some (none, true)) (hown : ∀ F, E.cal f = some (.own F) → skey E o = some (none, true))
    (he : callK E o st K f vs = some r) (hev : ∀ st2, Alike E o st st2 → ∀ (R2 : Type) (K2 : St → Option R2), evOp E o st2 K2 = callK E o st2 K2 f vs) : Shape E o st K r := by
  unfold callK at he
  split at he
  · rename_i F hF
    obtain ⟨v, h1, he⟩ := Option.bind_eq_some_iff.1 he
    obtain ⟨u, he, hu⟩ := tyDest_thru _ _ _ _ _ he
    refine shape_eq he fun st2 hs R2 K2 => ?_
    rw [hev st2 hs]
    unfold callK
    simp only [hF, h1, Option.bind_some]
    exact hu R2 _
  · rename_i F hF
    obtain ⟨v, h1, he⟩ := Option.bind_eq_some_iff.1 he
    obtain ⟨u, he, hu⟩ := tyDest_thru _ _ _ _ _ he
    refine shape_eq he fun st2 hs R2 K2 => ?_
    rw [hev st2 hs]
    unfold callK
    simp only [hF, h1, Option.bind_some]
    exact hu R2 _
  · rename_i F hF
    have hh : ∀ st2, Alike E o st st2 → st2.h = st.h := by
      intro st2 hs
      obtain ⟨b, hb⟩ := hro F hF
      exact hs.h b hb
    obtain ⟨v, h1, he⟩ := Option.bind_eq_some_iff.1 he
    obtain ⟨u, he, hu⟩ := tyDest_thru _ _ _ _ _ he
    refine shape_eq he fun st2 hs R2 K2 => ?_
    rw [hev st2 hs]
    unfold callK
    simp only [hF]
    rw [show F.F vs st2.h = some v from by rw [hh st2 hs]; exact h1, Option.bind_some]
    exact hu R2 _
  · rename_i F hF
    have hk := hfull F hF
    obtain ⟨q, h1, he⟩ := Option.bind_eq_some_iff.1 he
    obtain ⟨u, he, hu⟩ := tyDest_thru _ _ _ _ _ he
    have hev2 : ∀ st2, Alike E o st st2 → ∀ (R2 : Type) (K2 : St → Option R2), evOp E o st2 K2 = (match fzOf E o, elemOf E.P o.type with
      | true, some e => if E.P.cellsOf e ≠ 0 then finF E o st2 K2 (E.P.cellsOf e) u (F.out q).2 else none
      | true, none => none
      | false, _ => fin E o st2 K2 (.v u) st2.l (F.out q).2) := by
      intro st2 hs R2 K2
      rw [hev st2 hs]
      unfold callK
      simp only [hF, hs.h true hk, h1, Option.bind_some]
      exact hu R2 _
    split at he
    · rename_i e hfz hel
      split at he
      case isFalse => cases he
      rename_i h2
      obtain ⟨v', h', he, hf⟩ := finF_cases he
      refine shape_h hk he fun st2 hs hh R2 K2 => ?_
      rw [hev2 st2 hs]
      simp only [hfz, hel, if_pos h2]
      exact hf st2 R2 K2
    · cases he
    · rename_i hfz
      refine shape_h hk he fun st2 hs hh R2 K2 => ?_
      rw [hev2 st2 hs]
      simp only [hfz]
  · rename_i F hF
    have hk := hgro F hF
    obtain ⟨q, h1, he⟩ := Option.bind_eq_some_iff.1 he
    obtain ⟨u, he, hu⟩ := tyDest_thru _ _ _ _ _ he
    have hev2 : ∀ st2, Alike E o st st2 → ∀ (R2 : Type) (K2 : St → Option R2), evOp E o st2 K2 = (match fzOf E o, elemOf E.P o.type with
      | true, some e => if E.P.cellsOf e ≠ 0 then finF E o st2 K2 (E.P.cellsOf e) u (F.out q).2 else none
      | true, none => none
      | false, _ => fin E o st2 K2 (.v u) st2.l (F.out q).2) := by
      intro st2 hs R2 K2
      rw [hev st2 hs]
      unfold callK
      simp only [hF, hs.h true hk, h1, Option.bind_some]
      exact hu R2 _
    split at he
    · rename_i e hfz hel
      split at he
      case isFalse => cases he
      rename_i h2
      obtain ⟨v', h', he, hf⟩ := finF_cases he
      refine shape_h hk he fun st2 hs hh R2 K2 => ?_
      rw [hev2 st2 hs]
      simp only [hfz, hel, if_pos h2]
      exact hf st2 R2 K2
    · cases he
    · rename_i hfz
      refine shape_h hk he fun st2 hs hh R2 K2 => ?_
      rw [hev2 st2 hs]
      simp only [hfz]
  · rename_i F hF
    have hk := hown F hF
    obtain ⟨q, h1, he⟩ := Option.bind_eq_some_iff.1 he
    obtain ⟨u, he, hu⟩ := tyDest_thru _ _ _ _ _ he
    have hev2 : ∀ st2, Alike E o st st2 → ∀ (R2 : Type) (K2 : St → Option R2), evOp E o st2 K2 = (match fzOf E o, elemOf E.P o.type with
      | true, some e => if E.P.cellsOf e ≠ 0 then finF E o st2 K2 (E.P.cellsOf e) u (F.out q).2 else none
      | true, none => none
      | false, _ => fin E o st2 K2 (.v u) st2.l (F.out q).2) := by
      intro st2 hs R2 K2
      rw [hev st2 hs]
      unfold callK
      simp only [hF, hs.h true hk, h1, Option.bind_some]
      exact hu R2 _
    split at he
    · rename_i e hfz hel
      split at he
      case isFalse => cases he
      rename_i h2
      obtain ⟨v', h', he, hf⟩ := finF_cases he
      refine shape_h hk he fun st2 hs hh R2 K2 => ?_
      rw [hev2 st2 hs]
      simp only [hfz, hel, if_pos h2]
      exact hf st2 R2 K2
    · cases he
    · rename_i hfz
      refine shape_h hk he fun st2 hs hh R2 K2 => ?_
      rw [hev2 st2 hs]
      simp only [hfz]
  · cases he

theorem call_shape {c : Call} (ho : o.op = .call c) (he : evOp E o st K = some r) : Shape E o st K r := by
  have hargs : ∀ x ∈ c.args.toList, x ∈ o.op.operands := fun x hx => by
    simp only [ho, Op.operands, Call.operands, Array.mem_append]; exact .inr (by simpa using hx)
  cases hc : c.callee with
  | builtin b => exact builtin_shape ho hc he
  | invoke x m => unfold evOp at he; simp only [ho, hc] at he; cases he
  | value f =>
    cases f with
    | const v => unfold evOp at he; simp only [ho, hc] at he; cases he
    | global g => unfold evOp at he; simp only [ho, hc] at he; cases he
    | func f =>
      unfold evOp at he
      simp only [ho, hc] at he
      obtain ⟨vs, he, _, hv⟩ := argsK_thru _ _ _ _ _ he
      refine callK_shape (fun F hF => ⟨false, by simp only [skey, ho, hc, hF]⟩) (fun F hF => by simp only [skey, ho, hc, hF]) (fun F hF => by simp only [skey, ho, hc, hF]) (fun F hF => by simp only [skey, ho, hc, hF]) he fun st2 hs R2 K2 => ?_
      unfold evOp
      simp only [ho, hc]
      exact hv st2 (fun x hx => hs.ops x (hargs x hx)) R2 _
    | tmp t =>
      have hk : skey E o = some (none, true) := by simp only [skey, ho, hc]
      unfold evOp at he
      simp only [ho, hc] at he
      have hop : ∀ {st2}, Alike E o st st2 → S.le (lk st.s t) (lk st2.s t) := fun hs =>
        hs.ops (.tmp t) (by simp only [ho, Op.operands, Call.operands, hc, Array.mem_append]; exact .inl (by simp))
      split at he
      · rename_i F hF
        split at he
        case h_2 => cases he
        rename_i x hp
        obtain ⟨vs, he, _, hv⟩ := argsK_thru _ _ _ _ _ he
        obtain ⟨q, h1, he⟩ := Option.bind_eq_some_iff.1 he
        obtain ⟨u, he, hu⟩ := tyDest_thru _ _ _ _ _ he
        refine shape_h hk he fun st2 hs hh R2 K2 => ?_
        have hp2 : lk st2.s t = .v x := S.le_v (hop hs) hp
        unfold evOp
        simp only [ho, hc, hF, hp2]
        refine (hv st2 (fun x hx => hs.ops x (hargs x hx)) R2 _).trans ?_
        simp only [hs.h true hk, h1, Option.bind_some]
        exact hu R2 _
      · rename_i hnd
        split at he
        case h_2 => cases he
        rename_i f cap hp
        obtain ⟨vs, he, _, hv⟩ := argsK_thru _ _ _ _ _ he
        refine callK_shape (fun F hF => ⟨true, hk⟩) (fun F hF => hk) (fun F hF => hk) (fun F hF => hk) he fun st2 hs R2 K2 => ?_
        have hp2 : lk st2.s t = .v (.fn f cap) := by
          have := hs.ops (.tmp t) (by simp only [ho, Op.operands, Call.operands, hc, Array.mem_append]; exact .inl (by simp))
          exact S.le_v this hp
        unfold evOp
        simp only [ho, hc, hp2]
        exact hv st2 (fun x hx => hs.ops x (hargs x hx)) R2 _

theorem evOp_shape (hlp : LpOk E st) (he : evOp E o st K = some r) : Shape E o st K r := by
  cases ho : o.op with
  | move x => exact move_shape (.inl ho) he
  | assign x => exact move_shape (.inr ho) he
  | pick c x y => exact pick_shape ho he
  | alloc t => exact alloc_shape ho he
  | box t x => exact box_shape ho he
  | build t ps => exact build_shape ho he
  | buildSlice t l ps => exact buildSlice_shape ho he
  | load t x => exact load_shape hlp ho he
  | store t x y => exact store_shape hlp ho he
  | nilCheck x => exact nilCheck_shape ho he
  | binOp op t x y t' => exact binOp_shape ho he
  | unOp op t x => exact unOp_shape ho he
  | convert s t x => exact conv_shape ho he
  | makeFunc f fs cs =>
    cases f with
    | func f => exact makeFunc_shape ho he
    | _ => unfold evOp at he; simp only [ho] at he; cases he
  | makeMap t x =>
    cases x with
    | none => exact makeMap_shape ho he
    | some x => unfold evOp at he; simp only [ho] at he; cases he
  | makeSlice t l c => exact makeSlice_shape ho he
  | slice t x l u m => exact slice_shape ho he
  | fieldAddr t x i => exact fieldAddr_shape ho he
  | field t x i => exact field_shape ho he
  | indexAddr t x i => exact indexAddr_shape ho he
  | index t x i => exact index_shape ho he
  | lookup t x i ok => exact lookup_shape ho he
  | mapUpdate t m k v => exact mapUpdate_shape ho he
  | extract x i => exact extract_shape ho he
  | call c => exact call_shape ho he
  | _ => unfold evOp at he; simp only [ho] at he; cases he

end
end
end Go.L
