/- Operations: slices of slices, new memory. -/
import Derived.Test.YtkhnngghmlpbeaaGreatL9
namespace Go.L
noncomputable section

section ops
variable {R : Type} {E : Env} {o : Oper} {st : St} {K : St → Option R} {r : R} {ρ : Ren} {lo : Nat → Option Nat} {a : Act} {w : World}
  {next : Act → World → Prop} {Q : Exit → Act → World → Prop}

theorem optInt_inv (hr : RelA E.n ρ lo st a w) {x : Option Operand} {d n : Int} (h : optInt st x d = some n) :
    (x = none ∧ n = d) ∨ ∃ y k, x = some y ∧ a.eval y = .int k n := by
  unfold optInt at h
  split at h
  · cases h; exact .inl ⟨rfl, rfl⟩
  · rename_i y
    split at h
    · rename_i k m hy
      cases h
      exact .inr ⟨y, k, rfl, opnd_int hr hy⟩
    · cases h

theorem scap_rel {s : V} {y : Value} {es : Nat} (h : RelV ρ s y) (hs : esIs s es = true) : ∃ ad len cap, y = .slice ad len cap ∧ len = snlen s ∧ scap s ≤ cap ∧ len ≤ scap s := by
  unfold esIs at hs
  split at hs
  · rename_i id ver off len es' cp
    cases h with
    | sl _ _ _ _ _ _ _ rc h1 h2 h3 h4 h5 =>
      refine ⟨_, _, _, rfl, rfl, ?_, ?_⟩
      · cases cp with
        | none => simpa [scap] using h3
        | some c => have := h4 c rfl; simp [scap]; omega
      · cases cp <;> simp [scap]; omega
  · cases h with
    | rs0 _ _ _ h => exact ⟨_, _, _, rfl, rfl, by simp [scap], by simp [scap]⟩
    | rs _ _ _ _ _ _ _ rc h0 => exact ⟨_, _, _, rfl, rfl, by simpa [scap] using h0, by simp [scap]⟩
  · cases h; exact ⟨_, _, _, rfl, rfl, by simp [scap], by simp [scap]⟩
  · cases hs

theorem cut_rel {s : V} {ad : Option Addr} {len cap : Nat} (h : RelV ρ s (.slice ad len cap)) {lo hi : Nat} (h1 : lo ≤ hi) (h2 : hi ≤ scap s) (hc : scap s ≤ cap) (es : Nat)
    (hes : ∀ id ver off l es' c, s = .sl id ver off l es' c → es' = es) (hes' : ∀ es' xs, s = .rs es' xs → es' = es) :
    RelV ρ (scut s lo hi) (.slice (if cap = lo then ad else ad.map (·.add (lo * es))) (hi - lo) (cap - lo)) := by
  cases h with
  | nils =>
    have e1 : hi = 0 := by simpa [scap] using h2
    subst e1
    have e2 : lo = 0 := by omega
    subst e2
    exact .nils
  | sl id ver off _ es' cp a rc k1 k2 k3 k4 k5 =>
    have := hes _ _ _ _ _ _ rfl
    subst this
    have hcap : ∀ c, cp = some c → cap = c := k4
    simp only [scut]
    have hne : (if cap = lo then some a else (some a).map (·.add (lo * es'))) = some (if cap = lo then a else a.add (lo * es')) := by split <;> rfl
    rw [hne]
    refine .sl id ver (off + lo * es') (hi - lo) es' _ _ (cap - lo) k1 k2 (by omega) (fun c hc' => ?_) (fun g hv hg hp => ?_)
    · cases cp with
      | none => cases hc'
      | some c0 => simp at hc'; have := k4 c0 rfl; omega
    · obtain ⟨e1, e2⟩ := k5 g hv hg (by omega)
      rw [if_neg (by omega), e1, add_none, Nat.add_assoc]
      refine ⟨rfl, ?_⟩
      have : (cap - lo) * es' = cap * es' - lo * es' := Nat.sub_mul _ _ _
      have h3 : lo * es' ≤ cap * es' := Nat.mul_le_mul_right _ (by omega)
      omega
  | rs0 es' _ _ k =>
    have e1 : hi = 0 := by simpa [scap] using h2
    subst e1
    have e2 : lo = 0 := by omega
    subst e2
    simp only [scut, Nat.zero_mul, List.drop_nil, List.take_nil, Nat.sub_zero]
    refine .rs0 _ _ _ ?_
    split
    · exact k
    · intro h; simp at h; exact k h
  | rs es' xs b off c e fr rc k0 k1 k2 k3 k4 k5 =>
    have := hes' _ _ rfl
    subst this
    have hx : hi ≤ xs.length := by simpa [scap] using h2
    simp only [scut]
    have hlen : ((xs.drop lo).take (hi - lo)).length = hi - lo := by simp; omega
    by_cases e1 : hi = lo
    · subst e1
      simp only [Nat.sub_self, List.take_zero]
      refine .rs0 _ _ _ ?_
      split <;> simp
    · have hm : hi * es' ≤ xs.length * es' := Nat.mul_le_mul_right _ hx
      have hm2 : (hi - lo) * es' = hi * es' - lo * es' := Nat.sub_mul _ _ _
      have hm3 : lo * es' ≤ hi * es' := Nat.mul_le_mul_right _ h1
      rw [if_neg (by omega)]
      simp only [Option.map_some, add_none]
      have key := RelV.rs (ρ := ρ) es' ((xs.drop lo).take (hi - lo)) b (off + lo * es') c e fr (cap - lo) (by omega) k1 (by rw [hlen]; omega)
        (fun v hv => k3 v (List.mem_of_mem_drop (List.mem_of_mem_take hv))) (fun i v j y x hi' hj hx' => ?_) (fun i x hi' hx' => ?_)
      · rw [hlen] at key; exact key
      · rw [List.getElem?_take] at hi'
        split at hi'
        · rw [List.getElem?_drop] at hi'
          refine k4 (lo + i) v j y x hi' hj ?_
          rw [← hx', Nat.add_mul]; congr 1; omega
        · cases hi'
      · rw [hlen] at hi'
        exact k5 (lo * es' + i) x (by omega) (by rw [← hx']; congr 1; omega)

theorem esIs_inv {s : V} {es : Nat} (h : esIs s es = true) : (∀ id ver off l es' c, s = .sl id ver off l es' c → es' = es) ∧ (∀ es' xs, s = .rs es' xs → es' = es) := by
  refine ⟨fun id ver off l es' c e => ?_, fun es' xs e => ?_⟩ <;> (subst e; simpa [esIs] using h)

theorem ssl_inv {es : Nat} {s v : V} {lo hi : Int} (h : ssl es s lo hi = some v) : esIs s es = true ∧ 0 ≤ lo ∧ lo ≤ hi ∧ hi ≤ scap s ∧ v = scut s lo.toNat hi.toNat := by
  unfold ssl at h
  split at h
  · split at h
    · split at h
      · split at h
        · cases h; exact ⟨‹_›, ‹_›, ‹_›, ‹_›, rfl⟩
        · cases h
      · cases h
    · cases h
  · cases h

theorem ssl3_inv {es : Nat} {s v : V} {lo hi mx : Int} (h : ssl3 es s lo hi mx = some v) : esIs s es = true ∧ 0 ≤ lo ∧ lo ≤ hi ∧ hi ≤ mx ∧ mx ≤ scap s ∧ v = scut3 s lo.toNat hi.toNat mx.toNat := by
  unfold ssl3 at h
  split at h
  · split at h
    · split at h
      · split at h
        · split at h
          · cases h; exact ⟨‹_›, ‹_›, ‹_›, ‹_›, ‹_›, rfl⟩
          · cases h
        · cases h
      · cases h
    · cases h
  · cases h

theorem cut3_rel {s : V} {ad : Option Addr} {len cap : Nat} (h : RelV ρ s (.slice ad len cap)) {lo hi mx : Nat} (h1 : lo ≤ hi) (h2 : hi ≤ mx) (h3 : mx ≤ scap s) (es : Nat)
    (hes : ∀ id ver off l es' c, s = .sl id ver off l es' c → es' = es) (hes' : ∀ es' xs, s = .rs es' xs → es' = es) :
    RelV ρ (scut3 s lo hi mx) (.slice (if mx = lo then ad else ad.map (·.add (lo * es))) (hi - lo) (mx - lo)) := by
  cases h with
  | nils =>
    have e1 : mx = 0 := by simpa [scap] using h3
    have e3 : hi = 0 := by omega
    have e2 : lo = 0 := by omega
    subst e1; subst e2; subst e3
    exact .nils
  | sl id ver off _ es' cp a rc k1 k2 k3 k4 k5 =>
    have := hes _ _ _ _ _ _ rfl
    subst this
    have hm : mx ≤ cap := by
      cases cp with
      | none => simp [scap] at h3; omega
      | some c => have := k4 c rfl; simp [scap] at h3; omega
    simp only [scut3]
    have hne : (if mx = lo then some a else (some a).map (·.add (lo * es'))) = some (if mx = lo then a else a.add (lo * es')) := by split <;> rfl
    rw [hne]
    refine .sl id ver (off + lo * es') (hi - lo) es' _ _ (mx - lo) k1 k2 (by omega) (fun c hc' => by cases hc'; rfl) (fun g hv hg hp => ?_)
    obtain ⟨e1, e2⟩ := k5 g hv hg (by omega)
    rw [if_neg (by omega), e1, add_none, Nat.add_assoc]
    refine ⟨rfl, ?_⟩
    have : (mx - lo) * es' = mx * es' - lo * es' := Nat.sub_mul _ _ _
    have h3 : lo * es' ≤ mx * es' := Nat.mul_le_mul_right _ (by omega)
    have h4 : mx * es' ≤ cap * es' := Nat.mul_le_mul_right _ hm
    omega
  | rs0 es' _ _ k =>
    have e1 : mx = 0 := by simpa [scap] using h3
    have e3 : hi = 0 := by omega
    have e2 : lo = 0 := by omega
    subst e1; subst e2; subst e3
    simp only [scut3, List.drop_nil, List.take_nil, Nat.sub_zero]
    refine .rs0 _ _ _ (fun _ => rfl)
  | rs es' xs b off c e fr rc k0 k1 k2 k3 k4 k5 =>
    have := hes' _ _ rfl
    subst this
    have hx : hi ≤ xs.length := by simp [scap] at h3; omega
    have hmx : mx ≤ xs.length := by simpa [scap] using h3
    simp only [scut3]
    have hlen : ((xs.drop lo).take (hi - lo)).length = hi - lo := by simp; omega
    by_cases e1 : hi = lo
    · subst e1
      simp only [Nat.sub_self, List.take_zero]
      refine .rs0 _ _ _ ?_
      split <;> simp
    · have hm : hi * es' ≤ xs.length * es' := Nat.mul_le_mul_right _ hx
      have hm2 : (hi - lo) * es' = hi * es' - lo * es' := Nat.sub_mul _ _ _
      have hm3 : lo * es' ≤ hi * es' := Nat.mul_le_mul_right _ h1
      rw [if_neg (by omega)]
      simp only [Option.map_some, add_none]
      have key := RelV.rs (ρ := ρ) es' ((xs.drop lo).take (hi - lo)) b (off + lo * es') c e fr (mx - lo) (by omega) k1 (by rw [hlen]; omega)
        (fun v hv => k3 v (List.mem_of_mem_drop (List.mem_of_mem_take hv))) (fun i v j y x hi' hj hx' => ?_) (fun i x hi' hx' => ?_)
      · rw [hlen] at key; exact key
      · rw [List.getElem?_take] at hi'
        split at hi'
        · rw [List.getElem?_drop] at hi'
          refine k4 (lo + i) v j y x hi' hj ?_
          rw [← hx', Nat.add_mul]; congr 1; omega
        · cases hi'
      · rw [hlen] at hi'
        exact k5 (lo * es' + i) x (by omega) (by rw [← hx']; congr 1; omega)

theorem sliceBound_ok {P : Program} {k : IntKind} {i : Int} {y : Nat} (h0 : 0 ≤ i) (h1 : i ≤ y) (code : BoundsCode) (w : World) : (Instr.sliceBound (.int k i) y code).run P w = .ok i.toNat w := by
  simp [Instr.sliceBound, asIntOf, h0, h1]

theorem sliceOp_sound {t : TypeId} {x : Operand} {l u m : Option Operand} (ho : o.op = .slice t x l u m) (he : evOp E o st K = some r) (hr : RelA E.n ρ lo st a w) (hn : Owes E o st ρ lo w K r next) :
    o.wp E.P a w next Q := by
  unfold evOp at he
  simp only [ho] at he
  split at he
  · rename_i e hel
    have hu : E.P.underlying t = some (.slice e) := by
      unfold elemOf at hel
      split at hel
      · rename_i e' hu; cases hel; exact hu
      · cases hel
    split at he
    · cases he
    · rename_i hne
      split at he
      · rename_i s hc
        have hx := opnd_v hr hc
        simp only [Option.bind_eq_some_iff] at he
        obtain ⟨n, hnn, lv, hlv, uv, huv, he⟩ := he
        obtain ⟨ad0, len0, cap0, hy0, hn0, _⟩ := slen_rel hx hnn
        have hl := optInt_inv hr hlv
        have hu' := optInt_inv hr huv
        split at he
        · simp only [Option.bind_eq_some_iff] at he
          obtain ⟨v, hv, he⟩ := he
          obtain ⟨g1, g2, g3, g4, g5⟩ := ssl_inv hv
          obtain ⟨ad, len, cap, hy, hlen, hcap, hls⟩ := scap_rel hx g1
          obtain ⟨rfl, rfl, rfl⟩ : ad = ad0 ∧ len = len0 ∧ cap = cap0 := by rw [hy] at hy0; cases hy0; exact ⟨rfl, rfl, rfl⟩
          have hcut := cut_rel (lo := lv.toNat) (hi := uv.toNat) (hy ▸ hx) (by omega) (by omega) hcap _ (esIs_inv g1).1 (esIs_inv g1).2
          subst g5
          refine finV_sound he hr hn ?_ hcut
          unfold execOp
          rcases hl with ⟨rfl, rfl⟩ | ⟨ly, lk, rfl, hle⟩ <;> rcases hu' with ⟨rfl, rfl⟩ | ⟨uy, uk, rfl, hue⟩
          · simp [ho, hy, Instr.sliceAt, run_underlying hu, Instr.slice, Instr.sliceBounds, run_sizeOf_ne hne, hn0]
          · have : uv ≤ cap := by omega
            have g6 : 0 ≤ uv := by omega
            simp [ho, hy, hue, Instr.sliceAt, run_underlying hu, Instr.slice, Instr.sliceBounds, Instr.sliceBound, asIntOf, run_sizeOf_ne hne, this, g6]
          · have h1 : lv ≤ (len : Int) := by omega
            simp [ho, hy, hle, Instr.sliceAt, run_underlying hu, Instr.slice, Instr.sliceBounds, Instr.sliceBound, asIntOf, run_sizeOf_ne hne, h1, g2, hn0]
          · have h1 : uv ≤ cap := by omega
            have g6 : 0 ≤ uv := by omega
            have h2 : lv ≤ (uv.toNat : Int) := by omega
            simp [ho, hy, hle, hue, Instr.sliceAt, run_underlying hu, Instr.slice, Instr.sliceBounds, Instr.sliceBound, asIntOf, run_sizeOf_ne hne, h1, g2, g6]
            try (intros; omega)
        · rename_i mo
          split at he
          · cases he
          · rename_i uy0
            simp only [Option.bind_eq_some_iff] at he
            obtain ⟨mv, hmv, v, hv, he⟩ := he
            have hm := optInt_inv hr hmv
            obtain ⟨g1, g2, g3, g3', g4, g5⟩ := ssl3_inv hv
            obtain ⟨ad, len, cap, hy, hlen, hcap, hls⟩ := scap_rel hx g1
            obtain ⟨rfl, rfl, rfl⟩ : ad = ad0 ∧ len = len0 ∧ cap = cap0 := by rw [hy] at hy0; cases hy0; exact ⟨rfl, rfl, rfl⟩
            have hcut := cut3_rel (lo := lv.toNat) (hi := uv.toNat) (mx := mv.toNat) (hy ▸ hx) (by omega) (by omega) (by omega) _ (esIs_inv g1).1 (esIs_inv g1).2
            subst g5
            rcases hm with ⟨hm, _⟩ | ⟨my, mk, hm, hme⟩
            · cases hm
            · cases hm
              rcases hu' with ⟨hu', _⟩ | ⟨uy, uk, hu', hue⟩
              · cases hu'
              · cases hu'
                refine finV_sound he hr hn ?_ hcut
                have h1 : mv ≤ cap := by omega
                have g6 : 0 ≤ uv := by omega
                have g7 : 0 ≤ mv := by omega
                have e1 := fun c => sliceBound_ok (P := E.P) (k := mk) (i := mv) (y := cap) g7 h1 c w
                have e2 := fun c => sliceBound_ok (P := E.P) (k := uk) (i := uv) (y := mv.toNat) g6 (by omega) c w
                unfold execOp
                rcases hl with ⟨rfl, rfl⟩ | ⟨ly, lk, rfl, hle⟩
                · simp [ho, hy, hue, hme, Instr.sliceAt, run_underlying hu, Instr.slice, Instr.sliceBounds, e1, e2, run_sizeOf_ne hne]
                · have e3 := fun c => sliceBound_ok (P := E.P) (k := lk) (i := lv) (y := uv.toNat) g2 (by omega) c w
                  simp [ho, hy, hle, hue, hme, Instr.sliceAt, run_underlying hu, Instr.slice, Instr.sliceBounds, e1, e2, e3, run_sizeOf_ne hne]
      · cases he
  · rename_i hel
    split at he
    · rename_i s hc
      have hx := opnd_v hr hc
      split at he
      · split at he
        · rename_i hu
          simp only [Option.bind_eq_some_iff] at he
          obtain ⟨lv, hlv, uv, huv, he⟩ := he
          have hl := optInt_inv hr hlv
          have hu' := optInt_inv hr huv
          unfold strSub at he
          split at he
          · rename_i g2
            split at he
            · rename_i g3
              split at he
              · rename_i g4
                generalize hy : a.eval x = y at hx
                cases hx
                refine finV_sound he hr hn (y := .string (s.extract lv.toNat uv.toNat)) ?_ (.str _)
                have g6 : 0 ≤ uv := by omega
                unfold execOp
                rcases hl with ⟨rfl, rfl⟩ | ⟨ly, lk, rfl, hle⟩ <;> rcases hu' with ⟨rfl, rfl⟩ | ⟨uy, uk, rfl, hue⟩
                · simp [ho, hy, Instr.sliceAt, run_underlying hu, Instr.slice, Instr.sliceBounds]
                · simp [ho, hy, hue, Instr.sliceAt, run_underlying hu, Instr.slice, Instr.sliceBounds, Instr.sliceBound, asIntOf, g4, g6]
                · simp [ho, hy, hle, Instr.sliceAt, run_underlying hu, Instr.slice, Instr.sliceBounds, Instr.sliceBound, asIntOf, g2, g3]
                · simp [ho, hy, hle, hue, Instr.sliceAt, run_underlying hu, Instr.slice, Instr.sliceBounds, Instr.sliceBound, asIntOf, g2, g4, g6]
                  try (intros; omega)
              · cases he
            · cases he
          · cases he
        · cases he
      · cases he
    · cases he

end ops
end
end Go.L
