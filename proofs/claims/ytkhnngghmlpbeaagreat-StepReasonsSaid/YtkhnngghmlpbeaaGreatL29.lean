/- Regions: in text order, and in any order. -/
import Derived.Test.YtkhnngghmlpbeaaGreatL28
namespace Go.L
noncomputable section

section
variable {E : Env} {ops : Array Oper}

theorem slot_want {o : Oper} {st : St} {j cj : Nat} {want b : Bool} (hg : o.guard = some (j, want)) (hcj : dstOf ops j = some cj) (hb : lk st.s cj = .v (.bool b)) :
    wantS ops o st = some (b == want) := by
  unfold wantS
  simp only [hg, hcj, hb]

theorem slot_want_un {o : Oper} {st : St} {j cj : Nat} {want : Bool} (hg : o.guard = some (j, want)) (hcj : dstOf ops j = some cj) (hb : lk st.s cj = .un) :
    wantS ops o st = some false := by
  unfold wantS
  simp only [hg, hcj, hb]

theorem evOps_flat : ∀ (n : Nat) (asm : List Nat) (l : List Oper) {R : Type} {st : St} {K : St → Option R} {r : R}, evOps E ops n asm l st K = some r → LpOk E st →
    ∃ st' sf, flat E ops l st = some sf ∧ K st' = some r ∧ St.le st' sf ∧ LpOk E st' := by
  intro n
  induction n with
  | zero =>
    intro asm l R st K r he hlp
    cases l with
    | nil =>
      simp only [evOps] at he
      exact ⟨st, st, rfl, he, St.le_refl _, hlp⟩
    | cons o l => simp [evOps] at he
  | succ n ih =>
    intro asm l R st K r he hlp
    cases l with
    | nil =>
      simp only [evOps] at he
      exact ⟨st, st, rfl, he, St.le_refl _, hlp⟩
    | cons o rest =>
      have goon : (evOp E o st fun st => evOps E ops n asm rest st K) = some r → wantS ops o st = some true →
          ∃ st' sf, flat E ops (o :: rest) st = some sf ∧ K st' = some r ∧ St.le st' sf ∧ LpOk E st' := by
        intro he hw
        obtain ⟨x, l, h, hf, hs⟩ := evOp_shape hlp he
        obtain ⟨e1, e2⟩ := fin_out hf
        obtain ⟨st', sf, k1, k2, k3, k4⟩ := ih asm rest e1 (hlp.out _ _ _)
        obtain ⟨x2, l2, h2, m1, m2, m3⟩ := hs st ((St.le_refl st).alikeG (ops := ops) o).alike
        obtain ⟨sf', n1, n2⟩ := flat_mono rest k1 (hlp.out _ _ _) (out_le (St.le_refl st) m1 m2)
        refine ⟨st', sf', ?_, k2, St.le_trans k3 n2, k4⟩
        have : stp E ops o st = some (outS E o st x2 l2 h2) := by
          unfold stp
          rw [hw]
          exact (m3 St some).trans (e2 st St some x2 l2 h2)
        simp only [flat, this, Option.bind_some, n1]
      have skip : fin E o st (fun st => evOps E ops n asm rest st K) .un st.l st.h = some r → wantS ops o st = some false →
          ∃ st' sf, flat E ops (o :: rest) st = some sf ∧ K st' = some r ∧ St.le st' sf ∧ LpOk E st' := by
        intro he hw
        obtain ⟨e1, e2⟩ := fin_out he
        obtain ⟨st', sf, k1, k2, k3, k4⟩ := ih asm rest e1 (hlp.out _ _ _)
        refine ⟨st', sf, ?_, k2, k3, k4⟩
        have : stp E ops o st = some (outS E o st .un st.l st.h) := by
          unfold stp
          rw [hw]
          exact e2 st St some _ _ _
        simp only [flat, this, Option.bind_some, k1]
      simp only [evOps] at he
      split at he
      · rename_i hg
        exact goon he (by simp [wantS, hg])
      · rename_i j want hg
        split at he
        · cases he
        · rename_i cj hcj
          split at he
          · split at he
            · rename_i hl
              exact goon he (slot_want hg hcj hl)
            · rename_i hl
              exact goon he (slot_want hg hcj hl)
            · rename_i hl
              exact skip he (slot_want hg hcj hl)
            · rename_i hl
              exact skip he (slot_want hg hcj hl)
            · rename_i hl
              exact skip he (slot_want_un hg hcj hl)
            · cases he
          · split at he
            · rename_i b hb
              split at he
              · rename_i p rest2 hdw
                split at he
                · cases he
                · rename_i d hd
                  split at he
                  · cases he
                  · rename_i hall
                    rw [List.all_eq_true] at hall
                    obtain ⟨⟨rb, h'⟩, hin, he⟩ := Option.bind_eq_some_iff.1 he
                    have hsplit : o :: rest = ((o :: rest).takeWhile (inGroup j) ++ [p]) ++ rest2 := by
                      rw [List.append_assoc, List.singleton_append, ← hdw, List.takeWhile_append_dropWhile]
                    generalize hinner : (o :: rest).takeWhile (inGroup j) = inner at *
                    rw [hsplit, flat_append]
                    have hs0 : ∀ i, lk ((cj, S.v (.bool b)) :: st.s) i = lk st.s i := by
                      intro i
                      rw [lk_cons]
                      by_cases h : cj = i
                      · subst h; rw [if_pos rfl, hb]
                      · rw [if_neg h]
                    have hlp1 : LpOk E ⟨(cj, .v (.bool b)) :: st.s, st.l, st.h⟩ := fun i => by
                      show lpOk E i (lk ((cj, S.v (.bool b)) :: st.s) i) = true
                      rw [hs0 i]; exact hlp i
                    have hin' : evOps E ops n (j :: asm) (inner ++ [p]) ⟨(cj, .v (.bool b)) :: st.s, st.l, st.h⟩ (groupFin d) = some (rb, h') := by
                      cases b
                      · rw [if_neg (by simp)] at hin; exact hin
                      · rw [if_pos rfl] at hin; exact hin
                    obtain ⟨st', sf, k1, k2, k3, k4⟩ := ih _ _ hin' hlp1
                    obtain ⟨sf1, m1, m2⟩ := flat_mono (inner ++ [p]) k1 hlp1 (st2 := st) ⟨fun i => .inr (hs0 i), fun _ => rfl, rfl⟩
                    have hle := St.le_trans k3 m2
                    unfold groupFin at k2
                    split at k2
                    case h_2 => cases k2
                    rename_i rb' hsd
                    cases k2
                    obtain ⟨f1, f2⟩ := flat_kept (inner ++ [p]) m1 hlp
                    have hle2 : St.le ⟨(d, .v (.bool rb)) :: clr inner st.s, st.l, st'.h⟩ sf1 := by
                      refine ⟨fun i => ?_, fun t => f2 (fun o' ho' => hall o' ho') t, hle.h⟩
                      show S.le (lk ((d, S.v (.bool rb)) :: clr inner st.s) i) _
                      rw [lk_cons]
                      by_cases h : d = i
                      · subst h; rw [if_pos rfl, ← hsd]; exact hle.s d
                      · rw [if_neg h]
                        rcases lk_clr inner st.s i with h1 | ⟨h1, h2⟩
                        · exact .inl h1
                        · right
                          rw [h2, f1 i fun o' ho' => by
                            rcases List.mem_append.1 ho' with ho' | ho'
                            · exact h1 o' ho'
                            · simp only [List.mem_singleton] at ho'; subst ho'; rw [hd]; intro e; cases e; exact h rfl]
                    have hlp2 : LpOk E ⟨(d, .v (.bool rb)) :: clr inner st.s, st.l, st'.h⟩ := by
                      intro i
                      show lpOk E i (lk ((d, S.v (.bool rb)) :: clr inner st.s) i) = true
                      rw [lk_cons]
                      by_cases h : d = i
                      · subst h; rw [if_pos rfl, ← hsd]; exact k4 d
                      · rw [if_neg h]
                        rcases lk_clr inner st.s i with h1 | ⟨h1, h2⟩
                        · rw [h1]; rfl
                        · rw [h2]; exact hlp i
                    obtain ⟨st'', sg, g1, g2, g3, g4⟩ := ih asm rest2 he hlp2
                    obtain ⟨sh, q1, q2⟩ := flat_mono rest2 g1 hlp2 hle2
                    exact ⟨st'', sh, by rw [m1, Option.bind_some, q1], g2, St.le_trans g3 q2, g4⟩
              · cases he
            · rename_i hl
              exact skip he (slot_want_un hg hcj hl)
            · cases he

/-- One operation, in text or skipped. -/
theorem stp_wp (hE : Good E) {Q : Exit → Act → World → Prop} {o : Oper} {st st1 : St} {ρ : Ren} {lo : Nat → Option Nat} {a : Act} {w : World} {next : Act → World → Prop}
    (h : stp E ops o st = some st1) (hr : RelA E.n ρ lo st a w)
    (hn : ∀ (ρ' : Ren) (lo' : Nat → Option Nat) (a' : Act) (w' : World), RelA E.n ρ' lo' st1 a' w' → Step ρ lo w ρ' lo' w' → next a' w') :
    if Region.wanted o (yielded ops a.tmps) then o.wp E.P a w next Q ∨ (o.asks E.P a w ∧ LetsOut Q) else next (a.put o.dst undef) w := by
  have hwanted : ∀ b, wantS ops o st = some b → Region.wanted o (yielded ops a.tmps) = b := by
    intro b hb
    unfold wantS at hb
    unfold Region.wanted
    cases hg : o.guard with
    | none => rw [hg] at hb; cases hb; rfl
    | some q =>
      obtain ⟨j, want⟩ := q
      rw [hg] at hb
      simp only at hb ⊢
      cases hd : dstOf ops j with
      | none => rw [hd] at hb; cases hb
      | some cj =>
        rw [hd] at hb
        rw [dstOf_yielded hd]
        simp only at hb
        split at hb
        · rename_i c hc
          rw [slot_bool hr hc]
          cases hb
          cases c <;> cases want <;> rfl
        · rename_i hc
          rw [slot_un hr hc]
          cases hb
          rfl
        · cases hb
  have owes : Owes E o st ρ lo w some st1 next := by
    intro st' ρ' lo' a' w' hk _ hr' hs
    cases hk
    exact hn ρ' lo' a' w' hr' hs
  unfold stp at h
  split at h
  · rename_i hw
    rw [hwanted _ hw, if_pos rfl]
    exact .inl (evOp_sound hE h hr owes)
  · rename_i hw
    rw [hwanted _ hw, if_neg (by simp)]
    exact fin_sound h hr (x := .un) (v := undef) rfl (Step.refl _ _ _) owes
  · cases h

theorem flat_sound (hE : Good E) {Q : Exit → Act → World → Prop} {next : Act → World → Prop} : ∀ (l : List Oper) {st sf : St} {ρ : Ren} {lo : Nat → Option Nat} {a : Act} {w : World},
    flat E ops l st = some sf → RelA E.n ρ lo st a w →
    (∀ (ρ' : Ren) (lo' : Nat → Option Nat) (a' : Act) (w' : World), RelA E.n ρ' lo' sf a' w' → Step ρ lo w ρ' lo' w' → next a' w') → wpL E.P ops Q next l a w
  | [], st, sf, ρ, lo, a, w, h, hr, hn => by
    cases h
    exact hn ρ lo a w hr (.refl _ _ _)
  | o :: l, st, sf, ρ, lo, a, w, h, hr, hn => by
    simp only [flat] at h
    obtain ⟨st1, h1, h2⟩ := Option.bind_eq_some_iff.1 h
    exact stp_wp hE h1 hr fun ρ' lo' a' w' hr' hs => flat_sound hE l h2 hr' fun ρ'' lo'' a'' w'' hr'' hs' => hn ρ'' lo'' a'' w'' hr'' (hs.trans hs')

theorem RelA.le {n : Nat} {ρ : Ren} {lo : Nat → Option Nat} {st sf : St} {a : Act} {w : World} (hr : RelA n ρ lo sf a w) (h : St.le st sf) : RelA n ρ lo st a w where
  h := by rw [← h.h]; exact hr.h
  s i := by
    rcases h.s i with e | e
    · rw [e]; trivial
    · rw [e]; exact hr.s i
  l t cs ht := hr.l t cs (by rw [h.l]; exact ht)
  ldom t b hb := by
    obtain ⟨cs, hcs⟩ := hr.ldom t b hb
    exact ⟨cs, by rw [← h.l]; exact hcs⟩
  lout := hr.lout
  linj := hr.linj
  size := hr.size
  defs := hr.defs

/-- Who is before an operation, as bits; acc: the same of those ahead of it. -/
def mask (acc : List Nat) (o : Oper) : Nat :=
  o.after.toList.foldl (fun s e => match Region.binds .any e with
    | true => s ||| (2 ^ e.on ||| acc.getD e.on 0)
    | false => s) 0

def masks (l : List Oper) (acc : List Nat) : List Nat := l.foldl (fun acc o => acc ++ [mask acc o]) acc

theorem masks_spec : ∀ (l : List Oper) (acc : List Nat), ∃ t, masks l acc = acc ++ t ∧ t.length = l.length ∧ ∀ (j : Nat) (o : Oper), l[j]? = some o → (masks l acc)[acc.length + j]? = some (mask ((masks l acc).take (acc.length + j)) o)
  | [], acc => ⟨[], by simp [masks], rfl, by simp⟩
  | o :: l, acc => by
    obtain ⟨t, h1, h2, h3⟩ := masks_spec l (acc ++ [mask acc o])
    have e : masks (o :: l) acc = masks l (acc ++ [mask acc o]) := rfl
    rw [e]
    refine ⟨mask acc o :: t, by rw [h1]; simp, by simp [h2], fun j p hj => ?_⟩
    cases j with
    | zero =>
      simp only [List.getElem?_cons_zero, Option.some.injEq] at hj
      subst hj
      rw [h1]
      simp
    | succ j =>
      have := h3 j p (by simpa using hj)
      rw [List.length_append, List.length_singleton] at this
      have e2 : acc.length + 1 + j = acc.length + (j + 1) := by omega
      rwa [e2] at this

theorem mask_bit (acc : List Nat) (i : Nat) : ∀ (l : List Edge) (s : Nat), (l.foldl (fun s e => match Region.binds .any e with
    | true => s ||| (2 ^ e.on ||| acc.getD e.on 0)
    | false => s) s).testBit i = true → s.testBit i = true ∨ ∃ e ∈ l, Region.binds .any e = true ∧ (e.on = i ∨ (acc.getD e.on 0).testBit i = true)
  | [], s, h => .inl h
  | e :: l, s, h => by
    rw [List.foldl_cons] at h
    rcases mask_bit acc i l _ h with h | ⟨e', he, hb⟩
    · split at h
      · rename_i hb
        simp only [Nat.testBit_or, Bool.or_eq_true, Nat.testBit_two_pow, decide_eq_true_eq] at h
        rcases h with h | h | h
        · exact .inl h
        · exact .inr ⟨e, List.mem_cons_self .., hb, .inl h⟩
        · exact .inr ⟨e, List.mem_cons_self .., hb, .inr h⟩
      · exact .inl h
    · exact .inr ⟨e', List.mem_cons_of_mem _ he, hb⟩

def pairOk (E : Env) (ops : Array Oper) (ms : List Nat) (i j : Nat) : Bool :=
  match ops[i]?, ops[j]? with
  | some x, some y => (ms.getD j 0).testBit i || indep E ops x y
  | _, _ => true

/-- Two stores into what may be two objects, or a load and a call that writes into its argument's object only: their places. -/
def dynOf (E : Env) (ops : Array Oper) (i j : Nat) : Option (Nat × Nat) :=
  match ops[i]?, ops[j]? with
  | some x, some y => match x.apart ops y with
    | true => match stAddr x, stAddr y with
      | some a, some b => some (a, b)
      | _, _ => match ldAddr E x, ownArg E y with
        | some a, some b => some (a, b)
        | _, _ => none
    | false => none
  | _, _ => none

/-- Is a slot filled by one of these? -/
def fills1 (ops : Array Oper) (l : List Nat) (a : Nat) : Bool := l.any fun q => match (ops[q]?).bind (·.dst) with
  | some d => Nat.beq d a
  | none => false

/-- Each of a list against those ahead of it; l: what is behind each of those ahead. -/
def pairsOk (E : Env) (ops : Array Oper) (ms : List Nat) : List (Nat × List Nat) → List Nat → Bool
  | _, [] => true
  | pre, j :: r => (pre.all fun i => pairOk E ops ms i.1 j || match dynOf E ops i.1 j with
    | some (a, b) => !(fills1 ops i.2 a) && !(fills1 ops i.2 b)
    | none => false) && pairsOk E ops ms ((j, j :: r) :: pre) r

/-- The places of the pairs of stores that must turn out to be two objects'. -/
def dynRow (E : Env) (ops : Array Oper) (ms : List Nat) (j : Nat) : List Nat → List (Nat × Nat)
  | [] => []
  | i :: r => match pairOk E ops ms i j with
    | true => dynRow E ops ms j r
    | false => match dynOf E ops i j with
      | some p => p :: dynRow E ops ms j r
      | none => dynRow E ops ms j r

def dynPairs (E : Env) (ops : Array Oper) (ms : List Nat) : List Nat → List Nat → List (Nat × Nat)
  | _, [] => []
  | pre, j :: r => dynRow E ops ms j pre ++ dynPairs E ops ms (j :: pre) r

theorem dynRow_mem {E : Env} {ops : Array Oper} {ms : List Nat} {j : Nat} : ∀ {l : List Nat} {i : Nat} {p : Nat × Nat}, i ∈ l → pairOk E ops ms i j = false → dynOf E ops i j = some p → p ∈ dynRow E ops ms j l
  | k :: r, i, p, hi, h1, h2 => by
    rw [dynRow]
    rcases List.mem_cons.1 hi with rfl | hi
    · rw [h1, h2]; exact List.mem_cons_self ..
    · have ih := dynRow_mem hi h1 h2
      split
      · exact ih
      · split
        · exact List.mem_cons_of_mem _ ih
        · exact ih

/-- Does a region's drawn order not matter, if it is played as 'ord' says? -/
def drawOk (E : Env) (ops : Array Oper) (ord : List Nat) : Bool :=
  ((List.range ops.size).all fun j => (match ops[j]? with
    | some o => o.after.toList.all fun e => !(Region.binds .any e) || Nat.ble (e.on + 1) j
    | none => true)) && pairsOk E ops (masks ops.toList []) [] ord

/-- What a pair owes: nothing, or that two places turn out to be two objects'. -/
def Owed (E : Env) (ops : Array Oper) (ms : List Nat) (ds : List (Nat × Nat)) (i j : Nat) (behind : List Nat) : Prop :=
  pairOk E ops ms i j = true ∨ ∃ a b, dynOf E ops i j = some (a, b) ∧ (a, b) ∈ ds ∧ fills1 ops behind a = false ∧ fills1 ops behind b = false

theorem pairsOk_spec {E : Env} {ops : Array Oper} {ms : List Nat} : ∀ {pre : List (Nat × List Nat)} {l : List Nat} {ds : List (Nat × Nat)}, pairsOk E ops ms pre l = true → (∀ p ∈ dynPairs E ops ms (pre.map (·.1)) l, p ∈ ds) →
    ∀ {l1 l2 : List Nat} {j : Nat}, l = l1 ++ j :: l2 → (∀ q ∈ pre, Owed E ops ms ds q.1 j q.2) ∧ (∀ x i y, l1 = x ++ i :: y → Owed E ops ms ds i j (i :: (y ++ j :: l2)))
  | pre, [], _, _, _, l1, l2, j, e => by simp at e
  | pre, k :: r, ds, h, hds, l1, l2, j, e => by
    simp only [pairsOk, Bool.and_eq_true, List.all_eq_true] at h
    rw [dynPairs] at hds
    cases l1 with
    | nil =>
      simp only [List.nil_append, List.cons.injEq] at e
      obtain ⟨rfl, rfl⟩ := e
      refine ⟨fun q hq => ?_, fun x i y hx => by simp at hx⟩
      have hp := h.1 q hq
      cases hok : pairOk E ops ms q.1 k with
      | true => exact .inl hok
      | false =>
        rw [hok, Bool.false_or] at hp
        split at hp
        · rename_i a b hd
          simp only [Bool.and_eq_true, Bool.not_eq_true'] at hp
          exact .inr ⟨a, b, hd, hds _ (List.mem_append_left _ (dynRow_mem (List.mem_map.2 ⟨q, hq, rfl⟩) hok hd)), hp.1, hp.2⟩
        · cases hp
    | cons a l1 =>
      simp only [List.cons_append, List.cons.injEq] at e
      obtain ⟨rfl, rfl⟩ := e
      obtain ⟨g1, g2⟩ := pairsOk_spec (ds := ds) h.2 (fun p hp => hds p (List.mem_append_right _ (by simpa using hp))) rfl
      refine ⟨fun q hq => g1 q (List.mem_cons_of_mem _ hq), fun x i y hx => ?_⟩
      cases x with
      | nil =>
        simp only [List.nil_append, List.cons.injEq] at hx
        obtain ⟨rfl, rfl⟩ := hx
        exact g1 _ (List.mem_cons_self ..)
      | cons b x =>
        simp only [List.cons_append, List.cons.injEq] at hx
        obtain ⟨rfl, rfl⟩ := hx
        exact g2 x i y rfl

/-- All pairs of places are two objects'. -/
def sepAll (s : List (Nat × S)) : List (Nat × Nat) → Option Unit
  | [] => some ()
  | p :: r => (sepS (lk s p.1) (lk s p.2)).bind fun _ => sepAll s r

theorem sepAll_mem {s : List (Nat × S)} : ∀ {l : List (Nat × Nat)}, sepAll s l = some () → ∀ p ∈ l, sepS (lk s p.1) (lk s p.2) = some ()
  | q :: r, h, p, hp => by
    obtain ⟨_, h1, h2⟩ := Option.bind_eq_some_iff.1 h
    rcases List.mem_cons.1 hp with rfl | hp
    · exact h1
    · exact sepAll_mem h2 p hp

theorem sepAll_le {s s' : List (Nat × S)} (hs : ∀ i, S.le (lk s i) (lk s' i)) : ∀ {l : List (Nat × Nat)}, sepAll s l = some () → sepAll s' l = some ()
  | [], _ => rfl
  | p :: r, h => by
    obtain ⟨u, h1, h2⟩ := Option.bind_eq_some_iff.1 h
    rw [sepAll, sepS_le h1 (hs _) (hs _), Option.bind_some]
    exact sepAll_le hs h2

/-- An order in which all come, once. -/
structure Whole (ops : Array Oper) (ord : List Nat) : Prop where
  nd : ord.Nodup
  all : ∀ i, i ∈ ord ↔ i < ops.size
  len : ord.length ≤ ops.size

def Closed (ops : Array Oper) (listed : Array Bool) : Prop :=
  ∀ (j : Nat) (o : Oper), listed.getD j false = true → ops[j]? = some o → ∀ e ∈ o.after, Region.binds .any e = true → listed.getD e.on false = true

theorem mask_spec {listed : Array Bool} (hc : Closed ops listed) (hlt : ∀ (j : Nat) (o : Oper), ops[j]? = some o → ∀ e ∈ o.after, Region.binds .any e = true → e.on < j) :
    ∀ (n j i : Nat) (o : Oper), j < n → ((masks ops.toList []).getD j 0).testBit i = true → ops[j]? = some o → (∀ e ∈ o.after, Region.binds .any e = true → listed.getD e.on false = true) →
    listed.getD i false = true
  | 0, _, _, _, h, _, _, _ => by omega
  | n + 1, j, i, o, hjn, h, ho, hall => by
    obtain ⟨t, h1, h2, h3⟩ := masks_spec ops.toList []
    have hm := h3 j o (by simpa using ho)
    simp only [List.length_nil, Nat.zero_add] at hm
    rw [List.getD_eq_getElem?_getD, hm, Option.getD_some] at h
    rcases mask_bit _ i _ _ h with h | ⟨e, he, hb, h⟩
    · simp at h
    · have he' : e ∈ o.after := by simpa using he
      have hl := hall e he' hb
      rcases h with h | h
      · rw [← h]; exact hl
      · have hej := hlt j o ho e he' hb
        have : ((masks ops.toList []).take j).getD e.on 0 = (masks ops.toList []).getD e.on 0 := by
          simp [List.getD_eq_getElem?_getD, hej]
        rw [this] at h
        have hj : j < ops.size := (Array.getElem?_eq_some_iff.1 ho).1
        have hoe : ops[e.on]? = some ops[e.on] := Array.getElem?_eq_getElem (by omega)
        exact mask_spec hc hlt n e.on i _ (by omega) h hoe (hc e.on _ hl hoe)

def rem (ord : List Nat) (listed : Array Bool) : List Nat := ord.filter fun i => !listed.getD i true

theorem filter_split {p : Nat → Bool} {j : Nat} {l1 l2 : List Nat} : ∀ (L : List Nat), L.Nodup → L.filter p = l1 ++ j :: l2 → L.filter (fun i => p i && !(decide (i = j))) = l1 ++ l2 := by
  intro L hnd h
  have h2 : (L.filter p).filter (fun i => !(decide (i = j))) = L.filter (fun i => p i && !(decide (i = j))) := by
    rw [List.filter_filter]
    congr 1
    funext i
    exact Bool.and_comm _ _
  rw [← h2, h, List.filter_append, List.filter_cons]
  have hnd' : (l1 ++ j :: l2).Nodup := by rw [← h]; exact hnd.filter _
  have hnot : ∀ x, x ∈ l1 ++ l2 → x ≠ j := by
    intro x hx e
    subst e
    rw [List.nodup_append] at hnd'
    obtain ⟨_, n2, n3⟩ := hnd'
    rcases List.mem_append.1 hx with hx | hx
    · exact n3 x hx x (List.mem_cons_self ..) rfl
    · exact (List.nodup_cons.1 n2).1 hx
  rw [List.filter_eq_self.2 (fun x hx => by simp [hnot x (List.mem_append_left _ hx)]), if_neg (by simp), List.filter_eq_self.2 (fun x hx => by simp [hnot x (List.mem_append_right _ hx)])]

theorem rem_set {ord : List Nat} (hw : Whole ops ord) {listed : Array Bool} (hsz : listed.size = ops.size) {j : Nat} {l1 l2 : List Nat} (h : rem ord listed = l1 ++ j :: l2) : rem ord (listed.setIfInBounds j true) = l1 ++ l2 := by
  have hf : (rem ord (listed.setIfInBounds j true)) = ord.filter (fun i => !listed.getD i true && !(decide (i = j))) := by
    unfold rem
    apply List.filter_congr
    intro i hi
    by_cases e : i = j
    · subst e
      have hlt : i < listed.size := by rw [hsz]; exact (hw.all i).1 hi
      simp [hlt]
    · rw [getD_set_ne true (Ne.symm e)]
      simp [e]
  rw [hf]
  exact filter_split _ hw.nd h

theorem flatMap_ops_append (l1 l2 : List Nat) : (l1 ++ l2).filterMap (ops[·]?) = l1.filterMap (ops[·]?) ++ l2.filterMap (ops[·]?) := List.filterMap_append

/-- Who is ahead in what is left is ahead in the order, and what is behind is behind. -/
theorem filter_ahead {p : Nat → Bool} {j : Nat} : ∀ {L l1 l2 : List Nat}, L.filter p = l1 ++ j :: l2 → ∃ L1 L2, L = L1 ++ j :: L2 ∧ L1.filter p = l1 ∧ L2.filter p = l2
  | [], l1, l2, h => by simp at h
  | k :: L, l1, l2, h => by
    rw [List.filter_cons] at h
    by_cases hk : p k = true
    · rw [if_pos hk] at h
      cases l1 with
      | nil =>
        simp only [List.nil_append, List.cons.injEq] at h
        exact ⟨[], L, by rw [h.1]; rfl, rfl, h.2⟩
      | cons a l1 =>
        simp only [List.cons_append, List.cons.injEq] at h
        obtain ⟨rfl, h⟩ := h
        obtain ⟨L1, L2, e, h1, h2⟩ := filter_ahead h
        exact ⟨k :: L1, L2, by rw [e]; rfl, by rw [List.filter_cons, if_pos hk, h1], h2⟩
    · rw [if_neg hk] at h
      obtain ⟨L1, L2, e, h1, h2⟩ := filter_ahead h
      exact ⟨k :: L1, L2, by rw [e]; rfl, by rw [List.filter_cons, if_neg hk, h1], h2⟩

/-- The least of a list that is not empty. -/
theorem least : ∀ (l : List Nat), l ≠ [] → ∃ m ∈ l, ∀ x ∈ l, m ≤ x
  | [], h => absurd rfl h
  | [a], _ => ⟨a, List.mem_cons_self .., fun x hx => by simp at hx; omega⟩
  | a :: b :: l, _ => by
    obtain ⟨m, hm, h⟩ := least (b :: l) (by simp)
    by_cases hle : a ≤ m
    · exact ⟨a, List.mem_cons_self .., fun x hx => by
        rcases List.mem_cons.1 hx with rfl | hx
        · omega
        · have := h x hx; omega⟩
    · exact ⟨m, List.mem_cons_of_mem _ hm, fun x hx => by
        rcases List.mem_cons.1 hx with rfl | hx
        · omega
        · exact h x hx⟩

theorem filterMap_split {α β : Type} {f : α → Option β} : ∀ {l : List α} {X Y : List β}, l.filterMap f = X ++ Y → ∃ x y, l = x ++ y ∧ x.filterMap f = X ∧ y.filterMap f = Y
  | l, [], Y, h => ⟨[], l, rfl, rfl, h⟩
  | [], b :: X, Y, h => by simp at h
  | a :: l, b :: X, Y, h => by
    rw [List.filterMap_cons] at h
    cases hf : f a with
    | none =>
      rw [hf] at h
      obtain ⟨x, y, e, h1, h2⟩ := filterMap_split (X := b :: X) h
      exact ⟨a :: x, y, by rw [e]; rfl, by rw [List.filterMap_cons, hf]; exact h1, h2⟩
    | some c =>
      rw [hf] at h
      simp only [List.cons_append, List.cons.injEq] at h
      obtain ⟨x, y, e, h1, h2⟩ := filterMap_split h.2
      exact ⟨a :: x, y, by rw [e]; rfl, by rw [List.filterMap_cons, hf]; simp [h.1, h1], h2⟩

theorem filterMap_cons_split' {α β : Type} {f : α → Option β} : ∀ {l : List α} {b : β} {Y : List β}, l.filterMap f = b :: Y → ∃ z a y, l = z ++ a :: y ∧ z.filterMap f = [] ∧ f a = some b ∧ y.filterMap f = Y
  | [], b, Y, h => by simp at h
  | a :: l, b, Y, h => by
    rw [List.filterMap_cons] at h
    cases hf : f a with
    | none =>
      rw [hf] at h
      obtain ⟨z, a', y, e, h0, h1, h2⟩ := filterMap_cons_split' h
      exact ⟨a :: z, a', y, by rw [e]; rfl, by rw [List.filterMap_cons, hf]; exact h0, h1, h2⟩
    | some c =>
      rw [hf] at h
      simp only [List.cons.injEq] at h
      exact ⟨[], a, l, rfl, rfl, by rw [hf, h.1], h.2⟩

theorem any_sound (hE : Good E) {ord : List Nat} (hw : Whole ops ord) (hd : drawOk E ops ord = true) {ds : List (Nat × Nat)} (hds : ∀ p ∈ dynPairs E ops (masks ops.toList []) [] ord, p ∈ ds) {Q : Exit → Act → World → Prop} : ∀ (fuel : Nat) (listed : Array Bool) {st sf : St} {ρ : Ren} {lo : Nat → Option Nat} {a : Act} {w : World},
    listed.size = ops.size → (rem ord listed).length ≤ fuel → Closed ops listed → flat E ops ((rem ord listed).filterMap (ops[·]?)) st = some sf → sepAll sf.s ds = some () → LpOk E st → RelA E.n ρ lo st a w →
    (∀ (sF : St) (ρ' : Ren) (lo' : Nat → Option Nat) (a' : Act) (w' : World), St.le sf sF → RelA E.n ρ' lo' sF a' w' → Step ρ lo w ρ' lo' w' → Q .normal a' w') →
    wpAny E.P .any ops Q fuel listed a w := by
  unfold drawOk at hd
  simp only [List.all_eq_true, List.mem_range, Bool.and_eq_true] at hd
  have hdspec : ∀ (j : Nat) (o : Oper), ops[j]? = some o → (∀ e ∈ o.after, Region.binds .any e = true → e.on < j) := by
    intro j o ho e he hb
    have hj : j < ops.size := (Array.getElem?_eq_some_iff.1 ho).1
    have h1 := hd.1 j hj
    simp only [ho, List.all_eq_true, Array.mem_toList_iff, Bool.or_eq_true, Bool.not_eq_true'] at h1
    rcases h1 e he with h | h
    · rw [hb] at h; cases h
    · exact Nat.le_of_ble_eq_true h
  have fin0 : ∀ (listed : Array Bool), listed.size = ops.size → Region.ready .any ops listed = [] → Closed ops listed → rem ord listed = [] := by
    intro listed hsz hr hc
    by_cases hrem : rem ord listed = []
    · exact hrem
    · exfalso
      obtain ⟨j, hjmem, hleast⟩ := least _ hrem
      have hj' := hjmem
      unfold rem at hj'
      rw [List.mem_filter, hw.all] at hj'
      obtain ⟨hj, hun⟩ := hj'
      have ho : ops[j]? = some ops[j] := Array.getElem?_eq_getElem hj
      have : j ∈ Region.ready .any ops listed := by
        rw [mem_ready]
        refine ⟨by simpa using hun, _, ho, fun e he hb => ?_⟩
        have hlt := hdspec j _ ho e he hb
        have hnot : e.on ∉ rem ord listed := fun hm => by have := hleast _ hm; omega
        have hlt' : e.on < listed.size := by omega
        unfold rem at hnot
        rw [List.mem_filter, hw.all] at hnot
        have : listed[e.on] = true := by
          cases hb : listed[e.on] with
          | true => rfl
          | false => exact absurd ⟨by omega, by simp [hlt', hb]⟩ hnot
        simp [hlt', this]
      rw [hr] at this
      cases this
  have done : ∀ (listed : Array Bool) {st sf : St} {ρ : Ren} {lo : Nat → Option Nat} {a : Act} {w : World}, rem ord listed = [] →
      flat E ops ((rem ord listed).filterMap (ops[·]?)) st = some sf → RelA E.n ρ lo st a w →
      (∀ (sF : St) (ρ' : Ren) (lo' : Nat → Option Nat) (a' : Act) (w' : World), St.le sf sF → RelA E.n ρ' lo' sF a' w' → Step ρ lo w ρ' lo' w' → Q .normal a' w') → Q .normal a w := by
    intro listed st sf ρ lo a w hrem hf hr hn
    rw [hrem] at hf
    cases hf
    exact hn st ρ lo a w (St.le_refl _) hr (.refl _ _ _)
  intro fuel
  induction fuel with
  | zero =>
    intro listed st sf ρ lo a w hsz hlen hc hf hsp hlp hr hn
    have hrem : rem ord listed = [] := List.length_eq_zero_iff.1 (Nat.le_zero.1 hlen)
    refine ⟨?_, done listed hrem hf hr hn⟩
    cases hx : Region.ready .any ops listed with
    | nil => rfl
    | cons j L =>
      exfalso
      have : j ∈ Region.ready .any ops listed := by rw [hx]; exact List.mem_cons_self ..
      obtain ⟨h0, o, ho, _⟩ := mem_ready.1 this
      have hj : j < ops.size := (Array.getElem?_eq_some_iff.1 ho).1
      have : j ∈ rem ord listed := by unfold rem; rw [List.mem_filter, hw.all]; exact ⟨hj, by simp only [h0, Bool.not_false]⟩
      rw [hrem] at this; cases this
  | succ fuel ih =>
    intro listed st sf ρ lo a w hsz hlen hc hf hsp hlp hr hn
    refine ⟨fun hx => done listed (fin0 listed hsz hx hc) hf hr hn, fun j hj => ?_⟩
    obtain ⟨h0, o, ho, hall⟩ := mem_ready.1 hj
    have hjs : j < ops.size := (Array.getElem?_eq_some_iff.1 ho).1
    have hjm : j ∈ rem ord listed := by unfold rem; rw [List.mem_filter, hw.all]; exact ⟨hjs, by simp only [h0, Bool.not_false]⟩
    obtain ⟨l1, l2, hsplit⟩ := List.append_of_mem hjm
    have hrem' := rem_set hw hsz hsplit
    obtain ⟨L1, L2, hL, hL1, hL2⟩ := filter_ahead (show ord.filter _ = l1 ++ j :: l2 from hsplit)
    rw [hsplit, flatMap_ops_append, List.filterMap_cons, ho] at hf
    simp only at hf
    have hspec := (pairsOk_spec (ds := ds) hd.2 (by simpa using hds) hL).2
    obtain ⟨sJ, sF, k1, k2, k3, k4⟩ := moveFront hE (l1.filterMap (ops[·]?)) hf hlp (fun X p Y hXY => by
      obtain ⟨x0, y1, hx0, hX, hY⟩ := filterMap_split hXY
      obtain ⟨z, i, y2, hy0, _, hpi, hY2⟩ := filterMap_cons_split' hY
      obtain ⟨x1, hx1⟩ : ∃ x1, x1 = x0 ++ z := ⟨_, rfl⟩
      have hx1 : l1 = x1 ++ i :: y2 := by rw [hx0, hy0, hx1, List.append_assoc]
      obtain ⟨M1, M2, hM, hM1, hM2⟩ := filter_ahead (show L1.filter _ = x1 ++ i :: y2 by rw [hL1, hx1])
      have howed := hspec M1 i M2 hM
      have him : i ∈ rem ord listed := by rw [hsplit, hx1]; simp
      rcases howed with hpair | ⟨da, db, hdyn, hin, hf1, hf2⟩
      · unfold pairOk at hpair
        rw [hpi, ho] at hpair
        simp only [Bool.or_eq_true] at hpair
        rcases hpair with h | h
        case inr => exact .inl h
        · exfalso
          have hl := mask_spec hc hdspec (j + 1) j i o (by omega) h ho hall
          unfold rem at him
          rw [List.mem_filter, hw.all] at him
          have hlt' : i < listed.size := by omega
          have h1 := him.2
          simp [hlt'] at hl h1
          rw [hl] at h1; cases h1
      · refine .inr ?_
        unfold dynOf at hdyn
        rw [hpi, ho] at hdyn
        simp only at hdyn
        split at hdyn
        case h_2 => cases hdyn
        rename_i hap
        have hab : (stAddr p = some da ∧ stAddr o = some db) ∨ (ldAddr E p = some da ∧ ownArg E o = some db) := by
          split at hdyn
          · rename_i a0 b0 ha0 hb0
            cases hdyn
            exact .inl ⟨ha0, hb0⟩
          · split at hdyn
            · rename_i a0 b0 ha0 hb0
              cases hdyn
              exact .inr ⟨ha0, hb0⟩
            · cases hdyn
        refine ⟨hap, _, _, hab, fun q hq => ?_, sepAll_mem hsp _ hin⟩
        have hq' : ∃ k, k ∈ i :: (M2 ++ j :: L2) ∧ ops[k]? = some q := by
          rcases List.mem_cons.1 hq with rfl | hq
          · exact ⟨i, List.mem_cons_self .., hpi⟩
          · rcases List.mem_append.1 hq with hq | hq
            · rw [← hY2] at hq
              obtain ⟨k, hk, e⟩ := List.mem_filterMap.1 hq
              rw [← hM2] at hk
              exact ⟨k, List.mem_cons_of_mem _ (List.mem_append_left _ (List.mem_filter.1 hk).1), e⟩
            · rcases List.mem_cons.1 hq with rfl | hq
              · exact ⟨j, by simp, ho⟩
              · obtain ⟨k, hk, e⟩ := List.mem_filterMap.1 hq
                rw [← hL2] at hk
                exact ⟨k, List.mem_cons_of_mem _ (List.mem_append_right _ (List.mem_cons_of_mem _ (List.mem_filter.1 hk).1)), e⟩
        obtain ⟨k, hk, e⟩ := hq'
        have nofill : ∀ {a : Nat}, fills1 ops (i :: (M2 ++ j :: L2)) a = false → q.dst ≠ some a := fun {a} hf e2 => by
          unfold fills1 at hf
          rw [List.any_eq_false] at hf
          have := hf k hk
          rw [e, Option.bind_some, e2] at this
          simp at this
        exact ⟨nofill hf1, nofill hf2⟩)
    unfold wpOp
    rw [ho]
    simp only
    refine stp_wp hE k1 hr fun ρ' lo' a' w' hr' hs => ?_
    refine ih (listed.setIfInBounds j true) (by simpa using hsz) ?_ ?_ (by rw [hrem', flatMap_ops_append]; exact k2) (sepAll_le k3.s hsp) k4 hr' fun sF' ρ'' lo'' a'' w'' hle hr'' hs' => hn sF' ρ'' lo'' a'' w'' (St.le_trans k3 hle) hr'' (hs.trans hs')
    · rw [hrem']
      rw [hsplit] at hlen
      simp only [List.length_append, List.length_cons] at hlen ⊢
      omega
    · intro i oi hi hoi e he hb
      by_cases hij : i = j
      · subst hij
        rw [ho] at hoi; cases hoi
        exact getD_set_true (hall e he hb)
      · rw [getD_set_ne false (Ne.symm hij)] at hi
        exact getD_set_true (hc i oi hi hoi e he hb)

end
end
end Go.L
