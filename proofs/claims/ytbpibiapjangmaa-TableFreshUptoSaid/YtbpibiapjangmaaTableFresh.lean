/- PROVED: 'carousellaw14.TableFresh' answers true for every room and every list of numbers that together hold at most 1048576 values and letters, and the arguments read afterwards as before. -/
import Derived.Test.YtbpibiapjangmaaL38
import Derived.Test.YtbpibiapjangmaaTabF
import Derived.Test.YtbpibiapjangmaaRows
import Derived.WalkKit
import Derived.ProofKit
import Derived.OpenShut
import Derived.JoinedCond
namespace Go.Proofs.Ytbpibiapjangmaa.tableFresh
open Go.L Go.ChangeShapes Go.WideShapes Go.ChangeAt Go.RowKit Go.Proofs.Ytbpibiapjangmaa.tabs
set_option linter.unusedVariables false
set_option linter.unusedSimpArgs false

theorem awake : ∃ h', F30 100 [] = some (true, h') := by
  have : (F30 100 []).map (·.1) = some true := by kernel_rfl
  cases hF : F30 100 [] with
  | none => rw [hF] at this; cases this
  | some p =>
    rw [hF] at this
    obtain ⟨x, h'⟩ := p
    simp at this
    subst this
    exact ⟨h', rfl⟩

/-- Numbers as an argument. -/
def frs (E : List Int) : V := .rs 1 (E.map I)
theorem frs_len (E : List Int) : slen (frs E) = some (E.length : Int) := by simp [frs, slen]
theorem frs_at (E : List Int) {i : Nat} (hi : i < E.length) : sidx (frs E) (i : Int) 1 = some (.rptr [I E[i]]) := by
  unfold frs
  rw [sidx_rs (by omega)]
  simp [hi, V.cells]
theorem fr0 (h : H) (x : Int) : rd h (.rptr [I x]) 0 = some (I x) := by rw [rd_rptr]; rfl

theorem roomL {N : Nat} (hN : 1048600 ≤ N) (E : List Int) (hE : E.length ≤ 1048576) (room : Nat) : ∀ (k m i : Nat) (h : H) (S : List Slot) (M : List (ByteArray × Int)) (gv dv : V) (G : List (Nat × Int)) (D : List Bool),
    i + k = E.length → k < m → Fr h S M gv dv G D room i →
    ∃ (h' : H) (S' : List Slot) (M' : List (ByteArray × Int)) (gv' dv' : V) (G' : List (Nat × Int)) (D' : List Bool), L6_0 N m ((room : Int), frs E, pt 2, gv, dv, (alive S : Int), (i : Int), h) = some (.inl (pt 2, gv', dv', (alive S' : Int), h')) ∧ Fr h' S' M' gv' dv' G' D' room E.length
  | 0, m + 1, i, h, S, M, gv, dv, G, D, hi, hm, v => by
    have : i = E.length := by omega
    subst this
    refine ⟨h, S, M, gv, dv, G, D, ?_, v⟩
    rw [L6_0]
    simp only [frs_len, bs, itT, itF, ifT, ifF, dF (show ¬ (E.length : Int) < (E.length : Int) by omega)]
  | k + 1, m + 1, i, h, S, M, gv, dv, G, D, hi, hm, v => by
    have hi1 : i < E.length := by omega
    have e2 : IntKind.i64.wrap ((i : Int) + 1) = ((i + 1 : Nat) : Int) := by rw [wrapIn (by omega)]; omega
    have hlG := v.lenG
    have hDG := v.DG
    have hal := alive_le S
    have hroom := v.len
    have hlen := v.T.len
    have z0 : ((0 : Int) == 0) = true := rfl
    have z1 : ((0 : Int) != 0) = false := rfl
    have y0 : ((140 : Int) == 0) = false := rfl
    have y1 : ((140 : Int) != 0) = true := rfl
    have y2 : ((140 : Int) != 140) = false := rfl
    rw [L6_0]
    have hb : ((if (decide (E[i] < 0)) = true then some (true, h) else (slen gv).bind fun n113 => some ((n113 == 0), h)) : Option (Bool × H)) = some (decide (E[i] < 0 ∨ G.length = 0), h) := by
      by_cases h1 : E[i] < 0
      · simp only [itT, ifT, dT h1, dT (show E[i] < 0 ∨ G.length = 0 from .inl h1)]
      · simp only [itF, ifF, dF h1, v.g.sl'.len, bs, List.length_map]
        by_cases h2 : G.length = 0
        · rw [dT (show E[i] < 0 ∨ G.length = 0 from .inr h2), h2]; rfl
        · rw [dF (show ¬ (E[i] < 0 ∨ G.length = 0) from by omega)]
          have : ((G.length : Int) == 0) = false := by simp; intro e; exact h2 (by rw [e]; rfl)
          rw [this]
    by_cases hadd : E[i] < 0 ∨ G.length = 0
    · rw [dT hadd] at hb
      rcases add v.T (show 257 ≤ N by omega) with ⟨e, hh⟩ | ⟨j, hj, h1, h2, h3, h4, h5, h6, h7, h8⟩
      · have hall : ∀ j (hj : j < S.length), S[j].live = true := by
          intro j hj
          rcases hh j hj with h | h
          · exact h
          · have := v.gens j hj; omega
        have hav := alive_all hall
        have hlt : (decide ((alive S : Int) < (room : Int))) = false := dF (by omega)
        obtain ⟨h', S', M', gv', dv', G', D', ef, vf⟩ := roomL hN E hE room k m (i + 1) h S M gv dv G D (by omega) (by omega) v.mono
        refine ⟨h', S', M', gv', dv', G', D', ?_, vf⟩
        simp only [frs_len, bs, itT, itF, ifT, ifF, dT (show (i : Int) < (E.length : Int) by omega), frs_at E hi1, fr0, asInt_some, hb, e, y0, y1, y2, hlt, beq_self_eq_true, Bool.not_true, e2]
        exact ef
      · have hw : IntKind.i64.wrap (S[j].gen + 1) = S[j].gen + 1 := wrapIn (by have := v.gens j hj; omega)
        rw [hw] at h5 h6
        have hlt : (decide ((alive S : Int) < (room : Int))) = true := dT (by have := alive_lt hj h2; omega)
        have hlow := v.T.len3
        have g1 : Own h1 2 gv (G.map pcs) := v.g.frame fun i hi => h8 i (by have := v.gf i hi; omega)
        have d1 : Own h1 1 dv ((D.map V.bool).map fun x => [x]) := v.d.frame fun i hi => h8 i (by have := v.df i hi; omega)
        obtain ⟨gv2, h9, e9, g9, k9, i9, _⟩ := g1.app1 [I (j : Int), I (S[j].gen + 1)] rfl (by simp [mostCells]; omega)
        have d9 : Own h9 1 dv ((D.map V.bool).map fun x => [x]) := d1.frame fun i hi => k9.2 i (d1.sl'.lt hi) (fun e => v.gd i e hi)
        obtain ⟨dv2, h10, e10, d10, k10, i10, _⟩ := d9.app1 [.bool false] rfl (by simp [mostCells]; omega)
        have vn := v.add hj h2 h6 h8 h7 g9 k9 i9 d10 k10 i10
        have v1 : Fr h1 (S.set j ⟨S[j].gen + 1, true, S[j].name⟩) M gv dv G D room i ∨ True := .inr trivial
        have old : ∀ k (hk : k < G.length), G[k] ≠ (j, S[j].gen + 1) := by
          intro k hk hh
          obtain ⟨hi, h1, _⟩ := v.ok k hk (by rw [v.DG]; exact hk)
          rw [hh] at hi
          simp only [hh] at h1
          omega
        have efr := freshL' N E hE h1 gv G g1 (by omega) old (room : Int) (frs E) (pt 2) dv (alive S : Int) (i : Int) G.length N 0 (by omega) (by omega)
        have efr' : L6_1 N N ((room : Int), frs E, pt 2, gv, dv, (alive S : Int), (i : Int), 0, (j : Int), S[j].gen + 1, h1) = _ := efr
        have hav := alive_set S j hj ⟨S[j].gen + 1, true, S[j].name⟩
        rw [h2] at hav
        simp only [Bool.false_eq_true, if_false, if_true, Nat.add_zero] at hav
        have ew : IntKind.i64.wrap ((alive S : Int) + 1) = (alive (S.set j ⟨S[j].gen + 1, true, S[j].name⟩) : Int) := by rw [wrapIn (by omega)]; omega
        obtain ⟨h', S', M', gv', dv', G', D', ef, vf⟩ := roomL hN E hE room k m (i + 1) h10 _ M gv2 dv2 _ _ (by omega) (by omega) vn
        refine ⟨h', S', M', gv', dv', G', D', ?_, vf⟩
        simp only [frs_len, bs, itT, itF, ifT, ifF, dT (show (i : Int) < (E.length : Int) by omega), frs_at E hi1, fr0, asInt_some, hb, h5, z0, z1, hlt, beq_self_eq_true, Bool.not_true, efr', e9, e10, ew, e2]
        exact ef
    · rw [dF hadd] at hb
      simp only [v.g.sl'.len, List.length_map, bs] at hb
      have hG0 : 0 < G.length := by omega
      have hE0 : 0 ≤ E[i] := by omega
      obtain ⟨q, hq, eq⟩ : ∃ q : Nat, q < G.length ∧ Int.tmod E[i] (G.length : Int) = (q : Int) := by
        refine ⟨(E[i] % (G.length : Int)).toNat, ?_, ?_⟩
        · have h1 := Int.emod_lt_of_pos E[i] (show (0 : Int) < G.length by omega)
          have h2 := Int.emod_nonneg E[i] (show (G.length : Int) ≠ 0 by omega)
          omega
        · rw [Int.tmod_eq_emod_of_nonneg hE0]
          have h2 := Int.emod_nonneg E[i] (show (G.length : Int) ≠ 0 by omega)
          omega
      have hqd : q < D.length := by omega
      obtain ⟨p1, f1, r0, r1⟩ := givenAt v hq
      obtain ⟨p2, f2, r2⟩ := deadAt v hqd
      obtain ⟨hs, hge, hbd⟩ := v.ok q hq hqd
      have hn0 : ¬ (G.length : Int) = 0 := by omega
      rcases free v.T N (G[q].1 : Int) G[q].2 with ⟨hb0, e⟩ | ⟨s, hsl, h1, es, hlv, hgn, e, T1, l1, ff1⟩
      · -- it is dead
        rw [hb0] at hbd
        have hD : D[q] = true := by cases hd : D[q] with
          | true => rfl
          | false => rw [hd] at hbd; cases hbd
        obtain ⟨p3, h3, f3, w3, d3, k3⟩ := ownWr1 v.d q (by simpa using hqd) (.bool true)
        have hpp : p3 = p2 := by rw [f3] at f2; exact Option.some.inj f2
        subst hpp
        have hset : (D.map V.bool).set q (.bool true) = D.map V.bool := by
          rw [← List.map_set]
          have : D.set q true = D := by
            apply List.ext_getElem (by simp)
            intro k h1 h2
            rw [List.getElem_set]
            split
            · rename_i he; subst he; rw [hD]
            · rfl
          rw [this]
        rw [hset] at d3
        have v3 : Fr h3 S M gv dv G D room (i + 1) := by
          have vm := v.mono
          exact ⟨vm.T.keep3 k3 fun i hi => farLow v.df hi, vm.g.frame fun j hj => k3.2 j (vm.g.sl'.lt hj) (v.gd j hj), d3, vm.gf, vm.df, vm.gd, vm.len, vm.DG, vm.nd, vm.ok, vm.gens, vm.lenG⟩
        obtain ⟨h', S', M', gv', dv', G', D', ef, vf⟩ := roomL hN E hE room k m (i + 1) h3 S M gv dv G D (by omega) (by omega) v3
        refine ⟨h', S', M', gv', dv', G', D', ?_, vf⟩
        rw [hD] at r2
        have y3 : ((3 : Int) == 0) = false := rfl
        simp only [frs_len, bs, itT, itF, ifT, ifF, dT (show (i : Int) < (E.length : Int) by omega), frs_at E hi1, fr0, asInt_some, hb, v.g.sl'.len, List.length_map, if_neg hn0, eq, f1, r0, r1, e, f2, r2, tabs.asBool_some, y3, show ((false == true) : Bool) = false from rfl, Bool.false_eq_true, if_false, nT, w3, e2]
        exact ef
      · -- it ends
        have hsq : s = G[q].1 := by omega
        subst hsq
        have hbt : isB S (G[q].1 : Int) G[q].2 = true := by rw [isB_at hs, hlv, hgn]; simp
        rw [hbt] at hbd
        have hD : D[q] = false := by cases hd : D[q] with
          | false => rfl
          | true => rw [hd] at hbd; cases hbd
        have d1 : Own h1 1 dv ((D.map V.bool).map fun x => [x]) := v.d.frame fun i hi => ff1 i (by have := v.df i hi; omega) (by have := v.df i hi; omega)
        obtain ⟨p2', f2', r2'⟩ : ∃ q', sidx dv (q : Int) 1 = some q' ∧ rd h1 q' 0 = some (.bool D[q]) := by
          obtain ⟨q', e, hq'⟩ := d1.sl'.at q (by simpa using hqd)
          refine ⟨q', e, ?_⟩
          rw [hq' _ (by omega)]; simp [hqd]
        obtain ⟨p3, h3, f3, w3, d3, k3⟩ := ownWr1 d1 q (by simpa using hqd) (.bool true)
        have hpp : p3 = p2' := by rw [f3] at f2'; exact Option.some.inj f2'
        subst hpp
        have vn := v.free hq hqd hs hlv hgn T1 ff1 l1 d3 k3
        have hav := alive_set S G[q].1 hs ⟨S[G[q].1].gen, false, noname⟩
        rw [hlv] at hav
        simp only [Bool.false_eq_true, if_false, if_true, Nat.add_zero] at hav
        have ew : IntKind.i64.wrap ((alive S : Int) - 1) = (alive (S.set G[q].1 ⟨S[G[q].1].gen, false, noname⟩) : Int) := by rw [wrapIn (by omega)]; omega
        obtain ⟨h', S', M', gv', dv', G', D', ef, vf⟩ := roomL hN E hE room k m (i + 1) h3 _ _ gv dv G _ (by omega) (by omega) vn
        refine ⟨h', S', M', gv', dv', G', D', ?_, vf⟩
        rw [hD] at r2'
        simp only [frs_len, bs, itT, itF, ifT, ifF, dT (show (i : Int) < (E.length : Int) by omega), frs_at E hi1, fr0, asInt_some, hb, v.g.sl'.len, List.length_map, if_neg hn0, eq, f1, r0, r1, e, f3, r2', tabs.asBool_some, z0, show ((true == false) : Bool) = false from rfl, Bool.false_eq_true, if_false, nF, ew, w3, e2]
        exact ef
where
  freshL' (N : Nat) (E : List Int) (hE : E.length ≤ 1048576) (h : H) (gv : V) (G : List (Nat × Int)) (hg : Own h 2 gv (G.map pcs)) (ht : G.length < 4611686018427387903) {n : Nat} {g : Int} (hn : ∀ k (hk : k < G.length), G[k] ≠ (n, g)) (x1 : Int) (x2 x3 x4 : V) (x5 x6 : Int) : ∀ (k m i : Nat), i + k = G.length → k < m →
      L6_1 N m (x1, x2, x3, gv, x4, x5, x6, (i : Int), (n : Int), g, h) = some (.inl (x1, x2, x3, gv, x4, x5, x6, (n : Int), g, h))
    | 0, m + 1, i, hi, hm => by
      rw [L6_1]
      simp only [hg.sl'.len, List.length_map, bs, itT, itF, ifT, ifF, dF (show ¬ (i : Int) < (G.length : Int) by omega)]
    | k + 1, m + 1, i, hi, hm => by
      have hi1 : i < G.length := by omega
      have e2 : IntKind.i64.wrap ((i : Int) + 1) = ((i + 1 : Nat) : Int) := by rw [wrapIn (by omega)]; omega
      obtain ⟨q, eq, r0, r1⟩ : ∃ q, sidx gv (i : Int) 2 = some q ∧ rd h q 0 = some (I (G[i].1 : Int)) ∧ rd h q 1 = some (I G[i].2) := by
        obtain ⟨q, e, hq⟩ := hg.sl'.at i (by simpa using hi1)
        refine ⟨q, e, ?_, ?_⟩ <;> rw [hq _ (by omega)] <;> simp [hi1]
      have hne : (((G[i].1 : Int) == (n : Int)) && ((G[i].2 == g) && true)) = false := by
        rw [Bool.eq_false_iff]
        intro hh
        simp only [Bool.and_eq_true, beq_iff_eq, Bool.and_true] at hh
        exact hn i hi1 (Prod.ext (by omega) hh.2)
      rw [L6_1]
      simp only [hg.sl'.len, List.length_map, bs, itT, itF, ifT, ifF, dT (show (i : Int) < (G.length : Int) by omega), eq, r0, r1, asInt_some, hne, e2, Bool.false_eq_true, if_false]
      exact freshL' N E hE h gv G hg ht hn x1 x2 x3 x4 x5 x6 k m (i + 1) (by omega) (by omega)

theorem plays {N : Nat} (hN : 1048600 ≤ N) (room : Int) (E : List Int) (hE : E.length ≤ 1048576) : ∃ h', F6 N (room, frs E, []) = some (true, h') := by
  obtain ⟨hw, aw⟩ := awake
  by_cases hr : 1 ≤ room ∧ room ≤ 256
  · obtain ⟨r, rfl⟩ := Int.eq_ofNat_of_zero_le (show 0 ≤ room by omega)
    obtain ⟨h1, e1, T1, l1, _⟩ := newT N [] (n := r) (by omega) (by omega)
    have e1' : F23 N ((r : Int), []) = some (pt 2, 0, h1) := e1
    have T1' : Tab 0 1 2 h1 (List.replicate r ⟨0, false, noname⟩) [] := T1
    have v : Fr h1 (List.replicate r ⟨0, false, noname⟩) [] .nils .nils [] [] r 0 := by
      refine ⟨T1', .nil, .nil, by simp [far, oid], by simp [far, oid], by simp [oid], by simp, rfl, fun k k' hk => by simp at hk, fun k hk => by simp at hk, fun i hi => by simp, by simp⟩
    have ha0 : alive (List.replicate r ⟨0, false, noname⟩) = 0 := by simp [alive]
    obtain ⟨h2, S, M, gv, dv, G, D, e2, v2⟩ := roomL hN E hE r E.length N 0 h1 _ _ .nils .nils [] [] (by omega) (by omega) v
    rw [ha0] at e2
    have e2' : L6_0 N N ((r : Int), frs E, pt 2, .nils, .nils, 0, 0, h1) = _ := e2
    have hlG := v2.lenG
    have e3 := endsL N v2 (by omega) (alive S : Int) G.length N 0 (by omega) (by omega)
    have e3' : L6_2 N N (pt 2, gv, dv, (alive S : Int), 0, h2) = _ := e3
    obtain ⟨h4, l4, L4, e4, O4, hL4⟩ := live (N := N) (by omega) v2.T
    refine ⟨h4, ?_⟩
    rw [F6]
    have bb : ∀ x : Int, (x == x) = true := by simp
    simp only [e1', bs, show ((0 : Int) != 0) = false from rfl, itT, itF, ifT, ifF, pnil, e2', e3', e4, O4.sl'.len, hL4, bb, aw]
  · have e1 := newNot N [] hr
    have e31 : F31 N (room, []) = some (0, .nils, .nils, .nils, 1, []) := by
      rw [F31]
      by_cases h1 : room < 1
      · simp only [itT, itF, ifT, ifF, dT h1, bs]
      · simp only [itT, itF, ifT, ifF, dF h1, dT (show room > 256 by omega), bs]
    refine ⟨[], ?_⟩
    rw [F6]
    simp only [e1, bs, show ((1 : Int) != 0) = true from rfl, itT, itF, ifT, ifF, e31, show ((1 : Int) == 1) = true from rfl, show isNil .nilp = some true from rfl, aw]

set_option maxRecDepth 100000 in
theorem main : ∀ vs, dataA Try.prog 8 Try.f6.params.toList vs → V.szs vs ≤ 1048576 → ∃ h', Triple Try.prog 6 vs [] (.bool true) h' := by
  intro vs h hb
  rw [Try.params6] at h
  obtain ⟨room, r, rfl, _, h⟩ := dataA_int rfl Try.underlying3 h
  obtain ⟨xs, r, rfl, hl, hxs, h⟩ := dataA_slice rfl Try.underlying62 h
  cases dataA_nil h
  have c3 : Try.prog.cellsOf 3 = 1 := by kernel_rfl
  obtain ⟨E, rfl⟩ := list_of (g := I) fun x hx => by
    obtain ⟨hd, hx⟩ := hxs x hx
    obtain ⟨z, hz, _⟩ := dataV_int rfl Try.underlying3 hd
    refine ⟨z, ?_⟩
    rw [c3] at hx
    rw [hx, hz]; rfl
  have hE : E.length ≤ 1048576 := by
    have := szs_le (xs := E.map I) (by
      intro x hx
      obtain ⟨e, _, rfl⟩ := List.mem_map.1 hx
      simp [V.sz])
    rw [List.length_map] at this
    simp only [V.szs, V.sz] at hb
    omega
  obtain ⟨N, hN⟩ : ∃ N, 1048600 ≤ N := ⟨_, Nat.le_refl _⟩
  obtain ⟨h', e⟩ := plays hN room E hE
  rw [c3]
  exact ⟨h', (fine6 N).triple (good6 N) e⟩


theorem own : ownKnob Try.prog.godebug = none := by kernel_rfl

theorem all_sum {H : Type} : ∀ l : List (DataW H), (l.map Rows.uptoBulk).sum = Rows.uptoBulkAll l
  | [] => by simp [Rows.uptoBulkAll]
  | d :: r => by simp [Rows.uptoBulkAll, all_sum r]

theorem muOk {H : Type} : MuOk (Rows.uptoBulk (H := H)) where
  one d := by
    cases d with
    | lit l => cases l <;> simp [Rows.uptoBulk]
    | _ => simp [Rows.uptoBulk]
  str l := by simp [Rows.uptoBulk]
  slice es sp := by rw [all_sum]; simp only [Rows.uptoBulk]; omega
  agg ps := by rw [all_sum]; simp only [Rows.uptoBulk]; omega

theorem bound {H : Type} {l : List (DataW H)} (hk : Rows.uptoSmall H l = true) : (l.map Rows.uptoBulk).sum ≤ 1048576 := by
  rw [all_sum]
  exact of_decide_eq_true hk

set_option maxRecDepth 100000 in
theorem lifted (os : Os) (started : os.Started) (H : Type) (enc : TypeId × Value → H) (F : Stop.Interp) :
    ReturnsInHanded {} Try.checked os 6 .any ((Rows.OpenSpec.upto Rows.tableFreshSpec).pre6 enc Try.prog Try.f6 Rows.tableFreshUptoRow.domain false) (((Rows.OpenSpec.upto Rows.tableFreshSpec).at F).post enc Try.prog Try.f6 false true false false) := by
  refine returnsInHanded_of_cond (C := Try.checked) (s := Rows.OpenSpec.upto Rows.tableFreshSpec) (k := Rows.uptoSmall) rfl own started (by kernel_rfl) Try.func6
    (OpenSpec.witness (enc := enc) (C := Try.checked) (s := Rows.OpenSpec.upto Rows.tableFreshSpec) (k := Rows.uptoSmall) rfl false ⟨#[], #[.int .i64 0, .slice none 0 0], []⟩ 8 (by kernel_rfl) (by kernel_rfl) (by kernel_rfl)
      (x := ([.lit (.int .i64 0), .nil], [], [])) (by kernel_rfl) rfl (by kernel_rfl)) ?_
  intro W base args ds gs before hval hW _ hk _
  have hgs : gs = [] := by
    obtain ⟨p, q, _, hV, _⟩ := hW
    exact (trodVars_none hV).1
  subst hgs
  rw [List.append_nil] at hk
  exact row_callsU (P := Try.prog) (fn := Try.f6) (s := Rows.tableFreshSpec) (n := 8) (by kernel_rfl) (by kernel_rfl) (by kernel_rfl) rfl Try.underlying4 (by kernel_rfl)
    (fun ds h => by
      match ds, h with
      | [_, _], _ => exact ⟨rfl, rfl, rfl⟩) rfl hval hW (fun vs h hb => main vs h (Nat.le_trans (hb _ muOk) (bound hk)))

theorem over : Rows.tableFreshUptoRow.holds Try.pinned (Rows.OpenSpec.upto Rows.tableFreshSpec) :=
  OpenClaim.holds_of_cond 6 Try.f6 rfl rfl rfl rfl rfl rfl rfl ⟨rfl, rfl, rfl, rfl, rfl⟩ rfl rfl rfl rfl rfl (by kernel_rfl) Try.func6 (by kernel_rfl)
    (of_decide_eq_true (by kernel_rfl)) (by unfold Func.isWrapper; first | (rw [if_pos (by decide +kernel)]; kernel_rfl) | (rw [if_neg (by decide +kernel)]; exact ⟨rfl, rfl⟩))
    (fun os started H enc _ F => lifted os started H enc F)

/-- ████ THE STATEMENT ████ -/
theorem proved : Rows.TableFreshUptoSaid :=
  over
#print axioms proved

end Go.Proofs.Ytbpibiapjangmaa.tableFresh
