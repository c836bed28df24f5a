/- PROVED: 'carousellaw20.LogLast' answers true for every room and every list of events that together hold at most 1048576 values and letters, and the arguments read afterwards as before. -/
import Derived.Test.YtbpibiapjangmaaL38
import Derived.Test.YtbpibiapjangmaaLogD
import Derived.Test.YtbpibiapjangmaaRows
import Derived.WalkKit
import Derived.ProofKit
import Derived.OpenShut
import Derived.JoinedCond
namespace Go.Proofs.Ytbpibiapjangmaa.logLast
open Go.L Go.ChangeShapes Go.WideShapes Go.ChangeAt Go.RowKit Go.Proofs.Ytbpibiapjangmaa.logs
set_option linter.unusedVariables false
set_option linter.unusedSimpArgs false

theorem awake : ∃ h', F35 100 [] = some (true, h') := by
  have : (F35 100 []).map (·.1) = some true := by kernel_rfl
  cases hF : F35 100 [] with
  | none => rw [hF] at this; cases this
  | some p =>
    rw [hF] at this
    obtain ⟨x, h'⟩ := p
    simp at this
    subst this
    exact ⟨h', rfl⟩

theorem zeros : ∀ (n i : Nat), at' (List.replicate n 0) i = 0 := by
  intro n i
  simp only [at', List.getD_eq_getElem?_getD, List.getElem?_replicate]
  split <;> rfl

theorem plays {N : Nat} (hN : 1048600 ≤ N) (room : Int) (E : List Ev) (hE : E.length ≤ 1048576) : ∃ h', F7 N (room, evs E, []) = some (true, h') := by
  obtain ⟨hw, aw⟩ := awake
  by_cases hr : 1 ≤ room ∧ room ≤ 4096
  · -- a log
    have e33 : F33 N (room, []) = some (p0, 0, [O.cells 0 (lg room .nils 0 (List.replicate 11 0) (List.replicate 11 0) (List.replicate 11 0))]) := by
      rw [F33]
      simp only [itF, itT, ifT, ifF, dF (show ¬ room < 1 by omega), dF (show ¬ room > 4096 by omega), bs]
      rfl
    have L0 : Log [O.cells 0 (lg room .nils 0 (List.replicate 11 0) (List.replicate 11 0) (List.replicate 11 0))] room (mays (E.take 0)) .nils 0 [] (List.replicate 11 0) (List.replicate 11 0) (List.replicate 11 0) := by
      refine ⟨hr, rfl, .nil, by simp [oid], by simp; omega, ⟨by omega, fun _ => rfl⟩, by simp, by simp, by simp, by simp, zeros _ _, fun i => by rw [zeros]; omega, by simp, fun i => by rw [zeros]; omega, fun i => by rw [zeros]; omega⟩
    obtain ⟨h1, kept, from', Ph, C, A, B, added, e1, L1, O1⟩ := addsL N room E hE E.length N 0 _ room .nils 0 [] _ _ _ .nils (by omega) (by omega) L0 (by simpa using Own.nil) (by simp [oid]) (by simp [oid])
    have hml : (mays E).length ≤ 1048576 := Nat.le_trans (List.length_filter_le ..) hE
    generalize mays E = Ad at *
    obtain ⟨v, h2, e2, O2, k2, f2⟩ := events L1 N
    have L2 := L1.keep k2 (by simp) (by simp)
    have A2 : Own h2 6 added (Ad.map Ev.cs) := O1.frame fun j hj => k2.2 j (O1.sl'.lt hj) (by simp)
    have hC : C = at' C 0 :: C.drop 1 := by
      have := List.drop_eq_getElem_cons (l := C) (i := 0) (by rw [L1.lenC]; omega)
      rw [List.drop_zero] at this
      rw [this, at']; simp
    have hs : 0 + (C.drop 1).sum = (Ad.length : Int) := by
      have h1 := L1.sum
      have h0 := L1.C0
      rw [hC, List.sum_cons, h0] at h1
      exact h1
    have e3 := countsL L2 (by omega) N room added v (Ad.length : Int) 0 10 N 1 0 (by omega) (by omega) (by omega) hs (by omega)
    have hph := L1.phle
    have hroom := L1.room1
    have hlen := L1.len
    have hll : (last Ad Ph).length = Ph.length := by simp [last]; omega
    have e4 := lost L2 (by omega) (N := N) (by omega)
    have w1 : IntKind.i64.wrap ((Ad.length : Int) - (Ph.length : Int)) = ((Ad.length - Ph.length : Nat) : Int) := by rw [wrapIn (by omega)]; omega
    obtain ⟨v5, e5, S5, i5⟩ := A2.sl'.cut (Ad.length - Ph.length) Ad.length (by omega) (by simp)
    have hX : (List.take (Ad.length - (Ad.length - Ph.length)) (List.drop (Ad.length - Ph.length) (List.map Ev.cs Ad))) = (last Ad Ph).map Ev.cs := by
      rw [last, ← List.map_drop, ← List.map_take, List.take_of_length_le (by simp)]
    rw [hX] at S5
    obtain ⟨b6, e6, hb6⟩ := same (N := N) O2.sl' S5 (by omega) (by omega)
    have hb6' : b6 = true := hb6.2 rfl
    subst hb6'
    obtain ⟨h7, e7⟩ := distinctL N (by omega) (last Ad Ph).length N 0 h2 (by omega) (by omega) L2 rfl O2.sl'
    have ha0 : among (last Ad Ph) 0 = 0 := by simp [among]
    rw [ha0] at e7
    have c1 : ((Ad.length : Int) != (Ad.length : Int)) = false := by simp
    have c2 : ((Ph.length : Int) != (if room < (Ad.length : Int) then room else (Ad.length : Int))) = false := by
      by_cases hh : room < (Ad.length : Int)
      · rw [if_pos hh]; simp; omega
      · rw [if_neg hh]; simp; omega
    refine ⟨h7, ?_⟩
    rw [F7]
    have z0 : ((0 : Int) != 0) = false := rfl
    have e1' : L7_0 N N (room, evs E, p0, V.nils, 0, [O.cells 0 (lg room .nils 0 (List.replicate 11 0) (List.replicate 11 0) (List.replicate 11 0))]) = some (.inl (room, p0, added, h1)) := e1
    have e3' : L7_1 N N (room, p0, added, v, (Ad.length : Int), 0, 0, 1, h2) = some (room, p0, added, v, (Ad.length : Int), (Ad.length : Int), 0, h2) := e3
    have e7' : L7_2 N N (p0, v, 0, 0, h2) = some (v, ((last Ad Ph).length : Int), h7) := e7
    have c3 : (((Ad.length - Ph.length : Nat) : Int) != ((Ad.length - Ph.length : Nat) : Int)) = false := by simp
    have c4 : ((Ph.length : Int) == (Ph.length : Int)) = true := by simp
    simp only [e33, bs, z0, itF, itT, ifT, ifF, pnil, e1', e2, O1.sl'.len, List.length_map, e3', c1, O2.sl'.len, hll, c2, e4, w1, c3, A2.sl'.len, e5, e6, Bool.not_true, e7', c4, aw]
  · -- none
    have e33 : F33 N (room, []) = some (.nilp, 1, []) := by
      rw [F33]
      by_cases h1 : room < 1
      · simp only [itF, itT, ifT, ifF, dT h1, bs]
      · simp only [itF, itT, ifT, ifF, dF h1, dT (show room > 4096 by omega), bs]
    have e34 : F34 N (room, []) = some (((.int .i64 0) :: .nils :: List.replicate 33 (.int .i64 0)), 1, []) := by
      rw [F34]
      by_cases h1 : room < 1
      · simp only [itF, itT, ifT, ifF, dT h1, bs]
      · simp only [itF, itT, ifT, ifF, dF h1, dT (show room > 4096 by omega), bs]
    refine ⟨[], ?_⟩
    rw [F7]
    have z1 : ((1 : Int) != 0) = true := rfl
    have z2 : ((1 : Int) == 1) = true := rfl
    have z3 : isNil .nilp = some true := rfl
    have z4 : L.asAgg 35 (some (.agg ((.int .i64 0) :: .nils :: List.replicate 33 (.int .i64 0)))) = some ((.int .i64 0) :: .nils :: List.replicate 33 (.int .i64 0)) := rfl
    have z5 : ((V.int .i64 0) :: V.nils :: List.replicate 33 (V.int .i64 0)).length = 35 := rfl
    simp only [e33, e34, bs, z1, z2, z3, z4, itF, itT, ifT, ifF, aw]
    rw [if_pos z5, if_pos (by rw [z5]; omega)]

theorem kids : Kids Try.prog (· < Try.prog.types.size) := kids_rows (by kernel_rfl) (by kernel_rfl)
theorem lv82 : leaves Try.prog 8 82 = some [.int .i64, .int .i64, .int .i64, .int .i64, .int .i64, .int .i64] := by kernel_rfl
theorem c82 : Try.prog.cellsOf 82 = 6 := by kernel_rfl
theorem s82 : 82 < Try.prog.types.size := of_decide_eq_true (by kernel_rfl)

set_option maxRecDepth 100000 in
theorem ev_of {x : V} (h : dataV Try.prog 7 82 x.cells ∧ x = mkE (Try.prog.cellsOf 82) x.cells) : ∃ e : Ev, x = .agg e.cs := by
  obtain ⟨hd, hx⟩ := h
  obtain ⟨⟨a, b, c, d, e, f, _⟩, hcs, _⟩ := leaves_of kids 7 8 82 _ _ hd lv82 s82
  rw [c82] at hx
  refine ⟨⟨a, b, c, d, e, f⟩, ?_⟩
  rw [hx, ← hcs]
  rfl

set_option maxRecDepth 100000 in
theorem main : ∀ vs, dataA Try.prog 8 Try.f7.params.toList vs → V.szs vs ≤ 1048576 → ∃ h', Triple Try.prog 7 vs [] (.bool true) h' := by
  intro vs h hb
  rw [Try.params7] at h
  obtain ⟨room, r, rfl, _, h⟩ := dataA_int rfl Try.underlying3 h
  obtain ⟨xs, r, rfl, hl, hxs, h⟩ := dataA_slice rfl Try.underlying71 h
  cases dataA_nil h
  obtain ⟨E, rfl⟩ := list_of (g := fun e : Ev => V.agg e.cs) fun x hx => ev_of (hxs x hx)
  have hE : E.length ≤ 1048576 := by
    have := szs_le (xs := E.map fun e : Ev => V.agg e.cs) (by
      intro x hx
      obtain ⟨e, _, rfl⟩ := List.mem_map.1 hx
      simp [V.sz, V.szs, Ev.cs])
    rw [List.length_map] at this
    simp only [V.szs, V.sz] at hb
    omega
  obtain ⟨N, hN⟩ : ∃ N, 1048600 ≤ N := ⟨_, Nat.le_refl _⟩
  obtain ⟨h', e⟩ := plays hN room E hE
  rw [c82]
  exact ⟨h', (fine7 N).triple (good7 N) e⟩


theorem own : ownKnob Try.prog.godebug = none := by kernel_rfl

theorem all_sum {H : Type} : ∀ l : List (DataW H), (l.map Rows.uptoBulk).sum = Rows.uptoBulkAll l
  | [] => by simp [Rows.uptoBulkAll]
  | d :: r => by simp [Rows.uptoBulkAll, all_sum r]

theorem muOk {H : Type} : MuOk (Rows.uptoBulk (H := H)) where
  one d := by
    cases d with
    | lit l => cases l <;> simp [Rows.uptoBulk]
    | _ => simp [Rows.uptoBulk]
  str l := by simp [Rows.uptoBulk]
  slice es sp := by rw [all_sum]; simp only [Rows.uptoBulk]; omega
  agg ps := by rw [all_sum]; simp only [Rows.uptoBulk]; omega

theorem bound {H : Type} {l : List (DataW H)} (hk : Rows.uptoSmall H l = true) : (l.map Rows.uptoBulk).sum ≤ 1048576 := by
  rw [all_sum]
  exact of_decide_eq_true hk

set_option maxRecDepth 100000 in
theorem lifted (os : Os) (started : os.Started) (H : Type) (enc : TypeId × Value → H) (F : Stop.Interp) :
    ReturnsInHanded {} Try.checked os 7 .any ((Rows.OpenSpec.upto Rows.logLastSpec).pre6 enc Try.prog Try.f7 Rows.logLastUptoRow.domain false) (((Rows.OpenSpec.upto Rows.logLastSpec).at F).post enc Try.prog Try.f7 false true false false) := by
  refine returnsInHanded_of_cond (C := Try.checked) (s := Rows.OpenSpec.upto Rows.logLastSpec) (k := Rows.uptoSmall) rfl own started (by kernel_rfl) Try.func7
    (OpenSpec.witness (enc := enc) (C := Try.checked) (s := Rows.OpenSpec.upto Rows.logLastSpec) (k := Rows.uptoSmall) rfl false ⟨#[], #[.int .i64 0, .slice none 0 0], []⟩ 8 (by kernel_rfl) (by kernel_rfl) (by kernel_rfl)
      (x := ([.lit (.int .i64 0), .nil], [], [])) (by kernel_rfl) rfl (by kernel_rfl)) ?_
  intro W base args ds gs before hval hW _ hk _
  have hgs : gs = [] := by
    obtain ⟨p, q, _, hV, _⟩ := hW
    exact (trodVars_none hV).1
  subst hgs
  rw [List.append_nil] at hk
  exact row_callsU (P := Try.prog) (fn := Try.f7) (s := Rows.logLastSpec) (n := 8) (by kernel_rfl) (by kernel_rfl) (by kernel_rfl) rfl Try.underlying4 (by kernel_rfl)
    (fun ds h => by
      match ds, h with
      | [_, _], _ => exact ⟨rfl, rfl, rfl⟩) rfl hval hW (fun vs h hb => main vs h (Nat.le_trans (hb _ muOk) (bound hk)))

theorem over : Rows.logLastUptoRow.holds Try.pinned (Rows.OpenSpec.upto Rows.logLastSpec) :=
  OpenClaim.holds_of_cond 7 Try.f7 rfl rfl rfl rfl rfl rfl rfl ⟨rfl, rfl, rfl, rfl, rfl⟩ rfl rfl rfl rfl rfl (by kernel_rfl) Try.func7 (by kernel_rfl)
    (of_decide_eq_true (by kernel_rfl)) (by unfold Func.isWrapper; first | (rw [if_pos (by decide +kernel)]; kernel_rfl) | (rw [if_neg (by decide +kernel)]; exact ⟨rfl, rfl⟩))
    (fun os started H enc _ F => lifted os started H enc F)

/-- ████ THE STATEMENT ████ -/
theorem proved : Rows.LogLastUptoSaid :=
  over
#print axioms proved

end Go.Proofs.Ytbpibiapjangmaa.logLast
