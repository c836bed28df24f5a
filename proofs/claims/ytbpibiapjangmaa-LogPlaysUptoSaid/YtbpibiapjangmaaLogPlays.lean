/- PROVED: 'carousellaw20.LogPlays' answers true for every room, every list of events, every process and every kind that together hold at most 1048576 values and letters, and the arguments read afterwards as before. -/
import Derived.Test.YtbpibiapjangmaaL38
import Derived.Test.YtbpibiapjangmaaLogG
import Derived.Test.YtbpibiapjangmaaRows
import Derived.WalkKit
import Derived.ProofKit
import Derived.OpenShut
import Derived.JoinedCond
namespace Go.Proofs.Ytbpibiapjangmaa.logPlays
open Go.L Go.ChangeShapes Go.WideShapes Go.ChangeAt Go.RowKit Go.Proofs.Ytbpibiapjangmaa.logs
set_option linter.unusedVariables false
set_option linter.unusedSimpArgs false

theorem awake : ∃ h', F35 100 [] = some (true, h') := by
  have : (F35 100 []).map (·.1) = some true := by kernel_rfl
  cases hF : F35 100 [] with
  | none => rw [hF] at this; cases this
  | some p =>
    rw [hF] at this
    obtain ⟨x, h'⟩ := p
    simp at this
    subst this
    exact ⟨h', rfl⟩

theorem zeros : ∀ (n i : Nat), at' (List.replicate n 0) i = 0 := by
  intro n i
  simp only [at', List.getD_eq_getElem?_getD, List.getElem?_replicate]
  split <;> rfl

theorem zs (room : Int) : (V.int .i64 room :: V.nils :: List.replicate 33 (V.int .i64 0)) = lr room .nils (List.replicate 11 0) (List.replicate 11 0) (List.replicate 11 0) := rfl

theorem plays {N : Nat} (hN : 1048600 ≤ N) (room kd n g : Int) (E : List Ev) (hE : E.length ≤ 1048576) : ∃ h', F9 N (room, evs E, n, g, kd, []) = some (true, h') := by
  obtain ⟨hw, aw⟩ := awake
  have nn : ∀ x : Int, (x != x) = false := by simp
  have bb : ∀ x : Int, (x == x) = true := by simp
  by_cases hr : 1 ≤ room ∧ room ≤ 4096
  · -- a log
    have e33 : F33 N (room, []) = some (pt 0, 0, [O.cells 0 (lg room .nils 0 (List.replicate 11 0) (List.replicate 11 0) (List.replicate 11 0))]) := by
      rw [F33]
      simp only [itF, itT, ifT, ifF, dF (show ¬ room < 1 by omega), dF (show ¬ room > 4096 by omega), bs]
      rfl
    have e34 : ∀ h, F34 N (room, h) = some (lr room .nils (List.replicate 11 0) (List.replicate 11 0) (List.replicate 11 0), 0, h) := by
      intro h
      rw [F34]
      simp only [itF, itT, ifT, ifF, dF (show ¬ room < 1 by omega), dF (show ¬ room > 4096 by omega), bs]
      rfl
    have L0 : Log 0 [O.cells 0 (lg room .nils 0 (List.replicate 11 0) (List.replicate 11 0) (List.replicate 11 0))] room (mays (E.take 0)) .nils 0 [] (List.replicate 11 0) (List.replicate 11 0) (List.replicate 11 0) := by
      refine ⟨hr, rfl, .nil, by simp [oid], by simp; omega, ⟨by omega, fun _ => rfl⟩, by simp, by simp, by simp, by simp, zeros _ _, fun i => by rw [zeros]; omega, by simp, fun i => by rw [zeros]; omega, fun i => by rw [zeros]; omega, zeros _ _, zeros _ _⟩
    have hl0 := lr_len (room := room) (kr := .nils) (C := List.replicate 11 0) (A := List.replicate 11 0) (B := List.replicate 11 0) (by simp) (by simp) (by simp)
    obtain ⟨h1, kept, from', Ph, C, A, B, kr, e1, L1, O1⟩ := playsL (room := room) N (by omega) kd n g E hE E.length N 0 _ .nils 0 [] _ _ _ .nils (by omega) (by omega) L0 (by simpa [last] using Own.nil) (by simp [oid]) (by simp [oid])
    have hml : (mays E).length ≤ 1048576 := Nat.le_trans (List.length_filter_le ..) hE
    generalize mays E = Ad at *
    have hph := L1.phle
    have hroom := L1.room1
    have hlen := L1.len
    have hll : (last Ad Ph).length = Ph.length := by simp [last]; omega
    have hz : (((.int .i64 0) :: .nils :: List.replicate 33 (.int .i64 0) : List V)).length = 35 := rfl
    have c5 : splice ((.int .i64 0) :: .nils :: List.replicate 33 (.int .i64 0) : List V) 0 (lr room .nils (List.replicate 11 0) (List.replicate 11 0) (List.replicate 11 0)) = lr room .nils (List.replicate 11 0) (List.replicate 11 0) (List.replicate 11 0) := splice_all (by rw [hl0, hz]) (by rw [hz]; omega)
    have e2 := tallyL L1 N kr kd n g 13 N 0 (by omega) (by omega)
    have e2' : L9_1 N N (kd, pt 0, -1, n, g, lr room kr C A B, h1) = some (.inl (kd, pt 0, n, g, lr room kr C A B, h1)) := e2
    have e1' : L9_0 N N (evs E, kd, pt 0, 0, n, g, lr room .nils (List.replicate 11 0) (List.replicate 11 0) (List.replicate 11 0), [O.cells 0 (lg room .nils 0 (List.replicate 11 0) (List.replicate 11 0) (List.replicate 11 0))]) = _ := e1
    obtain ⟨v3, h3, e3, O3, k3, f3⟩ := events L1 N
    have S3 : Sl h3 6 kr ((last Ad Ph).map Ev.cs) := O1.sl'.frame fun j hj => k3.2 j (O1.sl'.lt hj) (by simp)
    obtain ⟨b4, e4, hb4⟩ := same (N := N) O3.sl' S3 (by omega) (by omega)
    have hb4' : b4 = true := hb4.2 rfl
    subst hb4'
    have L3 := L1.keep k3 (by simp) (by simp)
    obtain ⟨v5, h5, e5, O5, k5, f5⟩ := ofs L3 n g (N := N) (by omega)
    have S5 : Sl h5 6 kr ((last Ad Ph).map Ev.cs) := S3.frame fun j hj => k5.2 j (S3.lt hj) (by simp)
    obtain ⟨v6, h6, e6, O6, a6, f6⟩ := refOf (room := room) (N := N) n g L1.lenC L1.lenA L1.lenB (by omega) (by omega) S5
    have S6 := a6.sl O5.sl' fun j hj => O5.sl'.lt hj
    have hfl := List.length_filter_le (fun e : Ev => (e.n == n) && (e.gen == g)) (last Ad Ph)
    obtain ⟨b7, e7, hb7⟩ := same (N := N) S6 O6.sl' (by omega) (by omega)
    have hb7' : b7 = true := hb7.2 rfl
    subst hb7'
    have hk3 := k3.1
    have hk5 := k5.1
    have L6 : Log 0 h6 room Ad kept from' Ph C A B := (L3.keep k5 (by simp) (by simp)).above a6 (by have := L3.lt0; omega) fun j hj => by have := L3.own.sl'.lt hj; omega
    have O6r : Own h6 6 kr ((last Ad Ph).map Ev.cs) := a6.own ((O1.frame fun j hj => k3.2 j (O1.sl'.lt hj) (by simp)).frame fun j hj => k5.2 j (S3.lt hj) (by simp)) fun j hj => S5.lt hj
    have e8 := lost L6 (by omega) (N := N) (by omega)
    have e9 := refLost (kr := kr) L6 (by omega) (N := N) (by omega) O6r
    have hw := lr_whole (room := room) (kr := kr) L1.lenC L1.lenA L1.lenB
    have z0 : ((0 : Int) == 0) = true := rfl
    have tt : (true == true) = true := rfl
    by_cases hkd : kd < 1 ∨ kd > 10
    · have c1 := cnt0 L1.C0 hkd
      have c2 := cnt0 L1.A0 hkd
      have c3 := cnt0 L1.B0 hkd
      refine ⟨h3, ?_⟩
      rw [F9]
      have hd : ((if (decide (kd < 1)) = true then some (true, h1) else some ((decide (kd > 10)), h1)) : Option (Bool × H)) = some (true, h1) := by
        by_cases hk1 : kd < 1
        · simp only [itT, ifT, dT hk1]
        · simp only [itF, ifF, itT, ifT, dF hk1, dT (show kd > 10 by omega)]
      simp only [e33, e34, bs, asAgg35 hl0, itF, itT, ifT, ifF, if_pos hl0, if_pos (show 0 + (lr room .nils (List.replicate 11 0) (List.replicate 11 0) (List.replicate 11 0)).length ≤ 35 by omega), nn, pnil, nF, nT, z0, tt, c5, e1', e2', sumZ L1, hd, countZ L1, c1, c2, c3, e3, lr_kr, e4, aw]
    · refine ⟨h6, ?_⟩
      rw [F9]
      have d1 := dF (show ¬ kd < 1 by omega)
      have d2 := dF (show ¬ kd > 10 by omega)
      simp only [e33, e34, bs, asAgg35 hl0, itF, itT, ifT, ifF, if_pos hl0, if_pos (show 0 + (lr room .nils (List.replicate 11 0) (List.replicate 11 0) (List.replicate 11 0)).length ≤ 35 by omega), nn, pnil, nF, nT, z0, tt, c5, e1', e2', sumZ L1, d1, d2, e3, lr_kr, e4, e5, hw, e6, e7, e8, e9, bb, aw]
  · -- none
    have e33 : F33 N (room, []) = some (.nilp, 1, []) := by
      rw [F33]
      by_cases h1 : room < 1
      · simp only [itF, itT, ifT, ifF, dT h1, bs]
      · simp only [itF, itT, ifT, ifF, dF h1, dT (show room > 4096 by omega), bs]
    have e34 : F34 N (room, []) = some (((.int .i64 0) :: .nils :: List.replicate 33 (.int .i64 0)), 1, []) := by
      rw [F34]
      by_cases h1 : room < 1
      · simp only [itF, itT, ifT, ifF, dT h1, bs]
      · simp only [itF, itT, ifT, ifF, dF h1, dT (show room > 4096 by omega), bs]
    refine ⟨[], ?_⟩
    rw [F9]
    have z2 : ((1 : Int) == 0) = false := rfl
    have z3 : isNil .nilp = some true := rfl
    have z5 : ((V.int .i64 0) :: V.nils :: List.replicate 33 (V.int .i64 0)).length = 35 := rfl
    have ff : (false == false) = true := rfl
    simp only [e33, e34, bs, asAgg35 z5, nn, z2, z3, nT, nF, ff, itF, itT, ifT, ifF, aw]
    rw [if_pos z5, if_pos (by rw [z5]; omega)]

theorem kids : Kids Try.prog (· < Try.prog.types.size) := kids_rows (by kernel_rfl) (by kernel_rfl)
theorem lv82 : leaves Try.prog 8 82 = some [.int .i64, .int .i64, .int .i64, .int .i64, .int .i64, .int .i64] := by kernel_rfl
theorem lv50 : leaves Try.prog 8 50 = some [.int .i64, .int .i64] := by kernel_rfl
theorem s50 : 50 < Try.prog.types.size := of_decide_eq_true (by kernel_rfl)
theorem c82 : Try.prog.cellsOf 82 = 6 := by kernel_rfl
theorem s82 : 82 < Try.prog.types.size := of_decide_eq_true (by kernel_rfl)

set_option maxRecDepth 100000 in
theorem ev_of {x : V} (h : dataV Try.prog 7 82 x.cells ∧ x = mkE (Try.prog.cellsOf 82) x.cells) : ∃ e : Ev, x = .agg e.cs := by
  obtain ⟨hd, hx⟩ := h
  obtain ⟨⟨a, b, c, d, e, f, _⟩, hcs, _⟩ := leaves_of kids 7 8 82 _ _ hd lv82 s82
  rw [c82] at hx
  refine ⟨⟨a, b, c, d, e, f⟩, ?_⟩
  rw [hx, ← hcs]
  rfl

set_option maxRecDepth 100000 in
theorem main : ∀ vs, dataA Try.prog 8 Try.f9.params.toList vs → V.szs vs ≤ 1048576 → ∃ h', Triple Try.prog 9 vs [] (.bool true) h' := by
  intro vs h hb
  rw [Try.params9] at h
  obtain ⟨room, r, rfl, _, h⟩ := dataA_int rfl Try.underlying3 h
  obtain ⟨xs, r, rfl, hl, hxs, h⟩ := dataA_slice rfl Try.underlying71 h
  obtain ⟨cs, r, rfl, hd, h⟩ := dataA_struct Try.underlying50 h
  obtain ⟨kd, r, rfl, _, h⟩ := dataA_int rfl Try.underlying3 h
  cases dataA_nil h
  obtain ⟨⟨n, g, _⟩, rfl, _⟩ := leaves_of kids 8 8 50 cs _ hd lv50 s50
  obtain ⟨E, rfl⟩ := list_of (g := fun e : Ev => V.agg e.cs) fun x hx => ev_of (hxs x hx)
  have hE : E.length ≤ 1048576 := by
    have := szs_le (xs := E.map fun e : Ev => V.agg e.cs) (by
      intro x hx
      obtain ⟨e, _, rfl⟩ := List.mem_map.1 hx
      simp [V.sz, V.szs, Ev.cs])
    rw [List.length_map] at this
    simp only [V.szs, V.sz] at hb
    omega
  obtain ⟨N, hN⟩ : ∃ N, 1048600 ≤ N := ⟨_, Nat.le_refl _⟩
  obtain ⟨h', e⟩ := plays hN room kd n g E hE
  rw [c82]
  exact ⟨h', (fine9 N).triple (good9 N) e⟩


theorem own : ownKnob Try.prog.godebug = none := by kernel_rfl

theorem all_sum {H : Type} : ∀ l : List (DataW H), (l.map Rows.uptoBulk).sum = Rows.uptoBulkAll l
  | [] => by simp [Rows.uptoBulkAll]
  | d :: r => by simp [Rows.uptoBulkAll, all_sum r]

theorem muOk {H : Type} : MuOk (Rows.uptoBulk (H := H)) where
  one d := by
    cases d with
    | lit l => cases l <;> simp [Rows.uptoBulk]
    | _ => simp [Rows.uptoBulk]
  str l := by simp [Rows.uptoBulk]
  slice es sp := by rw [all_sum]; simp only [Rows.uptoBulk]; omega
  agg ps := by rw [all_sum]; simp only [Rows.uptoBulk]; omega

theorem bound {H : Type} {l : List (DataW H)} (hk : Rows.uptoSmall H l = true) : (l.map Rows.uptoBulk).sum ≤ 1048576 := by
  rw [all_sum]
  exact of_decide_eq_true hk

set_option maxRecDepth 100000 in
theorem lifted (os : Os) (started : os.Started) (H : Type) (enc : TypeId × Value → H) (F : Stop.Interp) :
    ReturnsInHanded {} Try.checked os 9 .any ((Rows.OpenSpec.upto Rows.logPlaysSpec).pre6 enc Try.prog Try.f9 Rows.logPlaysUptoRow.domain false) (((Rows.OpenSpec.upto Rows.logPlaysSpec).at F).post enc Try.prog Try.f9 false true false false) := by
  refine returnsInHanded_of_cond (C := Try.checked) (s := Rows.OpenSpec.upto Rows.logPlaysSpec) (k := Rows.uptoSmall) rfl own started (by kernel_rfl) Try.func9
    (OpenSpec.witness (enc := enc) (C := Try.checked) (s := Rows.OpenSpec.upto Rows.logPlaysSpec) (k := Rows.uptoSmall) rfl false ⟨#[], #[.int .i64 0, .slice none 0 0, .agg #[.int .i64 0, .int .i64 0], .int .i64 0], []⟩ 8 (by kernel_rfl) (by kernel_rfl) (by kernel_rfl)
      (x := ([.lit (.int .i64 0), .nil, .agg [.lit (.int .i64 0), .lit (.int .i64 0)], .lit (.int .i64 0)], [], [])) (by kernel_rfl) rfl (by kernel_rfl)) ?_
  intro W base args ds gs before hval hW _ hk _
  have hgs : gs = [] := by
    obtain ⟨p, q, _, hV, _⟩ := hW
    exact (trodVars_none hV).1
  subst hgs
  rw [List.append_nil] at hk
  exact row_callsU (P := Try.prog) (fn := Try.f9) (s := Rows.logPlaysSpec) (n := 8) (by kernel_rfl) (by kernel_rfl) (by kernel_rfl) rfl Try.underlying4 (by kernel_rfl)
    (fun ds h => by
      match ds, h with
      | [_, _, _, _], _ => exact ⟨rfl, rfl, rfl⟩) rfl hval hW (fun vs h hb => main vs h (Nat.le_trans (hb _ muOk) (bound hk)))

theorem over : Rows.logPlaysUptoRow.holds Try.pinned (Rows.OpenSpec.upto Rows.logPlaysSpec) :=
  OpenClaim.holds_of_cond 9 Try.f9 rfl rfl rfl rfl rfl rfl rfl ⟨rfl, rfl, rfl, rfl, rfl⟩ rfl rfl rfl rfl rfl (by kernel_rfl) Try.func9 (by kernel_rfl)
    (of_decide_eq_true (by kernel_rfl)) (by unfold Func.isWrapper; first | (rw [if_pos (by decide +kernel)]; kernel_rfl) | (rw [if_neg (by decide +kernel)]; exact ⟨rfl, rfl⟩))
    (fun os started H enc _ F => lifted os started H enc F)

/-- ████ THE STATEMENT ████ -/
theorem proved : Rows.LogPlaysUptoSaid :=
  over
#print axioms proved

end Go.Proofs.Ytbpibiapjangmaa.logPlays
