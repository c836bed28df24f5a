/- PROVED: 'carousellaw14.TableLoads' answers true for all lists of numbers, pids and names that together hold at most 1048576 values and letters, and the arguments read afterwards as before. -/
import Derived.Test.YtbpibiapjangmaaL38
import Derived.Test.YtbpibiapjangmaaTabP
import Derived.Test.YtbpibiapjangmaaRows
import Derived.WalkKit
import Derived.ProofKit
import Derived.OpenShut
import Derived.JoinedCond
namespace Go.Proofs.Ytbpibiapjangmaa.tableLoads
open Go.L Go.ChangeShapes Go.WideShapes Go.ChangeAt Go.RowKit Go.Proofs.Ytbpibiapjangmaa.tabs
set_option linter.unusedVariables false
set_option linter.unusedSimpArgs false

theorem awake : ∃ h', F30 100 [] = some (true, h') := by
  have : (F30 100 []).map (·.1) = some true := by kernel_rfl
  cases hF : F30 100 [] with
  | none => rw [hF] at this; cases this
  | some p =>
    rw [hF] at this
    obtain ⟨x, h'⟩ := p
    simp at this
    subst this
    exact ⟨h', rfl⟩

def a0 (G : List Int) : V := .rs 1 (G.map I)
def a1 (L : List (Int × Int)) : V := .rs 2 (L.map fun p => .agg [I p.1, I p.2])
def a2 (Nm : List ByteArray) : V := .rs 1 (Nm.map V.str)

theorem s0 (h : H) (G : List Int) : Sl h 1 (a0 G) (ones G) := by
  have := Sl.rs (h := h) (es := 1) (G.map I) (by intro x hx; obtain ⟨y, _, rfl⟩ := List.mem_map.1 hx; rfl)
  rw [List.map_map] at this
  exact this
theorem s1 (h : H) (L : List (Int × Int)) : Sl h 2 (a1 L) (twos L) := by
  have := Sl.rs (h := h) (es := 2) (L.map fun p => .agg [I p.1, I p.2]) (by intro x hx; obtain ⟨y, _, rfl⟩ := List.mem_map.1 hx; rfl)
  rw [List.map_map] at this
  exact this
theorem s2 (h : H) (Nm : List ByteArray) : Sl h 1 (a2 Nm) (tabs.strs Nm) := by
  have := Sl.rs (h := h) (es := 1) (Nm.map V.str) (by intro x hx; obtain ⟨y, _, rfl⟩ := List.mem_map.1 hx; rfl)
  rw [List.map_map] at this
  exact this

theorem plays {N : Nat} (hN : 1048600 ≤ N) (G : List Int) (L : List (Int × Int)) (Nm : List ByteArray) (hG : G.length ≤ 1048576) (hL : L.length ≤ 1048576) (hM : Nm.length ≤ 1048576) :
    ∃ h', F11 N (a0 G, a1 L, a2 Nm, []) = some (true, h') := by
  obtain ⟨hw, aw⟩ := awake
  obtain ⟨x1, h2, e2, l2, n2, f2⟩ := lent (N := N) (by omega) (s0 [] G) rfl hG
  have n2' : h2.length = 1 := n2
  have l2' : Lent h2 x1 0 G := l2
  -- the pids
  have o3 : Own (h2 ++ [O.cells 0 []]) 2 (.sl h2.length 0 0 0 2 (some 0)) [] := .z _ (by simp)
  have k3 := Keeps.push h2 (O.cells 0 [])
  have n3 : (h2 ++ [O.cells 0 []]).length = h2.length + 1 := by simp
  generalize hh3 : h2 ++ [O.cells 0 []] = h3 at *
  obtain ⟨v4, h5, e5, o5, k5, i5, _⟩ := o3.app (twos L) (by intro x hx; obtain ⟨y, _, rfl⟩ := List.mem_map.1 hx; rfl) (by simp [mostCells]; omega)
  rw [List.nil_append] at o5
  have n5 := k5.1
  have lt4 : ∀ j, oid v4 = some j → h2.length ≤ j ∧ j < h5.length := fun j hj => ⟨by
    rcases i5 with e | e
    · rw [e] at hj; simp [oid] at hj; omega
    · rw [e] at hj; simp at hj; omega, o5.sl'.lt hj⟩
  -- the names
  have o7 : Own (h5 ++ [O.cells 0 []]) 1 (.sl h5.length 0 0 0 1 (some 0)) [] := .z _ (by simp)
  have k7 := Keeps.push h5 (O.cells 0 [])
  have n7 : (h5 ++ [O.cells 0 []]).length = h5.length + 1 := by simp
  generalize hh7 : h5 ++ [O.cells 0 []] = h7 at *
  obtain ⟨v8, h9, e9, o9, k9, i9, _⟩ := o7.app (tabs.strs Nm) (by intro x hx; obtain ⟨y, _, rfl⟩ := List.mem_map.1 hx; rfl) (by simp [mostCells]; omega)
  rw [List.nil_append] at o9
  have n9 := k9.1
  have lt8 : ∀ j, oid v8 = some j → h5.length ≤ j ∧ j < h9.length := fun j hj => ⟨by
    rcases i9 with e | e
    · rw [e] at hj; simp [oid] at hj; omega
    · rw [e] at hj; simp at hj; omega, o9.sl'.lt hj⟩
  have k59 : ∀ j, j < h5.length → h9[j]? = h5[j]? := fun j hj => by
    rw [k9.2 j (by omega) (by simp [oid]; omega), k7.2 j hj (by simp)]
  have k29 : ∀ j, j < h2.length → h9[j]? = h2[j]? := fun j hj => by
    rw [k59 j (by omega), k5.2 j (by omega) (by simp [oid]; omega), k3.2 j hj (by simp)]
  have l9 : Lent h9 x1 0 G := l2'.frame (k29 0 (by omega))
  have o49 : Own h9 2 v4 (twos L) := o5.frame fun j hj => k59 j (lt4 j hj).2
  have e5' : happ h3 (.sl h2.length 0 0 0 2 (some 0)) 2 (snlen (a1 L)) (twos L).flatten = some (v4, h5) := by
    rw [(s1 h3 L).snlen]; exact e5
  have e9' : happ h7 (.sl h5.length 0 0 0 1 (some 0)) 1 (snlen (a2 Nm)) (tabs.strs Nm).flatten = some (v8, h9) := by
    rw [(s2 h7 Nm).snlen]; exact e9
  obtain ⟨h13, v13, e13, t13⟩ := tabs.load (Nm := Nm) hN l9.sl o49.sl' o9.sl' hL
  obtain ⟨x, gv, lv', nv, h19, v19, e19, t19⟩ := loadR (h := h13) (N := N) hN rfl rfl rfl (s0 h13 G) (s1 h13 L) (s2 h13 Nm) hL
  have k919 : ∀ j, j < h9.length → h19[j]? = h9[j]? := fun j hj => (v19.2 j (by have := v13.1; omega)).trans (v13.2 j hj)
  have l19 : Lent h19 x1 0 G := l9.frame (k919 0 (by omega))
  have o419 : Own h19 2 v4 (twos L) := o49.frame fun j hj => k919 j (by have := (lt4 j hj).2; omega)
  have o819 : Own h19 1 v8 (tabs.strs Nm) := o9.frame fun j hj => k919 j (lt8 j hj).2
  have e55 := kept hN l19 (s0 h19 G) hG
  have e56 := samePids hN o419.sl' (s1 h19 L) hL
  rw [F11]
  simp only [e2, bs, hh3, (s1 h3 L).cells, e5', hh7, (s2 h7 Nm).cells, e9', e13, e19]
  cases hg : good G L Nm with
  | false =>
    refine ⟨h19, ?_⟩
    simp only [Bool.false_eq_true, ifF, ifT, itF, itT, bs, show ((1 : Int) != 1) = false from rfl, show isNil .nilp = some true from rfl, nT, nF, show ((1 : Int) == 0) = false from rfl, show (false == false) = true from rfl, e55, e56, aw]
  | true =>
    obtain ⟨hx, R⟩ := t19 hg
    subst hx
    have T := t13 hg
    have hLN : L.length = Nm.length := by
      rw [good] at hg
      simp only [Bool.and_eq_true, decide_eq_true_eq] at hg
      exact hg.2.1
    have ta := (List.getElem?_eq_some_iff.1 T.slots).1
    have tb := (List.getElem?_eq_some_iff.1 T.map).1
    have tc := (List.getElem?_eq_some_iff.1 T.obj).1
    obtain ⟨h31, e31, n31, f31⟩ := marked hN l19 hG 1
    have o431 : Own h31 2 v4 (twos L) := o419.frame fun j hj => f31 j (by have := (lt4 j hj).1; omega)
    have o831 : Own h31 1 v8 ((Nm.map V.str).map fun y => [y]) := by
      rw [List.map_map]
      exact o819.frame fun j hj => f31 j (by have := (lt8 j hj).1; omega)
    have hne : oid v4 ≠ oid v8 ∨ oid v4 = none := by
      cases h4 : oid v4 with
      | none => exact .inr rfl
      | some j =>
        refine .inl fun e => ?_
        have := (lt4 j h4).2
        have := (lt8 j e.symm).1
        omega
    obtain ⟨h65, e65, n65, f65⟩ := spoilL N hne (pt (h9.length + 2)) (G.length : Int) gv lv' nv L.length N 0 h31 (twos L) (Nm.map V.str) (by simp) (by simpa using hLN) (by simpa using hL) (by omega) o431 o831
    have e65' : L11_0 N N (v4, v8, pt (h9.length + 2), 0, (G.length : Int), gv, lv', nv, h31) = _ := e65
    have k65 : ∀ j, h9.length ≤ j → h65[j]? = h19[j]? := fun j hj => (f65 j (fun e => by have := (lt4 j e).2; omega) (fun e => by have := (lt8 j e).2; omega)).trans (f31 j (by omega))
    have T65 := T.frame (h' := h65) ((k65 _ (by omega)).trans (v19.2 _ ta)) ((k65 _ (by omega)).trans (v19.2 _ tb)) ((k65 _ (by omega)).trans (v19.2 _ tc))
    have n13 := v13.1
    have R65 := R.frame (h' := h65) fun k hk => k65 k (by omega)
    have hfl : (((fin G L Nm L.length L.length).length : Nat) : Int) = (G.length : Int) := by rw [fin_len]
    simp only [ifT, itT, itF, ifF, bs, show ((0 : Int) != 0) = false from rfl, pnil, nT, nF, show ((0 : Int) == 0) = true from rfl, show (true == true) = true from rfl, Bool.false_eq_true, e55, e56, e31, e65']
    rcases add T65 (show 257 ≤ N by omega) with ⟨ea, ha⟩ | ⟨j, hj, h69, ja, jb, jc, ea, Ta, na', fa⟩
    · rcases addR (N := N) (by omega) R65 with ⟨er, _⟩ | ⟨j, hj, _, _, _, _, ja, jb, _⟩
      · rw [hfl] at er
        exact ⟨h65, by simp only [ea, bs, er, eT, Bool.and_true, itT, ifT, aw]⟩
      · rcases ha j hj with h | h
        · rw [h] at ja; cases ja
        · omega
    · have R69 := R65.frame (h' := h69) fun k hk => fa k (by omega)
      rcases addR (N := N) (by omega) R69 with ⟨er, hr⟩ | ⟨i, hi, _, _, _, h77, ia, ib, ic, er, _, _, _⟩
      · rcases hr j hj with h | h
        · rw [h] at ja; cases ja
        · omega
      · have hij : i = j := by
          rcases Nat.lt_trichotomy i j with h | h | h
          · rcases jc i hi h with h | h
            · rw [h] at ia; cases ia
            · omega
          · exact h
          · rcases ic j hj h with h | h
            · rw [h] at ja; cases ja
            · omega
        subst hij
        rw [hfl] at er
        exact ⟨h77, by simp only [ea, bs, er, eT, Bool.and_true, itT, ifT, aw]⟩

theorem kids : Kids Try.prog (· < Try.prog.types.size) := kids_rows (by kernel_rfl) (by kernel_rfl)
theorem lv50 : leaves Try.prog 8 50 = some [.int .i64, .int .i64] := by kernel_rfl
theorem c50 : Try.prog.cellsOf 50 = 2 := by kernel_rfl
theorem s50 : 50 < Try.prog.types.size := of_decide_eq_true (by kernel_rfl)

set_option maxRecDepth 100000 in
theorem pid_of {x : V} (h : dataV Try.prog 7 50 x.cells ∧ x = mkE (Try.prog.cellsOf 50) x.cells) : ∃ e : Int × Int, x = .agg [I e.1, I e.2] := by
  obtain ⟨hd, hx⟩ := h
  obtain ⟨⟨a, b, _⟩, hcs, _⟩ := leaves_of kids 7 8 50 _ _ hd lv50 s50
  rw [c50] at hx
  refine ⟨(a, b), ?_⟩
  rw [hx, ← hcs]
  rfl

set_option maxRecDepth 100000 in
theorem main : ∀ vs, dataA Try.prog 8 Try.f11.params.toList vs → V.szs vs ≤ 1048576 → ∃ h', Triple Try.prog 11 vs [] (.bool true) h' := by
  intro vs h hb
  rw [Try.params11] at h
  obtain ⟨xs, r, rfl, _, hxs, h⟩ := dataA_slice rfl Try.underlying62 h
  obtain ⟨ys, r, rfl, _, hys, h⟩ := dataA_slice rfl Try.underlying48 h
  obtain ⟨zs, r, rfl, _, hzs, h⟩ := dataA_slice rfl Try.underlying64 h
  cases dataA_nil h
  have c3 : Try.prog.cellsOf 3 = 1 := by kernel_rfl
  have c9 : Try.prog.cellsOf 9 = 1 := by kernel_rfl
  obtain ⟨G, rfl⟩ := list_of (g := I) fun x hx => by
    obtain ⟨hd, hx⟩ := hxs x hx
    obtain ⟨z, hz, _⟩ := dataV_int rfl Try.underlying3 hd
    refine ⟨z, ?_⟩
    rw [c3] at hx
    rw [hx, hz]; rfl
  obtain ⟨L, rfl⟩ := list_of (g := fun e : Int × Int => V.agg [I e.1, I e.2]) fun x hx => pid_of (hys x hx)
  obtain ⟨Nm, rfl⟩ := list_of (g := V.str) fun x hx => by
    obtain ⟨hd, hx⟩ := hzs x hx
    obtain ⟨z, hz, _⟩ := dataV_str rfl Try.underlying9 hd
    refine ⟨z, ?_⟩
    rw [c9] at hx
    rw [hx, hz]; rfl
  have hG : G.length ≤ V.szs (G.map I) := by
    have := szs_le (xs := G.map I) (by
      intro x hx
      obtain ⟨e, _, rfl⟩ := List.mem_map.1 hx
      simp [V.sz])
    rwa [List.length_map] at this
  have hL : L.length ≤ V.szs (L.map fun e : Int × Int => V.agg [I e.1, I e.2]) := by
    have := szs_le (xs := L.map fun e : Int × Int => V.agg [I e.1, I e.2]) (by
      intro x hx
      obtain ⟨e, _, rfl⟩ := List.mem_map.1 hx
      simp [V.sz, V.szs])
    rwa [List.length_map] at this
  have hM : Nm.length ≤ V.szs (Nm.map V.str) := by
    have := szs_le (xs := Nm.map V.str) (by
      intro x hx
      obtain ⟨e, _, rfl⟩ := List.mem_map.1 hx
      simp [V.sz])
    rwa [List.length_map] at this
  simp only [V.szs, V.sz] at hb
  obtain ⟨N, hN⟩ : ∃ N, 1048600 ≤ N := ⟨_, Nat.le_refl _⟩
  obtain ⟨h', e⟩ := plays hN G L Nm (by omega) (by omega) (by omega)
  rw [c3, c9, c50]
  exact ⟨h', (fine11 N).triple (good11 N) e⟩


theorem own : ownKnob Try.prog.godebug = none := by kernel_rfl

theorem all_sum {H : Type} : ∀ l : List (DataW H), (l.map Rows.uptoBulk).sum = Rows.uptoBulkAll l
  | [] => by simp [Rows.uptoBulkAll]
  | d :: r => by simp [Rows.uptoBulkAll, all_sum r]

theorem muOk {H : Type} : MuOk (Rows.uptoBulk (H := H)) where
  one d := by
    cases d with
    | lit l => cases l <;> simp [Rows.uptoBulk]
    | _ => simp [Rows.uptoBulk]
  str l := by simp [Rows.uptoBulk]
  slice es sp := by rw [all_sum]; simp only [Rows.uptoBulk]; omega
  agg ps := by rw [all_sum]; simp only [Rows.uptoBulk]; omega

theorem bound {H : Type} {l : List (DataW H)} (hk : Rows.uptoSmall H l = true) : (l.map Rows.uptoBulk).sum ≤ 1048576 := by
  rw [all_sum]
  exact of_decide_eq_true hk

set_option maxRecDepth 100000 in
theorem lifted (os : Os) (started : os.Started) (H : Type) (enc : TypeId × Value → H) (F : Stop.Interp) :
    ReturnsInHanded {} Try.checked os 11 .any ((Rows.OpenSpec.upto Rows.tableLoadsSpec).pre6 enc Try.prog Try.f11 Rows.tableLoadsUptoRow.domain false) (((Rows.OpenSpec.upto Rows.tableLoadsSpec).at F).post enc Try.prog Try.f11 false true false false) := by
  refine returnsInHanded_of_cond (C := Try.checked) (s := Rows.OpenSpec.upto Rows.tableLoadsSpec) (k := Rows.uptoSmall) rfl own started (by kernel_rfl) Try.func11
    (OpenSpec.witness (enc := enc) (C := Try.checked) (s := Rows.OpenSpec.upto Rows.tableLoadsSpec) (k := Rows.uptoSmall) rfl false ⟨#[], #[.slice none 0 0, .slice none 0 0, .slice none 0 0], []⟩ 8 (by kernel_rfl) (by kernel_rfl) (by kernel_rfl)
      (x := ([.nil, .nil, .nil], [], [])) (by kernel_rfl) rfl (by kernel_rfl)) ?_
  intro W base args ds gs before hval hW _ hk _
  have hgs : gs = [] := by
    obtain ⟨p, q, _, hV, _⟩ := hW
    exact (trodVars_none hV).1
  subst hgs
  rw [List.append_nil] at hk
  exact row_callsU (P := Try.prog) (fn := Try.f11) (s := Rows.tableLoadsSpec) (n := 8) (by kernel_rfl) (by kernel_rfl) (by kernel_rfl) rfl Try.underlying4 (by kernel_rfl)
    (fun ds h => by
      match ds, h with
      | [_, _, _], _ => exact ⟨rfl, rfl, rfl⟩) rfl hval hW (fun vs h hb => main vs h (Nat.le_trans (hb _ muOk) (bound hk)))

theorem over : Rows.tableLoadsUptoRow.holds Try.pinned (Rows.OpenSpec.upto Rows.tableLoadsSpec) :=
  OpenClaim.holds_of_cond 11 Try.f11 rfl rfl rfl rfl rfl rfl rfl ⟨rfl, rfl, rfl, rfl, rfl⟩ rfl rfl rfl rfl rfl (by kernel_rfl) Try.func11 (by kernel_rfl)
    (of_decide_eq_true (by kernel_rfl)) (by unfold Func.isWrapper; first | (rw [if_pos (by decide +kernel)]; kernel_rfl) | (rw [if_neg (by decide +kernel)]; exact ⟨rfl, rfl⟩))
    (fun os started H enc _ F => lifted os started H enc F)

/-- ████ THE STATEMENT ████ -/
theorem proved : Rows.TableLoadsUptoSaid :=
  over
#print axioms proved

end Go.Proofs.Ytbpibiapjangmaa.tableLoads
