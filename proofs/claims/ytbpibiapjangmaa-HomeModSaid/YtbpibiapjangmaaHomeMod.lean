/- PROVED: 'carousellaw17.HomeMod' answers true for every pair of ints, and the arguments read afterwards as before. No condition. -/
import Derived.Test.YtbpibiapjangmaaHome
import Derived.Test.YtbpibiapjangmaaRows
import Derived.WalkKit
import Derived.ProofKit
import Derived.OpenShut
namespace Go.Proofs.Ytbpibiapjangmaa.homeMod
open Go.L Go.ChangeShapes Go.WideShapes Go.ChangeAt Go.RowKit
set_option linter.unusedVariables false      -- a walk need not use every 'w<i>' (that an integer argument fits its kind)

theorem own : ownKnob Try.prog.godebug = none := by kernel_rfl

noncomputable def e3 : Env := env Try.prog 76 [(13, p13), (14, p14), (15, p15)] []
theorem fine3 : Fine e3 3 Try.f3 := ⟨Try.func3, by kernel_rfl, by kernel_rfl, by kernel_rfl, by kernel_rfl, by kernel_rfl⟩
theorem good3 : Go.L.Good e3 := good_of (by
  intro p hp vs v he
  simp only [List.mem_cons, List.not_mem_nil, or_false] at hp
  rcases hp with rfl | rfl | rfl
  · exact callP_good fine13 good13 he
  · exact callP_good fine14 good14 he
  · exact callP_good fine15 good15 he) nil_tc

/-- What the law does, as a plain function. -/
noncomputable def F3 (a n : Int) (h : H) : Option (V × H) :=
  dest2 (p13 [.int .i64 a, .int .i64 n]) fun g e => dest2 (p14 [.int .i64 a, .int .i64 n]) fun g2 e2 =>
  (if (g != g2) = true then some (true, h) else some (e != e2, h)).bind fun r =>
  if r.1 = true then some (.bool false, r.2) else
  if decide (n < 1) = true then destB (p15 []) fun b => some (.bool b, r.2) else
  (if decide (g < 0) = true then some (true, r.2) else some (decide (g ≥ n), r.2)).bind fun r2 =>
  (if r2.1 = true then some (true, r2.2) else (if n = 0 then none else
    (if ((IntKind.i64.wrap (a - g)).tmod n != 0) = true then some (decide (a > -4611686018427387904), r2.2) else some (false, r2.2)).bind fun r3 => some (r3.1, r3.2))).bind fun r4 =>
  if r4.1 = true then some (.bool false, r4.2) else
  if (a == 9223372036854775807) = true then destB (p15 []) fun b => some (.bool b, r4.2) else
  dest2 (p13 [.int .i64 (IntKind.i64.wrap (a + 1)), .int .i64 n]) fun up e =>
  (if (e == 0) = true then (if n = 0 then none else some (up == (IntKind.i64.wrap (g + 1)).tmod n, r4.2)) else some (false, r4.2)).bind fun r5 =>
  (if r5.1 = true then destB (p15 []) fun b => some (b, r5.2) else some (false, r5.2)).bind fun r6 =>
  some (.bool r6.1, r6.2)

theorem link3 (a n : Int) (h : H) : evF e3 0 Try.f3 [.int .i64 a, .int .i64 n] h = F3 a n h := by kernel_rfl

theorem F3_true {a n : Int} (ha : -9223372036854775808 ≤ a ∧ a ≤ 9223372036854775807) (hn : -9223372036854775808 ≤ n ∧ n ≤ 9223372036854775807) (h : H) : F3 a n h = some (.bool true, h) := by
  unfold F3
  rw [p13_eq hn.2, p14_eq hn.2]
  simp only [dest2_some, awake15, destB_some, bne_self_eq_false, Bool.false_eq_true, if_false, Option.bind_some]
  by_cases h1 : n < 1
  · rw [if_pos (by simpa using h1)]
  rw [if_neg (by simpa using h1)]
  have h0 : ¬ n = 0 := by omega
  have hg : md a n = a % n := by unfold md; rw [if_neg h1]
  have hm1 := Int.emod_nonneg a h0
  have hm2 := Int.emod_lt_of_pos a (show 0 < n by omega)
  have hdm := Int.emod_add_mul_ediv a n
  rw [hg, if_neg (by simp; omega)]
  simp only [Option.bind_some]
  rw [if_neg (by simp; omega), if_neg h0]
  have hrest : (if ((IntKind.i64.wrap (a - a % n)).tmod n != 0) = true then some (decide (a > -4611686018427387904), h) else some (false, h)) = some (false, h) := by
    by_cases hb : a > -4611686018427387904
    · have hin : -9223372036854775808 ≤ a - a % n ∧ a - a % n ≤ 9223372036854775807 := by
        refine ⟨?_, by omega⟩
        by_cases hneg : 0 ≤ a
        · have : a % n ≤ a := by
            by_cases hlt : a < n
            · rw [Int.emod_eq_of_lt hneg hlt]; exact Int.le_refl _
            · omega
          omega
        · by_cases hbig : n > -a
          · have : a % n = a + n := by rw [← Int.add_emod_right, Int.emod_eq_of_lt (by omega) (by omega)]
            omega
          · omega
      rw [IntWalk.i64_in _ hin]
      have : (a - a % n).tmod n = 0 := by
        have : a - a % n = n * (a / n) := by omega
        rw [this, Int.mul_tmod_right]
      rw [this]
      simp
    · have hd : decide (a > -4611686018427387904) = false := by simpa using hb
      rw [hd]
      simp
  rw [hrest]
  simp only [Option.bind_some, Bool.false_eq_true, if_false]
  by_cases hmax : a = 9223372036854775807
  · rw [if_pos (by simpa using hmax)]
  rw [if_neg (by simpa using hmax), IntWalk.i64_in (a + 1) (by omega), p13_eq hn.2]
  have hc : mdCode n = 0 := by unfold mdCode; rw [if_neg h1]
  have hg1 : md (a + 1) n = (a + 1) % n := by unfold md; rw [if_neg h1]
  simp only [dest2_some, hc, hg1, beq_self_eq_true, if_true, if_neg h0, Option.bind_some]
  rw [IntWalk.i64_in (a % n + 1) (by omega), IntWalk.rem_in _ _ (by omega)]
  have : (a + 1) % n = (a % n + 1) % n := by rw [Int.emod_add_emod]
  rw [this]
  simp only [beq_self_eq_true, if_true, Option.bind_some]

theorem triple (a0 a1 : Int) (w0 : (Lit.int .i64 a0).wf = true) (w1 : (Lit.int .i64 a1).wf = true) : Triple Try.prog 3 [.int .i64 a0, .int .i64 a1] [] (.bool true) [] := by
  have b0 : -9223372036854775808 ≤ a0 ∧ a0 ≤ 9223372036854775807 := by simpa [Lit.wf, IntKind.min, IntKind.max, IntKind.signed, IntKind.bits] using w0
  have b1 : -9223372036854775808 ≤ a1 ∧ a1 ≤ 9223372036854775807 := by simpa [Lit.wf, IntKind.min, IntKind.max, IntKind.signed, IntKind.bits] using w1
  exact fine3.triple good3 (N := 0) (Nat.le_of_ble_eq_true (by kernel_rfl)) (Nat.le_of_ble_eq_true (by kernel_rfl)) (by rw [link3]; exact F3_true b0 b1 [])

theorem walk (a0 : Int) (a1 : Int) (w0 : (Lit.int .i64 a0).wf = true) (w1 : (Lit.int .i64 a1).wf = true) (w : World) :
    Calls Try.prog 3 #[.int .i64 a0, .int .i64 a1] w fun e w' => e = .returned (.bool true) ∧ Grown w w' :=
  (law_calls (triple a0 a1 w0 w1) w #[.int .i64 a0, .int .i64 a1] rfl (ints_rel _)).mono fun _ _ h => ⟨h.1, h.2.1⟩

/-! ### THE ROW's STEP: WRITTEN OUT: LEAVE IT -/
set_option maxRecDepth 100000 in
theorem lifted (os : Os) (started : os.Started) (H : Type) (enc : TypeId × Value → H) :
    ReturnsInHanded {} Try.checked os 3 .any (Rows.homeModSpec.pre6 enc Try.prog Try.f3 Rows.homeModRow.domain false) (Rows.homeModSpec.post enc Try.prog Try.f3 false true false false) := by
  refine returnsInHanded_of_change (C := Try.checked) own started (by kernel_rfl) Try.func3
    (ChangeSpec.witness6 (enc := enc) (C := Try.checked) false ⟨#[], #[.int .i64 0, .int .i64 0], []⟩ 8 (by kernel_rfl) (by kernel_rfl) (by kernel_rfl) (by kernel_rfl)) ?_
  intro W base args ds gs before hval0 hW hcnd _
  have hval : ∀ (j : Nat) t v, Try.f3.params[j]? = some t → args[j]? = some v → Value.okWide Try.prog W .any base t v := hval0
  have hW' := hW
  obtain ⟨p, q, hA0, hV, rfl, hfz, hnd⟩ := hW
  have hA : DataW.TrodAll enc Try.prog W 0 (fun _ => true) true Try.f3.params.toList args.toList ds p := hA0
  rw [Try.params3] at hA hval
  obtain ⟨v0, vs0, d0, ds0, p0, q0, hargs, rfl, rfl, h0, r0⟩ := trodAll_cons hA
  obtain ⟨v1, vs1, d1, ds1, p1, q1, rfl, rfl, rfl, h1, r1⟩ := trodAll_cons r0
  obtain ⟨rfl, rfl, rfl⟩ := trodAll_nil r1
  obtain rfl : args = #[v0, v1] := by cases args; simp_all
  obtain ⟨rfl, rfl⟩ := trodVars_none hV
  obtain ⟨a0, rfl, rfl, rfl, w0⟩ := open_int Try.underlying3 (hval 0 3 v0 rfl rfl) h0
  obtain ⟨a1, rfl, rfl, rfl, w1⟩ := open_int Try.underlying3 (hval 1 3 v1 rfl rfl) h1
  clear hA0 hval0
  simp only [List.append_nil] at hW'
  refine (walk a0 a1 w0 w1 W).mono fun e W' ⟨he, hg⟩ => ?_
  subst he
  exact ⟨_, rfl, post_of_same (pa := []) (pv := []) hW' (fun _ _ _ => (trodAll_cons_mk (shut_bool Try.underlying4 _) trodAll_mk0)) (fun sp _ => (trodAll_cons_mk (shut_int Try.underlying3 w0) (trodAll_cons_mk (shut_int Try.underlying3 w1) trodAll_mk0))) (fun _ _ => rfl) rfl
    (hg.frame _) hg.2.1 (ok_one (by kernel_rfl) rfl (okWide_bool_mk Try.underlying4 _))⟩

theorem over : Rows.homeModRow.holds Try.pinned (OpenSpec.ofChange Rows.homeModSpec) :=
  OpenClaim.holds_of_wide 3 Try.f3 rfl rfl rfl rfl rfl rfl rfl ⟨rfl, rfl, rfl, rfl, rfl⟩ rfl rfl rfl rfl rfl (by kernel_rfl) Try.func3 (by kernel_rfl)
    (of_decide_eq_true (by kernel_rfl)) (by unfold Func.isWrapper; first | (rw [if_pos (by decide +kernel)]; kernel_rfl) | (rw [if_neg (by decide +kernel)]; exact ⟨rfl, rfl⟩))
    (fun os started H enc _ => lifted os started H enc)

/-- ████ THE STATEMENT ████ -/
theorem proved : Rows.HomeModSaid :=
  over
#print axioms proved
end Go.Proofs.Ytbpibiapjangmaa.homeMod
