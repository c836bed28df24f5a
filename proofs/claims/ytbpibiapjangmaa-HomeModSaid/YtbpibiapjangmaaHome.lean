/- The functions of package homes that the laws reach, as plain ones: Mod, New, Take, Move, Count, has, and the law's own closed run. -/
import Derived.Test.YtbpibiapjangmaaL32
import Derived.Test.YtbpibiapjangmaaChecked
import Derived.IntWalk
import Derived.KernelRfl
namespace Go.Proofs.Ytbpibiapjangmaa
open Go.L

def no1 : Nat → Bool := fun _ => false
def noNrm : Nat → Option (List Nat × List Nat) := fun _ => none
def noLp : Nat → Option Nat := fun _ => none
abbrev env (P : Program) (n : Nat) (lp : List (Nat × (List V → Option V))) (lt : List (Nat × (List V → H → Option (V × H)))) : Env := ⟨P, n, no1, no1, noNrm, noLp, pureTab lp, tcOf lt, noTcv⟩

theorem nil_pure {P : Program} : ∀ p ∈ ([] : List (Nat × (List V → Option V))), ∀ vs v, p.2 vs = some v → Callable P p.1 ∧ ∀ h, Triple P p.1 vs h v h := by simp
theorem nil_tc {P : Program} : ∀ p ∈ ([] : List (Nat × (List V → H → Option (V × H)))), ∀ vs h v h', p.2 vs h = some (v, h') → Callable P p.1 ∧ Triple P p.1 vs h v h' := by simp

/-- A pair of ints that a call gives. -/
def dest2 {R : Type} (o : Option V) (K : Int → Int → Option R) : Option R :=
  o.bind fun v => (Go.L.asTup 2 (some v)).bind fun vs => (Go.L.asInt .i64 vs[0]?).bind fun a => (Go.L.asInt .i64 vs[1]?).bind fun b => K a b
theorem dest2_some {R : Type} (a b : Int) (K : Int → Int → Option R) : dest2 (some (.tup [.int .i64 a, .int .i64 b])) K = K a b := rfl
/-- A bool that a call gives. -/
def destB {R : Type} (o : Option V) (K : Bool → Option R) : Option R := o.bind fun v => (Go.L.asBool (some v)).bind K
theorem destB_some {R : Type} (b : Bool) (K : Bool → Option R) : destB (some (.bool b)) K = K b := rfl

theorem ints_rel (ρ : Ren) {a b : Int} (i : Nat) (v : V) (x : Value) (h : [V.int .i64 a, V.int .i64 b][i]? = some v) (hx : #[Value.int .i64 a, Value.int .i64 b][i]? = some x) : RelV ρ v x := by
  match i with
  | 0 => simp at h hx; subst h; subst hx; exact .int _ _
  | 1 => simp at h hx; subst h; subst hx; exact .int _ _
  | i + 2 => simp at h

noncomputable def e61 : Env := env Try.prog 29 [] []
theorem fine61 : Fine e61 61 Try.f61 := ⟨Try.func61, by kernel_rfl, by kernel_rfl, by kernel_rfl, by kernel_rfl, by kernel_rfl⟩
theorem good61 : Good e61 := good_of nil_pure nil_tc
noncomputable def c61 : List V → H → Option (V × H) := callF e61 0 Try.f61

noncomputable def e13 : Env := env Try.prog 18 [] []
theorem fine13 : Fine e13 13 Try.f13 := ⟨Try.func13, by kernel_rfl, by kernel_rfl, by kernel_rfl, by kernel_rfl, by kernel_rfl⟩
theorem good13 : Good e13 := good_of nil_pure nil_tc
noncomputable def p13 : List V → Option V := callP e13 0 Try.f13

noncomputable def e14 : Env := env Try.prog 18 [] []
theorem fine14 : Fine e14 14 Try.f14 := ⟨Try.func14, by kernel_rfl, by kernel_rfl, by kernel_rfl, by kernel_rfl, by kernel_rfl⟩
theorem good14 : Good e14 := good_of nil_pure nil_tc
noncomputable def p14 : List V → Option V := callP e14 0 Try.f14

noncomputable def e16 : Env := env Try.prog 13 [] []
theorem fine16 : Fine e16 16 Try.f16 := ⟨Try.func16, by kernel_rfl, by kernel_rfl, by kernel_rfl, by kernel_rfl, by kernel_rfl⟩
theorem good16 : Good e16 := good_of nil_pure nil_tc
noncomputable def c16 : List V → H → Option (V × H) := callF e16 0 Try.f16

theorem tc61 : ∀ p ∈ [(61, c61)], ∀ vs h v h', p.2 vs h = some (v, h') → Callable Try.prog p.1 ∧ Triple Try.prog p.1 vs h v h' := by
  intro p hp vs h v h' he
  simp only [List.mem_singleton] at hp
  subst hp
  exact callF_good fine61 good61 he

noncomputable def e18 : Env := env Try.prog 34 [] [(61, c61)]
theorem fine18 : Fine e18 18 Try.f18 := ⟨Try.func18, by kernel_rfl, by kernel_rfl, by kernel_rfl, by kernel_rfl, by kernel_rfl⟩
theorem good18 : Good e18 := good_of nil_pure tc61
noncomputable def c18 : List V → H → Option (V × H) := callF e18 0 Try.f18

noncomputable def e20 : Env := env Try.prog 79 [] [(61, c61)]
theorem fine20 : Fine e20 20 Try.f20 := ⟨Try.func20, by kernel_rfl, by kernel_rfl, by kernel_rfl, by kernel_rfl, by kernel_rfl⟩
theorem good20 : Good e20 := good_of nil_pure tc61
noncomputable def c20 : List V → H → Option (V × H) := callF e20 0 Try.f20

noncomputable def e21 : Env := env Try.prog 20 [] [(61, c61)]
theorem fine21 : Fine e21 21 Try.f21 := ⟨Try.func21, by kernel_rfl, by kernel_rfl, by kernel_rfl, by kernel_rfl, by kernel_rfl⟩
theorem good21 : Good e21 := good_of nil_pure tc61
noncomputable def c21 : List V → H → Option (V × H) := callF e21 0 Try.f21

theorem pure13 : ∀ p ∈ [(13, p13)], ∀ vs v, p.2 vs = some v → Callable Try.prog p.1 ∧ ∀ h, Triple Try.prog p.1 vs h v h := by
  intro p hp vs v he
  simp only [List.mem_singleton] at hp
  subst hp
  exact callP_good fine13 good13 he

theorem tcHomes : ∀ p ∈ [(16, c16), (18, c18), (20, c20), (21, c21)], ∀ vs h v h', p.2 vs h = some (v, h') → Callable Try.prog p.1 ∧ Triple Try.prog p.1 vs h v h' := by
  intro p hp vs h v h' he
  simp only [List.mem_cons, List.not_mem_nil, or_false] at hp
  rcases hp with rfl | rfl | rfl | rfl
  · exact callF_good fine16 good16 he
  · exact callF_good fine18 good18 he
  · exact callF_good fine20 good20 he
  · exact callF_good fine21 good21 he

noncomputable def e15 : Env := env Try.prog 48 [(13, p13)] [(16, c16), (18, c18), (20, c20), (21, c21)]
theorem fine15 : Fine e15 15 Try.f15 := ⟨Try.func15, by kernel_rfl, by kernel_rfl, by kernel_rfl, by kernel_rfl, by kernel_rfl⟩
theorem good15 : Good e15 := good_of pure13 tcHomes
noncomputable def p15 : List V → Option V := callP e15 100 Try.f15
theorem awake15 : p15 [] = some (.bool true) := by kernel_rfl

/-- The remainder that is never below zero. -/
def md (a n : Int) : Int := if n < 1 then 0 else a % n
def mdCode (n : Int) : Int := if n < 1 then 1 else 0

def F13 (a n : Int) (h : H) : Option (V × H) :=
  if decide (n < 1) = true then some (.tup [.int .i64 0, .int .i64 1], h) else
  if n = 0 then none else
  if decide (a.tmod n < 0) = true then some (.tup [.int .i64 (IntKind.i64.wrap (a.tmod n + n)), .int .i64 0], h) else some (.tup [.int .i64 (a.tmod n), .int .i64 0], h)

theorem link13 (a n : Int) (h : H) : evF e13 0 Try.f13 [.int .i64 a, .int .i64 n] h = F13 a n h := by kernel_rfl
theorem link14 (a n : Int) (h : H) : evF e14 0 Try.f14 [.int .i64 a, .int .i64 n] h = F13 a n h := by kernel_rfl

theorem F13_eq {a n : Int} (hn : n ≤ 9223372036854775807) (h : H) : F13 a n h = some (.tup [.int .i64 (md a n), .int .i64 (mdCode n)], h) := by
  unfold F13 md mdCode
  by_cases h1 : n < 1
  · simp [h1]
  · have hpos : 0 < n := by omega
    have h0 : ¬ n = 0 := by omega
    rw [if_neg (by simpa using h1), if_neg h0, if_neg h1, if_neg h1]
    have hlt := Int.tmod_lt_of_pos a hpos
    have hem := Int.emod_nonneg a h0
    have hem' := Int.emod_lt_of_pos a hpos
    have hgt : -n < a.tmod n := by
      have := Int.tmod_lt_of_pos (-a) hpos
      rw [Int.neg_tmod] at this
      omega
    have e1 : a.tmod n % n = a % n := by
      have h := Int.mul_tdiv_add_tmod a n
      conv => rhs; rw [← h, Int.add_comm, Int.add_mul_emod_self_left]
    by_cases h2 : a.tmod n < 0
    · rw [if_pos (by simpa using h2), IntWalk.i64_in _ (by omega)]
      have : a.tmod n + n = a % n := by
        rw [← e1, ← Int.add_emod_right, Int.emod_eq_of_lt (by omega) (by omega)]
      rw [this]
    · rw [if_neg (by simpa using h2)]
      have : a.tmod n = a % n := by
        rw [← e1, Int.emod_eq_of_lt (by omega) hlt]
      rw [this]

theorem p13_eq {a n : Int} (hn : n ≤ 9223372036854775807) : p13 [.int .i64 a, .int .i64 n] = some (.tup [.int .i64 (md a n), .int .i64 (mdCode n)]) := by
  have : p13 [.int .i64 a, .int .i64 n] = (match evF e13 0 Try.f13 [.int .i64 a, .int .i64 n] [] with
    | some (v, _) => if V.scals [.int .i64 a, .int .i64 n] && v.scal && Nat.ble 2 18 then some v else none
    | none => none) := by kernel_rfl
  rw [this, link13, F13_eq hn]
  rfl

theorem p14_eq {a n : Int} (hn : n ≤ 9223372036854775807) : p14 [.int .i64 a, .int .i64 n] = some (.tup [.int .i64 (md a n), .int .i64 (mdCode n)]) := by
  have : p14 [.int .i64 a, .int .i64 n] = (match evF e14 0 Try.f14 [.int .i64 a, .int .i64 n] [] with
    | some (v, _) => if V.scals [.int .i64 a, .int .i64 n] && v.scal && Nat.ble 2 18 then some v else none
    | none => none) := by kernel_rfl
  rw [this, link14, F13_eq hn]
  rfl

end Go.Proofs.Ytbpibiapjangmaa
