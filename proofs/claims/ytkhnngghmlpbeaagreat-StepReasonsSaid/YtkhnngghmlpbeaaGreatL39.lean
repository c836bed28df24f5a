/- Callees that are none of the text's own. -/
import Derived.Test.YtkhnngghmlpbeaaGreatL38
import Derived.Lib.Bytealg
import Derived.Laws.Externs
namespace Go.L
open Go
noncomputable section

def cmpX : ByteArray × ByteArray × H → Option (Int × H)
  | (a, b, h) => some (Go.Lib.compareBytes a.data.toList b.data.toList, h)
def bitsX : Nat × H → Option (Int × H)
  | (b, h) => some ((b : Int), h)
def fromX : Int × H → Option (Nat × H)
  | (n, h) => some (n.toNat, h)

theorem two_str {ρ : Ren} {a b : ByteArray} {xs : Array Value} (hsz : xs.size = 2) (hrel : ∀ (i : Nat) (u : V) (x : Value), [V.str a, V.str b][i]? = some u → xs[i]? = some x → RelV ρ u x) : xs = #[.string a, .string b] := by
  have h0 : xs[0]? = some xs[0] := Array.getElem?_eq_getElem (by omega)
  have h1 : xs[1]? = some xs[1] := Array.getElem?_eq_getElem (by omega)
  have r0 := hrel 0 _ _ rfl h0
  have r1 := hrel 1 _ _ rfl h1
  apply Array.ext
  · simpa using hsz
  · intro i hi hi2
    have : i = 0 ∨ i = 1 := by omega
    rcases this with rfl | rfl
    · generalize xs[0] = x at r0; cases r0; rfl
    · generalize xs[1] = x at r1; cases r1; rfl

theorem one_val {xs : Array Value} (hsz : xs.size = 1) {x : Value} (hx : xs[0]? = some x) : xs = #[x] := by
  apply Array.ext
  · simpa using hsz
  · intro i hi hi2
    have : i = 0 := by omega
    subst this
    rw [Array.getElem?_eq_getElem hi] at hx
    simpa using hx

theorem ext_cmp {P : Program} {f : FuncId} {fn : Func} (hf : P.funcs[f]? = some fn) (hname : (fn.name == "runtime.NumGoroutine") = false) (hb : fn.body.isNone = true) (hn : Extern.findNext fn = none) (he : Extern.find fn = some Extern.BytealgCompare.compare) :
    CalOk P f (.ext (mkP [.one .str, .one .str] [.one (.int .i64)] cmpX)) := by
  intro vs s hs
  obtain ⟨t, ht, hs⟩ := Option.bind_eq_some_iff.1 hs
  obtain ⟨y, hy, hd⟩ := encVs_law _ vs _ t ht
  obtain ⟨a, b, h⟩ := t
  cases hs
  have hv : vs = [V.str a, V.str b] := by
    have := congrArg Prod.fst hd
    exact this.symm
  subst hv
  intro ρ w xs hsz hrel
  rw [two_str hsz hrel]
  refine ⟨.int .i64 (Go.Lib.compareBytes a.data.toList b.data.toList), ?_, .int _ _⟩
  have hc := Go.Lib.run_compareString (P := P) a b w
  have e := run_callFunc_extern hf hname hb hn he #[.string a, .string b] w
  rw [hc] at e
  exact e

theorem ext_bits {P : Program} {f : FuncId} {fn : Func} (hf : P.funcs[f]? = some fn) (hname : (fn.name == "runtime.NumGoroutine") = false) (hb : fn.body.isNone = true) (hn : Extern.findNext fn = none) (he : Extern.find fn = some Extern.MathFloatBits.float64bits) :
    CalOk P f (.ext (mkP [.one (.float .f64)] [.one (.int .u64)] bitsX)) := by
  intro vs s hs
  obtain ⟨t, ht, hs⟩ := Option.bind_eq_some_iff.1 hs
  obtain ⟨y, hy, hd⟩ := encVs_law _ vs _ t ht
  obtain ⟨b, h⟩ := t
  cases hs
  have hv : vs = [V.float .f64 b] := by
    have := congrArg Prod.fst hd
    exact this.symm
  subst hv
  intro ρ w xs hsz hrel
  have hpos : 0 < xs.size := by simp at hsz; omega
  have h0 : xs[0]? = some (xs[0]'hpos) := Array.getElem?_eq_getElem hpos
  have r0 := hrel 0 _ _ rfl h0
  have hx : xs[0]'hpos = .float .f64 b := by generalize xs[0]'hpos = x at r0; cases r0; rfl
  rw [hx] at h0
  rw [one_val (by simpa using hsz) h0]
  refine ⟨.int .u64 ((show Nat from b : Nat) : Int), ?_, .int _ _⟩
  rw [run_callFunc_extern hf hname hb hn he]
  rfl

theorem ext_from {P : Program} {f : FuncId} {fn : Func} (hf : P.funcs[f]? = some fn) (hname : (fn.name == "runtime.NumGoroutine") = false) (hb : fn.body.isNone = true) (hn : Extern.findNext fn = none) (he : Extern.find fn = some Extern.MathFloatBits.float64frombits) :
    CalOk P f (.ext (mkP [.one (.int .u64)] [.one (.float .f64)] fromX)) := by
  intro vs s hs
  obtain ⟨t, ht, hs⟩ := Option.bind_eq_some_iff.1 hs
  obtain ⟨y, hy, hd⟩ := encVs_law _ vs _ t ht
  obtain ⟨n, h⟩ := t
  cases hs
  have hv : vs = [V.int .u64 n] := by
    have := congrArg Prod.fst hd
    exact this.symm
  subst hv
  intro ρ w xs hsz hrel
  have hpos : 0 < xs.size := by simp at hsz; omega
  have h0 : xs[0]? = some (xs[0]'hpos) := Array.getElem?_eq_getElem hpos
  have r0 := hrel 0 _ _ rfl h0
  have hx : xs[0]'hpos = .int .u64 n := by generalize xs[0]'hpos = x at r0; cases r0; rfl
  rw [hx] at h0
  rw [one_val (by simpa using hsz) h0]
  refine ⟨.float .f64 (Int.toNat (show Int from n)), ?_, .float _ _⟩
  rw [run_callFunc_extern hf hname hb hn he]
  rfl

def truncX : Nat × H → Option (Nat × H)
  | (b, h) => match FloatKind.f64.decode b with
    | .nan _ t => if FloatKind.f64.format.quiet t = t then some (b, h) else none
    | d => some (FloatKind.f64.encode (d.integral .zero), h)

theorem trunc_at (nm : String) (b : Nat) (h : H) (s : Nat × H) (e : truncX (b, h) = some s) :
    Extern.MathFloor.toIntegral nm .zero #[.float .f64 b] = pure (.float .f64 s.1) := by
  change (match FloatKind.f64.decode b with
    | .nan s t =>
      if FloatKind.f64.format.quiet t = t then pure (Value.float .f64 b) else do
      let kept ← choose (.extern "math.Floor,Ceil,Trunc,RoundToEven.signallingNaN kept" 2)
      pure (.float .f64 (if kept == 1 then b else FloatKind.f64.encode (.nan s (FloatKind.f64.format.quiet t))))
    | d => pure (.float .f64 (FloatKind.f64.encode (d.integral .zero)))) = _
  simp only [truncX] at e
  cases hd : FloatKind.f64.decode b with
  | nan s' t =>
    rw [hd] at e
    simp only at e ⊢
    split at e
    · rename_i hq
      cases e
      rw [if_pos hq]
    · cases e
  | _ => rw [hd] at e; cases e; rfl

theorem ext_trunc {P : Program} {f : FuncId} {fn : Func} (hf : P.funcs[f]? = some fn) (hname : (fn.name == "runtime.NumGoroutine") = false) (hb : fn.body.isNone = true) (hn : Extern.findNext fn = none) (he : Extern.find fn = some (Extern.MathFloor.toIntegral "math.archTrunc" .zero)) :
    CalOk P f (.ext (mkP [.one (.float .f64)] [.one (.float .f64)] truncX)) := by
  intro vs s hs
  obtain ⟨t, ht, hs2⟩ := Option.bind_eq_some_iff.1 hs
  obtain ⟨y, hy, hd⟩ := encVs_law _ vs _ t ht
  obtain ⟨b, h⟩ := t
  have hv : vs = [V.float .f64 b] := by
    have := congrArg Prod.fst hd
    exact this.symm
  subst hv
  intro ρ w xs hsz hrel
  have hpos : 0 < xs.size := by simp at hsz; omega
  have h0 : xs[0]? = some (xs[0]'hpos) := Array.getElem?_eq_getElem hpos
  have r0 := hrel 0 _ _ rfl h0
  have hx : xs[0]'hpos = .float .f64 b := by generalize xs[0]'hpos = x at r0; cases r0; rfl
  rw [hx] at h0
  rw [one_val (by simpa using hsz) h0]
  refine ⟨.float .f64 (show Nat from s.1), ?_, .float _ _⟩
  rw [run_callFunc_extern hf hname hb hn he]
  rw [trunc_at "math.archTrunc" b h s hs2]
  rfl

end
end Go.L
