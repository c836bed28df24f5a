/- Small laws of plain memory. -/
import Derived.Test.YtkhnngghmlpbeaaGreatL35
import Derived.IntWalk
namespace Go.L
noncomputable section
open Go

/-! The same as core's, but that simp rewrites by them: no step is left to the kernel to find. -/
theorem bs {α β : Type} (a : α) (f : α → Option β) : (some a).bind f = f a := by rw [Option.bind_some]
theorem bn {α β : Type} (f : α → Option β) : (none : Option α).bind f = none := by rw [Option.bind_none]
theorem itT {α : Type} (a b : α) : (if true = true then a else b) = a := by rw [if_pos rfl]
theorem itF {α : Type} (a b : α) : (if false = true then a else b) = b := by rw [if_neg (by simp)]
theorem ifT {α : Type} (a b : α) : (if True then a else b) = a := by rw [if_pos trivial]
theorem ifF {α : Type} (a b : α) : (if False then a else b) = b := by rw [if_neg (fun h => h)]
theorem eT (a : Int) : (a == a) = true := by simp
theorem eF {a b : Int} (h : a ≠ b) : (a == b) = false := by simp [h]
theorem nqT (a : Int) : (a != a) = false := by simp
theorem nqF {a b : Int} (h : a ≠ b) : (a != b) = true := by simp [h]
theorem dT {p : Prop} [Decidable p] (h : p) : decide p = true := by simp [h]
theorem dF {p : Prop} [Decidable p] (h : ¬ p) : decide p = false := by simp [h]
theorem nT : (!true) = false := by cases h : (!true) <;> simp_all
theorem nF : (!false) = true := by cases h : (!false) <;> simp_all
theorem g0 (a : V) (l : List V) : (a :: l)[0]? = some a := by simp
theorem gS (a : V) (l : List V) (n : Nat) : (a :: l)[n + 1]? = l[n]? := by simp

theorem asInt_some (k : IntKind) (n : Int) : asInt k (some (.int k n)) = some n := by simp [asInt]
theorem asBool_some (b : Bool) : asBool (some (.bool b)) = some b := rfl
theorem asStr_some (b : ByteArray) : asStr (some (.str b)) = some b := rfl

theorem rd_obj {h : H} {id v off i : Nat} {cs : List V} (ho : h[id]? = some (.cells v cs)) : rd h (.ptr id v off) i = cs[off + i]? := by simp [rd, ho]
theorem wr_obj {h : H} {id v off : Nat} {cs xs : List V} (ho : h[id]? = some (.cells v cs)) (hl : off + xs.length ≤ cs.length) : wr h (.ptr id v off) xs = some (h.set id (.cells v (splice cs off xs))) := by simp [wr, ho, hl]
theorem splice1 (cs : List V) (off : Nat) (x : V) : splice cs off [x] = cs.set off x := rfl
theorem rd_rptr (h : H) (cs : List V) (i : Nat) : rd h (.rptr cs) i = cs[i]? := by simp [rd]
theorem aidx_ptr {id v off n es : Nat} {i : Int} (h0 : 0 ≤ i) (hi : i < n) (he : es ≠ 0) : aidx (.ptr id v off) i n es = some (.ptr id v (off + i.toNat * es)) := by
  simp [aidx, h0, hi, he, padd]
theorem sidx_rs {es : Nat} {xs : List V} {i : Int} (h0 : 0 ≤ i) : sidx (.rs es xs) i es = (xs[i.toNat]?).map (fun v => .rptr v.cells) := by simp [sidx, h0]
theorem sidx_sl {id v off len es : Nat} {cap : Option Nat} {i : Int} (h0 : 0 ≤ i) (hi : i < len) : sidx (.sl id v off len es cap) i es = some (.ptr id v (off + i.toNat * es)) := by simp [sidx, h0, hi]
theorem slen_rs (es : Nat) (xs : List V) : slen (.rs es xs) = some (xs.length : Int) := by simp [slen]
theorem slen_sl (id v off len es : Nat) (cap : Option Nat) : slen (.sl id v off len es cap) = some (len : Int) := rfl

theorem wrapIn {x : Int} (h : -9223372036854775808 ≤ x ∧ x ≤ 9223372036854775807) : IntKind.i64.wrap x = x := IntWalk.i64_in x h

end
end Go.L
