/- text.Print of the pid <0.1>: what it gives, and that what was there stays. -/
import Derived.Test.YtgipaccfnlklcaaGreatDoorS
import Derived.WalkKit
import Derived.BigCall
import Derived.Deep.RegionHeld3
namespace Go.Proofs
open Go.RowKit
set_option linter.unusedVariables false
set_option linter.unusedSimpArgs false
set_option maxRecDepth 100000

theorem Tryz.fresh_at {b : Nat} {w : World} (hb : w.heap[b]? = some (.cells #[.pointer none, .slice none 0 0] 55 (0, 0))) : Lib.IsBuilder 55 5 b b [] w :=
  Or.inl ⟨Nat.le_refl _, .slice none 0 0, hb, World.ownsRow_nil _ _ _ _, by simp [Value.ownBlock]⟩

theorem Tryz.itoa0 (w : World) : Calls Tryz.prog 30 #[.int .i64 0] w fun e w' => e = .returned (.string ⟨#[48]⟩) ∧ w' = w := by
  have h := Tryz.strconv_Itoa_small 0 (by omega) w
  have d : Lib.decDigits 0 = [48] := by kernel_rfl
  rw [d] at h
  exact h
theorem Tryz.itoa1 (w : World) : Calls Tryz.prog 30 #[.int .i64 1] w fun e w' => e = .returned (.string ⟨#[49]⟩) ∧ w' = w := by
  have h := Tryz.strconv_Itoa_small 1 (by omega) w
  have d : Lib.decDigits 1 = [49] := by kernel_rfl
  rw [d] at h
  exact h

theorem Tryz.ws {b : Nat} {w : World} (hb : w.heap[b]? = some (.cells #[.pointer none, .slice none 0 0] 55 (0, 0))) :
    Calls Tryz.prog 14 #[.pointer (some ⟨b, 0, none⟩), .string (ByteArray.mk #[60] ++ ByteArray.mk #[48] ++ ByteArray.mk #[46] ++ ByteArray.mk #[49] ++ ByteArray.mk #[62])] w fun e w' =>
      e = .returned (.tuple #[.int .i64 5, .nilIface]) ∧ Lib.BuilderAt 55 5 b b (.pointer (some ⟨b, 0, none⟩)) (Lib.byteCells [60, 48, 46, 49, 62]) w' ∧ Below b w w' := by
  have hlt : b < w.heap.size := (Array.getElem?_eq_some_iff.1 hb).1
  have e : (ByteArray.mk #[60] ++ ByteArray.mk #[48] ++ ByteArray.mk #[46] ++ ByteArray.mk #[49] ++ ByteArray.mk #[62]) = ByteArray.mk #[60, 48, 46, 49, 62] := by kernel_rfl
  rw [e]
  have h := Tryz.Builder_WriteString b b [] (ByteArray.mk #[60, 48, 46, 49, 62]) w (Tryz.fresh_at hb) (by show 0 + 5 ≤ _; omega) (by omega)
  have z : (([] : List Value) ++ Lib.strCells (ByteArray.mk #[60, 48, 46, 49, 62])) = Lib.byteCells [60, 48, 46, 49, 62] := by kernel_rfl
  rw [z] at h
  exact h

set_option maxHeartbeats 4000000 in
theorem Tryz.write_pid (b : Nat) (w : World) (hb : w.heap[b]? = some (.cells #[.pointer none, .slice none 0 0] 55 (0, 0))) :
    Calls Tryz.prog 70 #[.pointer (some ⟨b, 0, none⟩), .agg #[.int .i64 6, .int .i64 0, .complex .f64 0 0, .string ⟨#[]⟩, .int .i64 0, .int .i64 1, .slice none 0 0]] w fun e w' =>
      e = .returned (.tuple #[]) ∧ Lib.BuilderAt 55 5 b b (.pointer (some ⟨b, 0, none⟩)) (Lib.byteCells [60, 48, 46, 49, 62]) w' ∧ Below b w w' := by
  have hlt : b < w.heap.size := (Array.getElem?_eq_some_iff.1 hb).1
  go_enter Tryz.func70, Tryz.ntmps70
  have hne : b ≠ w.heap.size := by omega
  have g0 : (w.alloc (.cells #[.int .i64 6, .int .i64 0, .complex .f64 0 0, .string ⟨#[]⟩, .int .i64 0, .int .i64 1, .slice none 0 0] 95)).heap[b]? = some (.cells #[.pointer none, .slice none 0 0] 55 (0, 0)) := by
    rw [Lib.alloc_old _ _ _ hlt]; exact hb
  have g1 : (w.alloc (.cells #[.int .i64 6, .int .i64 0, .complex .f64 0 0, .string ⟨#[]⟩, .int .i64 0, .int .i64 1, .slice none 0 0] 95)).drew.heap[b]? = some (.cells #[.pointer none, .slice none 0 0] 55 (0, 0)) := g0
  go_wp2
  go_region_with
    (first
     | (go_at_call 30; refine (Tryz.itoa0 _).mono ?_; rintro e w' ⟨rfl, rfl⟩)
     | (go_at_call 30; refine (Tryz.itoa1 _).mono ?_; rintro e w' ⟨rfl, rfl⟩)
     | (go_at_call 14; refine (Tryz.ws g1).mono ?_; rintro e w' ⟨rfl, h1, b1⟩))
  all_goals
    have b2 : Below b w w' := (((Below.refl b w).alloc (Nat.le_of_lt hlt) _).drew).trans b1
    go_wp2
    go_end0
    exact ⟨rfl, h1, b2⟩


end Go.Proofs
