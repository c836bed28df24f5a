/- text.Print of the pid <0.1>, as a pure function of its term: the walk. -/
import Derived.Test.YtgipaccfnlklcaaGreatDoorV
namespace Go.Proofs.YtgipaccfnlklcaaGreatDoor
open Go Go.L Go.RowKit
set_option linter.unusedVariables false
set_option linter.unusedSimpArgs false
set_option maxRecDepth 100000

set_option maxHeartbeats 4000000 in
theorem print_calls (w : World) : Calls Tryz.prog 28 #[pidT] w fun e w' => e = .returned (.tuple #[.string ⟨#[60, 48, 46, 49, 62]⟩, .int .i64 0]) ∧ Keeps w w' := by
  go_enter Tryz.func28, Tryz.ntmps28
  go_wp2_with (go_at_call 69; refine (check_calls _).mono ?_)
  rintro e W1 ⟨rfl, k1⟩
  have hn : w.heap.size < (w.alloc (.cells #[.int .i64 6, .int .i64 0, .complex .f64 0 0, .string ⟨#[]⟩, .int .i64 0, .int .i64 1, .slice none 0 0] 95)).heap.size := by simp
  have hk := k1.block w.heap.size hn
  have h0 : (w.alloc (.cells #[.int .i64 6, .int .i64 0, .complex .f64 0 0, .string ⟨#[]⟩, .int .i64 0, .int .i64 1, .slice none 0 0] 95)).heap[w.heap.size]? = some (.cells #[.int .i64 6, .int .i64 0, .complex .f64 0 0, .string ⟨#[]⟩, .int .i64 0, .int .i64 1, .slice none 0 0] 95 (0, 0)) := by
    show (w.heap.push _)[w.heap.size]? = _
    simp
  rw [h0] at hk
  have hs : w.heap.size < W1.heap.size := Nat.lt_of_lt_of_le hn k1.size
  have kw : Keeps w W1 := Keeps.trans (b := w.alloc (.cells #[.int .i64 6, .int .i64 0, .complex .f64 0 0, .string ⟨#[]⟩, .int .i64 0, .int .i64 1, .slice none 0 0] 95)) ⟨rfl, rfl, by simp, fun k hk => Lib.alloc_old w _ k hk⟩ k1
  clear h0 hn k1
  generalize w.heap.size = n at hk hs
  have c0 : W1.cell? ⟨n, 0, none⟩ = some (.int .i64 6) := by simp [World.cell?, hk]
  have c1 : W1.cell? ⟨n, 1, none⟩ = some (.int .i64 0) := by simp [World.cell?, hk]
  have c2 : W1.cell? ⟨n, 2, none⟩ = some (.complex .f64 0 0) := by simp [World.cell?, hk]
  have c3 : W1.cell? ⟨n, 3, none⟩ = some (.string ⟨#[]⟩) := by simp [World.cell?, hk]
  have c4 : W1.cell? ⟨n, 4, none⟩ = some (.int .i64 0) := by simp [World.cell?, hk]
  have c5 : W1.cell? ⟨n, 5, none⟩ = some (.int .i64 1) := by simp [World.cell?, hk]
  have c6 : W1.cell? ⟨n, 6, none⟩ = some (.slice none 0 0) := by simp [World.cell?, hk]
  have hb : (W1.alloc (.cells #[.pointer none, .slice none 0 0] 55)).heap[W1.heap.size]? = some (.cells #[.pointer none, .slice none 0 0] 55 (0, 0)) := by
    show (W1.heap.push _)[W1.heap.size]? = _
    simp
  go_wp2_with (go_at_call 70; refine (Tryz.write_pid W1.heap.size _ hb).mono ?_)
  rintro e W2 ⟨rfl, h2, b2⟩
  go_wp2_with (go_at_call 17; refine (Tryz.Builder_String W1.heap.size W1.heap.size [60, 48, 46, 49, 62] _ (Or.inr h2) (by simp)).mono ?_)
  rintro e W3 ⟨rfl, b3⟩
  go_wp2
  go_ret2
  refine ⟨rfl, kw.trans ?_⟩
  have k2 : Below W1.heap.size W1 W3 := ((((Below.refl _ W1).alloc (Nat.le_refl _) _).trans b2).trans b3)
  exact ⟨k2.os, k2.output, k2.size, k2.block⟩

end Go.Proofs.YtgipaccfnlklcaaGreatDoor
