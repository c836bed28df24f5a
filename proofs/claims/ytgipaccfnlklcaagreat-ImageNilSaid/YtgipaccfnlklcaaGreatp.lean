/- The closed run; what is made of bytes that begin otherwise. -/
import Derived.Test.YtgipaccfnlklcaaGreatl1
import Derived.Test.YtgipaccfnlklcaaGreatLC
set_option linter.unusedVariables false
set_option linter.unusedSimpArgs false
set_option maxRecDepth 100000
namespace Go.Proofs.YtgipaccfnlklcaaGreat
open Go.L

theorem awakeM : (F8 2000 []).map (·.1) = some true := by kernel_rfl

theorem ext4 (t : ByteArray) : (((ByteArray.mk #[67, 82, 73, 50]) ++ t).extract 0 4) = ByteArray.mk #[67, 82, 73, 50] := by
  have h : (ByteArray.mk #[67, 82, 73, 50]).size = 4 := rfl
  apply ByteArray.ext
  rw [ByteArray.data_extract, ByteArray.data_append]
  simp
theorem szM (t : ByteArray) : ((ByteArray.mk #[67, 82, 73, 50]) ++ t).size = 4 + t.size := by
  rw [ByteArray.size_append]; rfl
theorem ntM : ((ByteArray.mk #[67, 82, 73, 50]).toList == (ByteArray.mk #[67, 82, 73, 49]).toList) = false := by kernel_rfl

theorem pref158 (t : ByteArray) : F158 100 ((ByteArray.mk #[67, 82, 73, 50]) ++ t, ByteArray.mk #[67, 82, 73, 49], []) = some (false, []) := by
  rw [F158]
  have hs : ((((ByteArray.mk #[67, 82, 73, 50]) ++ t).size : Nat) : Int) = 4 + (t.size : Int) := by rw [szM]; omega
  have h4 : ((ByteArray.mk #[67, 82, 73, 49]).size : Int) = 4 := rfl
  have e : ((ByteArray.extract ((ByteArray.mk #[67, 82, 73, 50]) ++ t) (Int.toNat 0) (Int.toNat ((ByteArray.mk #[67, 82, 73, 49]).size : Int))).toList == (ByteArray.mk #[67, 82, 73, 49]).toList) = false := by
    show (((ByteArray.mk #[67, 82, 73, 50] ++ t).extract 0 4).toList == _) = false
    rw [ext4]
    exact ntM
  rw [dT (show ((((ByteArray.mk #[67, 82, 73, 50]) ++ t).size : Nat) : Int) ≥ ((ByteArray.mk #[67, 82, 73, 49]).size : Int) by rw [hs, h4]; omega), itT, if_pos (by omega), if_pos (by omega), if_pos (by rw [hs, h4]; omega), e, bs]

theorem pref71 (t : ByteArray) : F71 100 ((ByteArray.mk #[67, 82, 73, 50]) ++ t, ByteArray.mk #[67, 82, 73, 49], []) = some (false, []) := by
  rw [F71, pref158, bs]

theorem loadM (t : ByteArray) (h : H) : ∃ e : Int, (e = 80 ∨ e = 4) ∧ ∃ h', F7 100 ((ByteArray.mk #[67, 82, 73, 50]) ++ t, h) = some (.nilp, e, 0, h') := by
  rw [F7]
  by_cases hl : ((((ByteArray.mk #[67, 82, 73, 50]) ++ t).size : Nat) : Int) > 1048576
  · refine ⟨4, .inr rfl, h ++ [O.cells 0 [(.str ((ByteArray.mk #[67, 82, 73, 50]) ++ t)), (.int .i64 4), (.int .i64 (-1))]], ?_⟩
    rw [F29, bs, dT hl, itT, L29_0, bs, bs]
    rfl
  · refine ⟨80, .inl rfl, h ++ [O.cells 0 [(.str ((ByteArray.mk #[67, 82, 73, 50]) ++ t)), (.int .i64 4), (.int .i64 (-1))]], ?_⟩
    rw [F29, bs, dF hl, itF, pref71, bs]
    dsimp only
    rw [nF, itT, L29_0, bs, bs]
    rfl

theorem bothM (t : ByteArray) (ht : t.size ≤ 140737488355328) : ∃ h', F3 100 (t, []) = some (true, h') := by
  obtain ⟨hw, aw⟩ : ∃ h', F8 2000 [] = some (true, h') := by
    have := awakeM
    cases hF : F8 2000 [] with
    | none => rw [hF] at this; cases this
    | some p =>
      rw [hF] at this
      obtain ⟨x, h'⟩ := p
      simp at this
      subst this
      exact ⟨h', rfl⟩
  have s1 : F6 100 (.nilp, []) = some (ByteArray.mk #[], 1, []) := by kernel_rfl
  have s2 : F6 100 (.ptr 0 0 0, [O.cells 0 [.nils, .nils, .nilp, .nilp, .nilp, .nils, .nilm, (.int .i64 0), (.int .i64 0), .nils, .nilp, .nils, (.int .i64 0), .nils]]) =
    some (ByteArray.mk #[], 1, [O.cells 0 [.nils, .nils, .nilp, .nilp, .nilp, .nils, .nilm, (.int .i64 0), (.int .i64 0), .nils, .nilp, .nils, (.int .i64 0), .nils]]) := by kernel_rfl
  obtain ⟨e, he, h3, s3⟩ := loadM t [O.cells 0 [.nils, .nils, .nilp, .nilp, .nilp, .nils, .nilm, (.int .i64 0), (.int .i64 0), .nils, .nilp, .nils, (.int .i64 0), .nils]]
  have hm : (ByteArray.mk #[67, 82, 73, 50]).size + t.size ≤ mostBytes := by
    have : (ByteArray.mk #[67, 82, 73, 50]).size = 4 := rfl
    have h2 : mostBytes = 4611686018427387904 := rfl
    omega
  have z : ((ByteArray.mk #[]).toList == (ByteArray.mk #[]).toList) = true := by kernel_rfl
  refine ⟨h3, ?_⟩
  rw [F3, s1, bs]
  dsimp only
  rw [bs]
  show (F6 100 (.ptr 0 0 0, [O.cells 0 [.nils, .nils, .nilp, .nilp, .nilp, .nils, .nilm, (.int .i64 0), (.int .i64 0), .nils, .nilp, .nils, (.int .i64 0), .nils]])).bind _ = _
  rw [s2, bs]
  dsimp only
  rw [if_pos hm, s3, bs]
  dsimp only
  rw [z]
  rcases he with rfl | rfl
  · simp only [itT, ifT, bs, eT, aw]
  · have q : ((4 : Int) == 80) = false := rfl
    simp only [itT, ifT, itF, ifF, Bool.false_eq_true, bs, eT, q, aw]

end Go.Proofs.YtgipaccfnlklcaaGreat
