/-
  Chapter 06: the law TableFrames as a call.
-/
import Derived.Test.YtfbjpenbpbpcaaaTf1
namespace Go.Proofs.Ytfbjpenbpbpcaaa
open Go Den
set_option maxRecDepth 100000
set_option linter.unusedSimpArgs false
set_option linter.unusedVariables false

theorem frames_call (n k : Int) : CallOk Try.prog 8 [.int .i64 n, .int .i64 k] [] (.bool true) [] 0 := by
  by_cases h : 0 ≤ k ∧ k ≤ 15
  · refine pf_ok (N := 300) (L := noLoops) (os := [(6, true), (0, true), (15, true)]) (ob := [((0 : Int) == 0, true), (tellHPre (tfT k) t6dPre 55 [.slice (some ⟨0, 0, none⟩) 32 32, .slice (some ⟨1, 0, none⟩) 32 0] [⟨true, none, ints (rowZ k)⟩, ⟨true, some 1, ints (rowZ k)⟩], true),
      (keZ n k == keZ n k, true), (knZ n k == knZ n k, true), (weZ n == weZ n, true), (wnZ n == wnZ n, true), (tellHPre (tfT k) t6dPre 54 [.int .i64 k] [], true), (tellHPre (tfT k) t6dPre 53 [.int .i64 k] [], true)])
      (nb_sound [] (allT [57, 62, 67, 72, 82]) (frame_sound (tellH_sound (tfT k) (strict_or (t6c_sound.or (l6O_sound.or t6b_sound)) t6d_sound)))) noLoops_ok (by kernel_rfl) ?_ rfl
    rw [tellH_ok rfl (equal_ok k h), tellH_ok rfl (rrow_ok k h), tellH_ok rfl (row_ok k h)]
    simp [Holds]
  · refine pf_ok (N := 300) (L := noLoops) (os := [(6, true), (0, true), (15, true)]) (ob := [((1 : Int) == 1, true), (tellHPre tfN t6dPre 55 [.slice none 0 0, .slice none 0 0] [], true),
      (keZ n k == keZ n k, true), (knZ n k == knZ n k, true), (weZ n == weZ n, true), (wnZ n == wnZ n, true), (tellHPre tfN t6dPre 54 [.int .i64 k] [], true), (tellHPre tfN t6dPre 53 [.int .i64 k] [], true)])
      (nb_sound [] (allT [57, 62, 67, 72, 82]) (frame_sound (tellH_sound tfN (strict_or (t6c_sound.or (l6O_sound.or t6b_sound)) t6d_sound)))) noLoops_ok (by kernel_rfl) ?_ rfl
    rw [tellH_ok rfl equal_none, tellH_ok rfl (rrow_none k h), tellH_ok rfl (row_none k h)]
    simp [Holds]
end Go.Proofs.Ytfbjpenbpbpcaaa

