/-
  Chapter 06: the contracts of Kernel and Row.
-/
import Derived.Test.YtfbjpenbpbpcaaaTb5
namespace Go.Proofs.Ytfbjpenbpbpcaaa
open Go Den
set_option maxRecDepth 100000
set_option linter.unusedSimpArgs false
set_option linter.unusedVariables false

theorem over6_sound : Sound Try.prog (strict noPre (over x6c 1)) := plain_sound (over_sound (t6c_sound.or (l6O_sound.or t6b_sound)) 1)

theorem kn_in {n k : Int} (h : (0 ≤ n ∧ n ≤ 31) ∧ 0 ≤ k ∧ k ≤ 15) : inI ((2 * n + 17) * (2 * k + 1)) = true := by
  have h0 : 0 ≤ (2 * n + 17) * (2 * k + 1) := Int.mul_nonneg (by omega) (by omega)
  have h1 : (2 * n + 17) * (2 * k + 1) ≤ 79 * 31 := Int.mul_le_mul (by omega) (by omega) (by omega) (by omega)
  exact inI_iff.2 (by omega)

theorem kernel_ok (n k : Int) : CallOk Try.prog 51 [.int .i64 n, .int .i64 k] [] (.tuple #[.int .i64 (knZ n k), .int .i64 (keZ n k)]) [] 0 := by
  by_cases h : (0 ≤ n ∧ n ≤ 31) ∧ 0 ≤ k ∧ k ≤ 15
  · have e : IntKind.wrap IntKind.i64 (IntKind.wrap IntKind.i64 (IntKind.wrap IntKind.i64 (IntKind.wrap IntKind.i64 (2 * n) + 16) + 1) * IntKind.wrap IntKind.i64 (IntKind.wrap IntKind.i64 (2 * k) + 1)) = (2 * n + 17) * (2 * k + 1) := by
      rw [wrap_in (n := 2 * n) (inI_iff.2 (by omega)), wrap_in (n := 2 * n + 16) (inI_iff.2 (by omega)), wrap_in (n := 2 * n + 16 + 1) (inI_iff.2 (by omega)), wrap_in (n := 2 * k) (inI_iff.2 (by omega)), wrap_in (n := 2 * k + 1) (inI_iff.2 (by omega)), show 2 * n + 16 + 1 = 2 * n + 17 by omega, wrap_in (kn_in h)]
    unfold knZ keZ
    rw [if_pos h, if_pos h, ← e]
    exact pf_ok (N := 300) (L := noLoops) (os := [(0, true), (0, true), (0, true), (0, true), (0, true), (0, true), (0, false)]) (ob := [(bif bif bif decide (n < 0) then true else decide (n ≥ 32) then true else decide (k < 0) then true else decide (k ≥ 16), false),
      ((bif bif decide (n < 0) then true else decide (n ≥ 32) then true else decide (k < 0)) == false, true),
      ((bif bif decide (n < 0) then true else decide (n ≥ 32) then true else decide (k < 0)) == false, true),
      ((bif decide (n < 0) then true else decide (n ≥ 32)) == false, true),
      ((bif decide (n < 0) then true else decide (n ≥ 32)) == false, true), (decide (n < 0) == false, true), (decide (n < 0) == false, true)]) over6_sound noLoops_ok (by kernel_rfl) (by simp [Holds]; omega) rfl
  · unfold knZ keZ
    rw [if_neg h, if_neg h]
    by_cases h1 : n < 0
    · exact pf_ok (N := 300) (L := noLoops) (os := [(0, false), (0, false), (0, true)]) (ob := [(decide (n < 0), true), (decide (n < 0) == false, false), (decide (n < 0) == false, false)]) over6_sound noLoops_ok (by kernel_rfl) (by simp [Holds]; omega) rfl
    by_cases h2 : n ≥ 32
    · exact pf_ok (N := 300) (L := noLoops) (os := [(0, true), (0, true), (0, false), (0, false), (0, true)]) (ob := [(bif decide (n < 0) then true else decide (n ≥ 32), true),
      ((bif decide (n < 0) then true else decide (n ≥ 32)) == false, false),
      ((bif decide (n < 0) then true else decide (n ≥ 32)) == false, false), (decide (n < 0) == false, true),
      (decide (n < 0) == false, true)]) over6_sound noLoops_ok (by kernel_rfl) (by simp [Holds]; omega) rfl
    by_cases h3 : k < 0
    · exact pf_ok (N := 300) (L := noLoops) (os := [(0, true), (0, true), (0, true), (0, true), (0, false), (0, false), (0, true)]) (ob := [(bif bif decide (n < 0) then true else decide (n ≥ 32) then true else decide (k < 0), true),
      ((bif bif decide (n < 0) then true else decide (n ≥ 32) then true else decide (k < 0)) == false, false),
      ((bif bif decide (n < 0) then true else decide (n ≥ 32) then true else decide (k < 0)) == false, false),
      ((bif decide (n < 0) then true else decide (n ≥ 32)) == false, true),
      ((bif decide (n < 0) then true else decide (n ≥ 32)) == false, true), (decide (n < 0) == false, true),
      (decide (n < 0) == false, true)]) over6_sound noLoops_ok (by kernel_rfl) (by simp [Holds]; omega) rfl
    · exact pf_ok (N := 300) (L := noLoops) (os := [(0, true), (0, true), (0, true), (0, true), (0, true), (0, true), (0, true)]) (ob := [(bif bif bif decide (n < 0) then true else decide (n ≥ 32) then true else decide (k < 0) then true else decide (k ≥ 16), true),
      ((bif bif decide (n < 0) then true else decide (n ≥ 32) then true else decide (k < 0)) == false, true),
      ((bif bif decide (n < 0) then true else decide (n ≥ 32) then true else decide (k < 0)) == false, true),
      ((bif decide (n < 0) then true else decide (n ≥ 32)) == false, true),
      ((bif decide (n < 0) then true else decide (n ≥ 32)) == false, true), (decide (n < 0) == false, true),
      (decide (n < 0) == false, true)]) over6_sound noLoops_ok (by kernel_rfl) (by simp [Holds]; omega) rfl
theorem ref_kernel_ok (n k : Int) : CallOk Try.prog 52 [.int .i64 n, .int .i64 k] [] (.tuple #[.int .i64 (knZ n k), .int .i64 (keZ n k)]) [] 0 := by
  by_cases h : (0 ≤ n ∧ n ≤ 31) ∧ 0 ≤ k ∧ k ≤ 15
  · have e : IntKind.wrap IntKind.i64 (IntKind.wrap IntKind.i64 (IntKind.wrap IntKind.i64 (2 * n) + 17) * IntKind.wrap IntKind.i64 (IntKind.wrap IntKind.i64 (2 * k) + 1)) = (2 * n + 17) * (2 * k + 1) := by
      rw [wrap_in (n := 2 * n) (inI_iff.2 (by omega)), wrap_in (n := 2 * n + 17) (inI_iff.2 (by omega)), wrap_in (n := 2 * k) (inI_iff.2 (by omega)), wrap_in (n := 2 * k + 1) (inI_iff.2 (by omega)), wrap_in (kn_in h)]
    unfold knZ keZ
    rw [if_pos h, if_pos h, ← e]
    exact pf_ok (N := 300) (L := noLoops) (os := [(0, true), (0, true), (0, true), (0, true), (0, true), (0, true), (0, false)]) (ob := [(bif bif bif decide (n < 0) then true else decide (n > 31) then true else decide (k < 0) then true else decide (k > 15), false),
      ((bif bif decide (n < 0) then true else decide (n > 31) then true else decide (k < 0)) == false, true),
      ((bif bif decide (n < 0) then true else decide (n > 31) then true else decide (k < 0)) == false, true),
      ((bif decide (n < 0) then true else decide (n > 31)) == false, true),
      ((bif decide (n < 0) then true else decide (n > 31)) == false, true), (decide (n < 0) == false, true), (decide (n < 0) == false, true)]) over6_sound noLoops_ok (by kernel_rfl) (by simp [Holds]; omega) rfl
  · unfold knZ keZ
    rw [if_neg h, if_neg h]
    by_cases h1 : n < 0
    · exact pf_ok (N := 300) (L := noLoops) (os := [(0, false), (0, false), (0, true)]) (ob := [(decide (n < 0), true), (decide (n < 0) == false, false), (decide (n < 0) == false, false)]) over6_sound noLoops_ok (by kernel_rfl) (by simp [Holds]; omega) rfl
    by_cases h2 : n > 31
    · exact pf_ok (N := 300) (L := noLoops) (os := [(0, true), (0, true), (0, false), (0, false), (0, true)]) (ob := [(bif decide (n < 0) then true else decide (n > 31), true),
      ((bif decide (n < 0) then true else decide (n > 31)) == false, false),
      ((bif decide (n < 0) then true else decide (n > 31)) == false, false), (decide (n < 0) == false, true),
      (decide (n < 0) == false, true)]) over6_sound noLoops_ok (by kernel_rfl) (by simp [Holds]; omega) rfl
    by_cases h3 : k < 0
    · exact pf_ok (N := 300) (L := noLoops) (os := [(0, true), (0, true), (0, true), (0, true), (0, false), (0, false), (0, true)]) (ob := [(bif bif decide (n < 0) then true else decide (n > 31) then true else decide (k < 0), true),
      ((bif bif decide (n < 0) then true else decide (n > 31) then true else decide (k < 0)) == false, false),
      ((bif bif decide (n < 0) then true else decide (n > 31) then true else decide (k < 0)) == false, false),
      ((bif decide (n < 0) then true else decide (n > 31)) == false, true),
      ((bif decide (n < 0) then true else decide (n > 31)) == false, true), (decide (n < 0) == false, true),
      (decide (n < 0) == false, true)]) over6_sound noLoops_ok (by kernel_rfl) (by simp [Holds]; omega) rfl
    · exact pf_ok (N := 300) (L := noLoops) (os := [(0, true), (0, true), (0, true), (0, true), (0, true), (0, true), (0, true)]) (ob := [(bif bif bif decide (n < 0) then true else decide (n > 31) then true else decide (k < 0) then true else decide (k > 15), true),
      ((bif bif decide (n < 0) then true else decide (n > 31) then true else decide (k < 0)) == false, true),
      ((bif bif decide (n < 0) then true else decide (n > 31) then true else decide (k < 0)) == false, true),
      ((bif decide (n < 0) then true else decide (n > 31)) == false, true),
      ((bif decide (n < 0) then true else decide (n > 31)) == false, true), (decide (n < 0) == false, true),
      (decide (n < 0) == false, true)]) over6_sound noLoops_ok (by kernel_rfl) (by simp [Holds]; omega) rfl
end Go.Proofs.Ytfbjpenbpbpcaaa
