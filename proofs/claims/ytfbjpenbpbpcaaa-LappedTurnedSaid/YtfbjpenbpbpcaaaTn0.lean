/-
  Rounding what is turned over: the sum of the two is nought or one.
-/
import Derived.Test.YtfbjpenbpbpcaaaZF
namespace Go.Proofs.Ytfbjpenbpbpcaaa
open Go Den
set_option linter.unusedSimpArgs false
set_option linter.unusedVariables false

theorem round_neg (v : Int) (b : Nat) (hb : 1 ≤ b ∧ b ≤ 62) : 0 ≤ roundZ v b + roundZ (-v) b ∧ roundZ v b + roundZ (-v) b ≤ 1 := by
  obtain ⟨n, rfl⟩ : ∃ n, b = n + 1 := ⟨b - 1, by omega⟩
  unfold roundZ
  rw [if_neg (by omega), if_neg (by omega), if_neg (by omega), if_neg (by omega), show Int.toNat ((n + 1 : Nat) : Int) = n + 1 by omega, Nat.add_sub_cancel]
  have p := pow_pos n
  have e : (2 : Int) ^ (n + 1) = 2 * 2 ^ n := by rw [Int.pow_succ]; omega
  rw [e]
  generalize (2 : Int) ^ n = m at *
  have a1 := Int.mul_ediv_add_emod (v + m) (2 * m)
  have a2 := Int.emod_nonneg (v + m) (b := 2 * m) (by omega)
  have a3 := Int.emod_lt_of_pos (v + m) (b := 2 * m) (by omega)
  have b1 := Int.mul_ediv_add_emod (-v + m) (2 * m)
  have b2 := Int.emod_nonneg (-v + m) (b := 2 * m) (by omega)
  have b3 := Int.emod_lt_of_pos (-v + m) (b := 2 * m) (by omega)
  generalize (v + m) / (2 * m) = q at *
  generalize (-v + m) / (2 * m) = q' at *
  generalize (v + m) % (2 * m) = r at *
  generalize (-v + m) % (2 * m) = r' at *
  have hs : 2 * m * (q + q') = 2 * m - r - r' := by rw [Int.mul_add]; omega
  constructor
  · refine Int.not_lt.1 fun h => ?_
    have : 2 * m * (q + q') ≤ 2 * m * (-1) := Int.mul_le_mul_of_nonneg_left (by omega) (by omega)
    omega
  · refine Int.not_lt.1 fun h => ?_
    have : 2 * m * 2 ≤ 2 * m * (q + q') := Int.mul_le_mul_of_nonneg_left (by omega) (by omega)
    omega

end Go.Proofs.Ytfbjpenbpbpcaaa

