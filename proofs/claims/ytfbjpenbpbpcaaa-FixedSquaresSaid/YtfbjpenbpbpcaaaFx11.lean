/-
  Chapter 05: the law FixedSquares as a call.
-/
import Derived.Test.YtfbjpenbpbpcaaaFx10
namespace Go.Proofs.Ytfbjpenbpbpcaaa
open Go Den
set_option maxRecDepth 100000
set_option linter.unusedSimpArgs false
set_option linter.unusedVariables false

theorem log_spec {n : Int} (h0 : 0 < n) (h1 : n ≤ 18446744073709551615) : ∃ k : Nat, logZ n = k ∧ (2 : Int) ^ k ≤ n ^ 8 ∧ n ^ 8 < 2 ^ (k + 1) ∧ k < 512 := by
  obtain ⟨p0, p1⟩ := pow8_lt (n := n) (by omega) h1
  obtain ⟨k, e, k1, k2⟩ := lenZ_spec (n := n ^ 8) (Int.pow_pos h0)
  refine ⟨k, by unfold logZ; rw [if_neg (by omega), e]; omega, k1, k2, ?_⟩
  refine Nat.lt_of_not_le fun hk => ?_
  have hp : ∀ a : Nat, a ≤ k → (2 : Int) ^ a ≤ 2 ^ k := by
    intro a ha
    have q1 : (2 : Nat) ^ a ≤ 2 ^ k := Nat.pow_le_pow_right (by decide) ha
    have q2 : ((2 ^ a : Nat) : Int) ≤ ((2 ^ k : Nat) : Int) := Int.ofNat_le.2 q1
    simpa using q2
  have hq := hp (64 * 8) hk
  rw [Int.pow_mul, show (2 : Int) ^ 64 = DD by decide] at hq
  exact absurd (Int.lt_of_lt_of_le (Int.lt_of_lt_of_le p1 hq) k1) (Int.lt_irrefl _)

theorem log_twice {n : Int} (h0 : 0 < n) : logZ (2 * n) = logZ n + 8 := by
  have e : (2 * n) ^ 8 = n ^ 8 * 2 ^ 8 := by grind
  have hp : (0 : Int) < n ^ 8 := Int.pow_pos h0
  have hd : n ^ 8 * 2 ^ 8 / 2 ^ 8 = n ^ 8 := Int.mul_ediv_cancel _ (by decide)
  have hl := lenZ_div (n := n ^ 8 * 2 ^ 8) (s := 8) (by rw [hd]; exact hp)
  rw [hd] at hl
  unfold logZ
  rw [if_neg (by omega), if_neg (by omega), e, hl]
  omega

theorem log_square {n : Int} (h0 : 0 < n) (h1 : n ≤ 18446744073709551615) : logZ (n * n) = 2 * logZ n ∨ logZ (n * n) = 2 * logZ n + 1 := by
  obtain ⟨k, e, k1, k2, k3⟩ := log_spec h0 h1
  have hp : (0 : Int) < n ^ 8 := Int.pow_pos h0
  have e8 : (n * n) ^ 8 = n ^ 8 * n ^ 8 := by grind
  have p := pow_pos k
  have a1 : (2 : Int) ^ k * 2 ^ k ≤ n ^ 8 * n ^ 8 := Int.mul_le_mul k1 k1 (Int.le_of_lt p) (Int.le_of_lt hp)
  have a2 : n ^ 8 * n ^ 8 < (2 : Int) ^ (k + 1) * 2 ^ (k + 1) := Int.mul_lt_mul k2 (Int.le_of_lt k2) hp (Int.le_of_lt (pow_pos _))
  rw [← Int.pow_add 2 k k] at a1
  rw [← Int.pow_add 2 (k + 1) (k + 1)] at a2
  have hn : n * n ≠ 0 := by have := Int.mul_pos h0 h0; omega
  rw [e]
  unfold logZ
  rw [if_neg hn, e8]
  rcases Int.lt_or_le (n ^ 8 * n ^ 8) (2 ^ (k + k + 1)) with h | h
  · left
    rw [lenZ_eq (k := k + k) a1 h]; omega
  · right
    rw [lenZ_eq (k := k + k + 1) h (by rw [show k + k + 1 + 1 = k + 1 + (k + 1) by omega]; exact a2)]; omega

theorem sq_z1 (n R K : Int) (h : Holds [(n == 0, true), (decide (IntKind.wrap IntKind.u64 (IntKind.wrap IntKind.u64 (R + 1) * IntKind.wrap IntKind.u64 (R + 1)) ≤ n), false), (decide (R < 4294967295), true), (decide (IntKind.wrap IntKind.u64 (R * R) > n), false), (decide (R > 4294967295), false), (decide (rootZ n = R), true), (fx5Pre 57 [Value.int IntKind.u64 n] [], true)]) : CallOk Try.prog 13 [.int .u64 n] [] (.bool true) [] 0 :=
  pf_ok (N := 300) (L := noLoops) (os := [(2, true)]) (ob := [(n == 0, true), (decide (IntKind.wrap IntKind.u64 (IntKind.wrap IntKind.u64 (R + 1) * IntKind.wrap IntKind.u64 (R + 1)) ≤ n), false), (decide (R < 4294967295), true), (decide (IntKind.wrap IntKind.u64 (R * R) > n), false), (decide (R > 4294967295), false), (decide (rootZ n = R), true), (fx5Pre 57 [Value.int IntKind.u64 n] [], true)]) (nb_sound [(11, R), (42, K)] ([(13, false), (19, false), (31, false), (51, false), (73, true), (77, true)] ++ [(23, true), (35, true)]) fx5_sound) noLoops_ok (by kernel_rfl) h rfl
theorem sq_a1 (n R K : Int) (h : Holds [(decide (K < 512), true), (decide (K ≥ 0), true), (decide (n < 4294967296), false), (decide (n < 9223372036854775808), false), (decide (logZ n = K), true), (fx5Pre 59 [Value.int IntKind.u64 n] [], true), (n == 0, false), (decide (IntKind.wrap IntKind.u64 (IntKind.wrap IntKind.u64 (R + 1) * IntKind.wrap IntKind.u64 (R + 1)) ≤ n), false), (decide (R < 4294967295), true), (decide (IntKind.wrap IntKind.u64 (R * R) > n), false), (decide (R > 4294967295), false), (decide (rootZ n = R), true), (fx5Pre 57 [Value.int IntKind.u64 n] [], true)]) : CallOk Try.prog 13 [.int .u64 n] [] (.bool true) [] 0 :=
  pf_ok (N := 300) (L := noLoops) (os := [(2, true), (18, true)]) (ob := [(decide (K < 512), true), (decide (K ≥ 0), true), (decide (n < 4294967296), false), (decide (n < 9223372036854775808), false), (decide (logZ n = K), true), (fx5Pre 59 [Value.int IntKind.u64 n] [], true), (n == 0, false), (decide (IntKind.wrap IntKind.u64 (IntKind.wrap IntKind.u64 (R + 1) * IntKind.wrap IntKind.u64 (R + 1)) ≤ n), false), (decide (R < 4294967295), true), (decide (IntKind.wrap IntKind.u64 (R * R) > n), false), (decide (R > 4294967295), false), (decide (rootZ n = R), true), (fx5Pre 57 [Value.int IntKind.u64 n] [], true)]) (nb_sound [(11, R), (42, K)] ([(13, false), (19, false), (31, false), (51, false), (73, true), (77, true)] ++ [(23, true), (35, false), (44, false), (54, false)]) fx5_sound) noLoops_ok (by kernel_rfl) h rfl
theorem sq_b1 (n R K : Int) (h : Holds [(decide (K < 512), true), (decide (K ≥ 0), true), (decide (n < 4294967296), false), (logZ (IntKind.wrap IntKind.u64 (2 * n)) != IntKind.wrap IntKind.i64 (K + 8), false), (fx5Pre 59 [Value.int IntKind.u64 (IntKind.wrap IntKind.u64 (2 * n))] [], true), (decide (n < 9223372036854775808), true), (decide (logZ n = K), true), (fx5Pre 59 [Value.int IntKind.u64 n] [], true), (n == 0, false), (decide (IntKind.wrap IntKind.u64 (IntKind.wrap IntKind.u64 (R + 1) * IntKind.wrap IntKind.u64 (R + 1)) ≤ n), false), (decide (R < 4294967295), true), (decide (IntKind.wrap IntKind.u64 (R * R) > n), false), (decide (R > 4294967295), false), (decide (rootZ n = R), true), (fx5Pre 57 [Value.int IntKind.u64 n] [], true)]) : CallOk Try.prog 13 [.int .u64 n] [] (.bool true) [] 0 :=
  pf_ok (N := 300) (L := noLoops) (os := [(2, true), (18, true), (3, true)]) (ob := [(decide (K < 512), true), (decide (K ≥ 0), true), (decide (n < 4294967296), false), (logZ (IntKind.wrap IntKind.u64 (2 * n)) != IntKind.wrap IntKind.i64 (K + 8), false), (fx5Pre 59 [Value.int IntKind.u64 (IntKind.wrap IntKind.u64 (2 * n))] [], true), (decide (n < 9223372036854775808), true), (decide (logZ n = K), true), (fx5Pre 59 [Value.int IntKind.u64 n] [], true), (n == 0, false), (decide (IntKind.wrap IntKind.u64 (IntKind.wrap IntKind.u64 (R + 1) * IntKind.wrap IntKind.u64 (R + 1)) ≤ n), false), (decide (R < 4294967295), true), (decide (IntKind.wrap IntKind.u64 (R * R) > n), false), (decide (R > 4294967295), false), (decide (rootZ n = R), true), (fx5Pre 57 [Value.int IntKind.u64 n] [], true)]) (nb_sound [(11, R), (42, K)] ([(13, false), (19, false), (31, false), (51, false), (73, true), (77, true)] ++ [(23, true), (35, false), (44, true), (54, false)]) fx5_sound) noLoops_ok (by kernel_rfl) h rfl
theorem sq_c1 (n R K : Int) (h : Holds [(decide (K < 512), true), (decide (K ≥ 0), true), (logZ (IntKind.wrap IntKind.u64 (n * n)) != IntKind.wrap IntKind.i64 (2 * K), false), (fx5Pre 59 [Value.int IntKind.u64 (IntKind.wrap IntKind.u64 (n * n))] [], true), (decide (n < 4294967296), true), (logZ (IntKind.wrap IntKind.u64 (2 * n)) != IntKind.wrap IntKind.i64 (K + 8), false), (fx5Pre 59 [Value.int IntKind.u64 (IntKind.wrap IntKind.u64 (2 * n))] [], true), (decide (n < 9223372036854775808), true), (decide (logZ n = K), true), (fx5Pre 59 [Value.int IntKind.u64 n] [], true), (n == 0, false), (decide (IntKind.wrap IntKind.u64 (IntKind.wrap IntKind.u64 (R + 1) * IntKind.wrap IntKind.u64 (R + 1)) ≤ n), false), (decide (R < 4294967295), true), (decide (IntKind.wrap IntKind.u64 (R * R) > n), false), (decide (R > 4294967295), false), (decide (rootZ n = R), true), (fx5Pre 57 [Value.int IntKind.u64 n] [], true)]) : CallOk Try.prog 13 [.int .u64 n] [] (.bool true) [] 0 :=
  pf_ok (N := 300) (L := noLoops) (os := [(2, true), (18, true), (3, true), (5, true)]) (ob := [(decide (K < 512), true), (decide (K ≥ 0), true), (logZ (IntKind.wrap IntKind.u64 (n * n)) != IntKind.wrap IntKind.i64 (2 * K), false), (fx5Pre 59 [Value.int IntKind.u64 (IntKind.wrap IntKind.u64 (n * n))] [], true), (decide (n < 4294967296), true), (logZ (IntKind.wrap IntKind.u64 (2 * n)) != IntKind.wrap IntKind.i64 (K + 8), false), (fx5Pre 59 [Value.int IntKind.u64 (IntKind.wrap IntKind.u64 (2 * n))] [], true), (decide (n < 9223372036854775808), true), (decide (logZ n = K), true), (fx5Pre 59 [Value.int IntKind.u64 n] [], true), (n == 0, false), (decide (IntKind.wrap IntKind.u64 (IntKind.wrap IntKind.u64 (R + 1) * IntKind.wrap IntKind.u64 (R + 1)) ≤ n), false), (decide (R < 4294967295), true), (decide (IntKind.wrap IntKind.u64 (R * R) > n), false), (decide (R > 4294967295), false), (decide (rootZ n = R), true), (fx5Pre 57 [Value.int IntKind.u64 n] [], true)]) (nb_sound [(11, R), (42, K)] ([(13, false), (19, false), (31, false), (51, false), (73, true), (77, true)] ++ [(23, true), (35, false), (44, true), (54, true), (62, false)]) fx5_sound) noLoops_ok (by kernel_rfl) h rfl
theorem sq_d1 (n R K : Int) (h : Holds [(decide (K < 512), true), (decide (K ≥ 0), true), (logZ (IntKind.wrap IntKind.u64 (n * n)) != IntKind.wrap IntKind.i64 (IntKind.wrap IntKind.i64 (2 * K) + 1), false), (logZ (IntKind.wrap IntKind.u64 (n * n)) != IntKind.wrap IntKind.i64 (2 * K), true), (fx5Pre 59 [Value.int IntKind.u64 (IntKind.wrap IntKind.u64 (n * n))] [], true), (decide (n < 4294967296), true), (logZ (IntKind.wrap IntKind.u64 (2 * n)) != IntKind.wrap IntKind.i64 (K + 8), false), (fx5Pre 59 [Value.int IntKind.u64 (IntKind.wrap IntKind.u64 (2 * n))] [], true), (decide (n < 9223372036854775808), true), (decide (logZ n = K), true), (fx5Pre 59 [Value.int IntKind.u64 n] [], true), (n == 0, false), (decide (IntKind.wrap IntKind.u64 (IntKind.wrap IntKind.u64 (R + 1) * IntKind.wrap IntKind.u64 (R + 1)) ≤ n), false), (decide (R < 4294967295), true), (decide (IntKind.wrap IntKind.u64 (R * R) > n), false), (decide (R > 4294967295), false), (decide (rootZ n = R), true), (fx5Pre 57 [Value.int IntKind.u64 n] [], true)]) : CallOk Try.prog 13 [.int .u64 n] [] (.bool true) [] 0 :=
  pf_ok (N := 300) (L := noLoops) (os := [(2, true), (18, true), (3, true), (5, true)]) (ob := [(decide (K < 512), true), (decide (K ≥ 0), true), (logZ (IntKind.wrap IntKind.u64 (n * n)) != IntKind.wrap IntKind.i64 (IntKind.wrap IntKind.i64 (2 * K) + 1), false), (logZ (IntKind.wrap IntKind.u64 (n * n)) != IntKind.wrap IntKind.i64 (2 * K), true), (fx5Pre 59 [Value.int IntKind.u64 (IntKind.wrap IntKind.u64 (n * n))] [], true), (decide (n < 4294967296), true), (logZ (IntKind.wrap IntKind.u64 (2 * n)) != IntKind.wrap IntKind.i64 (K + 8), false), (fx5Pre 59 [Value.int IntKind.u64 (IntKind.wrap IntKind.u64 (2 * n))] [], true), (decide (n < 9223372036854775808), true), (decide (logZ n = K), true), (fx5Pre 59 [Value.int IntKind.u64 n] [], true), (n == 0, false), (decide (IntKind.wrap IntKind.u64 (IntKind.wrap IntKind.u64 (R + 1) * IntKind.wrap IntKind.u64 (R + 1)) ≤ n), false), (decide (R < 4294967295), true), (decide (IntKind.wrap IntKind.u64 (R * R) > n), false), (decide (R > 4294967295), false), (decide (rootZ n = R), true), (fx5Pre 57 [Value.int IntKind.u64 n] [], true)]) (nb_sound [(11, R), (42, K)] ([(13, false), (19, false), (31, false), (51, false), (73, true), (77, true)] ++ [(23, true), (35, false), (44, true), (54, true), (62, true), (68, false)]) fx5_sound) noLoops_ok (by kernel_rfl) h rfl
theorem sq_z0 (n R K : Int) (h : Holds [(n == 0, true), (decide (R < 4294967295), false), (decide (IntKind.wrap IntKind.u64 (R * R) > n), false), (decide (R > 4294967295), false), (decide (rootZ n = R), true), (fx5Pre 57 [Value.int IntKind.u64 n] [], true)]) : CallOk Try.prog 13 [.int .u64 n] [] (.bool true) [] 0 :=
  pf_ok (N := 300) (L := noLoops) (os := [(2, true)]) (ob := [(n == 0, true), (decide (R < 4294967295), false), (decide (IntKind.wrap IntKind.u64 (R * R) > n), false), (decide (R > 4294967295), false), (decide (rootZ n = R), true), (fx5Pre 57 [Value.int IntKind.u64 n] [], true)]) (nb_sound [(11, R), (42, K)] ([(13, false), (19, false), (31, false), (51, false), (73, true), (77, true)] ++ [(23, false), (35, true)]) fx5_sound) noLoops_ok (by kernel_rfl) h rfl
theorem sq_a0 (n R K : Int) (h : Holds [(decide (K < 512), true), (decide (K ≥ 0), true), (decide (n < 4294967296), false), (decide (n < 9223372036854775808), false), (decide (logZ n = K), true), (fx5Pre 59 [Value.int IntKind.u64 n] [], true), (n == 0, false), (decide (R < 4294967295), false), (decide (IntKind.wrap IntKind.u64 (R * R) > n), false), (decide (R > 4294967295), false), (decide (rootZ n = R), true), (fx5Pre 57 [Value.int IntKind.u64 n] [], true)]) : CallOk Try.prog 13 [.int .u64 n] [] (.bool true) [] 0 :=
  pf_ok (N := 300) (L := noLoops) (os := [(2, true), (19, true)]) (ob := [(decide (K < 512), true), (decide (K ≥ 0), true), (decide (n < 4294967296), false), (decide (n < 9223372036854775808), false), (decide (logZ n = K), true), (fx5Pre 59 [Value.int IntKind.u64 n] [], true), (n == 0, false), (decide (R < 4294967295), false), (decide (IntKind.wrap IntKind.u64 (R * R) > n), false), (decide (R > 4294967295), false), (decide (rootZ n = R), true), (fx5Pre 57 [Value.int IntKind.u64 n] [], true)]) (nb_sound [(11, R), (42, K)] ([(13, false), (19, false), (31, false), (51, false), (73, true), (77, true)] ++ [(23, false), (35, false), (44, false), (54, false)]) fx5_sound) noLoops_ok (by kernel_rfl) h rfl
theorem sq_b0 (n R K : Int) (h : Holds [(decide (K < 512), true), (decide (K ≥ 0), true), (decide (n < 4294967296), false), (logZ (IntKind.wrap IntKind.u64 (2 * n)) != IntKind.wrap IntKind.i64 (K + 8), false), (fx5Pre 59 [Value.int IntKind.u64 (IntKind.wrap IntKind.u64 (2 * n))] [], true), (decide (n < 9223372036854775808), true), (decide (logZ n = K), true), (fx5Pre 59 [Value.int IntKind.u64 n] [], true), (n == 0, false), (decide (R < 4294967295), false), (decide (IntKind.wrap IntKind.u64 (R * R) > n), false), (decide (R > 4294967295), false), (decide (rootZ n = R), true), (fx5Pre 57 [Value.int IntKind.u64 n] [], true)]) : CallOk Try.prog 13 [.int .u64 n] [] (.bool true) [] 0 :=
  pf_ok (N := 300) (L := noLoops) (os := [(2, true), (19, true), (3, true)]) (ob := [(decide (K < 512), true), (decide (K ≥ 0), true), (decide (n < 4294967296), false), (logZ (IntKind.wrap IntKind.u64 (2 * n)) != IntKind.wrap IntKind.i64 (K + 8), false), (fx5Pre 59 [Value.int IntKind.u64 (IntKind.wrap IntKind.u64 (2 * n))] [], true), (decide (n < 9223372036854775808), true), (decide (logZ n = K), true), (fx5Pre 59 [Value.int IntKind.u64 n] [], true), (n == 0, false), (decide (R < 4294967295), false), (decide (IntKind.wrap IntKind.u64 (R * R) > n), false), (decide (R > 4294967295), false), (decide (rootZ n = R), true), (fx5Pre 57 [Value.int IntKind.u64 n] [], true)]) (nb_sound [(11, R), (42, K)] ([(13, false), (19, false), (31, false), (51, false), (73, true), (77, true)] ++ [(23, false), (35, false), (44, true), (54, false)]) fx5_sound) noLoops_ok (by kernel_rfl) h rfl
theorem sq_c0 (n R K : Int) (h : Holds [(decide (K < 512), true), (decide (K ≥ 0), true), (logZ (IntKind.wrap IntKind.u64 (n * n)) != IntKind.wrap IntKind.i64 (2 * K), false), (fx5Pre 59 [Value.int IntKind.u64 (IntKind.wrap IntKind.u64 (n * n))] [], true), (decide (n < 4294967296), true), (logZ (IntKind.wrap IntKind.u64 (2 * n)) != IntKind.wrap IntKind.i64 (K + 8), false), (fx5Pre 59 [Value.int IntKind.u64 (IntKind.wrap IntKind.u64 (2 * n))] [], true), (decide (n < 9223372036854775808), true), (decide (logZ n = K), true), (fx5Pre 59 [Value.int IntKind.u64 n] [], true), (n == 0, false), (decide (R < 4294967295), false), (decide (IntKind.wrap IntKind.u64 (R * R) > n), false), (decide (R > 4294967295), false), (decide (rootZ n = R), true), (fx5Pre 57 [Value.int IntKind.u64 n] [], true)]) : CallOk Try.prog 13 [.int .u64 n] [] (.bool true) [] 0 :=
  pf_ok (N := 300) (L := noLoops) (os := [(2, true), (19, true), (3, true), (5, true)]) (ob := [(decide (K < 512), true), (decide (K ≥ 0), true), (logZ (IntKind.wrap IntKind.u64 (n * n)) != IntKind.wrap IntKind.i64 (2 * K), false), (fx5Pre 59 [Value.int IntKind.u64 (IntKind.wrap IntKind.u64 (n * n))] [], true), (decide (n < 4294967296), true), (logZ (IntKind.wrap IntKind.u64 (2 * n)) != IntKind.wrap IntKind.i64 (K + 8), false), (fx5Pre 59 [Value.int IntKind.u64 (IntKind.wrap IntKind.u64 (2 * n))] [], true), (decide (n < 9223372036854775808), true), (decide (logZ n = K), true), (fx5Pre 59 [Value.int IntKind.u64 n] [], true), (n == 0, false), (decide (R < 4294967295), false), (decide (IntKind.wrap IntKind.u64 (R * R) > n), false), (decide (R > 4294967295), false), (decide (rootZ n = R), true), (fx5Pre 57 [Value.int IntKind.u64 n] [], true)]) (nb_sound [(11, R), (42, K)] ([(13, false), (19, false), (31, false), (51, false), (73, true), (77, true)] ++ [(23, false), (35, false), (44, true), (54, true), (62, false)]) fx5_sound) noLoops_ok (by kernel_rfl) h rfl
theorem sq_d0 (n R K : Int) (h : Holds [(decide (K < 512), true), (decide (K ≥ 0), true), (logZ (IntKind.wrap IntKind.u64 (n * n)) != IntKind.wrap IntKind.i64 (IntKind.wrap IntKind.i64 (2 * K) + 1), false), (logZ (IntKind.wrap IntKind.u64 (n * n)) != IntKind.wrap IntKind.i64 (2 * K), true), (fx5Pre 59 [Value.int IntKind.u64 (IntKind.wrap IntKind.u64 (n * n))] [], true), (decide (n < 4294967296), true), (logZ (IntKind.wrap IntKind.u64 (2 * n)) != IntKind.wrap IntKind.i64 (K + 8), false), (fx5Pre 59 [Value.int IntKind.u64 (IntKind.wrap IntKind.u64 (2 * n))] [], true), (decide (n < 9223372036854775808), true), (decide (logZ n = K), true), (fx5Pre 59 [Value.int IntKind.u64 n] [], true), (n == 0, false), (decide (R < 4294967295), false), (decide (IntKind.wrap IntKind.u64 (R * R) > n), false), (decide (R > 4294967295), false), (decide (rootZ n = R), true), (fx5Pre 57 [Value.int IntKind.u64 n] [], true)]) : CallOk Try.prog 13 [.int .u64 n] [] (.bool true) [] 0 :=
  pf_ok (N := 300) (L := noLoops) (os := [(2, true), (19, true), (3, true), (5, true)]) (ob := [(decide (K < 512), true), (decide (K ≥ 0), true), (logZ (IntKind.wrap IntKind.u64 (n * n)) != IntKind.wrap IntKind.i64 (IntKind.wrap IntKind.i64 (2 * K) + 1), false), (logZ (IntKind.wrap IntKind.u64 (n * n)) != IntKind.wrap IntKind.i64 (2 * K), true), (fx5Pre 59 [Value.int IntKind.u64 (IntKind.wrap IntKind.u64 (n * n))] [], true), (decide (n < 4294967296), true), (logZ (IntKind.wrap IntKind.u64 (2 * n)) != IntKind.wrap IntKind.i64 (K + 8), false), (fx5Pre 59 [Value.int IntKind.u64 (IntKind.wrap IntKind.u64 (2 * n))] [], true), (decide (n < 9223372036854775808), true), (decide (logZ n = K), true), (fx5Pre 59 [Value.int IntKind.u64 n] [], true), (n == 0, false), (decide (R < 4294967295), false), (decide (IntKind.wrap IntKind.u64 (R * R) > n), false), (decide (R > 4294967295), false), (decide (rootZ n = R), true), (fx5Pre 57 [Value.int IntKind.u64 n] [], true)]) (nb_sound [(11, R), (42, K)] ([(13, false), (19, false), (31, false), (51, false), (73, true), (77, true)] ++ [(23, false), (35, false), (44, true), (54, true), (62, true), (68, false)]) fx5_sound) noLoops_ok (by kernel_rfl) h rfl

theorem squares_call (n : Int) (hn : isU n = true) : CallOk Try.prog 13 [.int .u64 n] [] (.bool true) [] 0 := by
  obtain ⟨n0, n1⟩ := isU_iff.1 hn
  obtain ⟨a0, a1, a2, a3⟩ := root_spec n n0 n1
  obtain ⟨R, eR⟩ : ∃ R, rootZ n = R := ⟨_, rfl⟩
  rw [eR] at a0 a1 a2 a3
  have hRR : 0 ≤ R * R := Int.mul_nonneg a0 a0
  have w1 : IntKind.wrap IntKind.u64 (R * R) = R * R := wrapU_in (by omega) (by omega)
  have t1 : (R * R > n) = False := by simp; omega
  have t2 : (R > 4294967295) = False := by simp; omega
  have w2 : IntKind.wrap IntKind.u64 (R + 1) = R + 1 := wrapU_in (by omega) (by omega)
  have w3 : R < 4294967295 → IntKind.wrap IntKind.u64 ((R + 1) * (R + 1)) = (R + 1) * (R + 1) := fun h => by
    have : (R + 1) * (R + 1) ≤ 4294967295 * 4294967295 := Int.mul_le_mul (by omega) (by omega) (by omega) (by omega)
    exact wrapU_in (by omega) (by omega)
  have t3 : ((R + 1) * (R + 1) ≤ n) = False := by simp; omega
  by_cases hz : n = 0
  · have hR : R < 4294967295 := by
      have := sq_lt (a := R) (b := 1) a0 (by omega) (by decide)
      omega
    refine sq_z1 n R 0 ?_
    simp only [eR, w1, w2, w3 hR, t1, t2, t3]
    simp [Holds, fx5Pre, fx3Pre, hn, hz, hR, show isU 0 = true from rfl]
    try omega
  obtain ⟨k, eK, k1, k2, k3⟩ := log_spec (n := n) (by omega) n1
  obtain ⟨K, eK'⟩ : ∃ K, logZ n = K := ⟨_, rfl⟩
  have hK : 0 ≤ K ∧ K < 512 := by omega
  have w4 : IntKind.wrap IntKind.i64 (K + 8) = K + 8 := wrap_in (inI_iff.2 (by omega))
  have w5 : IntKind.wrap IntKind.i64 (2 * K) = 2 * K := wrap_in (inI_iff.2 (by omega))
  have w5' : IntKind.wrap IntKind.i64 (2 * K + 1) = 2 * K + 1 := wrap_in (inI_iff.2 (by omega))
  have w6 : n < 9223372036854775808 → IntKind.wrap IntKind.u64 (2 * n) = 2 * n := fun h => wrapU_in (by omega) (by omega)
  have w7 : n < 4294967296 → IntKind.wrap IntKind.u64 (n * n) = n * n := fun h => by
    have : n * n ≤ 4294967295 * 4294967295 := Int.mul_le_mul (by omega) (by omega) (by omega) (by omega)
    have : 0 ≤ n * n := Int.mul_nonneg n0 n0
    exact wrapU_in (by omega) (by omega)
  have u7 : n < 4294967296 → isU (n * n) = true := fun h => by
    have : n * n ≤ 4294967295 * 4294967295 := Int.mul_le_mul (by omega) (by omega) (by omega) (by omega)
    have : 0 ≤ n * n := Int.mul_nonneg n0 n0
    exact isU_iff.2 (by omega)
  have u6 : n < 9223372036854775808 → isU (2 * n) = true := fun h => isU_iff.2 (by omega)
  have l2 : logZ (2 * n) = K + 8 := by rw [log_twice (by omega), eK']
  have ls := log_square (n := n) (by omega) n1
  rw [eK'] at ls
  by_cases hR : R < 4294967295
  · have w3 := w3 hR
    by_cases h63 : n < 9223372036854775808
    · have w6 := w6 h63
      have u6 := u6 h63
      by_cases h32 : n < 4294967296
      · have w7 := w7 h32
        have u7 := u7 h32
        by_cases hs : logZ (n * n) = 2 * K
        · refine sq_c1 n R K ?_
          simp only [eR, eK', w1, w2, w3, t1, t2, t3, w4, w5, w6, w7, l2, hs]
          simp [Holds, fx5Pre, fx3Pre, hn, hz, hR, h63, h32, u6, u7]
          try omega
        · refine sq_d1 n R K ?_
          have hs' : logZ (n * n) = 2 * K + 1 := by omega
          simp only [eR, eK', w1, w2, w3, t1, t2, t3, w4, w5, w5', w6, w7, l2, hs']
          simp [Holds, fx5Pre, fx3Pre, hn, hz, hR, h63, h32, u6, u7]
          try omega
      · refine sq_b1 n R K ?_
        simp only [eR, eK', w1, w2, w3, t1, t2, t3, w4, w6, l2]
        simp [Holds, fx5Pre, fx3Pre, hn, hz, hR, h63, h32, u6]
        try omega
    · refine sq_a1 n R K ?_
      have h32 : ¬ n < 4294967296 := by omega
      simp only [eR, eK', w1, w2, w3, t1, t2, t3]
      simp [Holds, fx5Pre, fx3Pre, hn, hz, hR, h63, h32]
      try omega
  · clear w3
    by_cases h63 : n < 9223372036854775808
    · have w6 := w6 h63
      have u6 := u6 h63
      by_cases h32 : n < 4294967296
      · have w7 := w7 h32
        have u7 := u7 h32
        by_cases hs : logZ (n * n) = 2 * K
        · refine sq_c0 n R K ?_
          simp only [eR, eK', w1, w2, t1, t2, t3, w4, w5, w6, w7, l2, hs]
          simp [Holds, fx5Pre, fx3Pre, hn, hz, hR, h63, h32, u6, u7]
          try omega
        · refine sq_d0 n R K ?_
          have hs' : logZ (n * n) = 2 * K + 1 := by omega
          simp only [eR, eK', w1, w2, t1, t2, t3, w4, w5, w5', w6, w7, l2, hs']
          simp [Holds, fx5Pre, fx3Pre, hn, hz, hR, h63, h32, u6, u7]
          try omega
      · refine sq_b0 n R K ?_
        simp only [eR, eK', w1, w2, t1, t2, t3, w4, w6, l2]
        simp [Holds, fx5Pre, fx3Pre, hn, hz, hR, h63, h32, u6]
        try omega
    · refine sq_a0 n R K ?_
      have h32 : ¬ n < 4294967296 := by omega
      simp only [eR, eK', w1, w2, t1, t2, t3]
      simp [Holds, fx5Pre, fx3Pre, hn, hz, hR, h63, h32]
      try omega

end Go.Proofs.Ytfbjpenbpbpcaaa
