/-
  Chapter 05: the laws FixedRoots and FixedHolds as calls.
-/
import Derived.Test.YtfbjpenbpbpcaaaFx9
import Derived.Test.YtfbjpenbpbpcaaaNear
namespace Go.Proofs.Ytfbjpenbpbpcaaa
open Go Den
set_option maxRecDepth 100000
set_option linter.unusedSimpArgs false
set_option linter.unusedVariables false

theorem roots_call (n : Int) (h : isU n = true) : CallOk Try.prog 11 [.int .u64 n] [] (.bool true) [] 0 :=
  pf_ok (N := 300) (L := noLoops) (os := [(4, true), (2, true), (3, true), (2, true)]) (ob := [(logZ n == logZ n, true), (fx5Pre 60 [Value.int IntKind.u64 n] [], true),
      (fx5Pre 59 [Value.int IntKind.u64 n] [], true), (rootZ n == rootZ n, true),
      (fx5Pre 58 [Value.int IntKind.u64 n] [], true), (fx5Pre 57 [Value.int IntKind.u64 n] [], true)]) (nb_sound [] (allT [13, 20]) fx5_sound) noLoops_ok (by kernel_rfl) (by simp [Holds, fx5Pre, fx3Pre, h]) rfl

theorem root_mono {n m : Int} (h0 : 0 ≤ n) (h : n ≤ m) (h1 : m ≤ 18446744073709551615) : rootZ n ≤ rootZ m := by
  obtain ⟨a0, a1, a2, a3⟩ := root_spec n h0 (by omega)
  obtain ⟨b0, b1, b2, b3⟩ := root_spec m (by omega) h1
  have := sq_lt (a := rootZ n) (b := rootZ m + 1) a0 (by omega) (by omega)
  omega

theorem len_mono {n m : Int} (h : n ≤ m) : lenZ n ≤ lenZ m := by
  rcases Int.lt_or_le 0 n with h0 | h0
  · obtain ⟨k, e, k1, k2⟩ := lenZ_spec h0
    obtain ⟨j, e', j1, j2⟩ := lenZ_spec (n := m) (by omega)
    rw [e, e']
    have : k ≤ j := by
      refine Nat.le_of_not_lt fun hk => ?_
      have q1 : (2 : Nat) ^ (j + 1) ≤ 2 ^ k := Nat.pow_le_pow_right (by decide) hk
      have q2 : ((2 ^ (j + 1) : Nat) : Int) ≤ ((2 ^ k : Nat) : Int) := Int.ofNat_le.2 q1
      have q3 : (2 : Int) ^ (j + 1) ≤ 2 ^ k := by simpa using q2
      omega
    omega
  · have e : lenZ n = 0 := by unfold lenZ; rw [if_pos h0]
    rw [e]
    unfold lenZ
    split <;> omega

theorem pow8_mono {n m : Int} (h0 : 0 ≤ n) (h : n ≤ m) : n ^ 8 ≤ m ^ 8 := by
  have a1 : n * n ≤ m * m := Int.mul_le_mul h h h0 (by omega)
  have p1 : 0 ≤ n * n := Int.mul_nonneg h0 h0
  have a2 : n * n * (n * n) ≤ m * m * (m * m) := Int.mul_le_mul a1 a1 p1 (by omega)
  have p2 : 0 ≤ n * n * (n * n) := Int.mul_nonneg p1 p1
  have a3 : n * n * (n * n) * (n * n * (n * n)) ≤ m * m * (m * m) * (m * m * (m * m)) := Int.mul_le_mul a2 a2 p2 (by omega)
  have e1 : n ^ 8 = n * n * (n * n) * (n * n * (n * n)) := by grind
  have e2 : m ^ 8 = m * m * (m * m) * (m * m * (m * m)) := by grind
  rw [e1, e2]; exact a3

theorem log_mono {n m : Int} (h0 : 0 ≤ n) (h : n ≤ m) : logZ n ≤ logZ m := by
  unfold logZ
  have h8 := len_mono (pow8_mono h0 h)
  by_cases hn : n = 0
  · rw [if_pos hn]
    by_cases hm : m = 0
    · rw [if_pos hm]; omega
    · rw [if_neg hm]
      obtain ⟨k, e, _⟩ := lenZ_spec (n := m ^ 8) (Int.pow_pos (by omega))
      omega
  · rw [if_neg hn, if_neg (by omega)]
    omega

theorem holds_call (v w b n m : Int) (hv : inI v = true) (hw : inI w = true) (hn : isU n = true) (hm : isU m = true) : CallOk Try.prog 12 [.int .i64 v, .int .i64 w, .int .i64 b, .int .u64 n, .int .u64 m] [] (.bool true) [] 0 := by
  obtain ⟨B, eB, B1, B2⟩ := posmod b 62 (by decide) (by decide)
  obtain ⟨T, eT⟩ : ∃ T, topZ B = T := ⟨_, rfl⟩
  have hT := top_le B
  rw [eT] at hT
  have hB : withinZ B 1 62 = B := by unfold withinZ; repeat' split
                                     all_goals omega
  have w1 : IntKind.wrap IntKind.i64 (B - 1) = B - 1 := wrap_in (inI_iff.2 (by omega))
  have w2 : IntKind.wrap IntKind.u64 (B - 1) = B - 1 := wrapU_in (by omega) (by omega)
  have w3 : min (Int.toNat (B - 1)) (IntKind.bits IntKind.i64) = B.toNat - 1 := by rw [bits64]; omega
  have eP : (2 : Int) ^ (B.toNat - 1) = T + 1 := by rw [← eT]; unfold topZ; rw [hB]; omega
  have w4 : IntKind.wrap IntKind.i64 (IntKind.wrap IntKind.i64 (1 * 2 ^ min (Int.toNat (IntKind.wrap IntKind.u64 (IntKind.wrap IntKind.i64 (B - 1)))) (IntKind.bits IntKind.i64)) - 1) = T := by
    rw [w1, w2, w3, eP, Int.one_mul, wrap_in (n := T + 1) (inI_iff.2 (by omega)), wrap_in (inI_iff.2 (by omega))]; omega
  have w5 : IntKind.wrap IntKind.i64 (IntKind.wrap IntKind.i64 (0 - T) - 1) = -T - 1 := by rw [wrap_in (n := 0 - T) (inI_iff.2 (by omega)), wrap_in (inI_iff.2 (by omega))]; omega
  have w6 : (IntKind.wrap IntKind.u64 (IntKind.wrap IntKind.i64 (B - 1)) < 0) = False := by rw [w1, w2]; simp; omega
  have sat : ∀ x, satZ x B = if x < -T - 1 then -T - 1 else if T < x then T else x := by
    intro x
    unfold satZ withinZ
    rw [eT]
    repeat' split
    all_goals omega
  obtain ⟨u1, u2⟩ := isU_iff.1 hn
  obtain ⟨u3, u4⟩ := isU_iff.1 hm
  have hlo : isU (if m < n then m else n) = true := by split <;> assumption
  have hhi : isU (if m > n then m else n) = true := by split <;> assumption
  have hle : (if m < n then m else n) ≤ (if m > n then m else n) := by split <;> split <;> omega
  obtain ⟨l1, l2⟩ := isU_iff.1 hlo
  obtain ⟨l3, l4⟩ := isU_iff.1 hhi
  have r1 := root_mono l1 hle l4
  have r2 := log_mono l1 hle
  have r3 : (satZ (if w < v then w else v) B > satZ (if w > v then w else v) B) = False := by
    rw [sat, sat]; simp only [eq_iff_iff, iff_false]
    repeat' split
    all_goals omega
  by_cases c1 : v ≤ T
  · by_cases c2 : v ≥ -T - 1
    · refine pf_ok (N := 300) (L := noLoops) (os := [(4, false), (53, true), (4, true), (5, true), (4, true)]) (ob := [(decide (logZ (if m < n then m else n) ≤ logZ (if m > n then m else n)), true), (fx5Pre 59 [Value.int IntKind.u64 (if m > n then m else n)] [], true), (fx5Pre 59 [Value.int IntKind.u64 (if m < n then m else n)] [], true), (decide (rootZ (if m < n then m else n) ≤ rootZ (if m > n then m else n)), true), (fx5Pre 57 [Value.int IntKind.u64 (if m > n then m else n)] [], true), (fx5Pre 57 [Value.int IntKind.u64 (if m < n then m else n)] [], true), (decide (satZ (if w < v then w else v) B > satZ (if w > v then w else v) B), false), (decide (v < IntKind.wrap IntKind.i64 (IntKind.wrap IntKind.i64 (0 - T) - 1)), false), (decide (v > T), false), (satZ v B != v, false), (decide (v ≥ IntKind.wrap IntKind.i64 (IntKind.wrap IntKind.i64 (0 - T) - 1)), true), (decide (v ≤ T), true), (satZ (satZ v B) B != satZ v B, false), (decide (satZ v B < IntKind.wrap IntKind.i64 (IntKind.wrap IntKind.i64 (0 - T) - 1)), false), (decide (satZ v B > T), false), (decide (IntKind.wrap IntKind.i64 (IntKind.wrap IntKind.i64 (1 * 2 ^ min (Int.toNat (IntKind.wrap IntKind.u64 (IntKind.wrap IntKind.i64 (B - 1)))) (IntKind.bits IntKind.i64)) - 1) = T), true), (decide (IntKind.wrap IntKind.u64 (IntKind.wrap IntKind.i64 (B - 1)) < 0), false), (decide (IntKind.wrap IntKind.i64 (1 + Int.tmod (IntKind.wrap IntKind.i64 (Int.tmod b 62 + 62)) 62) = B), true)]) (nb_sound [(21, B), (26, T)] [(32, false), (38, false), (45, false), (96, false), (107, true), (118, true), (50, true), (56, true), (61, false), (66, false), (77, false)] fx5_sound) noLoops_ok (by kernel_rfl) ?_ rfl
      have q : satZ v B = v := by rw [sat, if_neg (by omega), if_neg (by omega)]
      simp only [w4, w5, eB, w6, r3, q]
      simp [Holds, fx5Pre, fx3Pre, hlo, hhi, r1, r2]
      omega
    · refine pf_ok (N := 300) (L := noLoops) (os := [(4, false), (53, true), (4, true), (5, true), (4, true)]) (ob := [(decide (logZ (if m < n then m else n) ≤ logZ (if m > n then m else n)), true), (fx5Pre 59 [Value.int IntKind.u64 (if m > n then m else n)] [], true), (fx5Pre 59 [Value.int IntKind.u64 (if m < n then m else n)] [], true), (decide (rootZ (if m < n then m else n) ≤ rootZ (if m > n then m else n)), true), (fx5Pre 57 [Value.int IntKind.u64 (if m > n then m else n)] [], true), (fx5Pre 57 [Value.int IntKind.u64 (if m < n then m else n)] [], true), (decide (satZ (if w < v then w else v) B > satZ (if w > v then w else v) B), false), (satZ v B != IntKind.wrap IntKind.i64 (IntKind.wrap IntKind.i64 (0 - T) - 1), false), (decide (v < IntKind.wrap IntKind.i64 (IntKind.wrap IntKind.i64 (0 - T) - 1)), true), (decide (v > T), false), (decide (v ≥ IntKind.wrap IntKind.i64 (IntKind.wrap IntKind.i64 (0 - T) - 1)), false), (decide (v ≤ T), true), (satZ (satZ v B) B != satZ v B, false), (decide (satZ v B < IntKind.wrap IntKind.i64 (IntKind.wrap IntKind.i64 (0 - T) - 1)), false), (decide (satZ v B > T), false), (decide (IntKind.wrap IntKind.i64 (IntKind.wrap IntKind.i64 (1 * 2 ^ min (Int.toNat (IntKind.wrap IntKind.u64 (IntKind.wrap IntKind.i64 (B - 1)))) (IntKind.bits IntKind.i64)) - 1) = T), true), (decide (IntKind.wrap IntKind.u64 (IntKind.wrap IntKind.i64 (B - 1)) < 0), false), (decide (IntKind.wrap IntKind.i64 (1 + Int.tmod (IntKind.wrap IntKind.i64 (Int.tmod b 62 + 62)) 62) = B), true)]) (nb_sound [(21, B), (26, T)] [(32, false), (38, false), (45, false), (96, false), (107, true), (118, true), (50, true), (56, false), (66, false), (77, true), (83, false)] fx5_sound) noLoops_ok (by kernel_rfl) ?_ rfl
      have q : satZ v B = -T - 1 := by rw [sat, if_pos (by omega)]
      have q2 : satZ (-T - 1) B = -T - 1 := by rw [sat, if_neg (by omega), if_neg (by omega)]
      simp only [w4, w5, eB, w6, r3, q, q2]
      simp [Holds, fx5Pre, fx3Pre, hlo, hhi, r1, r2]
      omega
  · refine pf_ok (N := 300) (L := noLoops) (os := [(4, false), (54, true), (4, true), (5, true), (4, true)]) (ob := [(decide (logZ (if m < n then m else n) ≤ logZ (if m > n then m else n)), true), (fx5Pre 59 [Value.int IntKind.u64 (if m > n then m else n)] [], true), (fx5Pre 59 [Value.int IntKind.u64 (if m < n then m else n)] [], true), (decide (rootZ (if m < n then m else n) ≤ rootZ (if m > n then m else n)), true), (fx5Pre 57 [Value.int IntKind.u64 (if m > n then m else n)] [], true), (fx5Pre 57 [Value.int IntKind.u64 (if m < n then m else n)] [], true), (decide (satZ (if w < v then w else v) B > satZ (if w > v then w else v) B), false), (decide (v < IntKind.wrap IntKind.i64 (IntKind.wrap IntKind.i64 (0 - T) - 1)), false), (satZ v B != T, false), (decide (v > T), true), (decide (v ≤ T), false), (satZ (satZ v B) B != satZ v B, false), (decide (satZ v B < IntKind.wrap IntKind.i64 (IntKind.wrap IntKind.i64 (0 - T) - 1)), false), (decide (satZ v B > T), false), (decide (IntKind.wrap IntKind.i64 (IntKind.wrap IntKind.i64 (1 * 2 ^ min (Int.toNat (IntKind.wrap IntKind.u64 (IntKind.wrap IntKind.i64 (B - 1)))) (IntKind.bits IntKind.i64)) - 1) = T), true), (decide (IntKind.wrap IntKind.u64 (IntKind.wrap IntKind.i64 (B - 1)) < 0), false), (decide (IntKind.wrap IntKind.i64 (1 + Int.tmod (IntKind.wrap IntKind.i64 (Int.tmod b 62 + 62)) 62) = B), true)]) (nb_sound [(21, B), (26, T)] [(32, false), (38, false), (45, false), (96, false), (107, true), (118, true), (50, false), (66, true), (70, false), (77, false)] fx5_sound) noLoops_ok (by kernel_rfl) ?_ rfl
    have q : satZ v B = T := by rw [sat, if_neg (by omega), if_pos (by omega)]
    have q2 : satZ T B = T := by rw [sat, if_neg (by omega), if_neg (by omega)]
    simp only [w4, w5, eB, w6, r3, q, q2]
    simp [Holds, fx5Pre, fx3Pre, hlo, hhi, r1, r2]
    omega

end Go.Proofs.Ytfbjpenbpbpcaaa
