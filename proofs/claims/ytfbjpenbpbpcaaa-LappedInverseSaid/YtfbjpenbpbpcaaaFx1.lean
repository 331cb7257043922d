/-
  The contracts of the functions of chapter 05 that go round no loop: Round, Mul, Div, and the references'.
-/
import Derived.Test.YtfbjpenbpbpcaaaBase
namespace Go.Proofs.Ytfbjpenbpbpcaaa
open Go Den
set_option maxRecDepth 100000

def inI (v : Int) : Bool := decide (-9223372036854775808 ≤ v) && decide (v ≤ 9223372036854775807)

theorem inI_iff {v : Int} : inI v = true ↔ -9223372036854775808 ≤ v ∧ v ≤ 9223372036854775807 := by simp [inI]

def roundZ (v b : Int) : Int := if b < 1 then v else if b > 62 then 0 else (v + 2 ^ (b.toNat - 1)) / 2 ^ b.toNat
def withinZ (v l h : Int) : Int := if (if h < v then h else v) > l then (if h < v then h else v) else l
def mulZ (a b y : Int) : Int := roundZ (withinZ a (-2147483648) 2147483648 * withinZ b (-2147483648) 2147483648) y
def divQ (a b : Int) : Int := if b < 1 then 0 else if 0 ≤ a.tmod b then (if b ≤ 2 * a.tmod b then a.tdiv b + 1 else a.tdiv b) else (if b ≤ -2 * a.tmod b then a.tdiv b - 1 else a.tdiv b)
def divE (b : Int) : Int := if b < 1 then 1 else 0

theorem wrap_in {n : Int} (h : inI n = true) : IntKind.i64.wrap n = n := by
  rw [inI_iff] at h
  unfold IntKind.wrap
  simp [IntKind.bits, IntKind.signed]
  omega

theorem and_one (q : Int) : ((BitVec.ofInt (IntKind.bits IntKind.i64) q &&& BitVec.ofInt (IntKind.bits IntKind.i64) 1).toNat : Int) = q % 2 := by
  have h1 : (BitVec.ofInt (IntKind.bits IntKind.i64) 1).toNat = 1 := by decide
  rw [BitVec.toNat_and, h1, Nat.and_one_is_mod, BitVec.toNat_ofInt]
  show (((q % ((2 ^ 64 : Nat) : Int)).toNat % 2 : Nat) : Int) = q % 2
  have : ((2 ^ 64 : Nat) : Int) = 18446744073709551616 := by decide
  rw [this]
  omega

theorem pow_pos (n : Nat) : (0 : Int) < 2 ^ n := Int.pow_pos (by decide)

/-- Halves up, by the bit that falls off last. -/
theorem half_up (v : Int) (n : Nat) : v.fdiv (2 ^ (n + 1)) + (v.fdiv (2 ^ n)) % 2 = (v + 2 ^ n) / 2 ^ (n + 1) := by
  have p0 := pow_pos n
  have e : (2 : Int) ^ (n + 1) = 2 ^ n * 2 := Int.pow_succ 2 n
  rw [Int.fdiv_eq_ediv_of_nonneg _ (Int.le_of_lt (pow_pos _)), Int.fdiv_eq_ediv_of_nonneg _ (Int.le_of_lt p0), e, ← Int.ediv_ediv_of_nonneg (Int.le_of_lt p0), ← Int.ediv_ediv_of_nonneg (Int.le_of_lt p0)]
  have h2 : (v + 2 ^ n) / 2 ^ n = v / 2 ^ n + 1 := by
    rw [Int.add_ediv_of_dvd_right (Int.dvd_refl _), Int.ediv_self (by omega)]
  rw [h2]
  omega


def noPre : Pre := fun _ _ _ => true
def noC : Oracle := fun _ _ _ => none
theorem noC_sound : Sound Try.prog (strict noPre noC) := Sound.strict fun f args H v H' l _ h => by simp [noC] at h

theorem bits64 : IntKind.bits IntKind.i64 = 64 := rfl

theorem round_ok (v b : Int) (hv : inI v = true) (hb : inI b = true) : CallOk Try.prog 45 [.int .i64 v, .int .i64 b] [] (.int .i64 (roundZ v b)) [] 0 := by
  have hb' := inI_iff.1 hb
  have hv' := inI_iff.1 hv
  unfold roundZ
  by_cases h1 : b < 1
  · rw [if_pos h1]
    exact evFnL_plain (N := 300) (pre := noPre) (C := noC) (os := [(0, true)]) (ob := [(decide (b < 1), true)]) progOk extSound noC_sound (by kernel_rfl) (by simp [Holds, h1])
  · by_cases h2 : b > 62
    · rw [if_neg h1, if_pos h2]
      exact evFnL_plain (N := 300) (pre := noPre) (C := noC) (os := [(0, false), (0, true)]) (ob := [(decide (b > 62), true), (decide (b < 1), false)]) progOk extSound noC_sound (by kernel_rfl) (by simp [Holds, h1]; omega)
    · rw [if_neg h1, if_neg h2]
      obtain ⟨n, rfl⟩ : ∃ n : Nat, b = (n : Int) + 1 := ⟨(b - 1).toNat, by omega⟩
      have hw : IntKind.i64.wrap ((n : Int) + 1 - 1) = n := by rw [wrap_in (inI_iff.2 (by omega))]; omega
      have hn : n ≤ 61 := by omega
      have hw' : IntKind.i64.wrap (n : Int) = n := wrap_in (inI_iff.2 (by omega))
      have h := evFnL_plain (N := 300) (pre := noPre) (C := noC) (os := [(0, false), (0, false), (0, false), (0, false)]) (f := 45) (args := [.int .i64 v, .int .i64 ((n : Int) + 1)]) (H := [])
        (v := .int .i64 (IntKind.wrap IntKind.i64 (Int.fdiv v (2 ^ min (Int.toNat ((n : Int) + 1)) (IntKind.bits IntKind.i64)) + IntKind.wrap IntKind.i64 ↑(BitVec.toNat (BitVec.ofInt (IntKind.bits IntKind.i64) (Int.fdiv v (2 ^ min (Int.toNat (IntKind.wrap IntKind.i64 ((n : Int) + 1 - 1))) (IntKind.bits IntKind.i64))) &&& BitVec.ofInt (IntKind.bits IntKind.i64) 1)))))
        (H' := []) (l := 0) (ob := [(decide (IntKind.wrap IntKind.i64 ((n : Int) + 1 - 1) < 0), false), (decide ((n : Int) + 1 < 0), false), (decide ((n : Int) + 1 > 62), false), (decide ((n : Int) + 1 < 1), false)])
        progOk extSound noC_sound (by kernel_rfl) (by simp [Holds, hw']; omega)
      have t1 : min (Int.toNat ((n : Int) + 1)) (IntKind.bits IntKind.i64) = n + 1 := by rw [bits64]; omega
      have t2 : min (Int.toNat (n : Int)) (IntKind.bits IntKind.i64) = n := by rw [bits64]; omega
      have t3 : Int.toNat ((n : Int) + 1) = n + 1 := by omega
      rw [hw, t1, t2, and_one] at h
      rw [t3, Nat.add_sub_cancel, ← half_up]
      have hq : inI (v.fdiv (2 ^ n) % 2) = true := inI_iff.2 (by omega)
      rw [wrap_in hq] at h
      have hq2 : inI (v.fdiv (2 ^ (n + 1)) + v.fdiv (2 ^ n) % 2) = true := by
        rw [half_up, inI_iff]
        have p0 := pow_pos n
        have p1 := pow_pos (n + 1)
        have e : (2 : Int) ^ (n + 1) = 2 ^ n * 2 := Int.pow_succ 2 n
        have a1 := Int.mul_ediv_self_le (x := v + 2 ^ n) (k := 2 ^ (n + 1)) (by omega)
        have a2 := Int.lt_mul_ediv_self_add (x := v + 2 ^ n) (k := 2 ^ (n + 1)) p1
        generalize (v + 2 ^ n) / 2 ^ (n + 1) = q at *
        generalize (2 : Int) ^ (n + 1) = p at *
        generalize (2 : Int) ^ n = r at *
        subst e
        constructor
        · refine Int.not_lt.1 fun hlt => ?_
          have : r * 2 * q ≤ r * 2 * (-9223372036854775809) := Int.mul_le_mul_of_nonneg_left (by omega) (by omega)
          have : r * 2 * (-9223372036854775809) ≤ 1 * 2 * (-9223372036854775809) + (r - 1) * (-9223372036854775809 * 2) := by omega
          omega
        · refine Int.not_lt.1 fun hlt => ?_
          have : r * 2 * 9223372036854775808 ≤ r * 2 * q := Int.mul_le_mul_of_nonneg_left (by omega) (by omega)
          omega
      rw [wrap_in hq2] at h
      exact h

theorem wrapU_in {n : Int} (h : 0 ≤ n) (h' : n ≤ 18446744073709551615) : IntKind.u64.wrap n = n := by
  unfold IntKind.wrap
  simp [IntKind.bits, IntKind.signed]
  omega

/-- The reference: what falls off, against the half. -/
theorem half_ref (v : Int) (n : Nat) : (v + 2 ^ n) / 2 ^ (n + 1) = if v - v.fdiv (2 ^ (n + 1)) * 2 ^ (n + 1) ≥ 2 ^ n then v.fdiv (2 ^ (n + 1)) + 1 else v.fdiv (2 ^ (n + 1)) := by
  have p0 := pow_pos n
  have p1 := pow_pos (n + 1)
  have e : (2 : Int) ^ (n + 1) = 2 * 2 ^ n := by rw [Int.pow_succ]; omega
  rw [Int.fdiv_eq_ediv_of_nonneg _ (Int.le_of_lt p1)]
  have a1 := Int.mul_ediv_add_emod v (2 ^ (n + 1))
  have a2 := Int.emod_nonneg v (Int.ne_of_gt p1)
  have a3 := Int.emod_lt_of_pos v p1
  generalize v / 2 ^ (n + 1) = q at *
  generalize v % 2 ^ (n + 1) = r at *
  have hv : v - q * 2 ^ (n + 1) = r := by rw [← a1, Int.mul_comm q]; omega
  rw [hv]
  split
  · have h : v + 2 ^ n = (r - 2 ^ n) + 2 ^ (n + 1) * (q + 1) := by rw [← a1, Int.mul_add]; omega
    rw [h, Int.add_mul_ediv_left _ _ (Int.ne_of_gt p1), Int.ediv_eq_zero_of_lt (by omega) (by omega)]
    omega
  · have h : v + 2 ^ n = (r + 2 ^ n) + 2 ^ (n + 1) * q := by rw [← a1]; omega
    rw [h, Int.add_mul_ediv_left _ _ (Int.ne_of_gt p1), Int.ediv_eq_zero_of_lt (by omega) (by omega)]
    omega

theorem pow_le62 {n : Nat} (h : n ≤ 62) : (2 : Int) ^ n ≤ 4611686018427387904 := by
  have h1 : (2 : Nat) ^ n ≤ 2 ^ 62 := Nat.pow_le_pow_right (by decide) h
  have h2 : ((2 ^ n : Nat) : Int) ≤ ((2 ^ 62 : Nat) : Int) := Int.ofNat_le.2 h1
  simpa using h2

/-- The greatest multiple of a power of two that is not above a number of 64 bits is one. -/
theorem mult_in {v : Int} {n : Nat} (hv : inI v = true) (hn : n ≤ 63) : inI (v / 2 ^ n * 2 ^ n) = true := by
  have hv' := inI_iff.1 hv
  have p := pow_pos n
  have a1 := Int.mul_ediv_add_emod v (2 ^ n)
  have a2 := Int.emod_nonneg v (Int.ne_of_gt p)
  have a3 := Int.emod_lt_of_pos v p
  have hk : (2 : Int) ^ (63 - n) * 2 ^ n = 9223372036854775808 := by
    rw [← Int.pow_add, Nat.sub_add_cancel hn]
    decide
  rw [Int.mul_comm] at a1
  generalize v / 2 ^ n = q at *
  generalize v % 2 ^ n = r at *
  generalize (2 : Int) ^ (63 - n) = k at *
  generalize (2 : Int) ^ n = p2 at *
  refine inI_iff.2 ⟨?_, by omega⟩
  have h1 : (-k) * p2 < (q + 1) * p2 := by rw [Int.neg_mul, hk, Int.add_mul, Int.one_mul]; omega
  have h2 : -k < q + 1 := Int.lt_of_mul_lt_mul_right h1 (Int.le_of_lt p)
  have h3 : (-k) * p2 ≤ q * p2 := Int.mul_le_mul_of_nonneg_right (by omega) (Int.le_of_lt p)
  rw [Int.neg_mul, hk] at h3
  exact h3

theorem ref_round_ok (v b : Int) (hv : inI v = true) (hb : inI b = true) : CallOk Try.prog 46 [.int .i64 v, .int .i64 b] [] (.int .i64 (roundZ v b)) [] 0 := by
  have hb' := inI_iff.1 hb
  have hv' := inI_iff.1 hv
  unfold roundZ
  by_cases h1 : b < 1
  · rw [if_pos h1]
    exact evFnL_plain (N := 300) (pre := noPre) (C := noC) (os := [(0, true)]) (ob := [(decide (b < 1), true)]) progOk extSound noC_sound (by kernel_rfl) (by simp [Holds, h1])
  · by_cases h2 : b > 62
    · rw [if_neg h1, if_pos h2]
      exact evFnL_plain (N := 300) (pre := noPre) (C := noC) (os := [(0, false), (0, true)]) (ob := [(decide (b > 62), true), (decide (b < 1), false)]) progOk extSound noC_sound (by kernel_rfl) (by simp [Holds, h1]; omega)
    · rw [if_neg h1, if_neg h2]
      obtain ⟨n, rfl⟩ : ∃ n : Nat, b = (n : Int) + 1 := ⟨(b - 1).toNat, by omega⟩
      have hn : n ≤ 61 := by omega
      have hw' : IntKind.i64.wrap (n : Int) = n := wrap_in (inI_iff.2 (by omega))
      have hw : IntKind.i64.wrap ((n : Int) + 1 - 1) = n := by rw [show (n : Int) + 1 - 1 = n by omega]; exact hw'
      have hu : IntKind.u64.wrap ((n : Int) + 1) = (n : Int) + 1 := wrapU_in (by omega) (by omega)
      have hu0 : IntKind.u64.wrap (n : Int) = (n : Int) := wrapU_in (by omega) (by omega)
      have t1 : min (Int.toNat ((n : Int) + 1)) (IntKind.bits IntKind.i64) = n + 1 := by rw [bits64]; omega
      have t2 : min (Int.toNat (n : Int)) (IntKind.bits IntKind.i64) = n := by rw [bits64]; omega
      have t3 : Int.toNat ((n : Int) + 1) = n + 1 := by omega
      have p0 := pow_pos n
      have p1 := pow_pos (n + 1)
      have q0 := pow_le62 (n := n) (by omega)
      have q1 := pow_le62 (n := n + 1) (by omega)
      have f1 : v.fdiv (2 ^ (n + 1)) = v / 2 ^ (n + 1) := Int.fdiv_eq_ediv_of_nonneg _ (Int.le_of_lt p1)
      have hm0 := mult_in (n := n + 1) hv (by omega)
      have hm : IntKind.i64.wrap (v.fdiv (2 ^ (n + 1)) * 2 ^ (n + 1)) = v.fdiv (2 ^ (n + 1)) * 2 ^ (n + 1) := by rw [f1]; exact wrap_in hm0
      have hd : inI (v - v.fdiv (2 ^ (n + 1)) * 2 ^ (n + 1)) = true := by
        rw [f1]
        have a1 := Int.mul_ediv_add_emod v (2 ^ (n + 1))
        have a2 := Int.emod_nonneg v (Int.ne_of_gt p1)
        have a3 := Int.emod_lt_of_pos v p1
        rw [Int.mul_comm] at a1
        exact inI_iff.2 (by omega)
      have hw1 := wrap_in hd
      have hw2 : IntKind.i64.wrap (2 ^ n) = 2 ^ n := wrap_in (inI_iff.2 (by omega))
      have t4 : min (n + 1) (IntKind.bits IntKind.i64) = n + 1 := by rw [bits64]; omega
      have t5 : min n (IntKind.bits IntKind.i64) = n := by rw [bits64]; omega
      rw [t3, Nat.add_sub_cancel, half_ref]
      by_cases h3 : v - v.fdiv (2 ^ (n + 1)) * 2 ^ (n + 1) ≥ 2 ^ n
      · rw [if_pos h3]
        have h := evFnL_plain (N := 300) (pre := noPre) (C := noC) (os := [(0, false), (0, false), (0, false), (0, false), (0, false), (0, true)]) (f := 46) (args := [.int .i64 v, .int .i64 ((n : Int) + 1)]) (H := [])
          (v := .int .i64 (IntKind.wrap IntKind.i64 (Int.fdiv v (2 ^ min (Int.toNat (IntKind.wrap IntKind.u64 ((n : Int) + 1))) (IntKind.bits IntKind.i64)) + 1)))
          (H' := []) (l := 0) (ob := [(decide (IntKind.wrap IntKind.i64 (v - IntKind.wrap IntKind.i64 (Int.fdiv v (2 ^ min (Int.toNat (IntKind.wrap IntKind.u64 ((n : Int) + 1))) (IntKind.bits IntKind.i64)) * 2 ^ min (Int.toNat (IntKind.wrap IntKind.u64 ((n : Int) + 1))) (IntKind.bits IntKind.i64))) ≥ IntKind.wrap IntKind.i64 (1 * 2 ^ min (Int.toNat (IntKind.wrap IntKind.u64 (IntKind.wrap IntKind.i64 ((n : Int) + 1 - 1)))) (IntKind.bits IntKind.i64))), true),
            (decide (IntKind.wrap IntKind.u64 (IntKind.wrap IntKind.i64 ((n : Int) + 1 - 1)) < 0), false), (decide (IntKind.wrap IntKind.u64 ((n : Int) + 1) < 0), false), (decide (IntKind.wrap IntKind.u64 ((n : Int) + 1) < 0), false), (decide ((n : Int) + 1 > 62), false), (decide ((n : Int) + 1 < 1), false)])
          progOk extSound noC_sound (by kernel_rfl) (by rw [hw, hu, hu0, t1, t2]; rw [hm, hw1, Int.one_mul, hw2]; simp [Holds, h3]; omega)
        rw [hu, t1] at h
        have hq : inI (v.fdiv (2 ^ (n + 1)) + 1) = true := by
          rw [f1]
          have a1 := Int.mul_ediv_add_emod v (2 ^ (n + 1))
          have hm1 := inI_iff.1 hm0
          have e : (2 : Int) ^ (n + 1) = 2 * 2 ^ n := by rw [Int.pow_succ]; omega
          generalize v / 2 ^ (n + 1) = q at *
          generalize (2 : Int) ^ (n + 1) = pp at *
          have hpp : 2 ≤ pp := by omega
          refine inI_iff.2 ⟨?_, ?_⟩
          · refine Int.not_lt.1 fun hlt => ?_
            have : q * pp ≤ q * 2 := Int.mul_le_mul_of_nonpos_left (by omega) hpp
            omega
          · refine Int.not_lt.1 fun hlt => ?_
            have : q * 2 ≤ q * pp := Int.mul_le_mul_of_nonneg_left hpp (by omega)
            omega
        rw [wrap_in hq] at h
        exact h
      · rw [if_neg h3]
        have h := evFnL_plain (N := 300) (pre := noPre) (C := noC) (os := [(0, false), (0, false), (0, false), (0, false), (0, false), (0, false)]) (f := 46) (args := [.int .i64 v, .int .i64 ((n : Int) + 1)]) (H := [])
          (v := .int .i64 (Int.fdiv v (2 ^ min (Int.toNat (IntKind.wrap IntKind.u64 ((n : Int) + 1))) (IntKind.bits IntKind.i64))))
          (H' := []) (l := 0) (ob := [(decide (IntKind.wrap IntKind.i64 (v - IntKind.wrap IntKind.i64 (Int.fdiv v (2 ^ min (Int.toNat (IntKind.wrap IntKind.u64 ((n : Int) + 1))) (IntKind.bits IntKind.i64)) * 2 ^ min (Int.toNat (IntKind.wrap IntKind.u64 ((n : Int) + 1))) (IntKind.bits IntKind.i64))) ≥ IntKind.wrap IntKind.i64 (1 * 2 ^ min (Int.toNat (IntKind.wrap IntKind.u64 (IntKind.wrap IntKind.i64 ((n : Int) + 1 - 1)))) (IntKind.bits IntKind.i64))), false),
            (decide (IntKind.wrap IntKind.u64 (IntKind.wrap IntKind.i64 ((n : Int) + 1 - 1)) < 0), false), (decide (IntKind.wrap IntKind.u64 ((n : Int) + 1) < 0), false), (decide (IntKind.wrap IntKind.u64 ((n : Int) + 1) < 0), false), (decide ((n : Int) + 1 > 62), false), (decide ((n : Int) + 1 < 1), false)])
          progOk extSound noC_sound (by kernel_rfl) (by rw [hw, hu, hu0, t1, t2]; rw [hm, hw1, Int.one_mul, hw2]; simp [Holds, h3]; omega)
        rw [hu, t1] at h
        exact h

end Go.Proofs.Ytfbjpenbpbpcaaa
