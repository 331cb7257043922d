/-
  The evaluator over this seat's program: what is asked of the program, once; the functions without a body.
-/
import Derived.Test.YtfbjpenbpbpcaaaProg
import Derived.KernelRfl
import Derived.Test.YtfbjpenbpbpcaaaZC
import Derived.Test.YtfbjpenbpbpcaaaBk
namespace Go.Proofs.Ytfbjpenbpbpcaaa
open Go Den

set_option maxRecDepth 100000

theorem codes : (Try.prog.funcs.toList.all fun f => match f.body with | some c => codeOk c && !(f.name == "runtime.NumGoroutine") | none => true) = true := by kernel_rfl

theorem progOk : ProgOk Try.prog where
  mixed := by kernel_rfl
  code f fn c hf hb := by
    have h := List.all_eq_true.1 codes fn (by
      have : fn ∈ Try.prog.funcs := Array.mem_of_getElem? hf
      simpa using this)
    rw [hb] at h
    simpa using h
  back := backOk

/-- math/bits.Add64 with no carry coming in. -/
def ext : Ext := fun f args => match f, args with
  | 138, [.int _ x, .int _ y, .int _ c] => if c = 0 then some (.tuple #[.int .u64 (Int.ofNat ((x.toNat + y.toNat + 0) % Extern.MathBitsCarry.m64)), .int .u64 (Int.ofNat ((x.toNat + y.toNat + 0) / Extern.MathBitsCarry.m64))]) else none
  | _, _ => none

theorem add64_run (k l m : IntKind) (x y : Int) (w : World) : (callFunc 138 #[.int k x, .int l y, .int m 0]).run Try.prog w =
    .ok (.value (.tuple #[.int .u64 (Int.ofNat ((x.toNat + y.toNat + 0) % Extern.MathBitsCarry.m64)), .int .u64 (Int.ofNat ((x.toNat + y.toNat + 0) / Extern.MathBitsCarry.m64))])) w := by kernel_rfl

theorem extSound : XSound Try.prog ext := by
  intro f args v h
  unfold ext at h
  split at h
  · split at h
    · rename_i hc
      subst hc
      injection h with h
      subst h
      exact ⟨rfl, fun w => add64_run _ _ _ _ _ w⟩
    · simp at h
  · simp at h

/-- The evaluator, for this program. -/
noncomputable def run (n : Nat) : Oracle := evAll Try.prog ext 300 n

theorem run_sound (n : Nat) : Sound Try.prog (run n) := evAll_sound progOk extSound 300 n

end Go.Proofs.Ytfbjpenbpbpcaaa

/-
  The contracts of the functions of chapter 05 that go round no loop: Round, Mul, Div, and the references'.
-/
namespace Go.Proofs.Ytfbjpenbpbpcaaa
open Go Den
set_option maxRecDepth 100000

def inI (v : Int) : Bool := decide (-9223372036854775808 ≤ v) && decide (v ≤ 9223372036854775807)

theorem inI_iff {v : Int} : inI v = true ↔ -9223372036854775808 ≤ v ∧ v ≤ 9223372036854775807 := by simp [inI]

def roundZ (v b : Int) : Int := if b < 1 then v else if b > 62 then 0 else (v + 2 ^ (b.toNat - 1)) / 2 ^ b.toNat
def withinZ (v l h : Int) : Int := if (if h < v then h else v) > l then (if h < v then h else v) else l
def mulZ (a b y : Int) : Int := roundZ (withinZ a (-2147483648) 2147483648 * withinZ b (-2147483648) 2147483648) y
def divQ (a b : Int) : Int := if b < 1 then 0 else if 0 ≤ a.tmod b then (if b ≤ 2 * a.tmod b then a.tdiv b + 1 else a.tdiv b) else (if b ≤ -2 * a.tmod b then a.tdiv b - 1 else a.tdiv b)
def divE (b : Int) : Int := if b < 1 then 1 else 0

theorem wrap_in {n : Int} (h : inI n = true) : IntKind.i64.wrap n = n := by
  rw [inI_iff] at h
  unfold IntKind.wrap
  simp [IntKind.bits, IntKind.signed]
  omega

theorem and_one (q : Int) : ((BitVec.ofInt (IntKind.bits IntKind.i64) q &&& BitVec.ofInt (IntKind.bits IntKind.i64) 1).toNat : Int) = q % 2 := by
  have h1 : (BitVec.ofInt (IntKind.bits IntKind.i64) 1).toNat = 1 := by decide
  rw [BitVec.toNat_and, h1, Nat.and_one_is_mod, BitVec.toNat_ofInt]
  show (((q % ((2 ^ 64 : Nat) : Int)).toNat % 2 : Nat) : Int) = q % 2
  have : ((2 ^ 64 : Nat) : Int) = 18446744073709551616 := by decide
  rw [this]
  omega

theorem pow_pos (n : Nat) : (0 : Int) < 2 ^ n := Int.pow_pos (by decide)

/-- Halves up, by the bit that falls off last. -/
theorem half_up (v : Int) (n : Nat) : v.fdiv (2 ^ (n + 1)) + (v.fdiv (2 ^ n)) % 2 = (v + 2 ^ n) / 2 ^ (n + 1) := by
  have p0 := pow_pos n
  have e : (2 : Int) ^ (n + 1) = 2 ^ n * 2 := Int.pow_succ 2 n
  rw [Int.fdiv_eq_ediv_of_nonneg _ (Int.le_of_lt (pow_pos _)), Int.fdiv_eq_ediv_of_nonneg _ (Int.le_of_lt p0), e, ← Int.ediv_ediv_of_nonneg (Int.le_of_lt p0), ← Int.ediv_ediv_of_nonneg (Int.le_of_lt p0)]
  have h2 : (v + 2 ^ n) / 2 ^ n = v / 2 ^ n + 1 := by
    rw [Int.add_ediv_of_dvd_right (Int.dvd_refl _), Int.ediv_self (by omega)]
  rw [h2]
  omega


def noPre : Pre := fun _ _ _ => true
def noC : Oracle := fun _ _ _ => none
theorem noC_sound : Sound Try.prog (strict noPre noC) := Sound.strict fun f args H v H' l _ h => by simp [noC] at h

theorem bits64 : IntKind.bits IntKind.i64 = 64 := rfl

theorem round_ok (v b : Int) (hv : inI v = true) (hb : inI b = true) : CallOk Try.prog 45 [.int .i64 v, .int .i64 b] [] (.int .i64 (roundZ v b)) [] 0 := by
  have hb' := inI_iff.1 hb
  have hv' := inI_iff.1 hv
  unfold roundZ
  by_cases h1 : b < 1
  · rw [if_pos h1]
    exact evFnL_plain (N := 300) (pre := noPre) (C := noC) (os := [(0, true)]) (ob := [(decide (b < 1), true)]) progOk extSound noC_sound (by kernel_rfl) (by simp [Holds, h1])
  · by_cases h2 : b > 62
    · rw [if_neg h1, if_pos h2]
      exact evFnL_plain (N := 300) (pre := noPre) (C := noC) (os := [(0, false), (0, true)]) (ob := [(decide (b > 62), true), (decide (b < 1), false)]) progOk extSound noC_sound (by kernel_rfl) (by simp [Holds, h1]; omega)
    · rw [if_neg h1, if_neg h2]
      obtain ⟨n, rfl⟩ : ∃ n : Nat, b = (n : Int) + 1 := ⟨(b - 1).toNat, by omega⟩
      have hw : IntKind.i64.wrap ((n : Int) + 1 - 1) = n := by rw [wrap_in (inI_iff.2 (by omega))]; omega
      have hn : n ≤ 61 := by omega
      have hw' : IntKind.i64.wrap (n : Int) = n := wrap_in (inI_iff.2 (by omega))
      have h := evFnL_plain (N := 300) (pre := noPre) (C := noC) (os := [(0, false), (0, false), (0, false), (0, false)]) (f := 45) (args := [.int .i64 v, .int .i64 ((n : Int) + 1)]) (H := [])
        (v := .int .i64 (IntKind.wrap IntKind.i64 (Int.fdiv v (2 ^ min (Int.toNat ((n : Int) + 1)) (IntKind.bits IntKind.i64)) + IntKind.wrap IntKind.i64 ↑(BitVec.toNat (BitVec.ofInt (IntKind.bits IntKind.i64) (Int.fdiv v (2 ^ min (Int.toNat (IntKind.wrap IntKind.i64 ((n : Int) + 1 - 1))) (IntKind.bits IntKind.i64))) &&& BitVec.ofInt (IntKind.bits IntKind.i64) 1)))))
        (H' := []) (l := 0) (ob := [(decide (IntKind.wrap IntKind.i64 ((n : Int) + 1 - 1) < 0), false), (decide ((n : Int) + 1 < 0), false), (decide ((n : Int) + 1 > 62), false), (decide ((n : Int) + 1 < 1), false)])
        progOk extSound noC_sound (by kernel_rfl) (by simp [Holds, hw']; omega)
      have t1 : min (Int.toNat ((n : Int) + 1)) (IntKind.bits IntKind.i64) = n + 1 := by rw [bits64]; omega
      have t2 : min (Int.toNat (n : Int)) (IntKind.bits IntKind.i64) = n := by rw [bits64]; omega
      have t3 : Int.toNat ((n : Int) + 1) = n + 1 := by omega
      rw [hw, t1, t2, and_one] at h
      rw [t3, Nat.add_sub_cancel, ← half_up]
      have hq : inI (v.fdiv (2 ^ n) % 2) = true := inI_iff.2 (by omega)
      rw [wrap_in hq] at h
      have hq2 : inI (v.fdiv (2 ^ (n + 1)) + v.fdiv (2 ^ n) % 2) = true := by
        rw [half_up, inI_iff]
        have p0 := pow_pos n
        have p1 := pow_pos (n + 1)
        have e : (2 : Int) ^ (n + 1) = 2 ^ n * 2 := Int.pow_succ 2 n
        have a1 := Int.mul_ediv_self_le (x := v + 2 ^ n) (k := 2 ^ (n + 1)) (by omega)
        have a2 := Int.lt_mul_ediv_self_add (x := v + 2 ^ n) (k := 2 ^ (n + 1)) p1
        generalize (v + 2 ^ n) / 2 ^ (n + 1) = q at *
        generalize (2 : Int) ^ (n + 1) = p at *
        generalize (2 : Int) ^ n = r at *
        subst e
        constructor
        · refine Int.not_lt.1 fun hlt => ?_
          have : r * 2 * q ≤ r * 2 * (-9223372036854775809) := Int.mul_le_mul_of_nonneg_left (by omega) (by omega)
          have : r * 2 * (-9223372036854775809) ≤ 1 * 2 * (-9223372036854775809) + (r - 1) * (-9223372036854775809 * 2) := by omega
          omega
        · refine Int.not_lt.1 fun hlt => ?_
          have : r * 2 * 9223372036854775808 ≤ r * 2 * q := Int.mul_le_mul_of_nonneg_left (by omega) (by omega)
          omega
      rw [wrap_in hq2] at h
      exact h

theorem wrapU_in {n : Int} (h : 0 ≤ n) (h' : n ≤ 18446744073709551615) : IntKind.u64.wrap n = n := by
  unfold IntKind.wrap
  simp [IntKind.bits, IntKind.signed]
  omega

/-- The reference: what falls off, against the half. -/
theorem half_ref (v : Int) (n : Nat) : (v + 2 ^ n) / 2 ^ (n + 1) = if v - v.fdiv (2 ^ (n + 1)) * 2 ^ (n + 1) ≥ 2 ^ n then v.fdiv (2 ^ (n + 1)) + 1 else v.fdiv (2 ^ (n + 1)) := by
  have p0 := pow_pos n
  have p1 := pow_pos (n + 1)
  have e : (2 : Int) ^ (n + 1) = 2 * 2 ^ n := by rw [Int.pow_succ]; omega
  rw [Int.fdiv_eq_ediv_of_nonneg _ (Int.le_of_lt p1)]
  have a1 := Int.mul_ediv_add_emod v (2 ^ (n + 1))
  have a2 := Int.emod_nonneg v (Int.ne_of_gt p1)
  have a3 := Int.emod_lt_of_pos v p1
  generalize v / 2 ^ (n + 1) = q at *
  generalize v % 2 ^ (n + 1) = r at *
  have hv : v - q * 2 ^ (n + 1) = r := by rw [← a1, Int.mul_comm q]; omega
  rw [hv]
  split
  · have h : v + 2 ^ n = (r - 2 ^ n) + 2 ^ (n + 1) * (q + 1) := by rw [← a1, Int.mul_add]; omega
    rw [h, Int.add_mul_ediv_left _ _ (Int.ne_of_gt p1), Int.ediv_eq_zero_of_lt (by omega) (by omega)]
    omega
  · have h : v + 2 ^ n = (r + 2 ^ n) + 2 ^ (n + 1) * q := by rw [← a1]; omega
    rw [h, Int.add_mul_ediv_left _ _ (Int.ne_of_gt p1), Int.ediv_eq_zero_of_lt (by omega) (by omega)]
    omega

theorem pow_le62 {n : Nat} (h : n ≤ 62) : (2 : Int) ^ n ≤ 4611686018427387904 := by
  have h1 : (2 : Nat) ^ n ≤ 2 ^ 62 := Nat.pow_le_pow_right (by decide) h
  have h2 : ((2 ^ n : Nat) : Int) ≤ ((2 ^ 62 : Nat) : Int) := Int.ofNat_le.2 h1
  simpa using h2

/-- The greatest multiple of a power of two that is not above a number of 64 bits is one. -/
theorem mult_in {v : Int} {n : Nat} (hv : inI v = true) (hn : n ≤ 63) : inI (v / 2 ^ n * 2 ^ n) = true := by
  have hv' := inI_iff.1 hv
  have p := pow_pos n
  have a1 := Int.mul_ediv_add_emod v (2 ^ n)
  have a2 := Int.emod_nonneg v (Int.ne_of_gt p)
  have a3 := Int.emod_lt_of_pos v p
  have hk : (2 : Int) ^ (63 - n) * 2 ^ n = 9223372036854775808 := by
    rw [← Int.pow_add, Nat.sub_add_cancel hn]
    decide
  rw [Int.mul_comm] at a1
  generalize v / 2 ^ n = q at *
  generalize v % 2 ^ n = r at *
  generalize (2 : Int) ^ (63 - n) = k at *
  generalize (2 : Int) ^ n = p2 at *
  refine inI_iff.2 ⟨?_, by omega⟩
  have h1 : (-k) * p2 < (q + 1) * p2 := by rw [Int.neg_mul, hk, Int.add_mul, Int.one_mul]; omega
  have h2 : -k < q + 1 := Int.lt_of_mul_lt_mul_right h1 (Int.le_of_lt p)
  have h3 : (-k) * p2 ≤ q * p2 := Int.mul_le_mul_of_nonneg_right (by omega) (Int.le_of_lt p)
  rw [Int.neg_mul, hk] at h3
  exact h3

theorem ref_round_ok (v b : Int) (hv : inI v = true) (hb : inI b = true) : CallOk Try.prog 46 [.int .i64 v, .int .i64 b] [] (.int .i64 (roundZ v b)) [] 0 := by
  have hb' := inI_iff.1 hb
  have hv' := inI_iff.1 hv
  unfold roundZ
  by_cases h1 : b < 1
  · rw [if_pos h1]
    exact evFnL_plain (N := 300) (pre := noPre) (C := noC) (os := [(0, true)]) (ob := [(decide (b < 1), true)]) progOk extSound noC_sound (by kernel_rfl) (by simp [Holds, h1])
  · by_cases h2 : b > 62
    · rw [if_neg h1, if_pos h2]
      exact evFnL_plain (N := 300) (pre := noPre) (C := noC) (os := [(0, false), (0, true)]) (ob := [(decide (b > 62), true), (decide (b < 1), false)]) progOk extSound noC_sound (by kernel_rfl) (by simp [Holds, h1]; omega)
    · rw [if_neg h1, if_neg h2]
      obtain ⟨n, rfl⟩ : ∃ n : Nat, b = (n : Int) + 1 := ⟨(b - 1).toNat, by omega⟩
      have hn : n ≤ 61 := by omega
      have hw' : IntKind.i64.wrap (n : Int) = n := wrap_in (inI_iff.2 (by omega))
      have hw : IntKind.i64.wrap ((n : Int) + 1 - 1) = n := by rw [show (n : Int) + 1 - 1 = n by omega]; exact hw'
      have hu : IntKind.u64.wrap ((n : Int) + 1) = (n : Int) + 1 := wrapU_in (by omega) (by omega)
      have hu0 : IntKind.u64.wrap (n : Int) = (n : Int) := wrapU_in (by omega) (by omega)
      have t1 : min (Int.toNat ((n : Int) + 1)) (IntKind.bits IntKind.i64) = n + 1 := by rw [bits64]; omega
      have t2 : min (Int.toNat (n : Int)) (IntKind.bits IntKind.i64) = n := by rw [bits64]; omega
      have t3 : Int.toNat ((n : Int) + 1) = n + 1 := by omega
      have p0 := pow_pos n
      have p1 := pow_pos (n + 1)
      have q0 := pow_le62 (n := n) (by omega)
      have q1 := pow_le62 (n := n + 1) (by omega)
      have f1 : v.fdiv (2 ^ (n + 1)) = v / 2 ^ (n + 1) := Int.fdiv_eq_ediv_of_nonneg _ (Int.le_of_lt p1)
      have hm0 := mult_in (n := n + 1) hv (by omega)
      have hm : IntKind.i64.wrap (v.fdiv (2 ^ (n + 1)) * 2 ^ (n + 1)) = v.fdiv (2 ^ (n + 1)) * 2 ^ (n + 1) := by rw [f1]; exact wrap_in hm0
      have hd : inI (v - v.fdiv (2 ^ (n + 1)) * 2 ^ (n + 1)) = true := by
        rw [f1]
        have a1 := Int.mul_ediv_add_emod v (2 ^ (n + 1))
        have a2 := Int.emod_nonneg v (Int.ne_of_gt p1)
        have a3 := Int.emod_lt_of_pos v p1
        rw [Int.mul_comm] at a1
        exact inI_iff.2 (by omega)
      have hw1 := wrap_in hd
      have hw2 : IntKind.i64.wrap (2 ^ n) = 2 ^ n := wrap_in (inI_iff.2 (by omega))
      have t4 : min (n + 1) (IntKind.bits IntKind.i64) = n + 1 := by rw [bits64]; omega
      have t5 : min n (IntKind.bits IntKind.i64) = n := by rw [bits64]; omega
      rw [t3, Nat.add_sub_cancel, half_ref]
      by_cases h3 : v - v.fdiv (2 ^ (n + 1)) * 2 ^ (n + 1) ≥ 2 ^ n
      · rw [if_pos h3]
        have h := evFnL_plain (N := 300) (pre := noPre) (C := noC) (os := [(0, false), (0, false), (0, false), (0, false), (0, false), (0, true)]) (f := 46) (args := [.int .i64 v, .int .i64 ((n : Int) + 1)]) (H := [])
          (v := .int .i64 (IntKind.wrap IntKind.i64 (Int.fdiv v (2 ^ min (Int.toNat (IntKind.wrap IntKind.u64 ((n : Int) + 1))) (IntKind.bits IntKind.i64)) + 1)))
          (H' := []) (l := 0) (ob := [(decide (IntKind.wrap IntKind.i64 (v - IntKind.wrap IntKind.i64 (Int.fdiv v (2 ^ min (Int.toNat (IntKind.wrap IntKind.u64 ((n : Int) + 1))) (IntKind.bits IntKind.i64)) * 2 ^ min (Int.toNat (IntKind.wrap IntKind.u64 ((n : Int) + 1))) (IntKind.bits IntKind.i64))) ≥ IntKind.wrap IntKind.i64 (1 * 2 ^ min (Int.toNat (IntKind.wrap IntKind.u64 (IntKind.wrap IntKind.i64 ((n : Int) + 1 - 1)))) (IntKind.bits IntKind.i64))), true),
            (decide (IntKind.wrap IntKind.u64 (IntKind.wrap IntKind.i64 ((n : Int) + 1 - 1)) < 0), false), (decide (IntKind.wrap IntKind.u64 ((n : Int) + 1) < 0), false), (decide (IntKind.wrap IntKind.u64 ((n : Int) + 1) < 0), false), (decide ((n : Int) + 1 > 62), false), (decide ((n : Int) + 1 < 1), false)])
          progOk extSound noC_sound (by kernel_rfl) (by rw [hw, hu, hu0, t1, t2]; rw [hm, hw1, Int.one_mul, hw2]; simp [Holds, h3]; omega)
        rw [hu, t1] at h
        have hq : inI (v.fdiv (2 ^ (n + 1)) + 1) = true := by
          rw [f1]
          have a1 := Int.mul_ediv_add_emod v (2 ^ (n + 1))
          have hm1 := inI_iff.1 hm0
          have e : (2 : Int) ^ (n + 1) = 2 * 2 ^ n := by rw [Int.pow_succ]; omega
          generalize v / 2 ^ (n + 1) = q at *
          generalize (2 : Int) ^ (n + 1) = pp at *
          have hpp : 2 ≤ pp := by omega
          refine inI_iff.2 ⟨?_, ?_⟩
          · refine Int.not_lt.1 fun hlt => ?_
            have : q * pp ≤ q * 2 := Int.mul_le_mul_of_nonpos_left (by omega) hpp
            omega
          · refine Int.not_lt.1 fun hlt => ?_
            have : q * 2 ≤ q * pp := Int.mul_le_mul_of_nonneg_left hpp (by omega)
            omega
        rw [wrap_in hq] at h
        exact h
      · rw [if_neg h3]
        have h := evFnL_plain (N := 300) (pre := noPre) (C := noC) (os := [(0, false), (0, false), (0, false), (0, false), (0, false), (0, false)]) (f := 46) (args := [.int .i64 v, .int .i64 ((n : Int) + 1)]) (H := [])
          (v := .int .i64 (Int.fdiv v (2 ^ min (Int.toNat (IntKind.wrap IntKind.u64 ((n : Int) + 1))) (IntKind.bits IntKind.i64))))
          (H' := []) (l := 0) (ob := [(decide (IntKind.wrap IntKind.i64 (v - IntKind.wrap IntKind.i64 (Int.fdiv v (2 ^ min (Int.toNat (IntKind.wrap IntKind.u64 ((n : Int) + 1))) (IntKind.bits IntKind.i64)) * 2 ^ min (Int.toNat (IntKind.wrap IntKind.u64 ((n : Int) + 1))) (IntKind.bits IntKind.i64))) ≥ IntKind.wrap IntKind.i64 (1 * 2 ^ min (Int.toNat (IntKind.wrap IntKind.u64 (IntKind.wrap IntKind.i64 ((n : Int) + 1 - 1)))) (IntKind.bits IntKind.i64))), false),
            (decide (IntKind.wrap IntKind.u64 (IntKind.wrap IntKind.i64 ((n : Int) + 1 - 1)) < 0), false), (decide (IntKind.wrap IntKind.u64 ((n : Int) + 1) < 0), false), (decide (IntKind.wrap IntKind.u64 ((n : Int) + 1) < 0), false), (decide ((n : Int) + 1 > 62), false), (decide ((n : Int) + 1 < 1), false)])
          progOk extSound noC_sound (by kernel_rfl) (by rw [hw, hu, hu0, t1, t2]; rw [hm, hw1, Int.one_mul, hw2]; simp [Holds, h3]; omega)
        rw [hu, t1] at h
        exact h

end Go.Proofs.Ytfbjpenbpbpcaaa

/-
  The contracts of chapter 05, joined: Mul, Div, the references', the chapter's examples.
-/
namespace Go.Proofs.Ytfbjpenbpbpcaaa
open Go Den
set_option maxRecDepth 100000

theorem CallOk.drop {f : FuncId} {args : List Value} {v : Value} {H' : Heap} {l : Nat} (h : CallOk Try.prog f args [] v H' l) (hv : pf 3 v = true) : CallOk Try.prog f args [] v [] 0 := by
  intro ρ w args' hargs hs
  refine (h ρ w args' hargs hs).mono ?_
  rintro e w' ⟨ρ', v', rfl, hvr, hR⟩
  refine ⟨ρ, v', rfl, by rw [pf_eq 3 _ _ hv hvr]; exact pf_self 3 _ hv, Rel.of_quiet hs ⟨hR.os, hR.tape, hR.output, hR.size, fun k hk => hR.keep k hk fun j e0 b0 _ hj => by simp at hj, hR.frozen⟩ 0⟩

theorem of_run {n : Nat} {f : FuncId} {args : List Value} {v : Value} (h : (run n f args []).map (·.1) = some v) (hv : pf 3 v = true) : CallOk Try.prog f args [] v [] 0 := by
  cases hr : run n f args [] with
  | none => rw [hr] at h; simp at h
  | some r =>
    obtain ⟨v', H', l⟩ := r
    rw [hr] at h
    simp at h
    subst h
    exact CallOk.drop (run_sound n f args [] _ H' l hr) hv

theorem within_ok (v l h : Int) : CallOk Try.prog 112 [.int .i64 v, .int .i64 l, .int .i64 h] [] (.int .i64 (withinZ v l h)) [] 0 :=
  evFnL_plain (N := 300) (pre := noPre) (C := noC) (os := []) (ob := []) progOk extSound noC_sound (by kernel_rfl) (by simp [Holds])

def fx1 : Oracle := fun f args H => match H with
  | [] => match f, args with
    | 45, [.int .i64 v, .int .i64 b] => some (.int .i64 (roundZ v b), [], 0)
    | 46, [.int .i64 v, .int .i64 b] => some (.int .i64 (roundZ v b), [], 0)
    | 112, [.int .i64 v, .int .i64 l, .int .i64 h] => some (.int .i64 (withinZ v l h), [], 0)
    | _, _ => none
  | _ => none
def fx1Pre   : Pre := fun f args _ => match f, args with
  | 45, [.int .i64 v, .int .i64 b] => inI v && inI b
  | 46, [.int .i64 v, .int .i64 b] => inI v && inI b
  | _, _ => true

theorem fx1_sound : Sound Try.prog (strict fx1Pre fx1) := by
  refine Sound.strict fun f args H v H' l hp h => ?_
  unfold fx1 at h
  split at h
  · split at h
    · simp only [Option.some.injEq, Prod.mk.injEq] at h; obtain ⟨rfl, rfl, rfl⟩ := h
      simp only [fx1Pre, Bool.and_eq_true] at hp
      exact round_ok _ _ hp.1 hp.2
    · simp only [Option.some.injEq, Prod.mk.injEq] at h; obtain ⟨rfl, rfl, rfl⟩ := h
      simp only [fx1Pre, Bool.and_eq_true] at hp
      exact ref_round_ok _ _ hp.1 hp.2
    · simp only [Option.some.injEq, Prod.mk.injEq] at h; obtain ⟨rfl, rfl, rfl⟩ := h
      exact within_ok _ _ _
    · simp at h
  · simp at h

theorem within_le (v l h : Int) (hlh : l ≤ h) : l ≤ withinZ v l h ∧ withinZ v l h ≤ h := by
  unfold withinZ
  repeat' split
  all_goals omega

theorem prod_in {a b : Int} (ha : -2147483648 ≤ a ∧ a ≤ 2147483648) (hb : -2147483648 ≤ b ∧ b ≤ 2147483648) : -4611686018427387904 ≤ a * b ∧ a * b ≤ 4611686018427387904 := by
  have h := Int.natAbs_mul a b
  have h1 : a.natAbs ≤ 2147483648 := by omega
  have h2 : b.natAbs ≤ 2147483648 := by omega
  have h3 : a.natAbs * b.natAbs ≤ 2147483648 * 2147483648 := Nat.mul_le_mul h1 h2
  omega

theorem mul_in (a b : Int) : inI (withinZ a (-2147483648) 2147483648 * withinZ b (-2147483648) 2147483648) = true := by
  have := prod_in (within_le a (-2147483648) 2147483648 (by decide)) (within_le b (-2147483648) 2147483648 (by decide))
  exact inI_iff.2 (by omega)

theorem mul_ok (a b y : Int) (hy : inI y = true) : CallOk Try.prog 47 [.int .i64 a, .int .i64 b, .int .i64 y] [] (.int .i64 (mulZ a b y)) [] 0 := by
  have h := evFnL_plain (N := 300) (pre := fx1Pre) (C := fx1) (os := [(2, true)]) (f := 47) (args := [.int .i64 a, .int .i64 b, .int .i64 y]) (H := [])
    (v := .int .i64 (roundZ (IntKind.wrap IntKind.i64 (withinZ a (-2147483648) 2147483648 * withinZ b (-2147483648) 2147483648)) y)) (H' := []) (l := 0)
    (ob := [(fx1Pre 45 [.int .i64 (IntKind.wrap IntKind.i64 (withinZ a (-2147483648) 2147483648 * withinZ b (-2147483648) 2147483648)), .int .i64 y] [], true)])
    progOk extSound fx1_sound (by kernel_rfl) (by rw [wrap_in (mul_in a b)]; simp [Holds, fx1Pre, mul_in, hy])
  rw [wrap_in (mul_in a b)] at h
  exact h

theorem clamp_ref (a : Int) : (if 2147483648 < if -2147483648 > a then -2147483648 else a then 2147483648 else if -2147483648 > a then -2147483648 else a) = withinZ a (-2147483648) 2147483648 := by
  unfold withinZ
  repeat' split
  all_goals omega

theorem ref_mul_ok (a b y : Int) (hy : inI y = true) : CallOk Try.prog 48 [.int .i64 a, .int .i64 b, .int .i64 y] [] (.int .i64 (mulZ a b y)) [] 0 := by
  have h := evFnL_plain (N := 300) (pre := fx1Pre) (C := fx1) (os := [(0, true)]) (f := 48) (args := [.int .i64 a, .int .i64 b, .int .i64 y]) (H := [])
    (v := .int .i64 (roundZ (IntKind.wrap IntKind.i64 ((if 2147483648 < if -2147483648 > a then -2147483648 else a then 2147483648 else if -2147483648 > a then -2147483648 else a) * (if 2147483648 < if -2147483648 > b then -2147483648 else b then 2147483648 else if -2147483648 > b then -2147483648 else b))) y)) (H' := []) (l := 0)
    (ob := [(fx1Pre 46 [.int .i64 (IntKind.wrap IntKind.i64 ((if 2147483648 < if -2147483648 > a then -2147483648 else a then 2147483648 else if -2147483648 > a then -2147483648 else a) * (if 2147483648 < if -2147483648 > b then -2147483648 else b then 2147483648 else if -2147483648 > b then -2147483648 else b))), .int .i64 y] [], true)])
    progOk extSound fx1_sound (by kernel_rfl) (by rw [clamp_ref, clamp_ref, wrap_in (mul_in a b)]; simp [Holds, fx1Pre, mul_in, hy])
  rw [clamp_ref, clamp_ref, wrap_in (mul_in a b)] at h
  exact h

/-- What is known of a quotient toward 0 and its rest. -/
theorem tdiv_facts (a b : Int) (hb : 1 ≤ b) : b * a.tdiv b + a.tmod b = a ∧ -b < a.tmod b ∧ a.tmod b < b ∧ (0 ≤ a → 0 ≤ a.tdiv b ∧ a.tdiv b ≤ a ∧ 0 ≤ a.tmod b) ∧ (a < 0 → a.tdiv b ≤ 0 ∧ a ≤ a.tdiv b ∧ a.tmod b ≤ 0) := by
  have key : ∀ c : Int, 0 ≤ c → 0 ≤ c / b ∧ c / b ≤ c ∧ 0 ≤ c % b ∧ c % b < b ∧ b * (c / b) + c % b = c := by
    intro c hc
    have h1 := Int.ediv_nonneg hc (show 0 ≤ b by omega)
    have h2 := Int.emod_nonneg c (show b ≠ 0 by omega)
    have h3 := Int.emod_lt_of_pos c (show 0 < b by omega)
    have h4 := Int.mul_ediv_add_emod c b
    have h5 : 1 * (c / b) ≤ b * (c / b) := Int.mul_le_mul_of_nonneg_right hb h1
    exact ⟨h1, by omega, h2, h3, h4⟩
  have h0 := Int.mul_tdiv_add_tmod a b
  rcases Int.lt_or_le a 0 with ha | ha
  case inr =>
    obtain ⟨h1, h2, h3, h4, h5⟩ := key a ha
    have e1 : a.tdiv b = a / b := Int.tdiv_eq_ediv_of_nonneg ha
    have e2 : a.tmod b = a % b := Int.tmod_eq_emod_of_nonneg ha
    rw [e1, e2]
    exact ⟨h5, by omega, by omega, fun _ => ⟨by omega, by omega, by omega⟩, fun h => by omega⟩
  case inl =>
    obtain ⟨h1, h2, h3, h4, h5⟩ := key (-a) (by omega)
    have e1 : a.tdiv b = -((-a) / b) := by rw [← Int.tdiv_eq_ediv_of_nonneg (by omega), Int.neg_tdiv]; omega
    have e2 : a.tmod b = -((-a) % b) := by rw [← Int.tmod_eq_emod_of_nonneg (by omega), Int.neg_tmod]; omega
    rw [e1, e2] at h0 ⊢
    exact ⟨h0, by omega, by omega, fun h => ⟨by omega, by omega, by omega⟩, fun _ => ⟨by omega, by omega, by omega⟩⟩

def rp (n : Nat) (p : Bool × Bool) : Obs := List.replicate n p

theorem holds_rp {n : Nat} {p : Bool × Bool} {l : Obs} (h : p.1 = p.2) (hl : Holds l) : Holds (rp n p ++ l) := by
  intro q hq
  rcases List.mem_append.1 hq with hq | hq
  · have := (List.mem_replicate.1 hq).2
    subst this; exact h
  · exact hl q hq

theorem holds_cons {p : Bool × Bool} {l : Obs} (h : p.1 = p.2) (hl : Holds l) : Holds (p :: l) := by
  intro q hq
  rcases List.mem_cons.1 hq with rfl | hq
  · exact h
  · exact hl q hq

theorem holds_nil : Holds [] := fun p hp => by simp at hp

theorem div_ok (a b : Int) (ha : inI a = true) (hb : inI b = true) : CallOk Try.prog 43 [.int .i64 a, .int .i64 b] [] (.tuple #[.int .i64 (divQ a b), .int .i64 (divE b)]) [] 0 := by
  have ha' := inI_iff.1 ha
  have hb' := inI_iff.1 hb
  unfold divQ divE
  by_cases h1 : b < 1
  · rw [if_pos h1, if_pos h1]
    exact evFnL_plain (N := 300) (pre := noPre) (C := noC) (os := [(0, true)]) (ob := [(decide (b < 1), true)]) progOk extSound noC_sound (by kernel_rfl) (by simp [Holds, h1])
  · rw [if_neg h1, if_neg h1]
    obtain ⟨t0, t1, t2, t3, t4⟩ := tdiv_facts a b (by omega)
    have hb0 : ¬ b = 0 := by omega
    have e1 : IntKind.i64.wrap (a.tdiv b) = a.tdiv b := wrap_in (inI_iff.2 (by rcases Int.lt_or_le a 0 with h | h <;> omega))
    have e2 : IntKind.i64.wrap (b - a.tmod b) = b - a.tmod b ∨ a.tmod b < 0 := by
      by_cases h : a.tmod b < 0
      · exact .inr h
      · exact .inl (wrap_in (inI_iff.2 (by omega)))
    have e3 : IntKind.i64.wrap (b + a.tmod b) = b + a.tmod b ∨ 0 < a.tmod b := by
      by_cases h : 0 < a.tmod b
      · exact .inr h
      · exact .inl (wrap_in (inI_iff.2 (by omega)))
    have e4 : IntKind.i64.wrap (0 - a.tmod b) = 0 - a.tmod b := wrap_in (inI_iff.2 (by omega))
    -- a quotient that is not the greatest
    have e5 : ∀ d : Int, (d = 1 ∧ 0 < a.tmod b ∨ d = -1 ∧ a.tmod b < 0) → IntKind.i64.wrap (a.tdiv b + d) = a.tdiv b + d := by
      intro d hd
      refine wrap_in (inI_iff.2 ?_)
      have h6 : 2 ≤ b := by omega
      rcases Int.le_total 0 (a.tdiv b) with h | h
      · have : 2 * a.tdiv b ≤ b * a.tdiv b := Int.mul_le_mul_of_nonneg_right h6 h
        omega
      · have : b * a.tdiv b ≤ 2 * a.tdiv b := Int.mul_le_mul_of_nonpos_right h6 h
        omega
    generalize hr : a.tmod b = r at *
    generalize hq : a.tdiv b = q at *
    by_cases hpos : r > 0
    · rw [if_pos (by omega)]
      have w2 : IntKind.i64.wrap (b - r) = b - r := by rcases e2 with h | h; exact h; omega
      by_cases hh : b ≤ 2 * r
      · rw [if_pos hh]
        have h := evFnL_plain (N := 300) (pre := noPre) (C := noC) (os := [(0, false), (0, false), (0, false), (0, true), (0, true), (0, true), (0, true), (0, true), (0, true)]) (f := 43) (args := [.int .i64 a, .int .i64 b]) (H := [])
          (v := .tuple #[.int .i64 (IntKind.i64.wrap (IntKind.i64.wrap (a.tdiv b) + 1)), .int .i64 0]) (H' := []) (l := 0)
          (ob := (bif decide (a.tmod b > 0) then decide (a.tmod b ≥ IntKind.i64.wrap (b - a.tmod b)) else false, true) :: (rp 5 (decide (a.tmod b > 0) == true, true) ++ (rp 2 (decide (b = 0), false) ++ [(decide (b < 1), false)])))
          progOk extSound noC_sound (by kernel_rfl) (by
            rw [hr, w2]
            exact holds_cons (by simp [hpos]; omega) (holds_rp (by simp [hpos]) (holds_rp (by simp [hb0]) (by simp [Holds]; omega))))
        rw [hq, e1, e5 1 (by omega)] at h
        exact h
      · rw [if_neg hh]
        have h := evFnL_plain (N := 300) (pre := noPre) (C := noC) (os := [(0, false), (0, false), (0, false), (0, true), (0, true), (0, true), (0, true), (0, true), (0, false), (0, false), (0, false), (0, false), (0, false), (0, false), (0, false), (0, false)]) (f := 43) (args := [.int .i64 a, .int .i64 b]) (H := [])
          (v := .tuple #[.int .i64 (IntKind.i64.wrap (a.tdiv b)), .int .i64 0]) (H' := []) (l := 0)
          (ob := (decide (a.tmod b < 0), false) :: (rp 6 (decide (a.tmod b < 0) == true, false) ++ ((bif decide (a.tmod b > 0) then decide (a.tmod b ≥ IntKind.i64.wrap (b - a.tmod b)) else false, false) :: (rp 5 (decide (a.tmod b > 0) == true, true) ++ (rp 2 (decide (b = 0), false) ++ [(decide (b < 1), false)])))))
          progOk extSound noC_sound (by kernel_rfl) (by
            rw [hr, w2]
            have hn : ¬ r < 0 := by omega
            exact holds_cons (by simp; omega) (holds_rp (by simp; omega) (holds_cons (by simp [hpos]; omega) (holds_rp (by simp [hpos]) (holds_rp (by simp [hb0]) (by simp [Holds]; omega))))))
        rw [hq, e1] at h
        exact h
    · by_cases hneg : r < 0
      · rw [if_neg (by omega)]
        have w3 : IntKind.i64.wrap (b + r) = b + r := by rcases e3 with h | h; exact h; omega
        by_cases hh : b ≤ -2 * r
        · rw [if_pos hh]
          have h := evFnL_plain (N := 300) (pre := noPre) (C := noC) (os := [(0, false), (0, false), (0, false), (0, false), (0, false), (0, false), (0, false), (0, false), (0, false), (1, true), (0, true), (0, true), (0, true), (0, true), (0, true), (0, true)]) (f := 43) (args := [.int .i64 a, .int .i64 b]) (H := [])
            (v := .tuple #[.int .i64 (IntKind.i64.wrap (IntKind.i64.wrap (a.tdiv b) - 1)), .int .i64 0]) (H' := []) (l := 0)
            (ob := (bif decide (a.tmod b < 0) then decide (IntKind.i64.wrap (0 - a.tmod b) ≥ IntKind.i64.wrap (b + a.tmod b)) else false, true) :: (rp 6 (decide (a.tmod b < 0) == true, true) ++ ((decide (a.tmod b > 0), false) :: (rp 5 (decide (a.tmod b > 0) == true, false) ++ (rp 2 (decide (b = 0), false) ++ [(decide (b < 1), false)])))))
            progOk extSound noC_sound (by kernel_rfl) (by
              rw [hr, w3, e4]
              exact holds_cons (by simp [hneg]; omega) (holds_rp (by simp [hneg]) (holds_cons (by simp; omega) (holds_rp (by simp; omega) (holds_rp (by simp [hb0]) (by simp [Holds]; omega))))))
          rw [hq, e1, show q - 1 = q + -1 by omega, e5 (-1) (by omega)] at h
          exact h
        · rw [if_neg hh]
          have h := evFnL_plain (N := 300) (pre := noPre) (C := noC) (os := [(0, false), (0, false), (0, false), (0, false), (0, false), (0, false), (0, false), (0, false), (0, false), (1, true), (0, true), (0, true), (0, true), (0, true), (0, true), (0, false)]) (f := 43) (args := [.int .i64 a, .int .i64 b]) (H := [])
            (v := .tuple #[.int .i64 (IntKind.i64.wrap (a.tdiv b)), .int .i64 0]) (H' := []) (l := 0)
            (ob := (bif decide (a.tmod b < 0) then decide (IntKind.i64.wrap (0 - a.tmod b) ≥ IntKind.i64.wrap (b + a.tmod b)) else false, false) :: (rp 6 (decide (a.tmod b < 0) == true, true) ++ ((decide (a.tmod b > 0), false) :: (rp 5 (decide (a.tmod b > 0) == true, false) ++ (rp 2 (decide (b = 0), false) ++ [(decide (b < 1), false)])))))
            progOk extSound noC_sound (by kernel_rfl) (by
              rw [hr, w3, e4]
              exact holds_cons (by simp [hneg]; omega) (holds_rp (by simp [hneg]) (holds_cons (by simp; omega) (holds_rp (by simp; omega) (holds_rp (by simp [hb0]) (by simp [Holds]; omega))))))
          rw [hq, e1] at h
          exact h
      · have hz : r = 0 := by omega
        rw [if_pos (by omega), if_neg (by omega)]
        have h := evFnL_plain (N := 300) (pre := noPre) (C := noC) (os := [(0, false), (0, false), (0, false), (0, false), (0, false), (0, false), (0, false), (0, false), (0, false), (1, false), (0, false), (0, false), (0, false), (0, false), (0, false), (0, false)]) (f := 43) (args := [.int .i64 a, .int .i64 b]) (H := [])
          (v := .tuple #[.int .i64 (IntKind.i64.wrap (a.tdiv b)), .int .i64 0]) (H' := []) (l := 0)
          (ob := (decide (a.tmod b < 0), false) :: (rp 6 (decide (a.tmod b < 0) == true, false) ++ ((decide (a.tmod b > 0), false) :: (rp 5 (decide (a.tmod b > 0) == true, false) ++ (rp 2 (decide (b = 0), false) ++ [(decide (b < 1), false)])))))
          progOk extSound noC_sound (by kernel_rfl) (by
            rw [hr]
            exact holds_cons (by simp; omega) (holds_rp (by simp; omega) (holds_cons (by simp; omega) (holds_rp (by simp; omega) (holds_rp (by simp [hb0]) (by simp [Holds]; omega))))))
        rw [hq, e1] at h
        exact h

theorem ref_div_ok (a b : Int) (ha : inI a = true) (hb : inI b = true) : CallOk Try.prog 44 [.int .i64 a, .int .i64 b] [] (.tuple #[.int .i64 (divQ a b), .int .i64 (divE b)]) [] 0 := by
  have ha' := inI_iff.1 ha
  have hb' := inI_iff.1 hb
  unfold divQ divE
  by_cases h1 : b < 1
  · rw [if_pos h1, if_pos h1]
    exact evFnL_plain (N := 300) (pre := noPre) (C := noC) (os := [(0, true)]) (ob := [(decide (b < 1), true)]) progOk extSound noC_sound (by kernel_rfl) (by simp [Holds, h1])
  · rw [if_neg h1, if_neg h1]
    obtain ⟨t0, t1, t2, t3, t4⟩ := tdiv_facts a b (by omega)
    have hb0 : ¬ b = 0 := by omega
    have e1 : IntKind.i64.wrap (a.tdiv b) = a.tdiv b := wrap_in (inI_iff.2 (by rcases Int.lt_or_le a 0 with h | h <;> omega))
    have e5 : ∀ d : Int, (d = 1 ∧ 0 < a.tmod b ∨ d = -1 ∧ a.tmod b < 0) → IntKind.i64.wrap (a.tdiv b + d) = a.tdiv b + d := by
      intro d hd
      refine wrap_in (inI_iff.2 ?_)
      have h6 : 2 ≤ b := by omega
      rcases Int.le_total 0 (a.tdiv b) with h | h
      · have : 2 * a.tdiv b ≤ b * a.tdiv b := Int.mul_le_mul_of_nonneg_right h6 h
        omega
      · have : b * a.tdiv b ≤ 2 * a.tdiv b := Int.mul_le_mul_of_nonpos_right h6 h
        omega
    generalize hr : a.tmod b = r at *
    generalize hq : a.tdiv b = q at *
    by_cases hneg : r < 0
    · rw [if_neg (by omega)]
      have w1 : IntKind.i64.wrap (0 - r) = 0 - r := wrap_in (inI_iff.2 (by omega))
      have w2 : IntKind.i64.wrap (b - (0 - r)) = b - (0 - r) := wrap_in (inI_iff.2 (by omega))
      by_cases hh : b ≤ -2 * r
      · rw [if_pos hh]
        have h := evFnL_plain (N := 300) (pre := noPre) (C := noC) (os := [(0, false), (0, false), (0, false), (0, true), (0, true), (0, true)]) (f := 44) (args := [.int .i64 a, .int .i64 b]) (H := [])
          (v := .tuple #[.int .i64 (IntKind.i64.wrap (IntKind.i64.wrap (a.tdiv b) - 1)), .int .i64 0]) (H' := []) (l := 0)
          (ob := (decide (a < 0), true) :: (decide (IntKind.i64.wrap (0 - a.tmod b) ≥ IntKind.i64.wrap (b - IntKind.i64.wrap (0 - a.tmod b))), true) :: (decide (a.tmod b < 0), true) :: (rp 2 (decide (b = 0), false) ++ [(decide (b < 1), false)]))
          progOk extSound noC_sound (by kernel_rfl) (by
            rw [hr, w1, w2]
            exact holds_cons (by simp; omega) (holds_cons (by simp; omega) (holds_cons (by simp; omega) (holds_rp (by simp [hb0]) (by simp [Holds]; omega)))))
        rw [hq, e1, show q - 1 = q + -1 by omega, e5 (-1) (by omega)] at h
        exact h
      · rw [if_neg hh]
        have h := evFnL_plain (N := 300) (pre := noPre) (C := noC) (os := [(0, false), (0, false), (0, false), (0, true), (0, false)]) (f := 44) (args := [.int .i64 a, .int .i64 b]) (H := [])
          (v := .tuple #[.int .i64 (IntKind.i64.wrap (a.tdiv b)), .int .i64 0]) (H' := []) (l := 0)
          (ob := (decide (IntKind.i64.wrap (0 - a.tmod b) ≥ IntKind.i64.wrap (b - IntKind.i64.wrap (0 - a.tmod b))), false) :: (decide (a.tmod b < 0), true) :: (rp 2 (decide (b = 0), false) ++ [(decide (b < 1), false)]))
          progOk extSound noC_sound (by kernel_rfl) (by
            rw [hr, w1, w2]
            exact holds_cons (by simp; omega) (holds_cons (by simp; omega) (holds_rp (by simp [hb0]) (by simp [Holds]; omega))))
        rw [hq, e1] at h
        exact h
    · rw [if_pos (by omega)]
      have w2 : IntKind.i64.wrap (b - r) = b - r := wrap_in (inI_iff.2 (by omega))
      by_cases hh : b ≤ 2 * r
      · rw [if_pos hh]
        have h := evFnL_plain (N := 300) (pre := noPre) (C := noC) (os := [(0, false), (0, false), (0, false), (0, false), (0, true), (0, false)]) (f := 44) (args := [.int .i64 a, .int .i64 b]) (H := [])
          (v := .tuple #[.int .i64 (IntKind.i64.wrap (IntKind.i64.wrap (a.tdiv b) + 1)), .int .i64 0]) (H' := []) (l := 0)
          (ob := (decide (a < 0), false) :: (decide (a.tmod b ≥ IntKind.i64.wrap (b - a.tmod b)), true) :: (decide (a.tmod b < 0), false) :: (rp 2 (decide (b = 0), false) ++ [(decide (b < 1), false)]))
          progOk extSound noC_sound (by kernel_rfl) (by
            rw [hr, w2]
            have hna : ¬ a < 0 := fun h => by have := t4 h; omega
            exact holds_cons (by simp; omega) (holds_cons (by simp; omega) (holds_cons (by simp; omega) (holds_rp (by simp [hb0]) (by simp [Holds]; omega)))))
        rw [hq, e1, e5 1 (by omega)] at h
        exact h
      · rw [if_neg hh]
        have h := evFnL_plain (N := 300) (pre := noPre) (C := noC) (os := [(0, false), (0, false), (0, false), (0, false), (0, false)]) (f := 44) (args := [.int .i64 a, .int .i64 b]) (H := [])
          (v := .tuple #[.int .i64 (IntKind.i64.wrap (a.tdiv b)), .int .i64 0]) (H' := []) (l := 0)
          (ob := (decide (a.tmod b ≥ IntKind.i64.wrap (b - a.tmod b)), false) :: (decide (a.tmod b < 0), false) :: (rp 2 (decide (b = 0), false) ++ [(decide (b < 1), false)]))
          progOk extSound noC_sound (by kernel_rfl) (by
            rw [hr, w2]
            exact holds_cons (by simp; omega) (holds_cons (by simp; omega) (holds_rp (by simp [hb0]) (by simp [Holds]; omega))))
        rw [hq, e1] at h
        exact h

theorem live5_ok : CallOk Try.prog 42 [] [] (.bool true) [] 0 := of_run (n := 10) (by kernel_rfl) rfl

def fx2 : Oracle := fun f args H => match H with
  | [] => match f, args with
    | 42, [] => some (.bool true, [], 0)
    | 43, [.int .i64 a, .int .i64 b] => some (.tuple #[.int .i64 (divQ a b), .int .i64 (divE b)], [], 0)
    | 44, [.int .i64 a, .int .i64 b] => some (.tuple #[.int .i64 (divQ a b), .int .i64 (divE b)], [], 0)
    | 45, [.int .i64 v, .int .i64 b] => some (.int .i64 (roundZ v b), [], 0)
    | 46, [.int .i64 v, .int .i64 b] => some (.int .i64 (roundZ v b), [], 0)
    | 47, [.int .i64 a, .int .i64 b, .int .i64 y] => some (.int .i64 (mulZ a b y), [], 0)
    | 48, [.int .i64 a, .int .i64 b, .int .i64 y] => some (.int .i64 (mulZ a b y), [], 0)
    | _, _ => none
  | _ => none
def fx2Pre   : Pre := fun f args _ => match f, args with
  | 43, [.int .i64 v, .int .i64 b] => inI v && inI b
  | 44, [.int .i64 v, .int .i64 b] => inI v && inI b
  | 45, [.int .i64 v, .int .i64 b] => inI v && inI b
  | 46, [.int .i64 v, .int .i64 b] => inI v && inI b
  | 47, [.int .i64 _, .int .i64 _, .int .i64 y] => inI y
  | 48, [.int .i64 _, .int .i64 _, .int .i64 y] => inI y
  | _, _ => true

theorem fx2_sound : Sound Try.prog (strict fx2Pre fx2) := by
  refine Sound.strict fun f args H v H' l hp h => ?_
  unfold fx2 at h
  split at h
  · split at h
    all_goals first | (simp at h; done) | (simp only [Option.some.injEq, Prod.mk.injEq] at h; obtain ⟨rfl, rfl, rfl⟩ := h; simp only [fx2Pre, Bool.and_eq_true] at hp)
    · exact live5_ok
    · exact div_ok _ _ hp.1 hp.2
    · exact ref_div_ok _ _ hp.1 hp.2
    · exact round_ok _ _ hp.1 hp.2
    · exact ref_round_ok _ _ hp.1 hp.2
    · exact mul_ok _ _ _ hp
    · exact ref_mul_ok _ _ _ hp
  · simp at h

end Go.Proofs.Ytfbjpenbpbpcaaa

/-
  The contracts of chapter 05 that saturate: Sat, and the reference's.
-/
namespace Go.Proofs.Ytfbjpenbpbpcaaa
open Go Den
set_option maxRecDepth 100000

/-- The greatest number of so many bits, the bits held between 1 and 62. -/
def topZ (b : Int) : Int := 2 ^ ((withinZ b 1 62).toNat - 1) - 1
def satZ (v b : Int) : Int := withinZ v (-(topZ b) - 1) (topZ b)

theorem bits_le (b : Int) : 1 ≤ withinZ b 1 62 ∧ withinZ b 1 62 ≤ 62 := within_le b 1 62 (by decide)
theorem top_le (b : Int) : 0 ≤ topZ b ∧ topZ b ≤ 2305843009213693951 := by
  unfold topZ
  have h := bits_le b
  have p := pow_pos ((withinZ b 1 62).toNat - 1)
  have h2 : (2 : Nat) ^ ((withinZ b 1 62).toNat - 1) ≤ 2 ^ 61 := Nat.pow_le_pow_right (by decide) (by omega)
  have h3 : ((2 ^ ((withinZ b 1 62).toNat - 1) : Nat) : Int) ≤ ((2 ^ 61 : Nat) : Int) := Int.ofNat_le.2 h2
  simp at h3
  omega

theorem xor_all (x : Int) (hx : inI x = true) : IntKind.i64.wrap ((BitVec.toNat (BitVec.ofInt (IntKind.bits IntKind.i64) (if IntKind.signed IntKind.i64 = true then -1 else IntKind.max IntKind.i64) ^^^ BitVec.ofInt (IntKind.bits IntKind.i64) x) : Nat) : Int) = -x - 1 := by
  have h1 : BitVec.ofInt (IntKind.bits IntKind.i64) (if IntKind.signed IntKind.i64 = true then -1 else IntKind.max IntKind.i64) = BitVec.allOnes 64 := by
    show BitVec.ofInt 64 (-1) = BitVec.allOnes 64
    decide
  rw [h1]
  show IntKind.i64.wrap (((BitVec.allOnes 64 ^^^ BitVec.ofInt 64 x).toNat : Nat) : Int) = -x - 1
  rw [BitVec.allOnes_xor, BitVec.toNat_not, BitVec.toNat_ofInt]
  have hx' := inI_iff.1 hx
  have e : ((2 ^ 64 : Nat) : Int) = 18446744073709551616 := by decide
  rw [e]
  have e2 : (((2 ^ 64 - 1 - (x % 18446744073709551616).toNat : Nat)) : Int) = 18446744073709551615 - x % 18446744073709551616 := by omega
  rw [e2]
  unfold IntKind.wrap
  simp [IntKind.bits, IntKind.signed]
  omega

theorem sat_ok (v b : Int) : CallOk Try.prog 49 [.int .i64 v, .int .i64 b] [] (.int .i64 (satZ v b)) [] 0 := by
  have hb := bits_le b
  have w1 : IntKind.i64.wrap (withinZ b 1 62 - 1) = withinZ b 1 62 - 1 := wrap_in (inI_iff.2 (by omega))
  have ht := top_le b
  have h := evFnL_plain (N := 300) (pre := fx1Pre) (C := fx1) (f := 49) (args := [.int .i64 v, .int .i64 b]) (H := []) (os := [(1, false)])
    (v := .int .i64 (withinZ v (IntKind.wrap IntKind.i64 ↑(BitVec.toNat (BitVec.ofInt (IntKind.bits IntKind.i64) (if IntKind.signed IntKind.i64 = true then -1 else IntKind.max IntKind.i64) ^^^ BitVec.ofInt (IntKind.bits IntKind.i64) (IntKind.wrap IntKind.i64 (IntKind.wrap IntKind.i64 (1 * 2 ^ min (Int.toNat (IntKind.wrap IntKind.i64 (withinZ b 1 62 - 1))) (IntKind.bits IntKind.i64)) - 1))))) (IntKind.wrap IntKind.i64 (IntKind.wrap IntKind.i64 (1 * 2 ^ min (Int.toNat (IntKind.wrap IntKind.i64 (withinZ b 1 62 - 1))) (IntKind.bits IntKind.i64)) - 1))))
    (H' := []) (l := 0) (ob := [(decide (IntKind.wrap IntKind.i64 (withinZ b 1 62 - 1) < 0), false)]) progOk extSound fx1_sound (by kernel_rfl) (by rw [w1]; simp [Holds]; omega)
  have e1 : min (Int.toNat (withinZ b 1 62 - 1)) (IntKind.bits IntKind.i64) = (withinZ b 1 62).toNat - 1 := by rw [bits64]; omega
  have e2 : (2 : Int) ^ ((withinZ b 1 62).toNat - 1) = topZ b + 1 := by unfold topZ; omega
  rw [w1, e1, Int.one_mul, e2, wrap_in (n := topZ b + 1) (inI_iff.2 (by omega)), show topZ b + 1 - 1 = topZ b by omega, wrap_in (n := topZ b) (inI_iff.2 (by omega)), xor_all _ (inI_iff.2 (by omega))] at h
  exact h

theorem Sub.of_list {G F : Slots} (h : ∀ p ∈ G, at? p.1 F = some p.2) : Sub G F := by
  induction G with
  | nil => intro t v h; simp [at?] at h
  | cons p G ih =>
    obtain ⟨k, u⟩ := p
    intro t v hv
    simp only [at?] at hv
    split at hv
    · rename_i hb
      have : k = t := Nat.eq_of_beq_eq_true hb
      subst this
      rw [h (k, u) (by simp), hv]
    · exact ih (fun p hp => h p (by simp [hp])) t v hv

theorem noC_sound' : Sound Try.prog (strict noPre noC) := noC_sound

/-! The reference's loop: the least number, doubled so many times. -/
def satLoop : Loops := { loop := fun id s => match id with
  | 4 => match at? 0 s.F, at? 5 s.F, at? 10 s.F, at? 11 s.F with
    | some (.int .i64 v), some (.int .i64 p), some (.int .i64 m), some (.int .i64 i) => some (.exit 0, ⟨[(5, .int .i64 (-(2 ^ m.toNat))), (0, .int .i64 v)], s.H, s.lo⟩, [(decide (p = -1), true), (decide (i = 0), true), (decide (0 ≤ m), true), (decide (m ≤ 61), true)])
    | _, _, _, _ => none
  | _ => none }

theorem codeOk63 : codeOk (loopAt Try.prog 63 0) = true := by kernel_rfl

theorem satLoop_ok : LoopsOk Try.prog 23 satLoop (bodyOf Try.prog 63) := by
  refine LoopsOk.one (b := loopAt Try.prog 63 0) (by kernel_rfl) fun s x s' o h hh => ?_
  rw [show firstId (loopAt Try.prog 63 0) = 4 by kernel_rfl] at h
  simp only [satLoop] at h
  split at h
  case h_2 => simp at h
  rename_i v p m i h0 h5 h10 h11
  simp only [Option.some.injEq, Prod.mk.injEq] at h
  obtain ⟨rfl, rfl, rfl⟩ := h
  simp [Holds] at hh
  obtain ⟨rfl, rfl, hm0, hm1⟩ := hh
  have hw := WP.loop (P := Try.prog) (nt := 23) (b := loopAt Try.prog 63 0) (fun i => ⟨[(5, .int .i64 (-(2 ^ i))), (10, .int .i64 m), (11, .int .i64 i), (0, .int .i64 v)], s.H, s.lo⟩) m.toNat (x := .exit 0) (s' := ⟨[(5, .int .i64 (-(2 ^ m.toNat))), (10, .int .i64 m), (11, .int .i64 m.toNat), (0, .int .i64 v)], s.H, s.lo⟩) (by simp)
    (fun i hi => by
      have hp : (2 : Int) ^ i ≤ 4611686018427387904 := pow_le62 (by omega)
      have := pow_pos i
      have h := WP.run (P := Try.prog) (X := ext) (pre := noPre) (C := noC) (L := noLoops) (N := 300) (nt := 23) progOk extSound noC_sound codeOk63 noLoops_ok (F := [(5, .int .i64 (-(2 ^ i))), (10, .int .i64 m), (11, .int .i64 i), (0, .int .i64 v)]) (H := s.H) (lo := s.lo) (os := [(0, true)]) [5, 10, 11, 0]
        (x := .normal) (F' := [(5, Value.int IntKind.i64 (IntKind.wrap IntKind.i64 (-(2 ^ i) * 2))), (10, Value.int IntKind.i64 m), (11, Value.int IntKind.i64 (IntKind.wrap IntKind.i64 (i + 1))), (0, Value.int IntKind.i64 v)]) (H' := s.H) (lo' := s.lo) (ob := [(decide ((i : Int) < m), true)]) (by kernel_rfl) (by simp [Holds]; omega)
      rw [wrap_in (n := -(2 ^ i) * 2) (inI_iff.2 (by omega)), wrap_in (n := (i : Int) + 1) (inI_iff.2 (by omega)), show -(2 : Int) ^ i * 2 = -(2 ^ (i + 1)) by rw [Int.pow_succ]; omega] at h
      exact h)
    (WP.run (P := Try.prog) (X := ext) (pre := noPre) (C := noC) (L := noLoops) (N := 300) (nt := 23) progOk extSound noC_sound codeOk63 noLoops_ok (os := [(0, false)]) [5, 10, 11, 0] (ob := [(decide ((m.toNat : Int) < m), false)]) (by kernel_rfl) (by simp [Holds]; omega))
  refine WP.weaken hw (Sub.of_list ?_) (Sub.of_list (by simp [at?, Nat.beq]))
  simp [h0, h5, h10, h11]

end Go.Proofs.Ytfbjpenbpbpcaaa

/-
  Chapter 05's roots: how long a number is (math/bits.Len64), Sqrt, and the reference's, bit by bit.
-/
namespace Go.Proofs.Ytfbjpenbpbpcaaa
open Go Den
set_option maxRecDepth 100000
set_option linter.unusedSimpArgs false

/-- How many bits a number has. -/
def lenZ (n : Int) : Int := if n ≤ 0 then 0 else ((Nat.log2 n.toNat + 1 : Nat) : Int)

theorem lenZ_eq {n : Int} {k : Nat} (h1 : (2 : Int) ^ k ≤ n) (h2 : n < 2 ^ (k + 1)) : lenZ n = k + 1 := by
  have p := pow_pos k
  unfold lenZ
  rw [if_neg (by omega)]
  obtain ⟨m, rfl⟩ : ∃ m : Nat, n = m := ⟨n.toNat, by omega⟩
  have c1 : ((2 ^ k : Nat) : Int) ≤ m := by simpa using h1
  have c2 : (m : Int) < ((2 ^ (k + 1) : Nat) : Int) := by simpa using h2
  have d1 : 2 ^ k ≤ m := by omega
  have d2 : m < 2 ^ (k + 1) := by omega
  have hm : m ≠ 0 := by have := Nat.pow_pos (a := 2) (n := k) (by decide); omega
  have e1 := (Nat.le_log2 hm).2 d1
  have e2 := (Nat.log2_lt hm).2 d2
  simp only [Int.toNat_natCast]
  omega

theorem lenZ_spec {n : Int} (h : 0 < n) : ∃ k : Nat, lenZ n = k + 1 ∧ (2 : Int) ^ k ≤ n ∧ n < 2 ^ (k + 1) := by
  obtain ⟨m, rfl⟩ : ∃ m : Nat, n = m := ⟨n.toNat, by omega⟩
  have hm : m ≠ 0 := by omega
  have e1 : 2 ^ m.log2 ≤ m := (Nat.le_log2 hm).1 (Nat.le_refl _)
  have e2 : m < 2 ^ (m.log2 + 1) := (Nat.log2_lt hm).1 (Nat.lt_succ_self _)
  have c1 : ((2 ^ m.log2 : Nat) : Int) ≤ m := by omega
  have c2 : (m : Int) < ((2 ^ (m.log2 + 1) : Nat) : Int) := by omega
  have d1 : (2 : Int) ^ m.log2 ≤ m := by simpa using c1
  have d2 : (m : Int) < (2 : Int) ^ (m.log2 + 1) := by simpa using c2
  exact ⟨m.log2, lenZ_eq d1 d2, d1, d2⟩

/-- A number without its low bits is so much shorter. -/
theorem lenZ_div {n : Int} {s : Nat} (h : 0 < n / 2 ^ s) : lenZ n = s + lenZ (n / 2 ^ s) := by
  obtain ⟨k, e, h1, h2⟩ := lenZ_spec h
  have p := pow_pos s
  have a1 := Int.mul_ediv_add_emod n (2 ^ s)
  have a2 := Int.emod_nonneg n (Int.ne_of_gt p)
  have a3 := Int.emod_lt_of_pos n p
  have b1 : (2 : Int) ^ s * 2 ^ k ≤ 2 ^ s * (n / 2 ^ s) := Int.mul_le_mul_of_nonneg_left h1 (Int.le_of_lt p)
  have b2 : (2 : Int) ^ s * (n / 2 ^ s + 1) ≤ 2 ^ s * 2 ^ (k + 1) := Int.mul_le_mul_of_nonneg_left h2 (Int.le_of_lt p)
  rw [← Int.pow_add] at b1 b2
  rw [Int.mul_add, Int.mul_one] at b2
  rw [e, lenZ_eq (k := s + k) (by omega) (by rw [show s + k + 1 = s + (k + 1) by omega]; omega)]
  omega

def len8 : ByteArray := ⟨#[0, 1, 2, 2, 3, 3, 3, 3, 4, 4, 4, 4, 4, 4, 4, 4, 5, 5, 5, 5, 5, 5, 5, 5, 5, 5, 5, 5, 5, 5, 5, 5, 6, 6, 6, 6, 6, 6, 6, 6, 6, 6, 6, 6, 6, 6, 6, 6, 6, 6, 6, 6, 6, 6, 6, 6, 6, 6, 6, 6, 6, 6, 6, 6, 7, 7, 7, 7, 7, 7, 7, 7, 7, 7, 7, 7, 7, 7, 7, 7, 7, 7, 7, 7, 7, 7, 7, 7, 7, 7, 7, 7, 7, 7, 7, 7, 7, 7, 7, 7, 7, 7, 7, 7, 7, 7, 7, 7, 7, 7, 7, 7, 7, 7, 7, 7, 7, 7, 7, 7, 7, 7, 7, 7, 7, 7, 7, 7, 8, 8, 8, 8, 8, 8, 8, 8, 8, 8, 8, 8, 8, 8, 8, 8, 8, 8, 8, 8, 8, 8, 8, 8, 8, 8, 8, 8, 8, 8, 8, 8, 8, 8, 8, 8, 8, 8, 8, 8, 8, 8, 8, 8, 8, 8, 8, 8, 8, 8, 8, 8, 8, 8, 8, 8, 8, 8, 8, 8, 8, 8, 8, 8, 8, 8, 8, 8, 8, 8, 8, 8, 8, 8, 8, 8, 8, 8, 8, 8, 8, 8, 8, 8, 8, 8, 8, 8, 8, 8, 8, 8, 8, 8, 8, 8, 8, 8, 8, 8, 8, 8, 8, 8, 8, 8, 8, 8, 8, 8, 8, 8, 8, 8, 8, 8, 8, 8, 8, 8, 8, 8, 8, 8, 8, 8, 8, 8]⟩

theorem len8_ok {x : Int} (h0 : 0 ≤ x) (h1 : x ≤ 255) : byteAt len8 x.toNat = lenZ x := by
  have h : (List.range 256).all (fun x => byteAt len8 x == lenZ x) = true := by kernel_rfl
  have := List.all_eq_true.1 h x.toNat (List.mem_range.2 (by omega))
  simp only [beq_iff_eq] at this
  rw [this, Int.toNat_of_nonneg h0]

def lenPre   : Pre := fun f args _ => match f, args with
  | 1000000, [.int .i64 k] => k != -1
  | _, _ => true
theorem lenSound : Sound Try.prog (strict lenPre noC) := Sound.strict fun f args H v H' l _ h => by simp [noC] at h

theorem shr_lit (x : Int) (k : Nat) (hk : k ≤ 63) : x.fdiv (2 ^ min (Int.toNat (k : Int)) (IntKind.bits IntKind.u64)) = x / 2 ^ k := by
  have e : min (Int.toNat (k : Int)) (IntKind.bits IntKind.u64) = k := by show min (Int.toNat (k : Int)) 64 = k; simp; omega
  rw [e, Int.fdiv_eq_ediv_of_nonneg _ (Int.le_of_lt (pow_pos _))]
theorem wrap8_in {n : Int} (h : 0 ≤ n) (h' : n ≤ 255) : IntKind.u8.wrap n = n := by
  unfold IntKind.wrap
  simp [IntKind.bits, IntKind.signed]
  omega
theorem len8_size : (len8.size : Int) = 256 := by kernel_rfl

theorem len64_ok (n : Int) (h0 : 0 ≤ n) (h1 : n ≤ 18446744073709551615) : CallOk Try.prog 115 [.int .u64 n] [] (.int .i64 (lenZ n)) [] 0 := by
  have s32 : ∀ x : Int, x.fdiv (2 ^ min (Int.toNat 32) (IntKind.bits IntKind.u64)) = x / 4294967296 := fun x => shr_lit x 32 (by decide)
  have s16 : ∀ x : Int, x.fdiv (2 ^ min (Int.toNat 16) (IntKind.bits IntKind.u64)) = x / 65536 := fun x => shr_lit x 16 (by decide)
  have s8 : ∀ x : Int, x.fdiv (2 ^ min (Int.toNat 8) (IntKind.bits IntKind.u64)) = x / 256 := fun x => shr_lit x 8 (by decide)
  have fin : ∀ (x y : Int), 0 ≤ x → x ≤ 255 → 0 ≤ y → y ≤ 56 → IntKind.i64.wrap (y + IntKind.i64.wrap (byteAt len8 (Int.toNat (IntKind.u8.wrap x)))) = y + lenZ x := by
    intro x y hx hx' hy hy'
    rw [wrap8_in hx hx', len8_ok hx hx']
    have : 0 ≤ lenZ x ∧ lenZ x ≤ 8 := by
      rcases Int.lt_or_le 0 x with h | h
      · obtain ⟨k, e, k1, _⟩ := lenZ_spec h
        have : k < 8 := by
          refine Nat.lt_of_not_le fun hk => ?_
          have : (2 : Nat) ^ 8 ≤ 2 ^ k := Nat.pow_le_pow_right (by decide) hk
          have : ((2 ^ 8 : Nat) : Int) ≤ ((2 ^ k : Nat) : Int) := Int.ofNat_le.2 this
          simp at this
          omega
        omega
      · unfold lenZ; rw [if_pos h]; omega
    rw [wrap_in (n := lenZ x) (inI_iff.2 (by omega)), wrap_in (n := y + lenZ x) (inI_iff.2 (by omega))]

  by_cases h0 : n ≥ 4294967296
  · skip
    by_cases h1 : (n / 4294967296) ≥ 65536
    · skip
      by_cases h2 : ((n / 4294967296) / 65536) ≥ 256
      · skip
        have h := evFnL_plain (N := 300) (pre := lenPre) (C := noC) (f := 115) (args := [.int .u64 n]) (H := []) (os := [(0, true), (1, true), (1, true), (1, true)]) (v := (.int .i64 (IntKind.wrap IntKind.i64 ((IntKind.wrap IntKind.i64 ((IntKind.wrap IntKind.i64 ((32 : Int) + 16)) + 8)) + IntKind.wrap IntKind.i64 (byteAt len8 (Int.toNat (IntKind.wrap IntKind.u8 (Int.fdiv (Int.fdiv (Int.fdiv n (2 ^ min (Int.toNat 32) (IntKind.bits IntKind.u64))) (2 ^ min (Int.toNat 16) (IntKind.bits IntKind.u64))) (2 ^ min (Int.toNat 8) (IntKind.bits IntKind.u64)))))))))) (H' := []) (l := 0)
          (ob := [(decide (0 ≤ (IntKind.wrap IntKind.u8 (Int.fdiv (Int.fdiv (Int.fdiv n (2 ^ min (Int.toNat 32) (IntKind.bits IntKind.u64))) (2 ^ min (Int.toNat 16) (IntKind.bits IntKind.u64))) (2 ^ min (Int.toNat 8) (IntKind.bits IntKind.u64)))) ∧ (IntKind.wrap IntKind.u8 (Int.fdiv (Int.fdiv (Int.fdiv n (2 ^ min (Int.toNat 32) (IntKind.bits IntKind.u64))) (2 ^ min (Int.toNat 16) (IntKind.bits IntKind.u64))) (2 ^ min (Int.toNat 8) (IntKind.bits IntKind.u64)))) < (len8.size : Int)), true), (decide ((Int.fdiv (Int.fdiv n (2 ^ min (Int.toNat 32) (IntKind.bits IntKind.u64))) (2 ^ min (Int.toNat 16) (IntKind.bits IntKind.u64))) ≥ 256), true), (decide ((Int.fdiv n (2 ^ min (Int.toNat 32) (IntKind.bits IntKind.u64))) ≥ 65536), true), (decide (n ≥ 4294967296), true)]) progOk extSound lenSound (by kernel_rfl) (by
            simp only [s32, s16, s8, len8_size]
            rw [wrap8_in (by omega) (by omega)]
            simp [Holds]; omega)
        simp only [s32, s16, s8] at h
        rw [show (IntKind.wrap IntKind.i64 ((IntKind.wrap IntKind.i64 ((32 : Int) + 16)) + 8)) = 56 by decide, fin _ _ (by omega) (by omega) (by omega) (by omega)] at h
        rw [lenZ_div (n := n) (s := 56) (by simp; omega)]
        simp only [show (2 : Int) ^ 56 = 72057594037927936 by decide]
        rw [show n / 72057594037927936 = (((n / 4294967296) / 65536) / 256) by omega]
        exact h
      · skip
        have h := evFnL_plain (N := 300) (pre := lenPre) (C := noC) (f := 115) (args := [.int .u64 n]) (H := []) (os := [(0, true), (1, true), (1, false), (0, true)]) (v := (.int .i64 (IntKind.wrap IntKind.i64 ((IntKind.wrap IntKind.i64 ((32 : Int) + 16)) + IntKind.wrap IntKind.i64 (byteAt len8 (Int.toNat (IntKind.wrap IntKind.u8 (Int.fdiv (Int.fdiv n (2 ^ min (Int.toNat 32) (IntKind.bits IntKind.u64))) (2 ^ min (Int.toNat 16) (IntKind.bits IntKind.u64)))))))))) (H' := []) (l := 0)
          (ob := [(decide (0 ≤ (IntKind.wrap IntKind.u8 (Int.fdiv (Int.fdiv n (2 ^ min (Int.toNat 32) (IntKind.bits IntKind.u64))) (2 ^ min (Int.toNat 16) (IntKind.bits IntKind.u64)))) ∧ (IntKind.wrap IntKind.u8 (Int.fdiv (Int.fdiv n (2 ^ min (Int.toNat 32) (IntKind.bits IntKind.u64))) (2 ^ min (Int.toNat 16) (IntKind.bits IntKind.u64)))) < (len8.size : Int)), true), (decide ((Int.fdiv (Int.fdiv n (2 ^ min (Int.toNat 32) (IntKind.bits IntKind.u64))) (2 ^ min (Int.toNat 16) (IntKind.bits IntKind.u64))) ≥ 256), false), (decide ((Int.fdiv n (2 ^ min (Int.toNat 32) (IntKind.bits IntKind.u64))) ≥ 65536), true), (decide (n ≥ 4294967296), true)]) progOk extSound lenSound (by kernel_rfl) (by
            simp only [s32, s16, s8, len8_size]
            rw [wrap8_in (by omega) (by omega)]
            simp [Holds]; omega)
        simp only [s32, s16, s8] at h
        rw [show (IntKind.wrap IntKind.i64 ((32 : Int) + 16)) = 48 by decide, fin _ _ (by omega) (by omega) (by omega) (by omega)] at h
        rw [lenZ_div (n := n) (s := 48) (by simp; omega)]
        simp only [show (2 : Int) ^ 48 = 281474976710656 by decide]
        rw [show n / 281474976710656 = ((n / 4294967296) / 65536) by omega]
        exact h
    · skip
      by_cases h2 : (n / 4294967296) ≥ 256
      · skip
        have h := evFnL_plain (N := 300) (pre := lenPre) (C := noC) (f := 115) (args := [.int .u64 n]) (H := []) (os := [(0, true), (1, false), (0, true), (1, true)]) (v := (.int .i64 (IntKind.wrap IntKind.i64 ((IntKind.wrap IntKind.i64 ((32 : Int) + 8)) + IntKind.wrap IntKind.i64 (byteAt len8 (Int.toNat (IntKind.wrap IntKind.u8 (Int.fdiv (Int.fdiv n (2 ^ min (Int.toNat 32) (IntKind.bits IntKind.u64))) (2 ^ min (Int.toNat 8) (IntKind.bits IntKind.u64)))))))))) (H' := []) (l := 0)
          (ob := [(decide (0 ≤ (IntKind.wrap IntKind.u8 (Int.fdiv (Int.fdiv n (2 ^ min (Int.toNat 32) (IntKind.bits IntKind.u64))) (2 ^ min (Int.toNat 8) (IntKind.bits IntKind.u64)))) ∧ (IntKind.wrap IntKind.u8 (Int.fdiv (Int.fdiv n (2 ^ min (Int.toNat 32) (IntKind.bits IntKind.u64))) (2 ^ min (Int.toNat 8) (IntKind.bits IntKind.u64)))) < (len8.size : Int)), true), (decide ((Int.fdiv n (2 ^ min (Int.toNat 32) (IntKind.bits IntKind.u64))) ≥ 256), true), (decide ((Int.fdiv n (2 ^ min (Int.toNat 32) (IntKind.bits IntKind.u64))) ≥ 65536), false), (decide (n ≥ 4294967296), true)]) progOk extSound lenSound (by kernel_rfl) (by
            simp only [s32, s16, s8, len8_size]
            rw [wrap8_in (by omega) (by omega)]
            simp [Holds]; omega)
        simp only [s32, s16, s8] at h
        rw [show (IntKind.wrap IntKind.i64 ((32 : Int) + 8)) = 40 by decide, fin _ _ (by omega) (by omega) (by omega) (by omega)] at h
        rw [lenZ_div (n := n) (s := 40) (by simp; omega)]
        simp only [show (2 : Int) ^ 40 = 1099511627776 by decide]
        rw [show n / 1099511627776 = ((n / 4294967296) / 256) by omega]
        exact h
      · skip
        have h := evFnL_plain (N := 300) (pre := lenPre) (C := noC) (f := 115) (args := [.int .u64 n]) (H := []) (os := [(0, true), (1, false), (0, false), (0, true)]) (v := (.int .i64 (IntKind.wrap IntKind.i64 ((32 : Int) + IntKind.wrap IntKind.i64 (byteAt len8 (Int.toNat (IntKind.wrap IntKind.u8 (Int.fdiv n (2 ^ min (Int.toNat 32) (IntKind.bits IntKind.u64)))))))))) (H' := []) (l := 0)
          (ob := [(decide (0 ≤ (IntKind.wrap IntKind.u8 (Int.fdiv n (2 ^ min (Int.toNat 32) (IntKind.bits IntKind.u64)))) ∧ (IntKind.wrap IntKind.u8 (Int.fdiv n (2 ^ min (Int.toNat 32) (IntKind.bits IntKind.u64)))) < (len8.size : Int)), true), (decide ((Int.fdiv n (2 ^ min (Int.toNat 32) (IntKind.bits IntKind.u64))) ≥ 256), false), (decide ((Int.fdiv n (2 ^ min (Int.toNat 32) (IntKind.bits IntKind.u64))) ≥ 65536), false), (decide (n ≥ 4294967296), true)]) progOk extSound lenSound (by kernel_rfl) (by
            simp only [s32, s16, s8, len8_size]
            rw [wrap8_in (by omega) (by omega)]
            simp [Holds]; omega)
        simp only [s32, s16, s8] at h
        rw [show (32 : Int) = 32 by decide, fin _ _ (by omega) (by omega) (by omega) (by omega)] at h
        rw [lenZ_div (n := n) (s := 32) (by simp; omega)]
        simp only [show (2 : Int) ^ 32 = 4294967296 by decide]
        rw [show n / 4294967296 = (n / 4294967296) by omega]
        exact h
  · skip
    by_cases h1 : n ≥ 65536
    · skip
      by_cases h2 : (n / 65536) ≥ 256
      · skip
        have h := evFnL_plain (N := 300) (pre := lenPre) (C := noC) (f := 115) (args := [.int .u64 n]) (H := []) (os := [(0, false), (0, true), (1, true), (1, true)]) (v := (.int .i64 (IntKind.wrap IntKind.i64 ((IntKind.wrap IntKind.i64 ((IntKind.wrap IntKind.i64 ((0 : Int) + 16)) + 8)) + IntKind.wrap IntKind.i64 (byteAt len8 (Int.toNat (IntKind.wrap IntKind.u8 (Int.fdiv (Int.fdiv n (2 ^ min (Int.toNat 16) (IntKind.bits IntKind.u64))) (2 ^ min (Int.toNat 8) (IntKind.bits IntKind.u64)))))))))) (H' := []) (l := 0)
          (ob := [(decide (0 ≤ (IntKind.wrap IntKind.u8 (Int.fdiv (Int.fdiv n (2 ^ min (Int.toNat 16) (IntKind.bits IntKind.u64))) (2 ^ min (Int.toNat 8) (IntKind.bits IntKind.u64)))) ∧ (IntKind.wrap IntKind.u8 (Int.fdiv (Int.fdiv n (2 ^ min (Int.toNat 16) (IntKind.bits IntKind.u64))) (2 ^ min (Int.toNat 8) (IntKind.bits IntKind.u64)))) < (len8.size : Int)), true), (decide ((Int.fdiv n (2 ^ min (Int.toNat 16) (IntKind.bits IntKind.u64))) ≥ 256), true), (decide (n ≥ 65536), true), (decide (n ≥ 4294967296), false)]) progOk extSound lenSound (by kernel_rfl) (by
            simp only [s32, s16, s8, len8_size]
            rw [wrap8_in (by omega) (by omega)]
            simp [Holds]; omega)
        simp only [s32, s16, s8] at h
        rw [show (IntKind.wrap IntKind.i64 ((IntKind.wrap IntKind.i64 ((0 : Int) + 16)) + 8)) = 24 by decide, fin _ _ (by omega) (by omega) (by omega) (by omega)] at h
        rw [lenZ_div (n := n) (s := 24) (by simp; omega)]
        simp only [show (2 : Int) ^ 24 = 16777216 by decide]
        rw [show n / 16777216 = ((n / 65536) / 256) by omega]
        exact h
      · skip
        have h := evFnL_plain (N := 300) (pre := lenPre) (C := noC) (f := 115) (args := [.int .u64 n]) (H := []) (os := [(0, false), (0, true), (1, false), (0, true)]) (v := (.int .i64 (IntKind.wrap IntKind.i64 ((IntKind.wrap IntKind.i64 ((0 : Int) + 16)) + IntKind.wrap IntKind.i64 (byteAt len8 (Int.toNat (IntKind.wrap IntKind.u8 (Int.fdiv n (2 ^ min (Int.toNat 16) (IntKind.bits IntKind.u64)))))))))) (H' := []) (l := 0)
          (ob := [(decide (0 ≤ (IntKind.wrap IntKind.u8 (Int.fdiv n (2 ^ min (Int.toNat 16) (IntKind.bits IntKind.u64)))) ∧ (IntKind.wrap IntKind.u8 (Int.fdiv n (2 ^ min (Int.toNat 16) (IntKind.bits IntKind.u64)))) < (len8.size : Int)), true), (decide ((Int.fdiv n (2 ^ min (Int.toNat 16) (IntKind.bits IntKind.u64))) ≥ 256), false), (decide (n ≥ 65536), true), (decide (n ≥ 4294967296), false)]) progOk extSound lenSound (by kernel_rfl) (by
            simp only [s32, s16, s8, len8_size]
            rw [wrap8_in (by omega) (by omega)]
            simp [Holds]; omega)
        simp only [s32, s16, s8] at h
        rw [show (IntKind.wrap IntKind.i64 ((0 : Int) + 16)) = 16 by decide, fin _ _ (by omega) (by omega) (by omega) (by omega)] at h
        rw [lenZ_div (n := n) (s := 16) (by simp; omega)]
        simp only [show (2 : Int) ^ 16 = 65536 by decide]
        rw [show n / 65536 = (n / 65536) by omega]
        exact h
    · skip
      by_cases h2 : n ≥ 256
      · skip
        have h := evFnL_plain (N := 300) (pre := lenPre) (C := noC) (f := 115) (args := [.int .u64 n]) (H := []) (os := [(0, false), (0, false), (0, true), (1, true)]) (v := (.int .i64 (IntKind.wrap IntKind.i64 ((IntKind.wrap IntKind.i64 ((0 : Int) + 8)) + IntKind.wrap IntKind.i64 (byteAt len8 (Int.toNat (IntKind.wrap IntKind.u8 (Int.fdiv n (2 ^ min (Int.toNat 8) (IntKind.bits IntKind.u64)))))))))) (H' := []) (l := 0)
          (ob := [(decide (0 ≤ (IntKind.wrap IntKind.u8 (Int.fdiv n (2 ^ min (Int.toNat 8) (IntKind.bits IntKind.u64)))) ∧ (IntKind.wrap IntKind.u8 (Int.fdiv n (2 ^ min (Int.toNat 8) (IntKind.bits IntKind.u64)))) < (len8.size : Int)), true), (decide (n ≥ 256), true), (decide (n ≥ 65536), false), (decide (n ≥ 4294967296), false)]) progOk extSound lenSound (by kernel_rfl) (by
            simp only [s32, s16, s8, len8_size]
            rw [wrap8_in (by omega) (by omega)]
            simp [Holds]; omega)
        simp only [s32, s16, s8] at h
        rw [show (IntKind.wrap IntKind.i64 ((0 : Int) + 8)) = 8 by decide, fin _ _ (by omega) (by omega) (by omega) (by omega)] at h
        rw [lenZ_div (n := n) (s := 8) (by simp; omega)]
        simp only [show (2 : Int) ^ 8 = 256 by decide]
        rw [show n / 256 = (n / 256) by omega]
        exact h
      · skip
        have h := evFnL_plain (N := 300) (pre := lenPre) (C := noC) (f := 115) (args := [.int .u64 n]) (H := []) (os := [(0, false), (0, false), (0, false), (0, true)]) (v := (.int .i64 (IntKind.wrap IntKind.i64 ((0 : Int) + IntKind.wrap IntKind.i64 (byteAt len8 (Int.toNat (IntKind.wrap IntKind.u8 n))))))) (H' := []) (l := 0)
          (ob := [(decide (0 ≤ (IntKind.wrap IntKind.u8 n) ∧ (IntKind.wrap IntKind.u8 n) < (len8.size : Int)), true), (decide (n ≥ 256), false), (decide (n ≥ 65536), false), (decide (n ≥ 4294967296), false)]) progOk extSound lenSound (by kernel_rfl) (by
            simp only [len8_size]
            rw [wrap8_in (by omega) (by omega)]
            simp [Holds]; omega)
        rw [fin _ _ (by omega) (by omega) (by omega) (by omega), Int.zero_add] at h
        exact h

end Go.Proofs.Ytfbjpenbpbpcaaa

/-
  Chapter 05's roots: the root's law, the reference bit by bit, and Heron's way.
-/
namespace Go.Proofs.Ytfbjpenbpbpcaaa
open Go Den
set_option maxRecDepth 100000
set_option linter.unusedSimpArgs false

/-- The root, bit by bit: behind so many bits. -/
def refR (n : Int) : Nat → Int
  | 0 => 0
  | i + 1 => if (refR n i + 2 ^ (31 - i)) * (refR n i + 2 ^ (31 - i)) ≤ n then refR n i + 2 ^ (31 - i) else refR n i
def rootZ (n : Int) : Int := refR n 32

theorem refR_spec (n : Int) (h0 : 0 ≤ n) (h1 : n ≤ 18446744073709551615) : ∀ i : Nat, i ≤ 32 → ∃ q : Nat, refR n i = 2 ^ (32 - i) * q ∧ refR n i * refR n i ≤ n ∧ n < (refR n i + 2 ^ (32 - i)) * (refR n i + 2 ^ (32 - i)) ∧ refR n i + 2 ^ (32 - i) ≤ 4294967296 := by
  intro i
  induction i with
  | zero => intro _; exact ⟨0, by simp [refR], by simp [refR]; omega, by simp [refR]; omega, by simp [refR]⟩
  | succ i ih =>
    intro hi
    obtain ⟨q, e, a1, a2, a3⟩ := ih (by omega)
    have hk : 32 - i = (31 - i) + 1 := by omega
    have hk2 : 32 - (i + 1) = 31 - i := by omega
    rw [hk] at e a2 a3
    rw [hk2]
    have p := pow_pos (31 - i)
    have e2 : (2 : Int) ^ (31 - i + 1) = 2 * 2 ^ (31 - i) := by rw [Int.pow_succ]; omega
    rw [e2] at e a2 a3
    simp only [refR]
    split
    · rename_i h
      refine ⟨2 * q + 1, ?_, h, ?_, by omega⟩
      · rw [e]; push_cast; rw [Int.mul_add, Int.mul_one, Int.mul_assoc, Int.mul_left_comm 2]
      · rw [show refR n i + 2 ^ (31 - i) + 2 ^ (31 - i) = refR n i + 2 * 2 ^ (31 - i) by omega]
        exact a2
    · rename_i h
      refine ⟨2 * q, ?_, a1, by omega, by omega⟩
      rw [e]; push_cast; rw [Int.mul_assoc, Int.mul_left_comm 2]

theorem root_spec (n : Int) (h0 : 0 ≤ n) (h1 : n ≤ 18446744073709551615) : 0 ≤ rootZ n ∧ rootZ n * rootZ n ≤ n ∧ n < (rootZ n + 1) * (rootZ n + 1) ∧ rootZ n ≤ 4294967295 := by
  obtain ⟨q, e, a1, a2, a3⟩ := refR_spec n h0 h1 32 (by omega)
  simp at e a2 a3
  exact ⟨by unfold rootZ; omega, a1, a2, by unfold rootZ; omega⟩

theorem sq_lt {a b : Int} (ha : 0 ≤ a) (h : a * a < b * b) (hb : 0 ≤ b) : a < b := by
  refine Int.not_le.1 fun hle => ?_
  have : b * b ≤ a * a := Int.mul_le_mul hle hle hb ha
  omega

theorem root_eq {n r : Int} (h0 : 0 ≤ n) (h1 : n ≤ 18446744073709551615) (hr : 0 ≤ r) (a1 : r * r ≤ n) (a2 : n < (r + 1) * (r + 1)) : r = rootZ n := by
  obtain ⟨b0, b1, b2, _⟩ := root_spec n h0 h1
  have c1 := sq_lt hr (show r * r < (rootZ n + 1) * (rootZ n + 1) by omega) (by omega)
  have c2 := sq_lt b0 (show rootZ n * rootZ n < (r + 1) * (r + 1) by omega) (by omega)
  omega

theorem pow_le31 {k : Nat} (h : k ≤ 31) : (2 : Int) ^ k ≤ 2147483648 := by
  have h1 : (2 : Nat) ^ k ≤ 2 ^ 31 := Nat.pow_le_pow_right (by decide) h
  have h2 : ((2 ^ k : Nat) : Int) ≤ ((2 ^ 31 : Nat) : Int) := Int.ofNat_le.2 h1
  simpa using h2

theorem or_bit (q k : Nat) (hk : k ≤ 31) (hr : (2 : Int) ^ (k + 1) * q ≤ 4294967296) :
    IntKind.u64.wrap ((BitVec.toNat (BitVec.ofInt (IntKind.bits IntKind.u64) (2 ^ (k + 1) * q) ||| BitVec.ofInt (IntKind.bits IntKind.u64) (IntKind.u64.wrap (1 * 2 ^ min (Int.toNat (IntKind.u64.wrap (k : Int))) (IntKind.bits IntKind.u64)))) : Nat) : Int) = 2 ^ (k + 1) * q + 2 ^ k := by
  have hp := pow_le31 hk
  have p := pow_pos k
  have e1 : IntKind.u64.wrap (k : Int) = k := wrapU_in (by omega) (by omega)
  have e2 : min (Int.toNat (k : Int)) (IntKind.bits IntKind.u64) = k := by show min (Int.toNat (k : Int)) 64 = k; simp; omega
  rw [e1, e2, Int.one_mul, wrapU_in (n := 2 ^ k) (by omega) (by omega)]
  show IntKind.u64.wrap ((BitVec.toNat (BitVec.ofInt 64 (2 ^ (k + 1) * q) ||| BitVec.ofInt 64 (2 ^ k)) : Nat) : Int) = _
  have t : ∀ m : Nat, m < 18446744073709551616 → (BitVec.ofInt 64 (m : Int)).toNat = m := by
    intro m hm
    rw [BitVec.toNat_ofInt]
    have : ((2 ^ 64 : Nat) : Int) = 18446744073709551616 := by decide
    rw [this]
    omega
  have c1 : ((2 ^ (k + 1) * q : Nat) : Int) = 2 ^ (k + 1) * (q : Int) := by push_cast; rfl
  have c2 : ((2 ^ k : Nat) : Int) = 2 ^ k := by push_cast; rfl
  rw [BitVec.toNat_or, ← c1, ← c2, t _ (by omega), t _ (by omega), ← Nat.two_pow_add_eq_or_of_lt (by rw [Nat.pow_succ]; have := Nat.pow_pos (a := 2) (n := k) (by decide); omega)]
  push_cast
  exact wrapU_in (by omega) (by omega)

theorem codeOk58 : codeOk (loopAt Try.prog 58 0) = true := by kernel_rfl

def rootLoop : Loops := { loop := fun id s => match id with
  | 3 => match at? 0 s.F, at? 3 s.F, at? 4 s.F with
    | some (.int .u64 n), some (.int .u64 r), some (.int .i64 i) => some (.exit 0, ⟨[(3, .int .u64 (rootZ n)), (0, .int .u64 n)], s.H, s.lo⟩, [(decide (r = 0), true), (decide (i = 31), true), (decide (0 ≤ n), true), (decide (n ≤ 18446744073709551615), true)])
    | _, _, _ => none
  | _ => none }

theorem rootLoop_ok : LoopsOk Try.prog 22 rootLoop (bodyOf Try.prog 58) := by
  refine LoopsOk.one (b := loopAt Try.prog 58 0) (by kernel_rfl) fun s x s' o h hh => ?_
  rw [show firstId (loopAt Try.prog 58 0) = 3 by kernel_rfl] at h
  simp only [rootLoop] at h
  split at h
  case h_2 => simp at h
  rename_i n r i h0 h3 h4
  simp only [Option.some.injEq, Prod.mk.injEq] at h
  obtain ⟨rfl, rfl, rfl⟩ := h
  simp [Holds] at hh
  obtain ⟨rfl, rfl, hn0, hn1⟩ := hh
  have hw := WP.loop (P := Try.prog) (nt := 22) (b := loopAt Try.prog 58 0) (fun i => ⟨[(0, .int .u64 n), (3, .int .u64 (refR n i)), (4, .int .i64 (31 - (i : Int)))], s.H, s.lo⟩) 32 (x := .exit 0) (s' := ⟨[(0, .int .u64 n), (3, .int .u64 (refR n 32)), (4, .int .i64 (31 - ((32 : Nat) : Int)))], s.H, s.lo⟩) (by simp)
    (fun i hi => by
      obtain ⟨q, e, a1, a2, a3⟩ := refR_spec n hn0 hn1 i (by omega)
      have hk : 32 - i = (31 - i) + 1 := by omega
      have hi31 : (31 - (i : Int)) = ((31 - i : Nat) : Int) := by omega
      rw [hk] at e a2 a3
      have p := pow_pos (31 - i + 1)
      have p2 := pow_pos (31 - i)
      have e2 : (2 : Int) ^ (31 - i + 1) = 2 * 2 ^ (31 - i) := by rw [Int.pow_succ]; omega
      have hor := or_bit q (31 - i) (by omega) (by rw [← e]; omega)
      rw [← e, ← hi31] at hor
      have hx : refR n i + 2 ^ (31 - i) ≤ 4294967295 := by omega
      have hx0 : 0 ≤ refR n i := by rw [e]; exact Int.mul_nonneg (Int.le_of_lt p) (by omega)
      have hsq : (refR n i + 2 ^ (31 - i)) * (refR n i + 2 ^ (31 - i)) ≤ 4294967295 * 4294967295 := Int.mul_le_mul hx hx (by omega) (by omega)
      have hsq0 : 0 ≤ (refR n i + 2 ^ (31 - i)) * (refR n i + 2 ^ (31 - i)) := Int.mul_nonneg (by omega) (by omega)
      have hws := wrapU_in hsq0 (by omega)
      have hwi : IntKind.i64.wrap (31 - (i : Int) - 1) = 31 - ((i + 1 : Nat) : Int) := by rw [wrap_in (inI_iff.2 (by omega))]; omega
      have hwu : IntKind.u64.wrap (31 - (i : Int)) = 31 - (i : Int) := wrapU_in (by omega) (by omega)
      simp only [refR]
      by_cases ht : (refR n i + 2 ^ (31 - i)) * (refR n i + 2 ^ (31 - i)) ≤ n
      · rw [if_pos ht]
        have h := WP.run (P := Try.prog) (X := ext) (pre := noPre) (C := noC) (L := noLoops) (N := 300) (nt := 22) progOk extSound noC_sound codeOk58 noLoops_ok (F := [(0, .int .u64 n), (3, .int .u64 (refR n i)), (4, .int .i64 (31 - (i : Int)))]) (H := s.H) (lo := s.lo) (os := [(0, true), (0, false), (0, true)]) [0, 3, 4]
          (x := .normal) (F' := [(0, .int .u64 n), (3, .int .u64 (IntKind.wrap IntKind.u64 ↑(BitVec.toNat (BitVec.ofInt (IntKind.bits IntKind.u64) (refR n i) ||| BitVec.ofInt (IntKind.bits IntKind.u64) (IntKind.wrap IntKind.u64 (1 * 2 ^ min (Int.toNat (IntKind.wrap IntKind.u64 (31 - (i : Int)))) (IntKind.bits IntKind.u64))))))), (4, .int .i64 (IntKind.i64.wrap (31 - (i : Int) - 1)))]) (H' := s.H) (lo' := s.lo)
          (ob := [(decide (IntKind.wrap IntKind.u64 (IntKind.wrap IntKind.u64 ↑(BitVec.toNat (BitVec.ofInt (IntKind.bits IntKind.u64) (refR n i) ||| BitVec.ofInt (IntKind.bits IntKind.u64) (IntKind.wrap IntKind.u64 (1 * 2 ^ min (Int.toNat (IntKind.wrap IntKind.u64 (31 - (i : Int)))) (IntKind.bits IntKind.u64))))) * IntKind.wrap IntKind.u64 ↑(BitVec.toNat (BitVec.ofInt (IntKind.bits IntKind.u64) (refR n i) ||| BitVec.ofInt (IntKind.bits IntKind.u64) (IntKind.wrap IntKind.u64 (1 * 2 ^ min (Int.toNat (IntKind.wrap IntKind.u64 (31 - (i : Int)))) (IntKind.bits IntKind.u64)))))) ≤ n), true), (decide (IntKind.wrap IntKind.u64 (31 - (i : Int)) < 0), false), (decide ((31 - (i : Int)) ≥ 0), true)])
          (by kernel_rfl) (by rw [hor, hws, hwu]; simp [Holds, ht]; omega)
        rw [hor, hwi] at h
        exact h
      · rw [if_neg ht]
        have h := WP.run (P := Try.prog) (X := ext) (pre := noPre) (C := noC) (L := noLoops) (N := 300) (nt := 22) progOk extSound noC_sound codeOk58 noLoops_ok (F := [(0, .int .u64 n), (3, .int .u64 (refR n i)), (4, .int .i64 (31 - (i : Int)))]) (H := s.H) (lo := s.lo) (os := [(0, true), (0, false), (0, false)]) [0, 3, 4]
          (x := .normal) (F' := [(0, .int .u64 n), (3, .int .u64 (refR n i)), (4, .int .i64 (IntKind.i64.wrap (31 - (i : Int) - 1)))]) (H' := s.H) (lo' := s.lo)
          (ob := [(decide (IntKind.wrap IntKind.u64 (IntKind.wrap IntKind.u64 ↑(BitVec.toNat (BitVec.ofInt (IntKind.bits IntKind.u64) (refR n i) ||| BitVec.ofInt (IntKind.bits IntKind.u64) (IntKind.wrap IntKind.u64 (1 * 2 ^ min (Int.toNat (IntKind.wrap IntKind.u64 (31 - (i : Int)))) (IntKind.bits IntKind.u64))))) * IntKind.wrap IntKind.u64 ↑(BitVec.toNat (BitVec.ofInt (IntKind.bits IntKind.u64) (refR n i) ||| BitVec.ofInt (IntKind.bits IntKind.u64) (IntKind.wrap IntKind.u64 (1 * 2 ^ min (Int.toNat (IntKind.wrap IntKind.u64 (31 - (i : Int)))) (IntKind.bits IntKind.u64)))))) ≤ n), false), (decide (IntKind.wrap IntKind.u64 (31 - (i : Int)) < 0), false), (decide ((31 - (i : Int)) ≥ 0), true)])
          (by kernel_rfl) (by rw [hor, hws, hwu]; simp [Holds]; omega)
        rw [hwi] at h
        exact h)
    (WP.run (P := Try.prog) (X := ext) (pre := noPre) (C := noC) (L := noLoops) (N := 300) (nt := 22) progOk extSound noC_sound codeOk58 noLoops_ok (os := [(0, false)]) [0, 3, 4] (ob := [(decide ((31 - ((32 : Nat) : Int)) ≥ 0), false)]) (by kernel_rfl) (by simp [Holds]))
  refine WP.weaken hw (Sub.of_list ?_) (Sub.of_list (by simp [at?, Nat.beq, rootZ]))
  simp [h0, h3, h4, refR]

end Go.Proofs.Ytfbjpenbpbpcaaa

/-
  Chapter 05: the references' Sat and Sqrt, and Heron's way.
-/
namespace Go.Proofs.Ytfbjpenbpbpcaaa
open Go Den
set_option maxRecDepth 100000
set_option linter.unusedSimpArgs false

theorem clamp62 (b : Int) : (if 62 < if 1 > b then 1 else b then 62 else if 1 > b then 1 else b) = withinZ b 1 62 := by
  unfold withinZ
  repeat' split
  all_goals omega

theorem ref_sat_ok (v b : Int) : CallOk Try.prog 63 [.int .i64 v, .int .i64 b] [] (.int .i64 (satZ v b)) [] 0 := by
  have hb := bits_le b
  have w1 : IntKind.i64.wrap (withinZ b 1 62 - 1) = withinZ b 1 62 - 1 := wrap_in (inI_iff.2 (by omega))
  have ht := top_le b
  have e1 : Int.toNat (withinZ b 1 62 - 1) = (withinZ b 1 62).toNat - 1 := by omega
  have e2 : (2 : Int) ^ ((withinZ b 1 62).toNat - 1) = topZ b + 1 := by unfold topZ; omega
  have h := fnL_ok (N := 300) (pre := fx1Pre) (C := fx1) (L := satLoop) (f := 63) (args := [.int .i64 v, .int .i64 b]) (H := []) (os := [])
    (v := .int .i64 (if IntKind.wrap IntKind.i64 (IntKind.wrap IntKind.i64 (0 - -2 ^ Int.toNat (IntKind.wrap IntKind.i64 ((if 62 < if 1 > b then 1 else b then 62 else if 1 > b then 1 else b) - 1))) - 1) < if -2 ^ Int.toNat (IntKind.wrap IntKind.i64 ((if 62 < if 1 > b then 1 else b then 62 else if 1 > b then 1 else b) - 1)) > v then -2 ^ Int.toNat (IntKind.wrap IntKind.i64 ((if 62 < if 1 > b then 1 else b then 62 else if 1 > b then 1 else b) - 1)) else v then IntKind.wrap IntKind.i64 (IntKind.wrap IntKind.i64 (0 - -2 ^ Int.toNat (IntKind.wrap IntKind.i64 ((if 62 < if 1 > b then 1 else b then 62 else if 1 > b then 1 else b) - 1))) - 1) else if -2 ^ Int.toNat (IntKind.wrap IntKind.i64 ((if 62 < if 1 > b then 1 else b then 62 else if 1 > b then 1 else b) - 1)) > v then -2 ^ Int.toNat (IntKind.wrap IntKind.i64 ((if 62 < if 1 > b then 1 else b then 62 else if 1 > b then 1 else b) - 1)) else v))
    (H' := []) (l := 0) (ob := [(decide ((-1 : Int) = -1), true), (decide ((0 : Int) = 0), true), (decide (0 ≤ IntKind.wrap IntKind.i64 ((if 62 < if 1 > b then 1 else b then 62 else if 1 > b then 1 else b) - 1)), true), (decide (IntKind.wrap IntKind.i64 ((if 62 < if 1 > b then 1 else b then 62 else if 1 > b then 1 else b) - 1) ≤ 61), true)])
    progOk extSound fx1_sound satLoop_ok (by kernel_rfl) (by rw [clamp62, w1]; simp [Holds]; omega)
  rw [clamp62, w1, e1, e2, wrap_in (n := 0 - -(topZ b + 1)) (inI_iff.2 (by omega)), show 0 - -(topZ b + 1) - 1 = topZ b by omega, wrap_in (n := topZ b) (inI_iff.2 (by omega))] at h
  have e3 : (if topZ b < if -(topZ b + 1) > v then -(topZ b + 1) else v then topZ b else if -(topZ b + 1) > v then -(topZ b + 1) else v) = satZ v b := by
    unfold satZ withinZ
    repeat' split
    all_goals omega
  rw [e3] at h
  exact h

theorem ref_root_ok (n : Int) (h0 : 0 ≤ n) (h1 : n ≤ 18446744073709551615) : CallOk Try.prog 58 [.int .u64 n] [] (.int .u64 (rootZ n)) [] 0 :=
  fnL_ok (N := 300) (pre := noPre) (C := noC) (L := rootLoop) (f := 58) (args := [.int .u64 n]) (H := []) (os := [])
    (v := .int .u64 (rootZ n)) (H' := []) (l := 0) (ob := [(decide ((0 : Int) = 0), true), (decide ((31 : Int) = 31), true), (decide (0 ≤ n), true), (decide (n ≤ 18446744073709551615), true)]) progOk extSound noC_sound rootLoop_ok (by kernel_rfl) (by simp [Holds]; omega)

/-! Heron's way. -/
theorem heron_ge {n r : Int} (h0 : 0 ≤ n) (h1 : n ≤ 18446744073709551615) (hr : 0 < r) : rootZ n ≤ (r + n / r) / 2 := by
  obtain ⟨b0, b1, b2, _⟩ := root_spec n h0 h1
  -- if it were less, r + n/r + 1 ≤ 2 s, so r * (2 s - r) > n, against (s - r)^2
  refine Int.not_lt.1 fun hlt => ?_
  have hk : r + n / r + 1 ≤ 2 * rootZ n := by omega
  have c1 := Int.lt_mul_ediv_self_add (x := n) (k := r) hr
  have c2 : r * (n / r + 1) ≤ r * (2 * rootZ n - r) := Int.mul_le_mul_of_nonneg_left (by omega) (by omega)
  have c3 : 0 ≤ (rootZ n - r) * (rootZ n - r) := by
    rcases Int.le_total 0 (rootZ n - r) with h | h
    · exact Int.mul_nonneg h h
    · exact Int.mul_nonneg_of_nonpos_of_nonpos h h
  simp only [Int.mul_sub, Int.sub_mul, Int.mul_add, Int.mul_one] at c2 c3
  have c4 : r * (2 * rootZ n) = 2 * (r * rootZ n) := Int.mul_left_comm ..
  have c5 : rootZ n * r = r * rootZ n := Int.mul_comm ..
  rw [c4] at c2
  rw [c5] at c3
  omega

theorem heron_lt {n r : Int} (h0 : 0 ≤ n) (h1 : n ≤ 18446744073709551615) (hr : rootZ n < r) : (r + n / r) / 2 < r := by
  obtain ⟨b0, b1, b2, _⟩ := root_spec n h0 h1
  have c0 : (rootZ n + 1) * (rootZ n + 1) ≤ r * r := Int.mul_le_mul (by omega) (by omega) (by omega) (by omega)
  have c1 : n / r < r := Int.ediv_lt_of_lt_mul (by omega) (by omega)
  omega

theorem heron_eq {n : Int} (h0 : 0 < n) (h1 : n ≤ 18446744073709551615) : rootZ n ≤ (rootZ n + n / rootZ n) / 2 := by
  obtain ⟨b0, b1, b2, _⟩ := root_spec n (by omega) h1
  have : 0 < rootZ n := by
    refine Int.not_le.1 fun h => ?_
    have : rootZ n = 0 := by omega
    rw [this] at b2
    omega
  exact heron_ge (by omega) h1 this

theorem codeOk57 : codeOk (loopAt Try.prog 57 0) = true := by kernel_rfl

def heronLoop : Loops := { loop := fun id s => match id with
  | 4 => match at? 0 s.F, at? 3 s.F with
    | some (.int .u64 n), some (.int .u64 r) => some (.ret, ⟨[(2, .int .u64 (rootZ n))], s.H, s.lo⟩, [(decide (rootZ n ≤ r), true), (decide (r ≤ 4294967296), true), (decide (0 < n), true), (decide (n ≤ 18446744073709551615), true)])
    | _, _ => none
  | _ => none }

theorem heronLoop_ok : LoopsOk Try.prog 23 heronLoop (bodyOf Try.prog 57) := by
  refine LoopsOk.one (b := loopAt Try.prog 57 0) (by kernel_rfl) fun s x s' o h hh => ?_
  rw [show firstId (loopAt Try.prog 57 0) = 4 by kernel_rfl] at h
  simp only [heronLoop] at h
  split at h
  case h_2 => simp at h
  rename_i n r h0 h3
  simp only [Option.some.injEq, Prod.mk.injEq] at h
  obtain ⟨rfl, rfl, rfl⟩ := h
  simp [Holds] at hh
  obtain ⟨hr0, hr1, hn0, hn1⟩ := hh
  have hs := root_spec n (by omega) hn1
  have hpos : 0 < rootZ n := by
    refine Int.not_le.1 fun h => ?_
    have h2 : rootZ n = 0 := by omega
    rw [h2] at hs
    omega
  have hw := WP.while (P := Try.prog) (nt := 23) (b := loopAt Try.prog 57 0) (fun r : Int => ⟨[(0, .int .u64 n), (3, .int .u64 r)], s.H, s.lo⟩) (fun r => rootZ n ≤ r ∧ r ≤ 4294967296) (fun r => r.toNat)
    (x := .ret) (s' := ⟨[(0, .int .u64 n), (2, .int .u64 (rootZ n)), (3, .int .u64 (rootZ n))], s.H, s.lo⟩) (by simp) (fun r hr => by
      have hq0 : 0 ≤ n / r := Int.ediv_nonneg (by omega) (by omega)
      have e1 : n.tdiv r = n / r := Int.tdiv_eq_ediv_of_nonneg (by omega)
      have hq1 : n / r ≤ n := by
        have h1 : r * (n / r) ≤ n := Int.mul_ediv_self_le (by omega)
        have h2 : 1 * (n / r) ≤ r * (n / r) := Int.mul_le_mul_of_nonneg_right (by omega) hq0
        omega
      have hge := heron_ge (n := n) (r := r) (by omega) hn1 (by omega)
      have hq2 : r + n / r ≤ 18446744073709551615 := by
        -- r * (n / r) ≤ n and both at least 1 or so: the sum is at most n + 1, or r is less than 2^33 and the quotient small
        by_cases h1 : r = 1
        · subst h1
          have := hs.2.2.2
          have hs1 : rootZ n = 1 := by omega
          rw [hs1] at hs
          rw [Int.ediv_one]
          omega
        · have h2 : 2 * (n / r) ≤ r * (n / r) := Int.mul_le_mul_of_nonneg_right (by omega) hq0
          have h3 : r * (n / r) ≤ n := Int.mul_ediv_self_le (by omega)
          omega
      have e2 : (r + n / r).tdiv 2 = (r + n / r) / 2 := Int.tdiv_eq_ediv_of_nonneg (by omega)
      have e3 : IntKind.wrap IntKind.u64 (Int.tdiv (IntKind.wrap IntKind.u64 (r + IntKind.wrap IntKind.u64 (Int.tdiv n r))) 2) = (r + n / r) / 2 := by
        rw [e1, wrapU_in (n := n / r) hq0 (by omega), wrapU_in (n := r + n / r) (by omega) hq2, e2, wrapU_in (by omega) (by omega)]
      by_cases ht : rootZ n < r
      · have hlt := heron_lt (n := n) (by omega) hn1 ht
        refine .inr ⟨(r + n / r) / 2, ⟨hge, by omega⟩, by omega, ?_⟩
        have h := WP.run (P := Try.prog) (X := ext) (pre := noPre) (C := noC) (L := noLoops) (N := 300) (nt := 23) progOk extSound noC_sound codeOk57 noLoops_ok (F := [(0, .int .u64 n), (3, .int .u64 r)]) (H := s.H) (lo := s.lo) (os := [(0, false), (1, false)]) [0, 3]
          (x := .normal) (F' := [(0, .int .u64 n), (3, .int .u64 (IntKind.wrap IntKind.u64 (Int.tdiv (IntKind.wrap IntKind.u64 (r + IntKind.wrap IntKind.u64 (Int.tdiv n r))) 2)))]) (H' := s.H) (lo' := s.lo)
          (ob := [(decide (IntKind.wrap IntKind.u64 (Int.tdiv (IntKind.wrap IntKind.u64 (r + IntKind.wrap IntKind.u64 (Int.tdiv n r))) 2) ≥ r), false), (decide (r = 0), false)]) (by kernel_rfl) (by rw [e3]; simp [Holds]; omega)
        rw [e3] at h
        exact h
      · have hrs : r = rootZ n := by omega
        subst hrs
        have hge2 := heron_eq hn0 hn1
        exact .inl (WP.run (P := Try.prog) (X := ext) (pre := noPre) (C := noC) (L := noLoops) (N := 300) (nt := 23) progOk extSound noC_sound codeOk57 noLoops_ok (F := [(0, .int .u64 n), (3, .int .u64 (rootZ n))]) (H := s.H) (lo := s.lo) (os := [(0, false), (1, true)]) [0, 2, 3]
          (x := .ret) (ob := [(decide (IntKind.wrap IntKind.u64 (Int.tdiv (IntKind.wrap IntKind.u64 (rootZ n + IntKind.wrap IntKind.u64 (Int.tdiv n (rootZ n)))) 2) ≥ rootZ n), true), (decide (rootZ n = 0), false)]) (by kernel_rfl) (by rw [e3]; simp [Holds]; omega))) r ⟨hr0, hr1⟩
  refine WP.weaken hw (Sub.of_list ?_) (Sub.of_list (by simp [at?, Nat.beq]))
  simp [h0, h3]

end Go.Proofs.Ytfbjpenbpbpcaaa

/-
  Chapter 05: Sqrt; and the contracts so far, joined.
-/
namespace Go.Proofs.Ytfbjpenbpbpcaaa
open Go Den
set_option maxRecDepth 100000
set_option linter.unusedSimpArgs false

def lenC : Oracle := fun f args H => match H with
  | [] => match f, args with
    | 115, [.int .u64 n] => some (.int .i64 (lenZ n), [], 0)
    | _, _ => none
  | _ => none
def isU (n : Int) : Bool := decide (0 ≤ n) && decide (n ≤ 18446744073709551615)
theorem isU_iff {n : Int} : isU n = true ↔ 0 ≤ n ∧ n ≤ 18446744073709551615 := by simp [isU]
def lenCPre   : Pre := fun f args _ => match f, args with
  | 115, [.int .u64 n] => isU n
  | _, _ => true
theorem lenC_sound : Sound Try.prog (strict lenCPre lenC) := by
  refine Sound.strict fun f args H v H' l hp h => ?_
  unfold lenC at h
  split at h
  · split at h
    · simp only [Option.some.injEq, Prod.mk.injEq] at h; obtain ⟨rfl, rfl, rfl⟩ := h
      have := isU_iff.1 hp
      exact len64_ok _ this.1 this.2
    · simp at h
  · simp at h

theorem lenZ_le {n : Int} (h0 : 0 ≤ n) (h1 : n ≤ 18446744073709551615) : 0 ≤ lenZ n ∧ lenZ n ≤ 64 ∧ n < 2 ^ (lenZ n).toNat := by
  rcases Int.lt_or_le 0 n with h | h
  · obtain ⟨k, e, k1, k2⟩ := lenZ_spec h
    have : k < 64 := by
      refine Nat.lt_of_not_le fun hk => ?_
      have : (2 : Nat) ^ 64 ≤ 2 ^ k := Nat.pow_le_pow_right (by decide) hk
      have : ((2 ^ 64 : Nat) : Int) ≤ ((2 ^ k : Nat) : Int) := Int.ofNat_le.2 this
      simp at this
      omega
    rw [e]
    exact ⟨by omega, by omega, by rw [show ((k : Int) + 1).toNat = k + 1 by omega]; exact k2⟩
  · have : n = 0 := by omega
    subst this
    exact ⟨by decide, by decide, by decide⟩

theorem sqrt_ok (n : Int) (h0 : 0 ≤ n) (h1 : n ≤ 18446744073709551615) : CallOk Try.prog 57 [.int .u64 n] [] (.int .u64 (rootZ n)) [] 0 := by
  by_cases hz : n = 0
  · subst hz
    have e : rootZ 0 = 0 := by decide
    rw [e]
    exact fnL_ok (N := 300) (pre := lenCPre) (C := lenC) (L := heronLoop) (f := 57) (args := [.int .u64 0]) (H := []) (os := [(0, true)]) (ob := [((0 : Int) == 0, true)]) progOk extSound lenC_sound heronLoop_ok (by kernel_rfl) (by simp [Holds])
  · obtain ⟨l0, l1, l2⟩ := lenZ_le h0 h1
    have w1 : IntKind.i64.wrap (lenZ n + 1) = lenZ n + 1 := wrap_in (inI_iff.2 (by omega))
    have w2 : (lenZ n + 1).tdiv 2 = (lenZ n + 1) / 2 := Int.tdiv_eq_ediv_of_nonneg (by omega)
    obtain ⟨k, hk⟩ : ∃ k : Nat, (lenZ n + 1) / 2 = k := ⟨((lenZ n + 1) / 2).toNat, by omega⟩
    have w3 : min (Int.toNat (k : Int)) (IntKind.bits IntKind.u64) = k := by show min (Int.toNat (k : Int)) 64 = k; simp; omega
    have p := pow_pos k
    have p2 : (2 : Int) ^ k ≤ 4294967296 := by
      have h1 : (2 : Nat) ^ k ≤ 2 ^ 32 := Nat.pow_le_pow_right (by decide) (by omega)
      have h2 : ((2 ^ k : Nat) : Int) ≤ ((2 ^ 32 : Nat) : Int) := Int.ofNat_le.2 h1
      simpa using h2
    have hr := root_spec n h0 h1
    have hlt : rootZ n < 2 ^ k := by
      refine sq_lt hr.1 ?_ (Int.le_of_lt p)
      rw [← Int.pow_add]
      have h1 : (2 : Nat) ^ (lenZ n).toNat ≤ 2 ^ (k + k) := Nat.pow_le_pow_right (by decide) (by omega)
      have h2 : ((2 ^ (lenZ n).toNat : Nat) : Int) ≤ ((2 ^ (k + k) : Nat) : Int) := Int.ofNat_le.2 h1
      push_cast at h2
      omega
    have e : IntKind.wrap IntKind.u64 (1 * 2 ^ min (Int.toNat (IntKind.wrap IntKind.i64 (Int.tdiv (IntKind.wrap IntKind.i64 (lenZ n + 1)) 2))) (IntKind.bits IntKind.u64)) = 2 ^ k := by
      rw [w1, w2, hk, wrap_in (n := (k : Int)) (inI_iff.2 (by omega)), w3, Int.one_mul, wrapU_in (by omega) (by omega)]
    exact fnL_ok (N := 300) (pre := lenCPre) (C := lenC) (L := heronLoop) (f := 57) (args := [.int .u64 n]) (H := []) (os := [(0, false), (0, true), (1, false)])
      (ob := [(decide (rootZ n ≤ IntKind.wrap IntKind.u64 (1 * 2 ^ min (Int.toNat (IntKind.wrap IntKind.i64 (Int.tdiv (IntKind.wrap IntKind.i64 (lenZ n + 1)) 2))) (IntKind.bits IntKind.u64))), true), (decide (IntKind.wrap IntKind.u64 (1 * 2 ^ min (Int.toNat (IntKind.wrap IntKind.i64 (Int.tdiv (IntKind.wrap IntKind.i64 (lenZ n + 1)) 2))) (IntKind.bits IntKind.u64)) ≤ 4294967296), true), (decide (0 < n), true), (decide (n ≤ 18446744073709551615), true), (decide (IntKind.wrap IntKind.i64 (Int.tdiv (IntKind.wrap IntKind.i64 (lenZ n + 1)) 2) < 0), false), (lenCPre 115 [.int .u64 n] [], true), (n == 0, false)])
      progOk extSound lenC_sound heronLoop_ok (by kernel_rfl) (by
        rw [e, w1, w2, hk, wrap_in (n := (k : Int)) (inI_iff.2 (by omega))]
        simp [Holds, lenCPre, isU, hz, h0, h1, p2]
        omega)

def fx3 : Oracle := fun f args H => match H with
  | [] => match f, args with
    | 49, [.int .i64 a, .int .i64 b] => some (.int .i64 (satZ a b), [], 0)
    | 63, [.int .i64 a, .int .i64 b] => some (.int .i64 (satZ a b), [], 0)
    | 57, [.int .u64 n] => some (.int .u64 (rootZ n), [], 0)
    | 58, [.int .u64 n] => some (.int .u64 (rootZ n), [], 0)
    | 115, [.int .u64 n] => some (.int .i64 (lenZ n), [], 0)
    | 42, [] => some (.bool true, [], 0)
    | 43, [.int .i64 a, .int .i64 b] => some (.tuple #[.int .i64 (divQ a b), .int .i64 (divE b)], [], 0)
    | 44, [.int .i64 a, .int .i64 b] => some (.tuple #[.int .i64 (divQ a b), .int .i64 (divE b)], [], 0)
    | 45, [.int .i64 v, .int .i64 b] => some (.int .i64 (roundZ v b), [], 0)
    | 46, [.int .i64 v, .int .i64 b] => some (.int .i64 (roundZ v b), [], 0)
    | 47, [.int .i64 a, .int .i64 b, .int .i64 y] => some (.int .i64 (mulZ a b y), [], 0)
    | 48, [.int .i64 a, .int .i64 b, .int .i64 y] => some (.int .i64 (mulZ a b y), [], 0)
    | _, _ => none
  | _ => none
def fx3Pre   : Pre := fun f args _ => match f, args with
  | 57, [.int .u64 n] => isU n
  | 58, [.int .u64 n] => isU n
  | 115, [.int .u64 n] => isU n
  | 43, [.int .i64 v, .int .i64 b] => inI v && inI b
  | 44, [.int .i64 v, .int .i64 b] => inI v && inI b
  | 45, [.int .i64 v, .int .i64 b] => inI v && inI b
  | 46, [.int .i64 v, .int .i64 b] => inI v && inI b
  | 47, [.int .i64 _, .int .i64 _, .int .i64 y] => inI y
  | 48, [.int .i64 _, .int .i64 _, .int .i64 y] => inI y
  | _, _ => true

theorem fx3_sound : Sound Try.prog (strict fx3Pre fx3) := by
  refine Sound.strict fun f args H v H' l hp h => ?_
  unfold fx3 at h
  split at h
  · split at h
    all_goals first | (simp at h; done) | (simp only [Option.some.injEq, Prod.mk.injEq] at h; obtain ⟨rfl, rfl, rfl⟩ := h; simp only [fx3Pre, Bool.and_eq_true, isU_iff] at hp)
    · exact sat_ok _ _
    · exact ref_sat_ok _ _
    · exact sqrt_ok _ hp.1 hp.2
    · exact ref_root_ok _ hp.1 hp.2
    · exact len64_ok _ hp.1 hp.2
    · exact live5_ok
    · exact div_ok _ _ hp.1 hp.2
    · exact ref_div_ok _ _ hp.1 hp.2
    · exact round_ok _ _ hp.1 hp.2
    · exact ref_round_ok _ _ hp.1 hp.2
    · exact mul_ok _ _ _ hp
    · exact ref_mul_ok _ _ _ hp
  · simp at h

end Go.Proofs.Ytfbjpenbpbpcaaa

