/-
  The product of two words (math/bits.Mul64), and a loop's step in places that are not computed.
-/
import Derived.Test.YtfbjpenbpbpcaaaFx7
namespace Go.Proofs.Ytfbjpenbpbpcaaa
open Go Den
set_option maxRecDepth 100000
set_option linter.unusedSimpArgs false

theorem and32 (x : Int) (h0 : 0 ≤ x) (h1 : x ≤ 18446744073709551615) : IntKind.u64.wrap ((BitVec.toNat (BitVec.ofInt (IntKind.bits IntKind.u64) x &&& BitVec.ofInt (IntKind.bits IntKind.u64) 4294967295) : Nat) : Int) = x % 4294967296 := by
  obtain ⟨m, rfl⟩ : ∃ m : Nat, x = m := ⟨x.toNat, by omega⟩
  have e : (BitVec.toNat (BitVec.ofInt (IntKind.bits IntKind.u64) (m : Int) &&& BitVec.ofInt (IntKind.bits IntKind.u64) 4294967295)) = m % 4294967296 := by
    show BitVec.toNat (BitVec.ofInt 64 (m : Int) &&& BitVec.ofInt 64 4294967295) = m % 4294967296
    rw [BitVec.toNat_and]
    have e1 : (BitVec.ofInt 64 4294967295).toNat = 2 ^ 32 - 1 := by decide
    have e2 : (BitVec.ofInt 64 (m : Int)).toNat = m := by
      rw [BitVec.toNat_ofInt]
      have : ((2 ^ 64 : Nat) : Int) = 18446744073709551616 := by decide
      rw [this]
      omega
    rw [e1, e2, Nat.and_two_pow_sub_one_eq_mod]
  rw [e, wrapU_in (by omega) (by omega)]
  omega

theorem prod32 {a b : Int} (ha : 0 ≤ a) (ha' : a ≤ 4294967295) (hb : 0 ≤ b) (hb' : b ≤ 4294967295) : 0 ≤ a * b ∧ a * b ≤ 18446744065119617025 := by
  refine ⟨Int.mul_nonneg ha hb, ?_⟩
  have : a * b ≤ 4294967295 * 4294967295 := Int.mul_le_mul ha' hb' hb (by decide)
  omega

def m64N (X0 X1 Y0 Y1 W0 T W1 W2 W1' : Int) : Loops := { renF := fun id => match id with
  | 5 => [(6, X0), (7, X1), (8, Y0), (9, Y1)]
  | 6 => [(10, W0)]
  | 7 => [(11, T)]
  | 9 => [(12, W1), (13, W2)]
  | 10 => [(12, W1')]
  | _ => [] }

theorem wrapU_eq (n : Int) : IntKind.u64.wrap n = n % 18446744073709551616 := by
  unfold IntKind.wrap
  simp [IntKind.bits, IntKind.signed]

theorem mul64_ok (x y : Int) (hx : isU x = true) (hy : isU y = true) : CallOk Try.prog 137 [.int .u64 x, .int .u64 y] [] (.tuple #[.int .u64 (x * y / 18446744073709551616), .int .u64 (x * y % 18446744073709551616)]) [] 0 := by
  obtain ⟨x0, x1⟩ := isU_iff.1 hx
  obtain ⟨y0, y1⟩ := isU_iff.1 hy
  have s32 : ∀ x : Int, x.fdiv (2 ^ min (Int.toNat 32) (IntKind.bits IntKind.u64)) = x / 4294967296 := fun x => shr_lit x 32 (by decide)
  have aX := and32 x x0 x1
  have aY := and32 y y0 y1
  have dX : x = (x / 4294967296) * 4294967296 + x % 4294967296 := by omega
  have dY : y = (y / 4294967296) * 4294967296 + y % 4294967296 := by omega
  generalize hX0 : x % 4294967296 = X0 at *
  generalize hX1 : x / 4294967296 = X1 at *
  generalize hY0 : y % 4294967296 = Y0 at *
  generalize hY1 : y / 4294967296 = Y1 at *
  have p00 := prod32 (a := X0) (b := Y0) (by omega) (by omega) (by omega) (by omega)
  have p10 := prod32 (a := X1) (b := Y0) (by omega) (by omega) (by omega) (by omega)
  have p01 := prod32 (a := X0) (b := Y1) (by omega) (by omega) (by omega) (by omega)
  have p11 := prod32 (a := X1) (b := Y1) (by omega) (by omega) (by omega) (by omega)
  have hp : x * y = X1 * Y1 * 18446744073709551616 + (X1 * Y0 + X0 * Y1) * 4294967296 + X0 * Y0 := by
    rw [dX, dY]
    simp only [Int.add_mul, Int.mul_add]
    have e1 : X1 * 4294967296 * (Y1 * 4294967296) = X1 * Y1 * 18446744073709551616 := by
      rw [Int.mul_assoc, Int.mul_left_comm 4294967296, ← Int.mul_assoc]; omega
    have e2 : X1 * 4294967296 * Y0 = X1 * Y0 * 4294967296 := by rw [Int.mul_right_comm]
    have e3 : X0 * (Y1 * 4294967296) = X0 * Y1 * 4294967296 := by rw [Int.mul_assoc]
    rw [e1, e2, e3]
    omega
  have h := fnL_ok (N := 300) (pre := noPre) (C := noC) (L := m64N X0 X1 Y0 Y1 (X0 * Y0) (X1 * Y0 + X0 * Y0 / 4294967296) ((X1 * Y0 + X0 * Y0 / 4294967296) % 4294967296) ((X1 * Y0 + X0 * Y0 / 4294967296) / 4294967296) ((X1 * Y0 + X0 * Y0 / 4294967296) % 4294967296 + X0 * Y1)) (f := 137) (args := [.int .u64 x, .int .u64 y]) (H := []) (os := [])
    (v := .tuple #[.int .u64 (IntKind.wrap IntKind.u64 (IntKind.wrap IntKind.u64 (IntKind.wrap IntKind.u64 (X1 * Y1) + (X1 * Y0 + X0 * Y0 / 4294967296) / 4294967296) + Int.fdiv ((X1 * Y0 + X0 * Y0 / 4294967296) % 4294967296 + X0 * Y1) (2 ^ min (Int.toNat 32) (IntKind.bits IntKind.u64)))), .int .u64 (IntKind.wrap IntKind.u64 (x * y))])
    (H' := []) (l := 0)
    (ob := [(decide (IntKind.wrap IntKind.u64 ((X1 * Y0 + X0 * Y0 / 4294967296) % 4294967296 + IntKind.wrap IntKind.u64 (X0 * Y1)) = (X1 * Y0 + X0 * Y0 / 4294967296) % 4294967296 + X0 * Y1), true),
      (decide (Int.fdiv (X1 * Y0 + X0 * Y0 / 4294967296) (2 ^ min (Int.toNat 32) (IntKind.bits IntKind.u64)) = (X1 * Y0 + X0 * Y0 / 4294967296) / 4294967296), true),
      (decide (IntKind.wrap IntKind.u64 ↑(BitVec.toNat (BitVec.ofInt (IntKind.bits IntKind.u64) (X1 * Y0 + X0 * Y0 / 4294967296) &&& BitVec.ofInt (IntKind.bits IntKind.u64) 4294967295)) = (X1 * Y0 + X0 * Y0 / 4294967296) % 4294967296), true),
      (decide (IntKind.wrap IntKind.u64 (IntKind.wrap IntKind.u64 (X1 * Y0) + Int.fdiv (X0 * Y0) (2 ^ min (Int.toNat 32) (IntKind.bits IntKind.u64))) = X1 * Y0 + X0 * Y0 / 4294967296), true),
      (decide (IntKind.wrap IntKind.u64 (X0 * Y0) = X0 * Y0), true),
      (decide (Int.fdiv y (2 ^ min (Int.toNat 32) (IntKind.bits IntKind.u64)) = Y1), true),
      (decide (IntKind.wrap IntKind.u64 ↑(BitVec.toNat (BitVec.ofInt (IntKind.bits IntKind.u64) y &&& BitVec.ofInt (IntKind.bits IntKind.u64) 4294967295)) = Y0), true),
      (decide (Int.fdiv x (2 ^ min (Int.toNat 32) (IntKind.bits IntKind.u64)) = X1), true),
      (decide (IntKind.wrap IntKind.u64 ↑(BitVec.toNat (BitVec.ofInt (IntKind.bits IntKind.u64) x &&& BitVec.ofInt (IntKind.bits IntKind.u64) 4294967295)) = X0), true)])
    progOk extSound noC_sound (LoopsOk.names rfl) (by kernel_rfl) (by
      simp only [s32, aX, aY, hX1, hY1]
      rw [and32 _ (by omega) (by omega), wrapU_in (n := X0 * Y1) (by omega) (by omega), wrapU_in (n := X1 * Y0) (by omega) (by omega), wrapU_in (n := X0 * Y0) (by omega) (by omega),
        wrapU_in (n := X1 * Y0 + X0 * Y0 / 4294967296) (by omega) (by omega), wrapU_in (n := (X1 * Y0 + X0 * Y0 / 4294967296) % 4294967296 + X0 * Y1) (by omega) (by omega)]
      simp [Holds])
  rw [s32, wrapU_in (n := X1 * Y1) (by omega) (by omega), wrapU_in (n := X1 * Y1 + (X1 * Y0 + X0 * Y0 / 4294967296) / 4294967296) (by omega) (by omega), wrapU_in (n := X1 * Y1 + (X1 * Y0 + X0 * Y0 / 4294967296) / 4294967296 + ((X1 * Y0 + X0 * Y0 / 4294967296) % 4294967296 + X0 * Y1) / 4294967296) (by omega) (by omega), wrapU_eq] at h
  rw [show x * y / 18446744073709551616 = X1 * Y1 + (X1 * Y0 + X0 * Y0 / 4294967296) / 4294967296 + ((X1 * Y0 + X0 * Y0 / 4294967296) % 4294967296 + X0 * Y1) / 4294967296 by rw [hp]; omega]
  exact h

end Go.Proofs.Ytfbjpenbpbpcaaa
