/-
  Chapter 05's roots: how long a number is (math/bits.Len64), Sqrt, and the reference's, bit by bit.
-/
import Derived.Test.YtfbjpenbpbpcaaaFx3
namespace Go.Proofs.Ytfbjpenbpbpcaaa
open Go Den
set_option maxRecDepth 100000
set_option linter.unusedSimpArgs false

/-- How many bits a number has. -/
def lenZ (n : Int) : Int := if n ≤ 0 then 0 else ((Nat.log2 n.toNat + 1 : Nat) : Int)

theorem lenZ_eq {n : Int} {k : Nat} (h1 : (2 : Int) ^ k ≤ n) (h2 : n < 2 ^ (k + 1)) : lenZ n = k + 1 := by
  have p := pow_pos k
  unfold lenZ
  rw [if_neg (by omega)]
  obtain ⟨m, rfl⟩ : ∃ m : Nat, n = m := ⟨n.toNat, by omega⟩
  have c1 : ((2 ^ k : Nat) : Int) ≤ m := by simpa using h1
  have c2 : (m : Int) < ((2 ^ (k + 1) : Nat) : Int) := by simpa using h2
  have d1 : 2 ^ k ≤ m := by omega
  have d2 : m < 2 ^ (k + 1) := by omega
  have hm : m ≠ 0 := by have := Nat.pow_pos (a := 2) (n := k) (by decide); omega
  have e1 := (Nat.le_log2 hm).2 d1
  have e2 := (Nat.log2_lt hm).2 d2
  simp only [Int.toNat_natCast]
  omega

theorem lenZ_spec {n : Int} (h : 0 < n) : ∃ k : Nat, lenZ n = k + 1 ∧ (2 : Int) ^ k ≤ n ∧ n < 2 ^ (k + 1) := by
  obtain ⟨m, rfl⟩ : ∃ m : Nat, n = m := ⟨n.toNat, by omega⟩
  have hm : m ≠ 0 := by omega
  have e1 : 2 ^ m.log2 ≤ m := (Nat.le_log2 hm).1 (Nat.le_refl _)
  have e2 : m < 2 ^ (m.log2 + 1) := (Nat.log2_lt hm).1 (Nat.lt_succ_self _)
  have c1 : ((2 ^ m.log2 : Nat) : Int) ≤ m := by omega
  have c2 : (m : Int) < ((2 ^ (m.log2 + 1) : Nat) : Int) := by omega
  have d1 : (2 : Int) ^ m.log2 ≤ m := by simpa using c1
  have d2 : (m : Int) < (2 : Int) ^ (m.log2 + 1) := by simpa using c2
  exact ⟨m.log2, lenZ_eq d1 d2, d1, d2⟩

/-- A number without its low bits is so much shorter. -/
theorem lenZ_div {n : Int} {s : Nat} (h : 0 < n / 2 ^ s) : lenZ n = s + lenZ (n / 2 ^ s) := by
  obtain ⟨k, e, h1, h2⟩ := lenZ_spec h
  have p := pow_pos s
  have a1 := Int.mul_ediv_add_emod n (2 ^ s)
  have a2 := Int.emod_nonneg n (Int.ne_of_gt p)
  have a3 := Int.emod_lt_of_pos n p
  have b1 : (2 : Int) ^ s * 2 ^ k ≤ 2 ^ s * (n / 2 ^ s) := Int.mul_le_mul_of_nonneg_left h1 (Int.le_of_lt p)
  have b2 : (2 : Int) ^ s * (n / 2 ^ s + 1) ≤ 2 ^ s * 2 ^ (k + 1) := Int.mul_le_mul_of_nonneg_left h2 (Int.le_of_lt p)
  rw [← Int.pow_add] at b1 b2
  rw [Int.mul_add, Int.mul_one] at b2
  rw [e, lenZ_eq (k := s + k) (by omega) (by rw [show s + k + 1 = s + (k + 1) by omega]; omega)]
  omega

def len8 : ByteArray := ⟨#[0, 1, 2, 2, 3, 3, 3, 3, 4, 4, 4, 4, 4, 4, 4, 4, 5, 5, 5, 5, 5, 5, 5, 5, 5, 5, 5, 5, 5, 5, 5, 5, 6, 6, 6, 6, 6, 6, 6, 6, 6, 6, 6, 6, 6, 6, 6, 6, 6, 6, 6, 6, 6, 6, 6, 6, 6, 6, 6, 6, 6, 6, 6, 6, 7, 7, 7, 7, 7, 7, 7, 7, 7, 7, 7, 7, 7, 7, 7, 7, 7, 7, 7, 7, 7, 7, 7, 7, 7, 7, 7, 7, 7, 7, 7, 7, 7, 7, 7, 7, 7, 7, 7, 7, 7, 7, 7, 7, 7, 7, 7, 7, 7, 7, 7, 7, 7, 7, 7, 7, 7, 7, 7, 7, 7, 7, 7, 7, 8, 8, 8, 8, 8, 8, 8, 8, 8, 8, 8, 8, 8, 8, 8, 8, 8, 8, 8, 8, 8, 8, 8, 8, 8, 8, 8, 8, 8, 8, 8, 8, 8, 8, 8, 8, 8, 8, 8, 8, 8, 8, 8, 8, 8, 8, 8, 8, 8, 8, 8, 8, 8, 8, 8, 8, 8, 8, 8, 8, 8, 8, 8, 8, 8, 8, 8, 8, 8, 8, 8, 8, 8, 8, 8, 8, 8, 8, 8, 8, 8, 8, 8, 8, 8, 8, 8, 8, 8, 8, 8, 8, 8, 8, 8, 8, 8, 8, 8, 8, 8, 8, 8, 8, 8, 8, 8, 8, 8, 8, 8, 8, 8, 8, 8, 8, 8, 8, 8, 8, 8, 8, 8, 8, 8, 8, 8, 8]⟩

theorem len8_ok {x : Int} (h0 : 0 ≤ x) (h1 : x ≤ 255) : byteAt len8 x.toNat = lenZ x := by
  have h : (List.range 256).all (fun x => byteAt len8 x == lenZ x) = true := by kernel_rfl
  have := List.all_eq_true.1 h x.toNat (List.mem_range.2 (by omega))
  simp only [beq_iff_eq] at this
  rw [this, Int.toNat_of_nonneg h0]

def lenPre   : Pre := fun f args _ => match f, args with
  | 1000000, [.int .i64 k] => k != -1
  | _, _ => true
theorem lenSound : Sound Try.prog (strict lenPre noC) := Sound.strict fun f args H v H' l _ h => by simp [noC] at h

theorem shr_lit (x : Int) (k : Nat) (hk : k ≤ 63) : x.fdiv (2 ^ min (Int.toNat (k : Int)) (IntKind.bits IntKind.u64)) = x / 2 ^ k := by
  have e : min (Int.toNat (k : Int)) (IntKind.bits IntKind.u64) = k := by show min (Int.toNat (k : Int)) 64 = k; simp; omega
  rw [e, Int.fdiv_eq_ediv_of_nonneg _ (Int.le_of_lt (pow_pos _))]
theorem wrap8_in {n : Int} (h : 0 ≤ n) (h' : n ≤ 255) : IntKind.u8.wrap n = n := by
  unfold IntKind.wrap
  simp [IntKind.bits, IntKind.signed]
  omega
theorem len8_size : (len8.size : Int) = 256 := by kernel_rfl

theorem len64_ok (n : Int) (h0 : 0 ≤ n) (h1 : n ≤ 18446744073709551615) : CallOk Try.prog 115 [.int .u64 n] [] (.int .i64 (lenZ n)) [] 0 := by
  have s32 : ∀ x : Int, x.fdiv (2 ^ min (Int.toNat 32) (IntKind.bits IntKind.u64)) = x / 4294967296 := fun x => shr_lit x 32 (by decide)
  have s16 : ∀ x : Int, x.fdiv (2 ^ min (Int.toNat 16) (IntKind.bits IntKind.u64)) = x / 65536 := fun x => shr_lit x 16 (by decide)
  have s8 : ∀ x : Int, x.fdiv (2 ^ min (Int.toNat 8) (IntKind.bits IntKind.u64)) = x / 256 := fun x => shr_lit x 8 (by decide)
  have fin : ∀ (x y : Int), 0 ≤ x → x ≤ 255 → 0 ≤ y → y ≤ 56 → IntKind.i64.wrap (y + IntKind.i64.wrap (byteAt len8 (Int.toNat (IntKind.u8.wrap x)))) = y + lenZ x := by
    intro x y hx hx' hy hy'
    rw [wrap8_in hx hx', len8_ok hx hx']
    have : 0 ≤ lenZ x ∧ lenZ x ≤ 8 := by
      rcases Int.lt_or_le 0 x with h | h
      · obtain ⟨k, e, k1, _⟩ := lenZ_spec h
        have : k < 8 := by
          refine Nat.lt_of_not_le fun hk => ?_
          have : (2 : Nat) ^ 8 ≤ 2 ^ k := Nat.pow_le_pow_right (by decide) hk
          have : ((2 ^ 8 : Nat) : Int) ≤ ((2 ^ k : Nat) : Int) := Int.ofNat_le.2 this
          simp at this
          omega
        omega
      · unfold lenZ; rw [if_pos h]; omega
    rw [wrap_in (n := lenZ x) (inI_iff.2 (by omega)), wrap_in (n := y + lenZ x) (inI_iff.2 (by omega))]

  by_cases h0 : n ≥ 4294967296
  · skip
    by_cases h1 : (n / 4294967296) ≥ 65536
    · skip
      by_cases h2 : ((n / 4294967296) / 65536) ≥ 256
      · skip
        have h := evFnL_plain (N := 300) (pre := lenPre) (C := noC) (f := 115) (args := [.int .u64 n]) (H := []) (os := [(0, true), (1, true), (1, true), (1, true)]) (v := (.int .i64 (IntKind.wrap IntKind.i64 ((IntKind.wrap IntKind.i64 ((IntKind.wrap IntKind.i64 ((32 : Int) + 16)) + 8)) + IntKind.wrap IntKind.i64 (byteAt len8 (Int.toNat (IntKind.wrap IntKind.u8 (Int.fdiv (Int.fdiv (Int.fdiv n (2 ^ min (Int.toNat 32) (IntKind.bits IntKind.u64))) (2 ^ min (Int.toNat 16) (IntKind.bits IntKind.u64))) (2 ^ min (Int.toNat 8) (IntKind.bits IntKind.u64)))))))))) (H' := []) (l := 0)
          (ob := [(decide (0 ≤ (IntKind.wrap IntKind.u8 (Int.fdiv (Int.fdiv (Int.fdiv n (2 ^ min (Int.toNat 32) (IntKind.bits IntKind.u64))) (2 ^ min (Int.toNat 16) (IntKind.bits IntKind.u64))) (2 ^ min (Int.toNat 8) (IntKind.bits IntKind.u64)))) ∧ (IntKind.wrap IntKind.u8 (Int.fdiv (Int.fdiv (Int.fdiv n (2 ^ min (Int.toNat 32) (IntKind.bits IntKind.u64))) (2 ^ min (Int.toNat 16) (IntKind.bits IntKind.u64))) (2 ^ min (Int.toNat 8) (IntKind.bits IntKind.u64)))) < (len8.size : Int)), true), (decide ((Int.fdiv (Int.fdiv n (2 ^ min (Int.toNat 32) (IntKind.bits IntKind.u64))) (2 ^ min (Int.toNat 16) (IntKind.bits IntKind.u64))) ≥ 256), true), (decide ((Int.fdiv n (2 ^ min (Int.toNat 32) (IntKind.bits IntKind.u64))) ≥ 65536), true), (decide (n ≥ 4294967296), true)]) progOk extSound lenSound (by kernel_rfl) (by
            simp only [s32, s16, s8, len8_size]
            rw [wrap8_in (by omega) (by omega)]
            simp [Holds]; omega)
        simp only [s32, s16, s8] at h
        rw [show (IntKind.wrap IntKind.i64 ((IntKind.wrap IntKind.i64 ((32 : Int) + 16)) + 8)) = 56 by decide, fin _ _ (by omega) (by omega) (by omega) (by omega)] at h
        rw [lenZ_div (n := n) (s := 56) (by simp; omega)]
        simp only [show (2 : Int) ^ 56 = 72057594037927936 by decide]
        rw [show n / 72057594037927936 = (((n / 4294967296) / 65536) / 256) by omega]
        exact h
      · skip
        have h := evFnL_plain (N := 300) (pre := lenPre) (C := noC) (f := 115) (args := [.int .u64 n]) (H := []) (os := [(0, true), (1, true), (1, false), (0, true)]) (v := (.int .i64 (IntKind.wrap IntKind.i64 ((IntKind.wrap IntKind.i64 ((32 : Int) + 16)) + IntKind.wrap IntKind.i64 (byteAt len8 (Int.toNat (IntKind.wrap IntKind.u8 (Int.fdiv (Int.fdiv n (2 ^ min (Int.toNat 32) (IntKind.bits IntKind.u64))) (2 ^ min (Int.toNat 16) (IntKind.bits IntKind.u64)))))))))) (H' := []) (l := 0)
          (ob := [(decide (0 ≤ (IntKind.wrap IntKind.u8 (Int.fdiv (Int.fdiv n (2 ^ min (Int.toNat 32) (IntKind.bits IntKind.u64))) (2 ^ min (Int.toNat 16) (IntKind.bits IntKind.u64)))) ∧ (IntKind.wrap IntKind.u8 (Int.fdiv (Int.fdiv n (2 ^ min (Int.toNat 32) (IntKind.bits IntKind.u64))) (2 ^ min (Int.toNat 16) (IntKind.bits IntKind.u64)))) < (len8.size : Int)), true), (decide ((Int.fdiv (Int.fdiv n (2 ^ min (Int.toNat 32) (IntKind.bits IntKind.u64))) (2 ^ min (Int.toNat 16) (IntKind.bits IntKind.u64))) ≥ 256), false), (decide ((Int.fdiv n (2 ^ min (Int.toNat 32) (IntKind.bits IntKind.u64))) ≥ 65536), true), (decide (n ≥ 4294967296), true)]) progOk extSound lenSound (by kernel_rfl) (by
            simp only [s32, s16, s8, len8_size]
            rw [wrap8_in (by omega) (by omega)]
            simp [Holds]; omega)
        simp only [s32, s16, s8] at h
        rw [show (IntKind.wrap IntKind.i64 ((32 : Int) + 16)) = 48 by decide, fin _ _ (by omega) (by omega) (by omega) (by omega)] at h
        rw [lenZ_div (n := n) (s := 48) (by simp; omega)]
        simp only [show (2 : Int) ^ 48 = 281474976710656 by decide]
        rw [show n / 281474976710656 = ((n / 4294967296) / 65536) by omega]
        exact h
    · skip
      by_cases h2 : (n / 4294967296) ≥ 256
      · skip
        have h := evFnL_plain (N := 300) (pre := lenPre) (C := noC) (f := 115) (args := [.int .u64 n]) (H := []) (os := [(0, true), (1, false), (0, true), (1, true)]) (v := (.int .i64 (IntKind.wrap IntKind.i64 ((IntKind.wrap IntKind.i64 ((32 : Int) + 8)) + IntKind.wrap IntKind.i64 (byteAt len8 (Int.toNat (IntKind.wrap IntKind.u8 (Int.fdiv (Int.fdiv n (2 ^ min (Int.toNat 32) (IntKind.bits IntKind.u64))) (2 ^ min (Int.toNat 8) (IntKind.bits IntKind.u64)))))))))) (H' := []) (l := 0)
          (ob := [(decide (0 ≤ (IntKind.wrap IntKind.u8 (Int.fdiv (Int.fdiv n (2 ^ min (Int.toNat 32) (IntKind.bits IntKind.u64))) (2 ^ min (Int.toNat 8) (IntKind.bits IntKind.u64)))) ∧ (IntKind.wrap IntKind.u8 (Int.fdiv (Int.fdiv n (2 ^ min (Int.toNat 32) (IntKind.bits IntKind.u64))) (2 ^ min (Int.toNat 8) (IntKind.bits IntKind.u64)))) < (len8.size : Int)), true), (decide ((Int.fdiv n (2 ^ min (Int.toNat 32) (IntKind.bits IntKind.u64))) ≥ 256), true), (decide ((Int.fdiv n (2 ^ min (Int.toNat 32) (IntKind.bits IntKind.u64))) ≥ 65536), false), (decide (n ≥ 4294967296), true)]) progOk extSound lenSound (by kernel_rfl) (by
            simp only [s32, s16, s8, len8_size]
            rw [wrap8_in (by omega) (by omega)]
            simp [Holds]; omega)
        simp only [s32, s16, s8] at h
        rw [show (IntKind.wrap IntKind.i64 ((32 : Int) + 8)) = 40 by decide, fin _ _ (by omega) (by omega) (by omega) (by omega)] at h
        rw [lenZ_div (n := n) (s := 40) (by simp; omega)]
        simp only [show (2 : Int) ^ 40 = 1099511627776 by decide]
        rw [show n / 1099511627776 = ((n / 4294967296) / 256) by omega]
        exact h
      · skip
        have h := evFnL_plain (N := 300) (pre := lenPre) (C := noC) (f := 115) (args := [.int .u64 n]) (H := []) (os := [(0, true), (1, false), (0, false), (0, true)]) (v := (.int .i64 (IntKind.wrap IntKind.i64 ((32 : Int) + IntKind.wrap IntKind.i64 (byteAt len8 (Int.toNat (IntKind.wrap IntKind.u8 (Int.fdiv n (2 ^ min (Int.toNat 32) (IntKind.bits IntKind.u64)))))))))) (H' := []) (l := 0)
          (ob := [(decide (0 ≤ (IntKind.wrap IntKind.u8 (Int.fdiv n (2 ^ min (Int.toNat 32) (IntKind.bits IntKind.u64)))) ∧ (IntKind.wrap IntKind.u8 (Int.fdiv n (2 ^ min (Int.toNat 32) (IntKind.bits IntKind.u64)))) < (len8.size : Int)), true), (decide ((Int.fdiv n (2 ^ min (Int.toNat 32) (IntKind.bits IntKind.u64))) ≥ 256), false), (decide ((Int.fdiv n (2 ^ min (Int.toNat 32) (IntKind.bits IntKind.u64))) ≥ 65536), false), (decide (n ≥ 4294967296), true)]) progOk extSound lenSound (by kernel_rfl) (by
            simp only [s32, s16, s8, len8_size]
            rw [wrap8_in (by omega) (by omega)]
            simp [Holds]; omega)
        simp only [s32, s16, s8] at h
        rw [show (32 : Int) = 32 by decide, fin _ _ (by omega) (by omega) (by omega) (by omega)] at h
        rw [lenZ_div (n := n) (s := 32) (by simp; omega)]
        simp only [show (2 : Int) ^ 32 = 4294967296 by decide]
        rw [show n / 4294967296 = (n / 4294967296) by omega]
        exact h
  · skip
    by_cases h1 : n ≥ 65536
    · skip
      by_cases h2 : (n / 65536) ≥ 256
      · skip
        have h := evFnL_plain (N := 300) (pre := lenPre) (C := noC) (f := 115) (args := [.int .u64 n]) (H := []) (os := [(0, false), (0, true), (1, true), (1, true)]) (v := (.int .i64 (IntKind.wrap IntKind.i64 ((IntKind.wrap IntKind.i64 ((IntKind.wrap IntKind.i64 ((0 : Int) + 16)) + 8)) + IntKind.wrap IntKind.i64 (byteAt len8 (Int.toNat (IntKind.wrap IntKind.u8 (Int.fdiv (Int.fdiv n (2 ^ min (Int.toNat 16) (IntKind.bits IntKind.u64))) (2 ^ min (Int.toNat 8) (IntKind.bits IntKind.u64)))))))))) (H' := []) (l := 0)
          (ob := [(decide (0 ≤ (IntKind.wrap IntKind.u8 (Int.fdiv (Int.fdiv n (2 ^ min (Int.toNat 16) (IntKind.bits IntKind.u64))) (2 ^ min (Int.toNat 8) (IntKind.bits IntKind.u64)))) ∧ (IntKind.wrap IntKind.u8 (Int.fdiv (Int.fdiv n (2 ^ min (Int.toNat 16) (IntKind.bits IntKind.u64))) (2 ^ min (Int.toNat 8) (IntKind.bits IntKind.u64)))) < (len8.size : Int)), true), (decide ((Int.fdiv n (2 ^ min (Int.toNat 16) (IntKind.bits IntKind.u64))) ≥ 256), true), (decide (n ≥ 65536), true), (decide (n ≥ 4294967296), false)]) progOk extSound lenSound (by kernel_rfl) (by
            simp only [s32, s16, s8, len8_size]
            rw [wrap8_in (by omega) (by omega)]
            simp [Holds]; omega)
        simp only [s32, s16, s8] at h
        rw [show (IntKind.wrap IntKind.i64 ((IntKind.wrap IntKind.i64 ((0 : Int) + 16)) + 8)) = 24 by decide, fin _ _ (by omega) (by omega) (by omega) (by omega)] at h
        rw [lenZ_div (n := n) (s := 24) (by simp; omega)]
        simp only [show (2 : Int) ^ 24 = 16777216 by decide]
        rw [show n / 16777216 = ((n / 65536) / 256) by omega]
        exact h
      · skip
        have h := evFnL_plain (N := 300) (pre := lenPre) (C := noC) (f := 115) (args := [.int .u64 n]) (H := []) (os := [(0, false), (0, true), (1, false), (0, true)]) (v := (.int .i64 (IntKind.wrap IntKind.i64 ((IntKind.wrap IntKind.i64 ((0 : Int) + 16)) + IntKind.wrap IntKind.i64 (byteAt len8 (Int.toNat (IntKind.wrap IntKind.u8 (Int.fdiv n (2 ^ min (Int.toNat 16) (IntKind.bits IntKind.u64)))))))))) (H' := []) (l := 0)
          (ob := [(decide (0 ≤ (IntKind.wrap IntKind.u8 (Int.fdiv n (2 ^ min (Int.toNat 16) (IntKind.bits IntKind.u64)))) ∧ (IntKind.wrap IntKind.u8 (Int.fdiv n (2 ^ min (Int.toNat 16) (IntKind.bits IntKind.u64)))) < (len8.size : Int)), true), (decide ((Int.fdiv n (2 ^ min (Int.toNat 16) (IntKind.bits IntKind.u64))) ≥ 256), false), (decide (n ≥ 65536), true), (decide (n ≥ 4294967296), false)]) progOk extSound lenSound (by kernel_rfl) (by
            simp only [s32, s16, s8, len8_size]
            rw [wrap8_in (by omega) (by omega)]
            simp [Holds]; omega)
        simp only [s32, s16, s8] at h
        rw [show (IntKind.wrap IntKind.i64 ((0 : Int) + 16)) = 16 by decide, fin _ _ (by omega) (by omega) (by omega) (by omega)] at h
        rw [lenZ_div (n := n) (s := 16) (by simp; omega)]
        simp only [show (2 : Int) ^ 16 = 65536 by decide]
        rw [show n / 65536 = (n / 65536) by omega]
        exact h
    · skip
      by_cases h2 : n ≥ 256
      · skip
        have h := evFnL_plain (N := 300) (pre := lenPre) (C := noC) (f := 115) (args := [.int .u64 n]) (H := []) (os := [(0, false), (0, false), (0, true), (1, true)]) (v := (.int .i64 (IntKind.wrap IntKind.i64 ((IntKind.wrap IntKind.i64 ((0 : Int) + 8)) + IntKind.wrap IntKind.i64 (byteAt len8 (Int.toNat (IntKind.wrap IntKind.u8 (Int.fdiv n (2 ^ min (Int.toNat 8) (IntKind.bits IntKind.u64)))))))))) (H' := []) (l := 0)
          (ob := [(decide (0 ≤ (IntKind.wrap IntKind.u8 (Int.fdiv n (2 ^ min (Int.toNat 8) (IntKind.bits IntKind.u64)))) ∧ (IntKind.wrap IntKind.u8 (Int.fdiv n (2 ^ min (Int.toNat 8) (IntKind.bits IntKind.u64)))) < (len8.size : Int)), true), (decide (n ≥ 256), true), (decide (n ≥ 65536), false), (decide (n ≥ 4294967296), false)]) progOk extSound lenSound (by kernel_rfl) (by
            simp only [s32, s16, s8, len8_size]
            rw [wrap8_in (by omega) (by omega)]
            simp [Holds]; omega)
        simp only [s32, s16, s8] at h
        rw [show (IntKind.wrap IntKind.i64 ((0 : Int) + 8)) = 8 by decide, fin _ _ (by omega) (by omega) (by omega) (by omega)] at h
        rw [lenZ_div (n := n) (s := 8) (by simp; omega)]
        simp only [show (2 : Int) ^ 8 = 256 by decide]
        rw [show n / 256 = (n / 256) by omega]
        exact h
      · skip
        have h := evFnL_plain (N := 300) (pre := lenPre) (C := noC) (f := 115) (args := [.int .u64 n]) (H := []) (os := [(0, false), (0, false), (0, false), (0, true)]) (v := (.int .i64 (IntKind.wrap IntKind.i64 ((0 : Int) + IntKind.wrap IntKind.i64 (byteAt len8 (Int.toNat (IntKind.wrap IntKind.u8 n))))))) (H' := []) (l := 0)
          (ob := [(decide (0 ≤ (IntKind.wrap IntKind.u8 n) ∧ (IntKind.wrap IntKind.u8 n) < (len8.size : Int)), true), (decide (n ≥ 256), false), (decide (n ≥ 65536), false), (decide (n ≥ 4294967296), false)]) progOk extSound lenSound (by kernel_rfl) (by
            simp only [len8_size]
            rw [wrap8_in (by omega) (by omega)]
            simp [Holds]; omega)
        rw [fin _ _ (by omega) (by omega) (by omega) (by omega), Int.zero_add] at h
        exact h

end Go.Proofs.Ytfbjpenbpbpcaaa
