/-
  Chapter 05's roots: the root's law, the reference bit by bit, and Heron's way.
-/
import Derived.Test.YtfbjpenbpbpcaaaFx4
namespace Go.Proofs.Ytfbjpenbpbpcaaa
open Go Den
set_option maxRecDepth 100000
set_option linter.unusedSimpArgs false

/-- The root, bit by bit: behind so many bits. -/
def refR (n : Int) : Nat → Int
  | 0 => 0
  | i + 1 => if (refR n i + 2 ^ (31 - i)) * (refR n i + 2 ^ (31 - i)) ≤ n then refR n i + 2 ^ (31 - i) else refR n i
def rootZ (n : Int) : Int := refR n 32

theorem refR_spec (n : Int) (h0 : 0 ≤ n) (h1 : n ≤ 18446744073709551615) : ∀ i : Nat, i ≤ 32 → ∃ q : Nat, refR n i = 2 ^ (32 - i) * q ∧ refR n i * refR n i ≤ n ∧ n < (refR n i + 2 ^ (32 - i)) * (refR n i + 2 ^ (32 - i)) ∧ refR n i + 2 ^ (32 - i) ≤ 4294967296 := by
  intro i
  induction i with
  | zero => intro _; exact ⟨0, by simp [refR], by simp [refR]; omega, by simp [refR]; omega, by simp [refR]⟩
  | succ i ih =>
    intro hi
    obtain ⟨q, e, a1, a2, a3⟩ := ih (by omega)
    have hk : 32 - i = (31 - i) + 1 := by omega
    have hk2 : 32 - (i + 1) = 31 - i := by omega
    rw [hk] at e a2 a3
    rw [hk2]
    have p := pow_pos (31 - i)
    have e2 : (2 : Int) ^ (31 - i + 1) = 2 * 2 ^ (31 - i) := by rw [Int.pow_succ]; omega
    rw [e2] at e a2 a3
    simp only [refR]
    split
    · rename_i h
      refine ⟨2 * q + 1, ?_, h, ?_, by omega⟩
      · rw [e]; push_cast; rw [Int.mul_add, Int.mul_one, Int.mul_assoc, Int.mul_left_comm 2]
      · rw [show refR n i + 2 ^ (31 - i) + 2 ^ (31 - i) = refR n i + 2 * 2 ^ (31 - i) by omega]
        exact a2
    · rename_i h
      refine ⟨2 * q, ?_, a1, by omega, by omega⟩
      rw [e]; push_cast; rw [Int.mul_assoc, Int.mul_left_comm 2]

theorem root_spec (n : Int) (h0 : 0 ≤ n) (h1 : n ≤ 18446744073709551615) : 0 ≤ rootZ n ∧ rootZ n * rootZ n ≤ n ∧ n < (rootZ n + 1) * (rootZ n + 1) ∧ rootZ n ≤ 4294967295 := by
  obtain ⟨q, e, a1, a2, a3⟩ := refR_spec n h0 h1 32 (by omega)
  simp at e a2 a3
  exact ⟨by unfold rootZ; omega, a1, a2, by unfold rootZ; omega⟩

theorem sq_lt {a b : Int} (ha : 0 ≤ a) (h : a * a < b * b) (hb : 0 ≤ b) : a < b := by
  refine Int.not_le.1 fun hle => ?_
  have : b * b ≤ a * a := Int.mul_le_mul hle hle hb ha
  omega

theorem root_eq {n r : Int} (h0 : 0 ≤ n) (h1 : n ≤ 18446744073709551615) (hr : 0 ≤ r) (a1 : r * r ≤ n) (a2 : n < (r + 1) * (r + 1)) : r = rootZ n := by
  obtain ⟨b0, b1, b2, _⟩ := root_spec n h0 h1
  have c1 := sq_lt hr (show r * r < (rootZ n + 1) * (rootZ n + 1) by omega) (by omega)
  have c2 := sq_lt b0 (show rootZ n * rootZ n < (r + 1) * (r + 1) by omega) (by omega)
  omega

theorem pow_le31 {k : Nat} (h : k ≤ 31) : (2 : Int) ^ k ≤ 2147483648 := by
  have h1 : (2 : Nat) ^ k ≤ 2 ^ 31 := Nat.pow_le_pow_right (by decide) h
  have h2 : ((2 ^ k : Nat) : Int) ≤ ((2 ^ 31 : Nat) : Int) := Int.ofNat_le.2 h1
  simpa using h2

theorem or_bit (q k : Nat) (hk : k ≤ 31) (hr : (2 : Int) ^ (k + 1) * q ≤ 4294967296) :
    IntKind.u64.wrap ((BitVec.toNat (BitVec.ofInt (IntKind.bits IntKind.u64) (2 ^ (k + 1) * q) ||| BitVec.ofInt (IntKind.bits IntKind.u64) (IntKind.u64.wrap (1 * 2 ^ min (Int.toNat (IntKind.u64.wrap (k : Int))) (IntKind.bits IntKind.u64)))) : Nat) : Int) = 2 ^ (k + 1) * q + 2 ^ k := by
  have hp := pow_le31 hk
  have p := pow_pos k
  have e1 : IntKind.u64.wrap (k : Int) = k := wrapU_in (by omega) (by omega)
  have e2 : min (Int.toNat (k : Int)) (IntKind.bits IntKind.u64) = k := by show min (Int.toNat (k : Int)) 64 = k; simp; omega
  rw [e1, e2, Int.one_mul, wrapU_in (n := 2 ^ k) (by omega) (by omega)]
  show IntKind.u64.wrap ((BitVec.toNat (BitVec.ofInt 64 (2 ^ (k + 1) * q) ||| BitVec.ofInt 64 (2 ^ k)) : Nat) : Int) = _
  have t : ∀ m : Nat, m < 18446744073709551616 → (BitVec.ofInt 64 (m : Int)).toNat = m := by
    intro m hm
    rw [BitVec.toNat_ofInt]
    have : ((2 ^ 64 : Nat) : Int) = 18446744073709551616 := by decide
    rw [this]
    omega
  have c1 : ((2 ^ (k + 1) * q : Nat) : Int) = 2 ^ (k + 1) * (q : Int) := by push_cast; rfl
  have c2 : ((2 ^ k : Nat) : Int) = 2 ^ k := by push_cast; rfl
  rw [BitVec.toNat_or, ← c1, ← c2, t _ (by omega), t _ (by omega), ← Nat.two_pow_add_eq_or_of_lt (by rw [Nat.pow_succ]; have := Nat.pow_pos (a := 2) (n := k) (by decide); omega)]
  push_cast
  exact wrapU_in (by omega) (by omega)

theorem codeOk58 : codeOk (loopAt Try.prog 58 0) = true := by kernel_rfl

def rootLoop : Loops := { loop := fun id s => match id with
  | 3 => match at? 0 s.F, at? 3 s.F, at? 4 s.F with
    | some (.int .u64 n), some (.int .u64 r), some (.int .i64 i) => some (.exit 0, ⟨[(3, .int .u64 (rootZ n)), (0, .int .u64 n)], s.H, s.lo⟩, [(decide (r = 0), true), (decide (i = 31), true), (decide (0 ≤ n), true), (decide (n ≤ 18446744073709551615), true)])
    | _, _, _ => none
  | _ => none }

theorem rootLoop_ok : LoopsOk Try.prog 22 rootLoop (bodyOf Try.prog 58) := by
  refine LoopsOk.one (b := loopAt Try.prog 58 0) (by kernel_rfl) fun s x s' o h hh => ?_
  rw [show firstId (loopAt Try.prog 58 0) = 3 by kernel_rfl] at h
  simp only [rootLoop] at h
  split at h
  case h_2 => simp at h
  rename_i n r i h0 h3 h4
  simp only [Option.some.injEq, Prod.mk.injEq] at h
  obtain ⟨rfl, rfl, rfl⟩ := h
  simp [Holds] at hh
  obtain ⟨rfl, rfl, hn0, hn1⟩ := hh
  have hw := WP.loop (P := Try.prog) (nt := 22) (b := loopAt Try.prog 58 0) (fun i => ⟨[(0, .int .u64 n), (3, .int .u64 (refR n i)), (4, .int .i64 (31 - (i : Int)))], s.H, s.lo⟩) 32 (x := .exit 0) (s' := ⟨[(0, .int .u64 n), (3, .int .u64 (refR n 32)), (4, .int .i64 (31 - ((32 : Nat) : Int)))], s.H, s.lo⟩) (by simp)
    (fun i hi => by
      obtain ⟨q, e, a1, a2, a3⟩ := refR_spec n hn0 hn1 i (by omega)
      have hk : 32 - i = (31 - i) + 1 := by omega
      have hi31 : (31 - (i : Int)) = ((31 - i : Nat) : Int) := by omega
      rw [hk] at e a2 a3
      have p := pow_pos (31 - i + 1)
      have p2 := pow_pos (31 - i)
      have e2 : (2 : Int) ^ (31 - i + 1) = 2 * 2 ^ (31 - i) := by rw [Int.pow_succ]; omega
      have hor := or_bit q (31 - i) (by omega) (by rw [← e]; omega)
      rw [← e, ← hi31] at hor
      have hx : refR n i + 2 ^ (31 - i) ≤ 4294967295 := by omega
      have hx0 : 0 ≤ refR n i := by rw [e]; exact Int.mul_nonneg (Int.le_of_lt p) (by omega)
      have hsq : (refR n i + 2 ^ (31 - i)) * (refR n i + 2 ^ (31 - i)) ≤ 4294967295 * 4294967295 := Int.mul_le_mul hx hx (by omega) (by omega)
      have hsq0 : 0 ≤ (refR n i + 2 ^ (31 - i)) * (refR n i + 2 ^ (31 - i)) := Int.mul_nonneg (by omega) (by omega)
      have hws := wrapU_in hsq0 (by omega)
      have hwi : IntKind.i64.wrap (31 - (i : Int) - 1) = 31 - ((i + 1 : Nat) : Int) := by rw [wrap_in (inI_iff.2 (by omega))]; omega
      have hwu : IntKind.u64.wrap (31 - (i : Int)) = 31 - (i : Int) := wrapU_in (by omega) (by omega)
      simp only [refR]
      by_cases ht : (refR n i + 2 ^ (31 - i)) * (refR n i + 2 ^ (31 - i)) ≤ n
      · rw [if_pos ht]
        have h := WP.run (P := Try.prog) (X := ext) (pre := noPre) (C := noC) (L := noLoops) (N := 300) (nt := 22) progOk extSound noC_sound codeOk58 noLoops_ok (F := [(0, .int .u64 n), (3, .int .u64 (refR n i)), (4, .int .i64 (31 - (i : Int)))]) (H := s.H) (lo := s.lo) (os := [(0, true), (0, false), (0, true)]) [0, 3, 4]
          (x := .normal) (F' := [(0, .int .u64 n), (3, .int .u64 (IntKind.wrap IntKind.u64 ↑(BitVec.toNat (BitVec.ofInt (IntKind.bits IntKind.u64) (refR n i) ||| BitVec.ofInt (IntKind.bits IntKind.u64) (IntKind.wrap IntKind.u64 (1 * 2 ^ min (Int.toNat (IntKind.wrap IntKind.u64 (31 - (i : Int)))) (IntKind.bits IntKind.u64))))))), (4, .int .i64 (IntKind.i64.wrap (31 - (i : Int) - 1)))]) (H' := s.H) (lo' := s.lo)
          (ob := [(decide (IntKind.wrap IntKind.u64 (IntKind.wrap IntKind.u64 ↑(BitVec.toNat (BitVec.ofInt (IntKind.bits IntKind.u64) (refR n i) ||| BitVec.ofInt (IntKind.bits IntKind.u64) (IntKind.wrap IntKind.u64 (1 * 2 ^ min (Int.toNat (IntKind.wrap IntKind.u64 (31 - (i : Int)))) (IntKind.bits IntKind.u64))))) * IntKind.wrap IntKind.u64 ↑(BitVec.toNat (BitVec.ofInt (IntKind.bits IntKind.u64) (refR n i) ||| BitVec.ofInt (IntKind.bits IntKind.u64) (IntKind.wrap IntKind.u64 (1 * 2 ^ min (Int.toNat (IntKind.wrap IntKind.u64 (31 - (i : Int)))) (IntKind.bits IntKind.u64)))))) ≤ n), true), (decide (IntKind.wrap IntKind.u64 (31 - (i : Int)) < 0), false), (decide ((31 - (i : Int)) ≥ 0), true)])
          (by kernel_rfl) (by rw [hor, hws, hwu]; simp [Holds, ht]; omega)
        rw [hor, hwi] at h
        exact h
      · rw [if_neg ht]
        have h := WP.run (P := Try.prog) (X := ext) (pre := noPre) (C := noC) (L := noLoops) (N := 300) (nt := 22) progOk extSound noC_sound codeOk58 noLoops_ok (F := [(0, .int .u64 n), (3, .int .u64 (refR n i)), (4, .int .i64 (31 - (i : Int)))]) (H := s.H) (lo := s.lo) (os := [(0, true), (0, false), (0, false)]) [0, 3, 4]
          (x := .normal) (F' := [(0, .int .u64 n), (3, .int .u64 (refR n i)), (4, .int .i64 (IntKind.i64.wrap (31 - (i : Int) - 1)))]) (H' := s.H) (lo' := s.lo)
          (ob := [(decide (IntKind.wrap IntKind.u64 (IntKind.wrap IntKind.u64 ↑(BitVec.toNat (BitVec.ofInt (IntKind.bits IntKind.u64) (refR n i) ||| BitVec.ofInt (IntKind.bits IntKind.u64) (IntKind.wrap IntKind.u64 (1 * 2 ^ min (Int.toNat (IntKind.wrap IntKind.u64 (31 - (i : Int)))) (IntKind.bits IntKind.u64))))) * IntKind.wrap IntKind.u64 ↑(BitVec.toNat (BitVec.ofInt (IntKind.bits IntKind.u64) (refR n i) ||| BitVec.ofInt (IntKind.bits IntKind.u64) (IntKind.wrap IntKind.u64 (1 * 2 ^ min (Int.toNat (IntKind.wrap IntKind.u64 (31 - (i : Int)))) (IntKind.bits IntKind.u64)))))) ≤ n), false), (decide (IntKind.wrap IntKind.u64 (31 - (i : Int)) < 0), false), (decide ((31 - (i : Int)) ≥ 0), true)])
          (by kernel_rfl) (by rw [hor, hws, hwu]; simp [Holds]; omega)
        rw [hwi] at h
        exact h)
    (WP.run (P := Try.prog) (X := ext) (pre := noPre) (C := noC) (L := noLoops) (N := 300) (nt := 22) progOk extSound noC_sound codeOk58 noLoops_ok (os := [(0, false)]) [0, 3, 4] (ob := [(decide ((31 - ((32 : Nat) : Int)) ≥ 0), false)]) (by kernel_rfl) (by simp [Holds]))
  refine WP.weaken hw (Sub.of_list ?_) (Sub.of_list (by simp [at?, Nat.beq, rootZ]))
  simp [h0, h3, h4, refR]

end Go.Proofs.Ytfbjpenbpbpcaaa
