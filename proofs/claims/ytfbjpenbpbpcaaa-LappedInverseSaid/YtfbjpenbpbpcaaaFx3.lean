/-
  The contracts of chapter 05 that saturate: Sat, and the reference's.
-/
import Derived.Test.YtfbjpenbpbpcaaaFx2
namespace Go.Proofs.Ytfbjpenbpbpcaaa
open Go Den
set_option maxRecDepth 100000

/-- The greatest number of so many bits, the bits held between 1 and 62. -/
def topZ (b : Int) : Int := 2 ^ ((withinZ b 1 62).toNat - 1) - 1
def satZ (v b : Int) : Int := withinZ v (-(topZ b) - 1) (topZ b)

theorem bits_le (b : Int) : 1 ≤ withinZ b 1 62 ∧ withinZ b 1 62 ≤ 62 := within_le b 1 62 (by decide)
theorem top_le (b : Int) : 0 ≤ topZ b ∧ topZ b ≤ 2305843009213693951 := by
  unfold topZ
  have h := bits_le b
  have p := pow_pos ((withinZ b 1 62).toNat - 1)
  have h2 : (2 : Nat) ^ ((withinZ b 1 62).toNat - 1) ≤ 2 ^ 61 := Nat.pow_le_pow_right (by decide) (by omega)
  have h3 : ((2 ^ ((withinZ b 1 62).toNat - 1) : Nat) : Int) ≤ ((2 ^ 61 : Nat) : Int) := Int.ofNat_le.2 h2
  simp at h3
  omega

theorem xor_all (x : Int) (hx : inI x = true) : IntKind.i64.wrap ((BitVec.toNat (BitVec.ofInt (IntKind.bits IntKind.i64) (if IntKind.signed IntKind.i64 = true then -1 else IntKind.max IntKind.i64) ^^^ BitVec.ofInt (IntKind.bits IntKind.i64) x) : Nat) : Int) = -x - 1 := by
  have h1 : BitVec.ofInt (IntKind.bits IntKind.i64) (if IntKind.signed IntKind.i64 = true then -1 else IntKind.max IntKind.i64) = BitVec.allOnes 64 := by
    show BitVec.ofInt 64 (-1) = BitVec.allOnes 64
    decide
  rw [h1]
  show IntKind.i64.wrap (((BitVec.allOnes 64 ^^^ BitVec.ofInt 64 x).toNat : Nat) : Int) = -x - 1
  rw [BitVec.allOnes_xor, BitVec.toNat_not, BitVec.toNat_ofInt]
  have hx' := inI_iff.1 hx
  have e : ((2 ^ 64 : Nat) : Int) = 18446744073709551616 := by decide
  rw [e]
  have e2 : (((2 ^ 64 - 1 - (x % 18446744073709551616).toNat : Nat)) : Int) = 18446744073709551615 - x % 18446744073709551616 := by omega
  rw [e2]
  unfold IntKind.wrap
  simp [IntKind.bits, IntKind.signed]
  omega

theorem sat_ok (v b : Int) : CallOk Try.prog 49 [.int .i64 v, .int .i64 b] [] (.int .i64 (satZ v b)) [] 0 := by
  have hb := bits_le b
  have w1 : IntKind.i64.wrap (withinZ b 1 62 - 1) = withinZ b 1 62 - 1 := wrap_in (inI_iff.2 (by omega))
  have ht := top_le b
  have h := evFnL_plain (N := 300) (pre := fx1Pre) (C := fx1) (f := 49) (args := [.int .i64 v, .int .i64 b]) (H := []) (os := [(1, false)])
    (v := .int .i64 (withinZ v (IntKind.wrap IntKind.i64 ↑(BitVec.toNat (BitVec.ofInt (IntKind.bits IntKind.i64) (if IntKind.signed IntKind.i64 = true then -1 else IntKind.max IntKind.i64) ^^^ BitVec.ofInt (IntKind.bits IntKind.i64) (IntKind.wrap IntKind.i64 (IntKind.wrap IntKind.i64 (1 * 2 ^ min (Int.toNat (IntKind.wrap IntKind.i64 (withinZ b 1 62 - 1))) (IntKind.bits IntKind.i64)) - 1))))) (IntKind.wrap IntKind.i64 (IntKind.wrap IntKind.i64 (1 * 2 ^ min (Int.toNat (IntKind.wrap IntKind.i64 (withinZ b 1 62 - 1))) (IntKind.bits IntKind.i64)) - 1))))
    (H' := []) (l := 0) (ob := [(decide (IntKind.wrap IntKind.i64 (withinZ b 1 62 - 1) < 0), false)]) progOk extSound fx1_sound (by kernel_rfl) (by rw [w1]; simp [Holds]; omega)
  have e1 : min (Int.toNat (withinZ b 1 62 - 1)) (IntKind.bits IntKind.i64) = (withinZ b 1 62).toNat - 1 := by rw [bits64]; omega
  have e2 : (2 : Int) ^ ((withinZ b 1 62).toNat - 1) = topZ b + 1 := by unfold topZ; omega
  rw [w1, e1, Int.one_mul, e2, wrap_in (n := topZ b + 1) (inI_iff.2 (by omega)), show topZ b + 1 - 1 = topZ b by omega, wrap_in (n := topZ b) (inI_iff.2 (by omega)), xor_all _ (inI_iff.2 (by omega))] at h
  exact h

theorem Sub.of_list {G F : Slots} (h : ∀ p ∈ G, at? p.1 F = some p.2) : Sub G F := by
  induction G with
  | nil => intro t v h; simp [at?] at h
  | cons p G ih =>
    obtain ⟨k, u⟩ := p
    intro t v hv
    simp only [at?] at hv
    split at hv
    · rename_i hb
      have : k = t := Nat.eq_of_beq_eq_true hb
      subst this
      rw [h (k, u) (by simp), hv]
    · exact ih (fun p hp => h p (by simp [hp])) t v hv

theorem noC_sound' : Sound Try.prog (strict noPre noC) := noC_sound

/-! The reference's loop: the least number, doubled so many times. -/
def satLoop : Loops := { loop := fun id s => match id with
  | 4 => match at? 0 s.F, at? 5 s.F, at? 10 s.F, at? 11 s.F with
    | some (.int .i64 v), some (.int .i64 p), some (.int .i64 m), some (.int .i64 i) => some (.exit 0, ⟨[(5, .int .i64 (-(2 ^ m.toNat))), (0, .int .i64 v)], s.H, s.lo⟩, [(decide (p = -1), true), (decide (i = 0), true), (decide (0 ≤ m), true), (decide (m ≤ 61), true)])
    | _, _, _, _ => none
  | _ => none }

theorem codeOk63 : codeOk (loopAt Try.prog 63 0) = true := by kernel_rfl

theorem satLoop_ok : LoopsOk Try.prog 23 satLoop (bodyOf Try.prog 63) := by
  refine LoopsOk.one (b := loopAt Try.prog 63 0) (by kernel_rfl) fun s x s' o h hh => ?_
  rw [show firstId (loopAt Try.prog 63 0) = 4 by kernel_rfl] at h
  simp only [satLoop] at h
  split at h
  case h_2 => simp at h
  rename_i v p m i h0 h5 h10 h11
  simp only [Option.some.injEq, Prod.mk.injEq] at h
  obtain ⟨rfl, rfl, rfl⟩ := h
  simp [Holds] at hh
  obtain ⟨rfl, rfl, hm0, hm1⟩ := hh
  have hw := WP.loop (P := Try.prog) (nt := 23) (b := loopAt Try.prog 63 0) (fun i => ⟨[(5, .int .i64 (-(2 ^ i))), (10, .int .i64 m), (11, .int .i64 i), (0, .int .i64 v)], s.H, s.lo⟩) m.toNat (x := .exit 0) (s' := ⟨[(5, .int .i64 (-(2 ^ m.toNat))), (10, .int .i64 m), (11, .int .i64 m.toNat), (0, .int .i64 v)], s.H, s.lo⟩) (by simp)
    (fun i hi => by
      have hp : (2 : Int) ^ i ≤ 4611686018427387904 := pow_le62 (by omega)
      have := pow_pos i
      have h := WP.run (P := Try.prog) (X := ext) (pre := noPre) (C := noC) (L := noLoops) (N := 300) (nt := 23) progOk extSound noC_sound codeOk63 noLoops_ok (F := [(5, .int .i64 (-(2 ^ i))), (10, .int .i64 m), (11, .int .i64 i), (0, .int .i64 v)]) (H := s.H) (lo := s.lo) (os := [(0, true)]) [5, 10, 11, 0]
        (x := .normal) (F' := [(5, Value.int IntKind.i64 (IntKind.wrap IntKind.i64 (-(2 ^ i) * 2))), (10, Value.int IntKind.i64 m), (11, Value.int IntKind.i64 (IntKind.wrap IntKind.i64 (i + 1))), (0, Value.int IntKind.i64 v)]) (H' := s.H) (lo' := s.lo) (ob := [(decide ((i : Int) < m), true)]) (by kernel_rfl) (by simp [Holds]; omega)
      rw [wrap_in (n := -(2 ^ i) * 2) (inI_iff.2 (by omega)), wrap_in (n := (i : Int) + 1) (inI_iff.2 (by omega)), show -(2 : Int) ^ i * 2 = -(2 ^ (i + 1)) by rw [Int.pow_succ]; omega] at h
      exact h)
    (WP.run (P := Try.prog) (X := ext) (pre := noPre) (C := noC) (L := noLoops) (N := 300) (nt := 23) progOk extSound noC_sound codeOk63 noLoops_ok (os := [(0, false)]) [5, 10, 11, 0] (ob := [(decide ((m.toNat : Int) < m), false)]) (by kernel_rfl) (by simp [Holds]; omega))
  refine WP.weaken hw (Sub.of_list ?_) (Sub.of_list (by simp [at?, Nat.beq]))
  simp [h0, h5, h10, h11]

end Go.Proofs.Ytfbjpenbpbpcaaa
