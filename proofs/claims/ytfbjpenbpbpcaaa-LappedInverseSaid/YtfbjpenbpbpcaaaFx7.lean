/-
  Chapter 05: Sqrt; and the contracts so far, joined.
-/
import Derived.Test.YtfbjpenbpbpcaaaFx6
namespace Go.Proofs.Ytfbjpenbpbpcaaa
open Go Den
set_option maxRecDepth 100000
set_option linter.unusedSimpArgs false

def lenC : Oracle := fun f args H => match H with
  | [] => match f, args with
    | 115, [.int .u64 n] => some (.int .i64 (lenZ n), [], 0)
    | _, _ => none
  | _ => none
def isU (n : Int) : Bool := decide (0 ≤ n) && decide (n ≤ 18446744073709551615)
theorem isU_iff {n : Int} : isU n = true ↔ 0 ≤ n ∧ n ≤ 18446744073709551615 := by simp [isU]
def lenCPre   : Pre := fun f args _ => match f, args with
  | 115, [.int .u64 n] => isU n
  | _, _ => true
theorem lenC_sound : Sound Try.prog (strict lenCPre lenC) := by
  refine Sound.strict fun f args H v H' l hp h => ?_
  unfold lenC at h
  split at h
  · split at h
    · simp only [Option.some.injEq, Prod.mk.injEq] at h; obtain ⟨rfl, rfl, rfl⟩ := h
      have := isU_iff.1 hp
      exact len64_ok _ this.1 this.2
    · simp at h
  · simp at h

theorem lenZ_le {n : Int} (h0 : 0 ≤ n) (h1 : n ≤ 18446744073709551615) : 0 ≤ lenZ n ∧ lenZ n ≤ 64 ∧ n < 2 ^ (lenZ n).toNat := by
  rcases Int.lt_or_le 0 n with h | h
  · obtain ⟨k, e, k1, k2⟩ := lenZ_spec h
    have : k < 64 := by
      refine Nat.lt_of_not_le fun hk => ?_
      have : (2 : Nat) ^ 64 ≤ 2 ^ k := Nat.pow_le_pow_right (by decide) hk
      have : ((2 ^ 64 : Nat) : Int) ≤ ((2 ^ k : Nat) : Int) := Int.ofNat_le.2 this
      simp at this
      omega
    rw [e]
    exact ⟨by omega, by omega, by rw [show ((k : Int) + 1).toNat = k + 1 by omega]; exact k2⟩
  · have : n = 0 := by omega
    subst this
    exact ⟨by decide, by decide, by decide⟩

theorem sqrt_ok (n : Int) (h0 : 0 ≤ n) (h1 : n ≤ 18446744073709551615) : CallOk Try.prog 57 [.int .u64 n] [] (.int .u64 (rootZ n)) [] 0 := by
  by_cases hz : n = 0
  · subst hz
    have e : rootZ 0 = 0 := by decide
    rw [e]
    exact fnL_ok (N := 300) (pre := lenCPre) (C := lenC) (L := heronLoop) (f := 57) (args := [.int .u64 0]) (H := []) (os := [(0, true)]) (ob := [((0 : Int) == 0, true)]) progOk extSound lenC_sound heronLoop_ok (by kernel_rfl) (by simp [Holds])
  · obtain ⟨l0, l1, l2⟩ := lenZ_le h0 h1
    have w1 : IntKind.i64.wrap (lenZ n + 1) = lenZ n + 1 := wrap_in (inI_iff.2 (by omega))
    have w2 : (lenZ n + 1).tdiv 2 = (lenZ n + 1) / 2 := Int.tdiv_eq_ediv_of_nonneg (by omega)
    obtain ⟨k, hk⟩ : ∃ k : Nat, (lenZ n + 1) / 2 = k := ⟨((lenZ n + 1) / 2).toNat, by omega⟩
    have w3 : min (Int.toNat (k : Int)) (IntKind.bits IntKind.u64) = k := by show min (Int.toNat (k : Int)) 64 = k; simp; omega
    have p := pow_pos k
    have p2 : (2 : Int) ^ k ≤ 4294967296 := by
      have h1 : (2 : Nat) ^ k ≤ 2 ^ 32 := Nat.pow_le_pow_right (by decide) (by omega)
      have h2 : ((2 ^ k : Nat) : Int) ≤ ((2 ^ 32 : Nat) : Int) := Int.ofNat_le.2 h1
      simpa using h2
    have hr := root_spec n h0 h1
    have hlt : rootZ n < 2 ^ k := by
      refine sq_lt hr.1 ?_ (Int.le_of_lt p)
      rw [← Int.pow_add]
      have h1 : (2 : Nat) ^ (lenZ n).toNat ≤ 2 ^ (k + k) := Nat.pow_le_pow_right (by decide) (by omega)
      have h2 : ((2 ^ (lenZ n).toNat : Nat) : Int) ≤ ((2 ^ (k + k) : Nat) : Int) := Int.ofNat_le.2 h1
      push_cast at h2
      omega
    have e : IntKind.wrap IntKind.u64 (1 * 2 ^ min (Int.toNat (IntKind.wrap IntKind.i64 (Int.tdiv (IntKind.wrap IntKind.i64 (lenZ n + 1)) 2))) (IntKind.bits IntKind.u64)) = 2 ^ k := by
      rw [w1, w2, hk, wrap_in (n := (k : Int)) (inI_iff.2 (by omega)), w3, Int.one_mul, wrapU_in (by omega) (by omega)]
    exact fnL_ok (N := 300) (pre := lenCPre) (C := lenC) (L := heronLoop) (f := 57) (args := [.int .u64 n]) (H := []) (os := [(0, false), (0, true), (1, false)])
      (ob := [(decide (rootZ n ≤ IntKind.wrap IntKind.u64 (1 * 2 ^ min (Int.toNat (IntKind.wrap IntKind.i64 (Int.tdiv (IntKind.wrap IntKind.i64 (lenZ n + 1)) 2))) (IntKind.bits IntKind.u64))), true), (decide (IntKind.wrap IntKind.u64 (1 * 2 ^ min (Int.toNat (IntKind.wrap IntKind.i64 (Int.tdiv (IntKind.wrap IntKind.i64 (lenZ n + 1)) 2))) (IntKind.bits IntKind.u64)) ≤ 4294967296), true), (decide (0 < n), true), (decide (n ≤ 18446744073709551615), true), (decide (IntKind.wrap IntKind.i64 (Int.tdiv (IntKind.wrap IntKind.i64 (lenZ n + 1)) 2) < 0), false), (lenCPre 115 [.int .u64 n] [], true), (n == 0, false)])
      progOk extSound lenC_sound heronLoop_ok (by kernel_rfl) (by
        rw [e, w1, w2, hk, wrap_in (n := (k : Int)) (inI_iff.2 (by omega))]
        simp [Holds, lenCPre, isU, hz, h0, h1, p2]
        omega)

def fx3 : Oracle := fun f args H => match H with
  | [] => match f, args with
    | 49, [.int .i64 a, .int .i64 b] => some (.int .i64 (satZ a b), [], 0)
    | 63, [.int .i64 a, .int .i64 b] => some (.int .i64 (satZ a b), [], 0)
    | 57, [.int .u64 n] => some (.int .u64 (rootZ n), [], 0)
    | 58, [.int .u64 n] => some (.int .u64 (rootZ n), [], 0)
    | 115, [.int .u64 n] => some (.int .i64 (lenZ n), [], 0)
    | 42, [] => some (.bool true, [], 0)
    | 43, [.int .i64 a, .int .i64 b] => some (.tuple #[.int .i64 (divQ a b), .int .i64 (divE b)], [], 0)
    | 44, [.int .i64 a, .int .i64 b] => some (.tuple #[.int .i64 (divQ a b), .int .i64 (divE b)], [], 0)
    | 45, [.int .i64 v, .int .i64 b] => some (.int .i64 (roundZ v b), [], 0)
    | 46, [.int .i64 v, .int .i64 b] => some (.int .i64 (roundZ v b), [], 0)
    | 47, [.int .i64 a, .int .i64 b, .int .i64 y] => some (.int .i64 (mulZ a b y), [], 0)
    | 48, [.int .i64 a, .int .i64 b, .int .i64 y] => some (.int .i64 (mulZ a b y), [], 0)
    | _, _ => none
  | _ => none
def fx3Pre   : Pre := fun f args _ => match f, args with
  | 57, [.int .u64 n] => isU n
  | 58, [.int .u64 n] => isU n
  | 115, [.int .u64 n] => isU n
  | 43, [.int .i64 v, .int .i64 b] => inI v && inI b
  | 44, [.int .i64 v, .int .i64 b] => inI v && inI b
  | 45, [.int .i64 v, .int .i64 b] => inI v && inI b
  | 46, [.int .i64 v, .int .i64 b] => inI v && inI b
  | 47, [.int .i64 _, .int .i64 _, .int .i64 y] => inI y
  | 48, [.int .i64 _, .int .i64 _, .int .i64 y] => inI y
  | _, _ => true

theorem fx3_sound : Sound Try.prog (strict fx3Pre fx3) := by
  refine Sound.strict fun f args H v H' l hp h => ?_
  unfold fx3 at h
  split at h
  · split at h
    all_goals first | (simp at h; done) | (simp only [Option.some.injEq, Prod.mk.injEq] at h; obtain ⟨rfl, rfl, rfl⟩ := h; simp only [fx3Pre, Bool.and_eq_true, isU_iff] at hp)
    · exact sat_ok _ _
    · exact ref_sat_ok _ _
    · exact sqrt_ok _ hp.1 hp.2
    · exact ref_root_ok _ hp.1 hp.2
    · exact len64_ok _ hp.1 hp.2
    · exact live5_ok
    · exact div_ok _ _ hp.1 hp.2
    · exact ref_div_ok _ _ hp.1 hp.2
    · exact round_ok _ _ hp.1 hp.2
    · exact ref_round_ok _ _ hp.1 hp.2
    · exact mul_ok _ _ _ hp
    · exact ref_mul_ok _ _ _ hp
  · simp at h

end Go.Proofs.Ytfbjpenbpbpcaaa
