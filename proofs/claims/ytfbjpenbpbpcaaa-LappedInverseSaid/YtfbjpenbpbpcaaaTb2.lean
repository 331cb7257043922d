/-
  Chapter 06: the contracts of at, Turn, Cos, Sin, Half, and the reference's.
-/
import Derived.Test.YtfbjpenbpbpcaaaTb1
namespace Go.Proofs.Ytfbjpenbpbpcaaa
open Go Den
set_option maxRecDepth 100000
set_option linter.unusedSimpArgs false
set_option linter.unusedVariables false

theorem over_arC_sound (n : Nat) : Sound Try.prog (strict noPre (over arC n)) := plain_sound (over_sound arC_sound n)

def ptX (m : Int) : Int := ptZ.getD (2 * (m % 128).toNat) 0
def ptY (m : Int) : Int := ptZ.getD (2 * (m % 128).toNat + 1) 0
def cosZ (m : Int) : Int := roundZ (ptX m) 6
def sinZ (m : Int) : Int := roundZ (ptY m) 6

theorem and127 (m : Int) : (IntKind.wrap IntKind.i64 ((BitVec.ofInt (IntKind.bits IntKind.i64) m &&& BitVec.ofInt (IntKind.bits IntKind.i64) 127).toNat : Int)) = m % 128 := by
  have h1 : (BitVec.ofInt (IntKind.bits IntKind.i64) 127).toNat = 2 ^ 7 - 1 := by decide
  rw [BitVec.toNat_and, h1, Nat.and_two_pow_sub_one_eq_mod, BitVec.toNat_ofInt]
  have : ((2 ^ IntKind.bits IntKind.i64 : Nat) : Int) = 18446744073709551616 := by decide
  rw [this, wrap_in (inI_iff.2 (by omega))]
  omega

theorem at_runs (m : Int) : (List.range' 0 128).map (fun (r : Nat) => (evFnL Try.prog ext 300 (nmPre noPre) (nmC [(10, (r : Int))] (over arC 2)) noLoops [] 109 [.int .i64 m] []).map (fun r => (r.1.1, r.2))) =
    (List.range' 0 128).map fun (r : Nat) => some (.agg #[.int .i64 (ptZ.getD (2 * r) 0), .int .i64 (ptZ.getD (2 * r + 1) 0)], [(decide (IntKind.wrap IntKind.i64 ((BitVec.ofInt (IntKind.bits IntKind.i64) m &&& BitVec.ofInt (IntKind.bits IntKind.i64) 127).toNat : Int) = (r : Int)), true)]) := by kernel_rfl

theorem at_ok (m : Int) : CallOk Try.prog 109 [.int .i64 m] [] (.agg #[.int .i64 (ptX m), .int .i64 (ptY m)]) [] 0 := by
  have h := of_list (at_runs m) (i := (m % 128).toNat) (by omega) (by omega)
  refine pf_ok (nm_sound _ (over_arC_sound 2)) noLoops_ok h ?_ rfl
  rw [and127]
  simp [Holds]
  omega

theorem half_runs : (List.range' 1 7).map (fun (i : Nat) => (over c3 7 111 [.int .i64 (i : Int)] []).map (·.1)) = (List.range' 1 7).map fun (i : Nat) => some (.tuple #[.int .i64 (hvZ.getD (2 * i) 0), .int .i64 (hvZ.getD (2 * i + 1) 0)]) := by kernel_rfl

def hfO : Oracle := fun f args H => match H with
  | [] => match f, args with
    | 111, [.int .i64 i] => match Nat.ble 1 i.toNat && Nat.ble i.toNat 7 with
      | true => some (.tuple #[.int .i64 (hvZ.getD (2 * i.toNat) 0), .int .i64 (hvZ.getD (2 * i.toNat + 1) 0)], [], 0)
      | false => none
    | _, _ => none
  | _ => none
theorem hfO_sound : Sound Try.prog hfO := by
  intro f args H v H' l h
  unfold hfO at h
  split at h
  · split at h
    · rename_i i
      split at h
      · rename_i hi
        simp only [Option.some.injEq, Prod.mk.injEq] at h; obtain ⟨rfl, rfl, rfl⟩ := h
        simp only [Bool.and_eq_true, Nat.ble_eq] at hi
        have hr := of_list half_runs (i := i.toNat) (by omega) (by omega)
        rw [show ((i.toNat : Nat) : Int) = i by omega] at hr
        exact of_over fx3_sound hr rfl
      · simp at h
    · simp at h
  · simp at h

noncomputable def rtC : Oracle := orElse hfO c3
theorem rtC_sound : Sound Try.prog (strict noPre rtC) := plain_sound (hfO_sound.or fx3_sound)

theorem rt_runs0 (m : Int) : (List.range' 0 32).map (fun (r : Nat) => (evFnL Try.prog ext 300 (nmPre noPre) (nmC [(14, (r : Int))] rtC) noLoops [] 39 [.int .i64 m] []).map (fun r => (r.1.1, r.2))) =
    (List.range' 0 32).map fun (r : Nat) => some (.tuple #[.int .i64 (ptZ.getD (2 * r) 0), .int .i64 (ptZ.getD (2 * r + 1) 0)], [(decide (Int.tmod (IntKind.wrap IntKind.i64 (Int.tmod m 128 + 128)) 128 = (r : Int)), true)]) := by kernel_rfl

theorem rt_runs1 (m : Int) : (List.range' 32 32).map (fun (r : Nat) => (evFnL Try.prog ext 300 (nmPre noPre) (nmC [(14, (r : Int))] rtC) noLoops [] 39 [.int .i64 m] []).map (fun r => (r.1.1, r.2))) =
    (List.range' 32 32).map fun (r : Nat) => some (.tuple #[.int .i64 (ptZ.getD (2 * r) 0), .int .i64 (ptZ.getD (2 * r + 1) 0)], [(decide (Int.tmod (IntKind.wrap IntKind.i64 (Int.tmod m 128 + 128)) 128 = (r : Int)), true)]) := by kernel_rfl

theorem rt_runs2 (m : Int) : (List.range' 64 32).map (fun (r : Nat) => (evFnL Try.prog ext 300 (nmPre noPre) (nmC [(14, (r : Int))] rtC) noLoops [] 39 [.int .i64 m] []).map (fun r => (r.1.1, r.2))) =
    (List.range' 64 32).map fun (r : Nat) => some (.tuple #[.int .i64 (ptZ.getD (2 * r) 0), .int .i64 (ptZ.getD (2 * r + 1) 0)], [(decide (Int.tmod (IntKind.wrap IntKind.i64 (Int.tmod m 128 + 128)) 128 = (r : Int)), true)]) := by kernel_rfl

theorem rt_runs3 (m : Int) : (List.range' 96 32).map (fun (r : Nat) => (evFnL Try.prog ext 300 (nmPre noPre) (nmC [(14, (r : Int))] rtC) noLoops [] 39 [.int .i64 m] []).map (fun r => (r.1.1, r.2))) =
    (List.range' 96 32).map fun (r : Nat) => some (.tuple #[.int .i64 (ptZ.getD (2 * r) 0), .int .i64 (ptZ.getD (2 * r + 1) 0)], [(decide (Int.tmod (IntKind.wrap IntKind.i64 (Int.tmod m 128 + 128)) 128 = (r : Int)), true)]) := by kernel_rfl

theorem tmod_lit (m b : Int) : (0 ≤ m ∧ m.tmod b = m % b) ∨ (m < 0 ∧ m.tmod b = -((-m) % b)) := by
  rcases Int.lt_or_le m 0 with h | h
  · right
    have := Int.neg_tmod (-m) b
    rw [Int.neg_neg] at this
    rw [this, Int.tmod_eq_emod_of_nonneg (by omega)]
    exact ⟨h, rfl⟩
  · left; exact ⟨h, Int.tmod_eq_emod_of_nonneg h⟩
theorem rem128 (m : Int) : Int.tmod (IntKind.wrap IntKind.i64 (Int.tmod m 128 + 128)) 128 = m % 128 := by
  have h1 := tmod_lit m 128
  rw [wrap_in (inI_iff.2 (by omega))]
  have h2 := tmod_lit (m.tmod 128 + 128) 128
  omega

theorem ref_turn_ok (m : Int) : CallOk Try.prog 39 [.int .i64 m] [] (.tuple #[.int .i64 (ptX m), .int .i64 (ptY m)]) [] 0 := by
  have h : (evFnL Try.prog ext 300 (nmPre noPre) (nmC [(14, ((m % 128).toNat : Int))] rtC) noLoops [] 39 [.int .i64 m] []).map (fun r => (r.1.1, r.2)) =
      some (.tuple #[.int .i64 (ptX m), .int .i64 (ptY m)], [(decide (Int.tmod (IntKind.wrap IntKind.i64 (Int.tmod m 128 + 128)) 128 = ((m % 128).toNat : Int)), true)]) := by
    have hm : (m % 128).toNat < 128 := by omega
    unfold ptX ptY
    generalize (m % 128).toNat = r at *
    by_cases h0 : r < 32
    · exact of_list (rt_runs0 m) (by omega) (by omega)
    by_cases h1 : r < 64
    · exact of_list (rt_runs1 m) (by omega) (by omega)
    by_cases h2 : r < 96
    · exact of_list (rt_runs2 m) (by omega) (by omega)
    · exact of_list (rt_runs3 m) (by omega) (by omega)
  refine pf_ok (nm_sound _ rtC_sound) noLoops_ok h ?_ rfl
  rw [rem128]
  simp [Holds]
  omega

theorem strict_or {pre : Pre} {A B : Oracle} (hA : Sound Try.prog A) (hB : Sound Try.prog (strict pre B)) : Sound Try.prog (strict pre (orElse A B)) := by
  intro f args H v H' l h
  unfold strict at h
  split at h
  · rename_i hp
    unfold orElse at h
    split at h
    · rename_i r hr
      injection h with h
      subst h
      exact hA f args H v H' l hr
    · exact hB f args H v H' l (by unfold strict; rw [hp]; exact h)
  · simp at h

def t6a : Oracle := fun f args H => match H with
  | [] => match f, args with
    | 109, [.int .i64 m] => some (.agg #[.int .i64 (ptX m), .int .i64 (ptY m)], [], 0)
    | 39, [.int .i64 m] => some (.tuple #[.int .i64 (ptX m), .int .i64 (ptY m)], [], 0)
    | _, _ => none
  | _ => none
theorem t6a_sound : Sound Try.prog t6a := by
  intro f args H v H' l h
  unfold t6a at h
  split at h
  · split at h
    · simp only [Option.some.injEq, Prod.mk.injEq] at h; obtain ⟨rfl, rfl, rfl⟩ := h
      exact at_ok _
    · simp only [Option.some.injEq, Prod.mk.injEq] at h; obtain ⟨rfl, rfl, rfl⟩ := h
      exact ref_turn_ok _
    · simp at h
  · simp at h

def x6a : Oracle := orElse t6a (orElse hvO (orElse hfO fx3))
theorem x6a_sound : Sound Try.prog (strict fx3Pre x6a) := strict_or t6a_sound (strict_or hvO_sound (strict_or hfO_sound fx3_sound))

end Go.Proofs.Ytfbjpenbpbpcaaa
