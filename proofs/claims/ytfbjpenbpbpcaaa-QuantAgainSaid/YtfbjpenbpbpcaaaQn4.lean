/-
  Chapter 09: the law QuantReach as a call.
-/
import Derived.Test.YtfbjpenbpbpcaaaZN
namespace Go.Proofs.Ytfbjpenbpbpcaaa
open Go Den
set_option maxRecDepth 100000
set_option linter.unusedSimpArgs false
set_option linter.unusedVariables false

def nF (l : List Nat) : List (Nat × Bool) := l.map fun t => (t, false)
theorem qr_top (l w L V : Int) : (evFnL Try.prog ext 300 (nmPre noPre) (nbC [(19, L), (24, V)] ((88, true) :: nF [39, 42, 49, 57, 60, 68, 72, 78]) o9) noLoops [] 26 [.int .i64 l, .int .i64 w] []).map (fun r => (r.1.1, r.2)) =
  some (.bool true, [(moZ V == W (W (2 * moZ (W (V - 1))) + 1), true), (decide (L < 255), false), (decide (W (moZ V * W (stZ L V - 1)) ≥ pkZ L), false), (decide (W (moZ V * stZ L V) < pkZ L), false), (seZ L V != 0, false), (peZ L != 0, false), (decide (W (1 + (W (w.tmod 7 + 7)).tmod 7) = V), true), (decide ((W (l.tmod 256 + 256)).tmod 256 = L), true)]) := by kernel_rfl
theorem qr_low (l w L V : Int) : (evFnL Try.prog ext 300 (nmPre noPre) (nbC [(19, L), (24, V)] ((60, true) :: (88, true) :: nF [39, 42, 49, 57, 68, 72, 78]) o9) noLoops [] 26 [.int .i64 l, .int .i64 w] []).map (fun r => (r.1.1, r.2)) =
  some (.bool true, [(moZ V == W (W (2 * moZ (W (V - 1))) + 1), true), (decide (pkZ (W (L + 1)) > W (2 * pkZ L)), false), (decide (pkZ (W (L + 1)) < pkZ L), false), (peZ (W (L + 1)) != 0, false), (decide (L < 255), true), (decide (W (moZ V * W (stZ L V - 1)) ≥ pkZ L), false), (decide (W (moZ V * stZ L V) < pkZ L), false), (seZ L V != 0, false), (peZ L != 0, false), (decide (W (1 + (W (w.tmod 7 + 7)).tmod 7) = V), true), (decide ((W (l.tmod 256 + 256)).tmod 256 = L), true)]) := by kernel_rfl
theorem pk_step : ((List.range 255).all fun n => decide (pkN n ≤ pkN (n + 1)) && decide (pkN (n + 1) ≤ 2 * pkN n)) = true := by kernel_rfl
theorem rem_in9 (x : Int) (k : Int) (hk : 0 < k) (hk2 : k ≤ 1000000) : 0 ≤ (W (x.tmod k + k)).tmod k ∧ (W (x.tmod k + k)).tmod k < k := by
  have h1 := Int.tmod_lt_of_pos x hk
  have h2 : -k < x.tmod k := Int.lt_tmod_of_pos x hk
  rw [W_in (by omega) (by omega)]
  exact ⟨Int.tmod_nonneg _ (by omega), Int.tmod_lt_of_pos _ hk⟩
theorem reach_call (l w : Int) : CallOk Try.prog 26 [.int .i64 l, .int .i64 w] [] (.bool true) [] 0 := by
  obtain ⟨L, hL⟩ : ∃ L, (W (l.tmod 256 + 256)).tmod 256 = L := ⟨_, rfl⟩
  have hL2 := rem_in9 l 256 (by omega) (by omega)
  rw [hL] at hL2
  have hV2 := rem_in9 w 7 (by omega) (by omega)
  obtain ⟨V, hV⟩ : ∃ V, W (1 + (W (w.tmod 7 + 7)).tmod 7) = V := ⟨_, rfl⟩
  have hV3 : 1 ≤ V ∧ V ≤ 7 := by rw [← hV, W_in (n := 1 + _) (by omega) (by omega)]; omega
  have hp := pkZ_in (l := L) (by omega)
  have hst : stZ L V = (pkZ L - 1) / moZ V + 1 := by unfold stZ; rw [if_pos ⟨by omega, hV3⟩]
  have hse : (seZ L V != 0) = false := by unfold seZ; rw [if_pos ⟨by omega, hV3⟩]; rfl
  have hpe : (peZ L != 0) = false := by unfold peZ; rw [if_pos (by omega)]; rfl
  have hmo : (moZ V = 1 ∧ moZ (W (V - 1)) = 0) ∨ (moZ V = 3 ∧ moZ (W (V - 1)) = 1) ∨ (moZ V = 7 ∧ moZ (W (V - 1)) = 3) ∨ (moZ V = 15 ∧ moZ (W (V - 1)) = 7) ∨ (moZ V = 31 ∧ moZ (W (V - 1)) = 15) ∨ (moZ V = 63 ∧ moZ (W (V - 1)) = 31) ∨ (moZ V = 127 ∧ moZ (W (V - 1)) = 63) := by
    rcases (show V = 1 ∨ V = 2 ∨ V = 3 ∨ V = 4 ∨ V = 5 ∨ V = 6 ∨ V = 7 by omega) with rfl | rfl | rfl | rfl | rfl | rfl | rfl <;> decide
  have q1 : (moZ V == W (W (2 * moZ (W (V - 1))) + 1)) = true := by
    rcases hmo with ⟨h, h'⟩ | ⟨h, h'⟩ | ⟨h, h'⟩ | ⟨h, h'⟩ | ⟨h, h'⟩ | ⟨h, h'⟩ | ⟨h, h'⟩ <;> rw [h, h'] <;> decide
  have q2 : decide (W (moZ V * W (stZ L V - 1)) ≥ pkZ L) = false := by
    refine decide_eq_false ?_
    rw [hst]
    generalize pkZ L = p at hp
    rcases hmo with ⟨h, _⟩ | ⟨h, _⟩ | ⟨h, _⟩ | ⟨h, _⟩ | ⟨h, _⟩ | ⟨h, _⟩ | ⟨h, _⟩ <;> rw [h] <;> rw [W_in (n := (p - 1) / _ + 1 - 1) (by omega) (by omega), W_in (by omega) (by omega)] <;> omega
  have q3 : decide (W (moZ V * stZ L V) < pkZ L) = false := by
    refine decide_eq_false ?_
    rw [hst]
    generalize pkZ L = p at hp
    rcases hmo with ⟨h, _⟩ | ⟨h, _⟩ | ⟨h, _⟩ | ⟨h, _⟩ | ⟨h, _⟩ | ⟨h, _⟩ | ⟨h, _⟩ <;> rw [h] <;> rw [W_in (by omega) (by omega)] <;> omega
  by_cases h255 : L < 255
  · have hstep := List.all_eq_true.1 pk_step L.toNat (by simp; omega)
    simp only [Bool.and_eq_true, decide_eq_true_eq] at hstep
    have e1 : W (L + 1) = L + 1 := W_in (by omega) (by omega)
    have e2 : pkZ (L + 1) = pkN (L.toNat + 1) := by unfold pkZ; rw [if_pos (by omega), show (L + 1).toNat = L.toNat + 1 by omega]
    have e3 : pkZ L = pkN L.toNat := by unfold pkZ; rw [if_pos (by omega)]
    refine pf_ok (nb_sound _ _ o9_sound) noLoops_ok (qr_low l w L V) ?_ rfl
    simp only [Holds, List.mem_cons, List.not_mem_nil, or_false, forall_eq_or_imp, forall_eq]
    refine ⟨q1, decide_eq_false ?_, decide_eq_false ?_, ?_, decide_eq_true h255, q2, q3, hse, hpe, decide_eq_true hV, decide_eq_true hL⟩
    · rw [e1, e2, W_in (n := 2 * pkZ L) (by omega) (by omega), e3]; omega
    · rw [e1, e2, e3]; omega
    · rw [e1]; unfold peZ; rw [if_pos (by omega)]; rfl
  · refine pf_ok (nb_sound _ _ o9_sound) noLoops_ok (qr_top l w L V) ?_ rfl
    simp only [Holds, List.mem_cons, List.not_mem_nil, or_false, forall_eq_or_imp, forall_eq]
    exact ⟨q1, decide_eq_false h255, q2, q3, hse, hpe, decide_eq_true hV, decide_eq_true hL⟩
end Go.Proofs.Ytfbjpenbpbpcaaa

