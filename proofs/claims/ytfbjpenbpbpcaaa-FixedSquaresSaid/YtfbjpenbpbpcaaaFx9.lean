/-
  Chapter 05's contracts, with the logarithm.
-/
import Derived.Test.YtfbjpenbpbpcaaaLg7
import Derived.Test.YtfbjpenbpbpcaaaNm
import Derived.Test.YtfbjpenbpbpcaaaTb9
namespace Go.Proofs.Ytfbjpenbpbpcaaa
open Go Den
set_option maxRecDepth 100000
set_option linter.unusedSimpArgs false
set_option linter.unusedVariables false

def lgX : Oracle := fun f args H => match H with
  | [] => match f, args with
    | 59, [.int .u64 n] => some (.int .i64 (logZ n), [], 0)
    | 60, [.int .u64 n] => some (.int .i64 (logZ n), [], 0)
    | _, _ => none
  | _ => none
def fx5 : Oracle := orElse fx3 lgX
def fx5Pre : Pre := fun f args H => match f, args with
  | 59, [.int .u64 n] => isU n
  | 60, [.int .u64 n] => isU n
  | _, _ => fx3Pre f args H
theorem fx5_sound : Sound Try.prog (strict fx5Pre fx5) := by
  refine Sound.strict fun f args H v H' l hp h => ?_
  unfold fx5 orElse at h
  split at h
  · rename_i r hr
    injection h with h
    subst h
    refine fx3_sound f args H v H' l ?_
    unfold strict
    have : fx3Pre f args H = true := by
      unfold fx5Pre at hp
      split at hp
      · rfl
      · rfl
      · exact hp
    rw [this]
    exact hr
  · unfold lgX at h
    split at h
    · split at h
      · simp only [Option.some.injEq, Prod.mk.injEq] at h; obtain ⟨rfl, rfl, rfl⟩ := h
        have := isU_iff.1 hp
        exact log_ok _ this.1 this.2
      · simp only [Option.some.injEq, Prod.mk.injEq] at h; obtain ⟨rfl, rfl, rfl⟩ := h
        have := isU_iff.1 hp
        exact ref_log_ok _ this.1 this.2
      · simp at h
    · simp at h

end Go.Proofs.Ytfbjpenbpbpcaaa
