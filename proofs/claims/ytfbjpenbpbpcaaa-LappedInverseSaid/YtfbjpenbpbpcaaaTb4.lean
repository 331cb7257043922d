/-
  Chapter 06: the contracts so far, joined; the chapter's examples.
-/
import Derived.Test.YtfbjpenbpbpcaaaTb3
namespace Go.Proofs.Ytfbjpenbpbpcaaa
open Go Den
set_option maxRecDepth 100000
set_option linter.unusedSimpArgs false
set_option linter.unusedVariables false

def t6b : Oracle := fun f args H => match H with
  | [] => match f, args with
    | 33, [.int .i64 m] => some (.int .i64 (cosZ m), [], 0)
    | 40, [.int .i64 m] => some (.int .i64 (cosZ m), [], 0)
    | 34, [.int .i64 m] => some (.int .i64 (sinZ m), [], 0)
    | 41, [.int .i64 m] => some (.int .i64 (sinZ m), [], 0)
    | 38, [.int .i64 m] => some (.tuple #[.int .i64 (ptX m), .int .i64 (ptY m)], [], 0)
    | 39, [.int .i64 m] => some (.tuple #[.int .i64 (ptX m), .int .i64 (ptY m)], [], 0)
    | 36, [.int .i64 i] => some (.tuple #[.int .i64 (hxZ i), .int .i64 (hyZ i), .int .i64 (heZ i)], [], 0)
    | 37, [.int .i64 i] => some (.tuple #[.int .i64 (hxZ i), .int .i64 (hyZ i), .int .i64 (heZ i)], [], 0)
    | _, _ => none
  | _ => none
theorem t6b_sound : Sound Try.prog t6b := by
  intro f args H v H' l h
  unfold t6b at h
  split at h
  · split at h
    all_goals first | (simp at h; done) | (simp only [Option.some.injEq, Prod.mk.injEq] at h; obtain ⟨rfl, rfl, rfl⟩ := h)
    · exact cos_ok _
    · exact ref_cos_ok _
    · exact sin_ok _
    · exact ref_sin_ok _
    · exact turn_ok _
    · exact ref_turn_ok _
    · exact halfs_ok 36 (.inl rfl) _
    · exact halfs_ok 37 (.inr rfl) _
  · simp at h

theorem live6_ok : CallOk Try.prog 31 [] [] (.bool true) [] 0 := of_over t6b_sound (n := 1) (by kernel_rfl) rfl

def l6O : Oracle := fun f args H => match H with
  | [] => match f, args with
    | 31, [] => some (.bool true, [], 0)
    | _, _ => none
  | _ => none
theorem l6O_sound : Sound Try.prog l6O := by
  intro f args H v H' l h
  unfold l6O at h
  split at h
  · split at h
    · simp only [Option.some.injEq, Prod.mk.injEq] at h; obtain ⟨rfl, rfl, rfl⟩ := h
      exact live6_ok
    · simp at h
  · simp at h

def x6b : Oracle := orElse l6O (orElse t6b fx3)
theorem x6b_sound : Sound Try.prog (strict fx3Pre x6b) := strict_or l6O_sound (strict_or t6b_sound fx3_sound)
theorem t6p_sound : Sound Try.prog (strict noPre (orElse l6O t6b)) := plain_sound (l6O_sound.or t6b_sound)

end Go.Proofs.Ytfbjpenbpbpcaaa
