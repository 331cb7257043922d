/-
  Chapter 06: the contracts of around, at, Turn, Cos, Sin.
-/
import Derived.Test.YtfbjpenbpbpcaaaTb0
namespace Go.Proofs.Ytfbjpenbpbpcaaa
open Go Den
set_option maxRecDepth 100000
set_option linter.unusedSimpArgs false
set_option linter.unusedVariables false

theorem codeOk114 : codeOk (loopAt Try.prog 114 0) = true := by kernel_rfl
theorem loops114f : loopsOf (bodyOf Try.prog 114) = [loopAt Try.prog 114 0, loopAt Try.prog 114 1] := by kernel_rfl
theorem first114 : firstId (loopAt Try.prog 114 1) = 8 := by kernel_rfl

theorem ar_step (m : Nat) (h : m < 128) : WP Try.prog 30 (loopAt Try.prog 114 0) ⟨arF m, arH m, 0⟩ .normal ⟨arF (m + 1), arH (m + 1), 0⟩ := by
  have key : evL Try.prog ext noPre c3o noLoops 300 30 (loopAt Try.prog 114 0) (arF m) (arH m) 0 [] [1, 2, 7] = some (.normal, arF (m + 1), arH (m + 1), 0, []) := by
    by_cases h0 : m < 32
    · exact of_list ar_step0 (by omega) (by omega)
    by_cases h1 : m < 64
    · exact of_list ar_step1 (by omega) (by omega)
    by_cases h2 : m < 96
    · exact of_list ar_step2 (by omega) (by omega)
    · exact of_list ar_step3 (by omega) (by omega)
  exact WP.run progOk extSound c3o_sound codeOk114 noLoops_ok [1, 2, 7] key (by simp [Holds])

theorem ar_end : evL Try.prog ext noPre c3o noLoops 300 30 (loopAt Try.prog 114 0) (arF 128) (arH 128) 0 [] [1, 2, 7] = some (.exit 0, arF 128, arH 128, 0, []) := by kernel_rfl

theorem ar_loop : WP Try.prog 30 (.loop (loopAt Try.prog 114 0)) ⟨arF 0, arH 0, 0⟩ (.exit 0) ⟨arF 128, arH 128, 0⟩ :=
  WP.loop (fun m => ⟨arF m, arH m, 0⟩) 128 (by simp) (fun i hi => ar_step i hi) (WP.run progOk extSound c3o_sound codeOk114 noLoops_ok [1, 2, 7] ar_end (by simp [Holds]))

def hvO : Oracle := fun f args H => match H with
  | [] => match f, args with
    | 110, [] => some (.agg (ints hvZ).toArray, [], 0)
    | _, _ => none
  | _ => none
theorem hvO_sound : Sound Try.prog hvO := by
  intro f args H v H' l h
  unfold hvO at h
  split at h
  · split at h
    · simp only [Option.some.injEq, Prod.mk.injEq] at h; obtain ⟨rfl, rfl, rfl⟩ := h
      exact halves_ok
    · simp at h
  · simp at h

noncomputable def arN : Loops := { loop := sumL 4 ⟨arF 0, arH 0, 0⟩ (.exit 0) ⟨arF 128, arH 128, 0⟩ }

theorem arN_ok : LoopsOk Try.prog (ntOf Try.prog 114 0) arN (bodyOf Try.prog 114) := LoopsOk.sum rfl (by
  intro b hb hid
  rw [loops114f] at hb
  simp only [List.mem_cons, List.not_mem_nil, or_false] at hb
  rcases hb with rfl | rfl
  · exact ar_loop
  · rw [first114] at hid; simp at hid)

theorem ar_run : evFnL Try.prog ext 300 noPre hvO arN [] 114 [] [] = some ((.pointer (some ⟨0, 0, none⟩), arH 128, 0), [(cdec (arF 0 = arF 0), true), (cdec (arH 0 = arH 0), true), (cdec (0 = 0), true)]) := by kernel_rfl

theorem around_ok : CallOk Try.prog 114 [] [] (.pointer (some ⟨0, 0, none⟩)) [⟨true, none, ints ptZ⟩] 0 := by
  have h := fnL_ok progOk extSound (plain_sound hvO_sound) arN_ok ar_run (by simp [Holds, cdec])
  exact h.gc [0] rfl (by kernel_rfl) (by kernel_rfl) (by kernel_rfl)

def arO : Oracle := fun f args H => match H with
  | [] => match f, args with
    | 114, [] => some (.pointer (some ⟨0, 0, none⟩), [⟨true, none, ints ptZ⟩], 0)
    | _, _ => none
  | _ => none
theorem arO_sound : Sound Try.prog arO := by
  intro f args H v H' l h
  unfold arO at h
  split at h
  · split at h
    · simp only [Option.some.injEq, Prod.mk.injEq] at h; obtain ⟨rfl, rfl, rfl⟩ := h
      exact around_ok
    · simp at h
  · simp at h

/-- around, in any heap. -/
def arC : Oracle := frameC arO
theorem arC_sound : Sound Try.prog arC := by
  have h := frame_sound (pre := noPre) (plain_sound arO_sound)
  intro f args H v H' l hc
  refine h f args H v H' l ?_
  unfold strict framePre
  split
  · exact hc
  · rename_i hp
    split at hp <;> simp [noPre] at hp

noncomputable def atC : Oracle := orElse arC (over arC 2)
end Go.Proofs.Ytfbjpenbpbpcaaa
