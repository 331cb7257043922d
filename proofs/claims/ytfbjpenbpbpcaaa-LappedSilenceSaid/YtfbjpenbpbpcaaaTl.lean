/-
  Calls as told, in any heap: what is told is asked.
-/
import Derived.Test.YtfbjpenbpbpcaaaZE
namespace Go.Proofs.Ytfbjpenbpbpcaaa
open Go Den
set_option maxRecDepth 100000
set_option linter.unusedSimpArgs false
set_option linter.unusedVariables false

abbrev Tale := FuncId → List Value → Heap → Option (Value × Heap × Nat)

def tellH (T : Tale) (B : Oracle) : Oracle := fun f args H => match T f args H with
  | some r => some r
  | none => B f args H
noncomputable def tellHPre (T : Tale) (pre : Pre) : Pre := fun f args H => match T f args H with
  | some r => cdec (CallOk Try.prog f args H r.1 r.2.1 r.2.2)
  | none => pre f args H
theorem tellH_sound {pre : Pre} {B : Oracle} (T : Tale) (h : Sound Try.prog (strict pre B)) : Sound Try.prog (strict (tellHPre T pre) (tellH T B)) := by
  intro f args H v H' n hc
  unfold strict at hc
  split at hc
  case h_2 => simp at hc
  rename_i hp
  unfold tellHPre at hp
  unfold tellH at hc
  split at hc
  · rename_i r ht
    simp only [Option.some.injEq] at hc
    subst hc
    simp only [ht] at hp
    exact cdec_iff.1 hp
  · rename_i ht
    simp only [ht] at hp
    exact h f args H v H' n (by unfold strict; rw [hp]; exact hc)
theorem tellH_ok {T : Tale} {pre : Pre} {f : FuncId} {args : List Value} {H : Heap} {r : Value × Heap × Nat} (h : T f args H = some r) (hc : CallOk Try.prog f args H r.1 r.2.1 r.2.2) : tellHPre T pre f args H = true := by
  unfold tellHPre
  simp only [h]
  exact cdec_iff.2 hc

end Go.Proofs.Ytfbjpenbpbpcaaa

