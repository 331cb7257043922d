/-
  Chapter 05's logarithm: the squares as an oracle for any heap.
-/
import Derived.Test.YtfbjpenbpbpcaaaLg2
import Derived.Test.YtfbjpenbpbpcaaaDen16
namespace Go.Proofs.Ytfbjpenbpbpcaaa
open Go Den
set_option maxRecDepth 100000
set_option linter.unusedSimpArgs false
set_option linter.unusedVariables false

theorem sqGo_ok32 {ms : List Nat} (hms : ∀ m, ms.contains m = true → m = 2 ∨ m = 4 ∨ m = 8) {x : Blk} {m m' : Nat} {v : Value} {H' : Heap} {l : Nat} (h : sqGo D32 ms [] x 0 m m' = some (v, H', l))
    (hp : cellsIn D32 [.slice (some ⟨0, 0, none⟩) m m'] [x] = true) : CallOk Try.prog 118 [.slice (some ⟨0, 0, none⟩) m m'] [x] v H' l := by
  unfold sqGo at h
  split at h
  · rename_i xs hxs
    split at h
    · rename_i hc
      simp only [Bool.and_eq_true] at hc
      obtain ⟨c1, c2, c3, c4⟩ := hc
      have e2 := Nat.eq_of_beq_eq_true c2
      have e3 := Nat.eq_of_beq_eq_true c3
      subst e3
      simp only [Option.some.injEq, Prod.mk.injEq] at h
      obtain ⟨rfl, rfl, rfl⟩ := h
      have hin : inD D32 xs := by
        simp only [cellsIn, List.getElem?_cons_zero, hxs] at hp
        exact inD_of_all (by decide) hp
      obtain ⟨own, grown, cells⟩ := x
      simp only at hxs
      have hcells := intsU_eq _ _ hxs
      subst hcells
      exact refsq_ok own grown m xs (hms _ c4) hin e2
    · simp at h
  · simp at h

def lgO : Oracle := fun f args H => match f with
  | 116 => match args, H with
    | [.slice (some ⟨0, 0, none⟩) m m'], [x] => sqGo DD [1, 2, 4] [] x 0 m m'
    | _, _ => none
  | 118 => match args, H with
    | [.slice (some ⟨0, 0, none⟩) m m'], [x] => sqGo D32 [2, 4, 8] [] x 0 m m'
    | _, _ => none
  | 115 => match H, args with
    | [], [.int .u64 n] => some (.int .i64 (lenZ n), [], 0)
    | _, _ => none
  | _ => none
def lgoPre : Pre := fun f args H => match f with
  | 116 => cellsIn DD args H
  | 118 => cellsIn D32 args H
  | 115 => match args with
    | [.int .u64 n] => isU n
    | _ => true
  | _ => true

theorem lgO_sound : Sound Try.prog (strict lgoPre lgO) := by
  refine Sound.strict fun f args H v H' l hp h => ?_
  unfold lgO at h
  split at h
  · simp only [lgoPre] at hp
    split at h
    · rename_i m m' x
      exact sqGo_ok (Hp := []) (fun m hm => by simpa using hm) (by simp) h hp
    · simp at h
  · simp only [lgoPre] at hp
    split at h
    · rename_i m m' x
      exact sqGo_ok32 (fun m hm => by simpa using hm) h hp
    · simp at h
  · split at h
    · simp only [Option.some.injEq, Prod.mk.injEq] at h
      obtain ⟨rfl, rfl, rfl⟩ := h
      have := isU_iff.1 hp
      exact len64_ok _ this.1 this.2
    · simp at h
  · simp at h

end Go.Proofs.Ytfbjpenbpbpcaaa
