/-
  Chapter 07: the law LappedInverse as a call.
-/
import Derived.Test.YtfbjpenbpbpcaaaLp12
import Derived.Test.YtfbjpenbpbpcaaaLp9
namespace Go.Proofs.Ytfbjpenbpbpcaaa
open Go Den
set_option maxRecDepth 100000
set_option linter.unusedSimpArgs false
set_option linter.unusedVariables false

def ivGood : Oracle := fun f args H => match H with
  | [] => match Nat.beq f 72 || Nat.beq f 73 with
    | true => match args with
      | [.agg p] => match intsI p.toList with
        | some xs => match Nat.beq xs.length 16 with
          | true => some (.tuple #[.agg (ints (invG roundZ xs)).toArray, .int .i64 0], [], 0)
          | false => none
        | none => none
      | _ => none
    | false => match f, args with
      | 65, [] => some (.bool true, [], 0)
      | _, _ => none
  | _ => none
def ivGoodPre : Pre := fun f args H => match Nat.beq f 72 || Nat.beq f 73 with
  | true => match args with
    | [.agg p] => match intsI p.toList with
      | some xs => xs.all (inB 67108864)
      | none => true
    | _ => true
  | false => true
theorem ivGood_sound : Sound Try.prog (strict ivGoodPre ivGood) := by
  refine Sound.strict fun f args H v H' l hp h => ?_
  unfold ivGood at h
  split at h
  · split at h
    · rename_i hf
      split at h
      · rename_i p
        split at h
        · rename_i xs hxs
          split at h
          · rename_i hb
            simp only [Option.some.injEq, Prod.mk.injEq] at h; obtain ⟨rfl, rfl, rfl⟩ := h
            have hf' : f = 72 ∨ f = 73 := by
              simp only [Bool.or_eq_true] at hf
              exact hf.imp Nat.eq_of_beq_eq_true Nat.eq_of_beq_eq_true
            simp only [ivGoodPre, hf, hxs] at hp
            have hk := inverses_ok f hf' xs (Nat.eq_of_beq_eq_true hb)
            unfold ivO ivE at hk
            rw [hp] at hk
            have e1 : p = (ints xs).toArray := by rw [← intsI_eq _ _ hxs]
            rw [e1]
            exact hk
          · simp at h
        · simp at h
      · simp at h
    · split at h
      · simp only [Option.some.injEq, Prod.mk.injEq] at h; obtain ⟨rfl, rfl, rfl⟩ := h
        exact live7_ok
      · simp at h
  · simp at h

def ivBad : Oracle := fun f args H => match H with
  | [] => match Nat.beq f 72 || Nat.beq f 73 with
    | true => match args with
      | [.agg p] => match intsI p.toList with
        | some xs => match Nat.beq xs.length 16 with
          | true => some (.tuple #[.agg (ints (List.replicate 32 0)).toArray, .int .i64 1], [], 0)
          | false => none
        | none => none
      | _ => none
    | false => match f, args with
      | 65, [] => some (.bool true, [], 0)
      | _, _ => none
  | _ => none
def ivBadPre : Pre := fun f args H => match Nat.beq f 72 || Nat.beq f 73 with
  | true => match args with
    | [.agg p] => match intsI p.toList with
      | some xs => !(xs.all (inB 67108864))
      | none => true
    | _ => true
  | false => true
theorem ivBad_sound : Sound Try.prog (strict ivBadPre ivBad) := by
  refine Sound.strict fun f args H v H' l hp h => ?_
  unfold ivBad at h
  split at h
  · split at h
    · rename_i hf
      split at h
      · rename_i p
        split at h
        · rename_i xs hxs
          split at h
          · rename_i hb
            simp only [Option.some.injEq, Prod.mk.injEq] at h; obtain ⟨rfl, rfl, rfl⟩ := h
            have hf' : f = 72 ∨ f = 73 := by
              simp only [Bool.or_eq_true] at hf
              exact hf.imp Nat.eq_of_beq_eq_true Nat.eq_of_beq_eq_true
            simp only [ivBadPre, hf, hxs, Bool.not_eq_true'] at hp
            have hk := inverses_ok f hf' xs (Nat.eq_of_beq_eq_true hb)
            unfold ivO ivE at hk
            rw [hp] at hk
            have e1 : p = (ints xs).toArray := by rw [← intsI_eq _ _ hxs]
            rw [e1]
            exact hk
          · simp at h
        · simp at h
      · simp at h
    · split at h
      · simp only [Option.some.injEq, Prod.mk.injEq] at h; obtain ⟨rfl, rfl, rfl⟩ := h
        exact live7_ok
      · simp at h
  · simp at h

theorem ig_sound : Sound Try.prog (strict ivGoodPre (orElse x7e ivGood)) := strict_or x7e_sound ivGood_sound
theorem ib_sound : Sound Try.prog (strict ivBadPre (orElse x7e ivBad)) := strict_or x7e_sound ivBad_sound

theorem li_good (x0 x1 x2 x3 x4 x5 x6 x7 x8 x9 x10 x11 x12 x13 x14 x15 : Int) : (evFnL Try.prog ext 300 (nmPre ivGoodPre) (nbC [] (allT [25, 30, 37]) (orElse x7e ivGood)) noLoops [(2, true), (0, true)] 16 [.agg (ints [x0, x1, x2, x3, x4, x5, x6, x7, x8, x9, x10, x11, x12, x13, x14, x15]).toArray] []).map (fun r => (r.1.1, r.2)) =
    some (.bool true, [(enZ [x0, x1, x2, x3, x4, x5, x6, x7, x8, x9, x10, x11, x12, x13, x14, x15] == enZ [x0, x1, x2, x3, x4, x5, x6, x7, x8, x9, x10, x11, x12, x13, x14, x15], true), ((0 : Int) == 0, true), (decide (invG roundZ [x0, x1, x2, x3, x4, x5, x6, x7, x8, x9, x10, x11, x12, x13, x14, x15] = invG roundZ [x0, x1, x2, x3, x4, x5, x6, x7, x8, x9, x10, x11, x12, x13, x14, x15]), true), ([x0, x1, x2, x3, x4, x5, x6, x7, x8, x9, x10, x11, x12, x13, x14, x15].all (inB 67108864), true), ([x0, x1, x2, x3, x4, x5, x6, x7, x8, x9, x10, x11, x12, x13, x14, x15].all (inB 67108864), true)]) := by kernel_rfl
theorem li_bad (x0 x1 x2 x3 x4 x5 x6 x7 x8 x9 x10 x11 x12 x13 x14 x15 : Int) : (evFnL Try.prog ext 300 (nmPre ivBadPre) (nbC [] (allT [37]) (orElse x7e ivBad)) noLoops [(2, true), (0, true)] 16 [.agg (ints [x0, x1, x2, x3, x4, x5, x6, x7, x8, x9, x10, x11, x12, x13, x14, x15]).toArray] []).map (fun r => (r.1.1, r.2)) =
    some (.bool true, [(enZ [x0, x1, x2, x3, x4, x5, x6, x7, x8, x9, x10, x11, x12, x13, x14, x15] == enZ [x0, x1, x2, x3, x4, x5, x6, x7, x8, x9, x10, x11, x12, x13, x14, x15], true), (!([x0, x1, x2, x3, x4, x5, x6, x7, x8, x9, x10, x11, x12, x13, x14, x15].all (inB 67108864)), true), (!([x0, x1, x2, x3, x4, x5, x6, x7, x8, x9, x10, x11, x12, x13, x14, x15].all (inB 67108864)), true)]) := by kernel_rfl

theorem inverse_call (xs : List Int) (hm : xs.length = 16) : CallOk Try.prog 16 [.agg (ints xs).toArray] [] (.bool true) [] 0 := by
  obtain ⟨x0, x1, x2, x3, x4, x5, x6, x7, x8, x9, x10, x11, x12, x13, x14, x15, rfl⟩ : ∃ x0 x1 x2 x3 x4 x5 x6 x7 x8 x9 x10 x11 x12 x13 x14 x15, xs = [x0, x1, x2, x3, x4, x5, x6, x7, x8, x9, x10, x11, x12, x13, x14, x15] := by match xs, hm with | [x0, x1, x2, x3, x4, x5, x6, x7, x8, x9, x10, x11, x12, x13, x14, x15], _ => exact ⟨x0, x1, x2, x3, x4, x5, x6, x7, x8, x9, x10, x11, x12, x13, x14, x15, rfl⟩
  cases hc : [x0, x1, x2, x3, x4, x5, x6, x7, x8, x9, x10, x11, x12, x13, x14, x15].all (inB 67108864) with
  | true =>
    refine pf_ok (nb_sound [] (allT [25, 30, 37]) ig_sound) noLoops_ok (li_good x0 x1 x2 x3 x4 x5 x6 x7 x8 x9 x10 x11 x12 x13 x14 x15) ?_ rfl
    rw [hc]
    generalize invG roundZ [x0, x1, x2, x3, x4, x5, x6, x7, x8, x9, x10, x11, x12, x13, x14, x15] = ys
    generalize enZ [x0, x1, x2, x3, x4, x5, x6, x7, x8, x9, x10, x11, x12, x13, x14, x15] = a
    simp [Holds]
  | false =>
    refine pf_ok (nb_sound [] (allT [37]) ib_sound) noLoops_ok (li_bad x0 x1 x2 x3 x4 x5 x6 x7 x8 x9 x10 x11 x12 x13 x14 x15) ?_ rfl
    rw [hc]
    generalize enZ [x0, x1, x2, x3, x4, x5, x6, x7, x8, x9, x10, x11, x12, x13, x14, x15] = a
    simp [Holds]

end Go.Proofs.Ytfbjpenbpbpcaaa

