/-
  Chapter 07: the law LappedForward as a call.
-/
import Derived.Test.YtfbjpenbpbpcaaaZG
import Derived.Test.YtfbjpenbpbpcaaaArrW
namespace Go.Proofs.Ytfbjpenbpbpcaaa
open Go Den
set_option maxRecDepth 100000
set_option linter.unusedSimpArgs false
set_option linter.unusedVariables false

/-- Forward, where the samples may be (good), or may not: what is told of the arguments is asked. -/
def fwGood : Oracle := fun f args H => match H with
  | [] => match Nat.beq f 66 || Nat.beq f 67 with
    | true => match args with
      | [.agg p, .agg c] => match intsI p.toList, intsI c.toList with
        | some P, some C => match Nat.beq P.length 16 && Nat.beq C.length 16 with
          | true => some (.tuple #[.agg (ints (fwdG roundZ (P ++ C))).toArray, .int .i64 0], [], 0)
          | false => none
        | _, _ => none
      | _ => none
    | false => match f, args with
      | 65, [] => some (.bool true, [], 0)
      | _, _ => none
  | _ => none
def fwGoodPre : Pre := fun f args H => match Nat.beq f 66 || Nat.beq f 67 with
  | true => match args with
    | [.agg p, .agg c] => match intsI p.toList, intsI c.toList with
      | some P, some C => decide (chkZ P = 0) && decide (chkZ C = 0)
      | _, _ => true
    | _ => true
  | false => true
def fwBad : Oracle := fun f args H => match H with
  | [] => match Nat.beq f 66 || Nat.beq f 67 with
    | true => match args with
      | [.agg p, .agg c] => match intsI p.toList, intsI c.toList with
        | some P, some C => match Nat.beq P.length 16 && Nat.beq C.length 16 with
          | true => some (.tuple #[.agg (ints (List.replicate 16 0)).toArray, .int .i64 1], [], 0)
          | false => none
        | _, _ => none
      | _ => none
    | false => match f, args with
      | 65, [] => some (.bool true, [], 0)
      | _, _ => none
  | _ => none
def fwBadPre : Pre := fun f args H => match Nat.beq f 66 || Nat.beq f 67 with
  | true => match args with
    | [.agg p, .agg c] => match intsI p.toList, intsI c.toList with
      | some P, some C => !(decide (chkZ P = 0) && decide (chkZ C = 0))
      | _, _ => true
    | _ => true
  | false => true

theorem f6667 {f : FuncId} (h : (Nat.beq f 66 || Nat.beq f 67) = true) : f = 66 ∨ f = 67 := by
  simp only [Bool.or_eq_true] at h
  exact h.imp Nat.eq_of_beq_eq_true Nat.eq_of_beq_eq_true

theorem fwGood_sound : Sound Try.prog (strict fwGoodPre fwGood) := by
  refine Sound.strict fun f args H v H' l hp h => ?_
  unfold fwGood at h
  split at h
  · split at h
    · rename_i hf
      split at h
      · rename_i p c
        split at h
        · rename_i P C hP hC
          split at h
          · rename_i hb
            simp only [Bool.and_eq_true] at hb
            simp only [Option.some.injEq, Prod.mk.injEq] at h; obtain ⟨rfl, rfl, rfl⟩ := h
            simp only [fwGoodPre, hf, hP, hC, Bool.and_eq_true, decide_eq_true_eq] at hp
            have hk := forwards_ok f (f6667 hf) P C (Nat.eq_of_beq_eq_true hb.1) (Nat.eq_of_beq_eq_true hb.2)
            unfold fwO fwE at hk
            rw [if_pos hp, if_pos hp] at hk
            exact agg2 hP hC hk
          · simp at h
        · simp at h
      · simp at h
    · split at h
      · simp only [Option.some.injEq, Prod.mk.injEq] at h; obtain ⟨rfl, rfl, rfl⟩ := h
        exact live7_ok
      · simp at h
  · simp at h
theorem fwBad_sound : Sound Try.prog (strict fwBadPre fwBad) := by
  refine Sound.strict fun f args H v H' l hp h => ?_
  unfold fwBad at h
  split at h
  · split at h
    · rename_i hf
      split at h
      · rename_i p c
        split at h
        · rename_i P C hP hC
          split at h
          · rename_i hb
            simp only [Bool.and_eq_true] at hb
            simp only [Option.some.injEq, Prod.mk.injEq] at h; obtain ⟨rfl, rfl, rfl⟩ := h
            have hn : ¬ (chkZ P = 0 ∧ chkZ C = 0) := by
              simp only [fwBadPre, hf, hP, hC] at hp
              intro hh
              simp [hh.1, hh.2] at hp
            have hk := forwards_ok f (f6667 hf) P C (Nat.eq_of_beq_eq_true hb.1) (Nat.eq_of_beq_eq_true hb.2)
            unfold fwO fwE at hk
            rw [if_neg hn, if_neg hn] at hk
            exact agg2 hP hC hk
          · simp at h
        · simp at h
      · simp at h
    · split at h
      · simp only [Option.some.injEq, Prod.mk.injEq] at h; obtain ⟨rfl, rfl, rfl⟩ := h
        exact live7_ok
      · simp at h
  · simp at h

/-- The contracts that ask nothing, and hold no symbolic rows. -/
def x7e : Oracle := fun f args H => match H with
  | [] => match f, args with
    | 68, [.agg cs] => aggF 16 (fun xs => .int .i64 (chkZ xs)) cs
    | 69, [.agg cs] => aggF 16 (fun xs => .int .i64 (chkZ xs)) cs
    | 70, [.agg cs] => aggF 16 (fun xs => .int .u64 (enZ xs)) cs
    | 71, [.agg cs] => aggF 16 (fun xs => .int .u64 (enZ xs)) cs
    | _, _ => none
  | _ => none
theorem x7e_sound : Sound Try.prog x7e := by
  intro f args H v H' l h
  unfold x7e at h
  split at h
  · split at h
    · exact x7a_sound 68 _ [] v H' l h
    · exact x7a_sound 69 _ [] v H' l h
    · exact aggF_ok h fun xs hm => energy_ok 70 (.inl rfl) xs hm
    · exact aggF_ok h fun xs hm => energy_ok 71 (.inr rfl) xs hm
    · simp at h
  · simp at h

theorem fg_sound : Sound Try.prog (strict fwGoodPre (orElse x7e fwGood)) := strict_or x7e_sound fwGood_sound
theorem fb_sound : Sound Try.prog (strict fwBadPre (orElse x7e fwBad)) := strict_or x7e_sound fwBad_sound

theorem lf_good (p0 p1 p2 p3 p4 p5 p6 p7 p8 p9 p10 p11 p12 p13 p14 p15 c0 c1 c2 c3 c4 c5 c6 c7 c8 c9 c10 c11 c12 c13 c14 c15 : Int) : (evFnL Try.prog ext 300 (nmPre fwGoodPre) (nbC [] (allT [29, 34, 41, 48, 55]) (orElse x7e fwGood)) noLoops [(2, true), (0, true)] 15 [.agg (ints [p0, p1, p2, p3, p4, p5, p6, p7, p8, p9, p10, p11, p12, p13, p14, p15]).toArray, .agg (ints [c0, c1, c2, c3, c4, c5, c6, c7, c8, c9, c10, c11, c12, c13, c14, c15]).toArray] []).map (fun r => (r.1.1, r.2)) =
    some (.bool true, [(enZ (fwdG roundZ ([p0, p1, p2, p3, p4, p5, p6, p7, p8, p9, p10, p11, p12, p13, p14, p15] ++ [c0, c1, c2, c3, c4, c5, c6, c7, c8, c9, c10, c11, c12, c13, c14, c15])) == enZ (fwdG roundZ ([p0, p1, p2, p3, p4, p5, p6, p7, p8, p9, p10, p11, p12, p13, p14, p15] ++ [c0, c1, c2, c3, c4, c5, c6, c7, c8, c9, c10, c11, c12, c13, c14, c15])), true), (chkZ [c0, c1, c2, c3, c4, c5, c6, c7, c8, c9, c10, c11, c12, c13, c14, c15] == chkZ [c0, c1, c2, c3, c4, c5, c6, c7, c8, c9, c10, c11, c12, c13, c14, c15], true), (chkZ [p0, p1, p2, p3, p4, p5, p6, p7, p8, p9, p10, p11, p12, p13, p14, p15] == chkZ [p0, p1, p2, p3, p4, p5, p6, p7, p8, p9, p10, p11, p12, p13, p14, p15], true), ((0 : Int) == 0, true),
      (decide (fwdG roundZ ([p0, p1, p2, p3, p4, p5, p6, p7, p8, p9, p10, p11, p12, p13, p14, p15] ++ [c0, c1, c2, c3, c4, c5, c6, c7, c8, c9, c10, c11, c12, c13, c14, c15]) = fwdG roundZ ([p0, p1, p2, p3, p4, p5, p6, p7, p8, p9, p10, p11, p12, p13, p14, p15] ++ [c0, c1, c2, c3, c4, c5, c6, c7, c8, c9, c10, c11, c12, c13, c14, c15])), true), (decide (chkZ [p0, p1, p2, p3, p4, p5, p6, p7, p8, p9, p10, p11, p12, p13, p14, p15] = 0) && decide (chkZ [c0, c1, c2, c3, c4, c5, c6, c7, c8, c9, c10, c11, c12, c13, c14, c15] = 0), true), (decide (chkZ [p0, p1, p2, p3, p4, p5, p6, p7, p8, p9, p10, p11, p12, p13, p14, p15] = 0) && decide (chkZ [c0, c1, c2, c3, c4, c5, c6, c7, c8, c9, c10, c11, c12, c13, c14, c15] = 0), true)]) := by kernel_rfl
theorem lf_bad (p0 p1 p2 p3 p4 p5 p6 p7 p8 p9 p10 p11 p12 p13 p14 p15 c0 c1 c2 c3 c4 c5 c6 c7 c8 c9 c10 c11 c12 c13 c14 c15 : Int) : (evFnL Try.prog ext 300 (nmPre fwBadPre) (nbC [] (allT [41, 48]) (orElse x7e fwBad)) noLoops [(2, true), (0, true)] 15 [.agg (ints [p0, p1, p2, p3, p4, p5, p6, p7, p8, p9, p10, p11, p12, p13, p14, p15]).toArray, .agg (ints [c0, c1, c2, c3, c4, c5, c6, c7, c8, c9, c10, c11, c12, c13, c14, c15]).toArray] []).map (fun r => (r.1.1, r.2)) =
    some (.bool true, [(chkZ [c0, c1, c2, c3, c4, c5, c6, c7, c8, c9, c10, c11, c12, c13, c14, c15] == chkZ [c0, c1, c2, c3, c4, c5, c6, c7, c8, c9, c10, c11, c12, c13, c14, c15], true), (chkZ [p0, p1, p2, p3, p4, p5, p6, p7, p8, p9, p10, p11, p12, p13, p14, p15] == chkZ [p0, p1, p2, p3, p4, p5, p6, p7, p8, p9, p10, p11, p12, p13, p14, p15], true), (!(decide (chkZ [p0, p1, p2, p3, p4, p5, p6, p7, p8, p9, p10, p11, p12, p13, p14, p15] = 0) && decide (chkZ [c0, c1, c2, c3, c4, c5, c6, c7, c8, c9, c10, c11, c12, c13, c14, c15] = 0)), true), (!(decide (chkZ [p0, p1, p2, p3, p4, p5, p6, p7, p8, p9, p10, p11, p12, p13, p14, p15] = 0) && decide (chkZ [c0, c1, c2, c3, c4, c5, c6, c7, c8, c9, c10, c11, c12, c13, c14, c15] = 0)), true)]) := by kernel_rfl

theorem forward_call (P C : List Int) (hP : P.length = 16) (hC : C.length = 16) : CallOk Try.prog 15 [.agg (ints P).toArray, .agg (ints C).toArray] [] (.bool true) [] 0 := by
  obtain ⟨p0, p1, p2, p3, p4, p5, p6, p7, p8, p9, p10, p11, p12, p13, p14, p15, rfl⟩ : ∃ p0 p1 p2 p3 p4 p5 p6 p7 p8 p9 p10 p11 p12 p13 p14 p15, P = [p0, p1, p2, p3, p4, p5, p6, p7, p8, p9, p10, p11, p12, p13, p14, p15] := by match P, hP with | [p0, p1, p2, p3, p4, p5, p6, p7, p8, p9, p10, p11, p12, p13, p14, p15], _ => exact ⟨p0, p1, p2, p3, p4, p5, p6, p7, p8, p9, p10, p11, p12, p13, p14, p15, rfl⟩
  obtain ⟨c0, c1, c2, c3, c4, c5, c6, c7, c8, c9, c10, c11, c12, c13, c14, c15, rfl⟩ : ∃ c0 c1 c2 c3 c4 c5 c6 c7 c8 c9 c10 c11 c12 c13 c14 c15, C = [c0, c1, c2, c3, c4, c5, c6, c7, c8, c9, c10, c11, c12, c13, c14, c15] := by match C, hC with | [c0, c1, c2, c3, c4, c5, c6, c7, c8, c9, c10, c11, c12, c13, c14, c15], _ => exact ⟨c0, c1, c2, c3, c4, c5, c6, c7, c8, c9, c10, c11, c12, c13, c14, c15, rfl⟩
  by_cases h : chkZ [p0, p1, p2, p3, p4, p5, p6, p7, p8, p9, p10, p11, p12, p13, p14, p15] = 0 ∧ chkZ [c0, c1, c2, c3, c4, c5, c6, c7, c8, c9, c10, c11, c12, c13, c14, c15] = 0
  · refine pf_ok (nb_sound [] (allT [29, 34, 41, 48, 55]) fg_sound) noLoops_ok (lf_good p0 p1 p2 p3 p4 p5 p6 p7 p8 p9 p10 p11 p12 p13 p14 p15 c0 c1 c2 c3 c4 c5 c6 c7 c8 c9 c10 c11 c12 c13 c14 c15) ?_ rfl
    have h1 : (decide (chkZ [p0, p1, p2, p3, p4, p5, p6, p7, p8, p9, p10, p11, p12, p13, p14, p15] = 0) && decide (chkZ [c0, c1, c2, c3, c4, c5, c6, c7, c8, c9, c10, c11, c12, c13, c14, c15] = 0)) = true := by simp [h.1, h.2]
    generalize fwdG roundZ ([p0, p1, p2, p3, p4, p5, p6, p7, p8, p9, p10, p11, p12, p13, p14, p15] ++ [c0, c1, c2, c3, c4, c5, c6, c7, c8, c9, c10, c11, c12, c13, c14, c15]) = ys
    rw [h1]
    generalize chkZ [p0, p1, p2, p3, p4, p5, p6, p7, p8, p9, p10, p11, p12, p13, p14, p15] = a
    generalize chkZ [c0, c1, c2, c3, c4, c5, c6, c7, c8, c9, c10, c11, c12, c13, c14, c15] = b
    simp [Holds]
  · refine pf_ok (nb_sound [] (allT [41, 48]) fb_sound) noLoops_ok (lf_bad p0 p1 p2 p3 p4 p5 p6 p7 p8 p9 p10 p11 p12 p13 p14 p15 c0 c1 c2 c3 c4 c5 c6 c7 c8 c9 c10 c11 c12 c13 c14 c15) ?_ rfl
    have h1 : (!(decide (chkZ [p0, p1, p2, p3, p4, p5, p6, p7, p8, p9, p10, p11, p12, p13, p14, p15] = 0) && decide (chkZ [c0, c1, c2, c3, c4, c5, c6, c7, c8, c9, c10, c11, c12, c13, c14, c15] = 0))) = true := by
      revert h
      generalize chkZ [p0, p1, p2, p3, p4, p5, p6, p7, p8, p9, p10, p11, p12, p13, p14, p15] = a
      generalize chkZ [c0, c1, c2, c3, c4, c5, c6, c7, c8, c9, c10, c11, c12, c13, c14, c15] = b
      intro h
      by_cases ha : a = 0
      · by_cases hb : b = 0
        · exact absurd ⟨ha, hb⟩ h
        · simp [hb]
      · simp [ha]
    rw [h1]
    generalize chkZ [p0, p1, p2, p3, p4, p5, p6, p7, p8, p9, p10, p11, p12, p13, p14, p15] = a
    generalize chkZ [c0, c1, c2, c3, c4, c5, c6, c7, c8, c9, c10, c11, c12, c13, c14, c15] = b
    simp [Holds]

end Go.Proofs.Ytfbjpenbpbpcaaa

