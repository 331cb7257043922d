/-
  Chapter 09: the reference's May, Great, Small and Noise.
-/
import Derived.Test.YtfbjpenbpbpcaaaQr1
import Derived.Test.YtfbjpenbpbpcaaaQn9
namespace Go.Proofs.Ytfbjpenbpbpcaaa
open Go Den
set_option maxRecDepth 100000
set_option linter.unusedSimpArgs false
set_option linter.unusedVariables false

def rrT (ok mm b : Bool) (S M A : List Int) : FuncId → List Value → Option Value := fun f args => match f, args with
  | 130, [_] => some (.tuple #[.agg (ints S).toArray, .agg (ints M).toArray, .agg (ints A).toArray, .bool ok])
  | 101, [_, _] => some (.bool b)
  | 74, [_] => some (.bool mm)
  | 44, [.int .i64 x, .int .i64 y] => some (.tuple #[.int .i64 (divQ x y), .int .i64 (divE y)])
  | _, _ => none
noncomputable abbrev rrC (ok mm b : Bool) (S M A : List Int) : Oracle := tellC (rrT ok mm b S M A) noC
noncomputable abbrev rrP (ok mm b : Bool) (S M A : List Int) : Pre := tellPre (rrT ok mm b S M A) noPre
theorem rr_sound (ok mm b : Bool) (S M A : List Int) : Sound Try.prog (strict (rrP ok mm b S M A) (rrC ok mm b S M A)) := tell_sound _ noC_sound

/-! ### May -/
def ryF (ok : Bool) (i : Nat) : Slots := [(2, ptI 0), (6, ptI 3), (8, .bool ok), (17, .int .i64 i)]
def ryH (q l S M A : List Int) : Heap := [blkI q, blkI l, blkI S, blkI M, blkI A]
theorem ry_t (q0 q1 q2 q3 q4 q5 q6 q7 q8 q9 q10 q11 q12 q13 q14 q15 a b c d e g s0 s1 s2 s3 s4 s5 s6 s7 s8 s9 s10 s11 s12 s13 s14 s15 m0 m1 m2 m3 m4 m5 m6 m7 m8 m9 m10 m11 m12 m13 m14 m15 a0 a1 a2 a3 a4 a5 : Int) : (List.range' 0 16).map (fun (i : Nat) => evL Try.prog ext (nmPre noPre) (nbC [] [(29, true), (38, true)] noC) noLoops 300 42 (loopAt Try.prog 101 0) (ryF true i) (ryH [q0, q1, q2, q3, q4, q5, q6, q7, q8, q9, q10, q11, q12, q13, q14, q15] [a, b, c, d, e, g] [s0, s1, s2, s3, s4, s5, s6, s7, s8, s9, s10, s11, s12, s13, s14, s15] [m0, m1, m2, m3, m4, m5, m6, m7, m8, m9, m10, m11, m12, m13, m14, m15] [a0, a1, a2, a3, a4, a5]) 0 [] [2, 6, 8, 17]) =
  (List.range' 0 16).map fun (i : Nat) => some (.normal, ryF true (i + 1), ryH [q0, q1, q2, q3, q4, q5, q6, q7, q8, q9, q10, q11, q12, q13, q14, q15] [a, b, c, d, e, g] [s0, s1, s2, s3, s4, s5, s6, s7, s8, s9, s10, s11, s12, s13, s14, s15] [m0, m1, m2, m3, m4, m5, m6, m7, m8, m9, m10, m11, m12, m13, m14, m15] [a0, a1, a2, a3, a4, a5], 0, [(decide ([q0, q1, q2, q3, q4, q5, q6, q7, q8, q9, q10, q11, q12, q13, q14, q15].getD i 0 ≤ [m0, m1, m2, m3, m4, m5, m6, m7, m8, m9, m10, m11, m12, m13, m14, m15].getD i 0), true), (decide ([q0, q1, q2, q3, q4, q5, q6, q7, q8, q9, q10, q11, q12, q13, q14, q15].getD i 0 ≥ W (0 - [m0, m1, m2, m3, m4, m5, m6, m7, m8, m9, m10, m11, m12, m13, m14, m15].getD i 0)), true)]) := by kernel_rfl
theorem ry_f1 (q0 q1 q2 q3 q4 q5 q6 q7 q8 q9 q10 q11 q12 q13 q14 q15 a b c d e g s0 s1 s2 s3 s4 s5 s6 s7 s8 s9 s10 s11 s12 s13 s14 s15 m0 m1 m2 m3 m4 m5 m6 m7 m8 m9 m10 m11 m12 m13 m14 m15 a0 a1 a2 a3 a4 a5 : Int) : (List.range' 0 16).map (fun (i : Nat) => evL Try.prog ext (nmPre noPre) (nbC [] [(29, false)] noC) noLoops 300 42 (loopAt Try.prog 101 0) (ryF true i) (ryH [q0, q1, q2, q3, q4, q5, q6, q7, q8, q9, q10, q11, q12, q13, q14, q15] [a, b, c, d, e, g] [s0, s1, s2, s3, s4, s5, s6, s7, s8, s9, s10, s11, s12, s13, s14, s15] [m0, m1, m2, m3, m4, m5, m6, m7, m8, m9, m10, m11, m12, m13, m14, m15] [a0, a1, a2, a3, a4, a5]) 0 [] [2, 6, 8, 17]) =
  (List.range' 0 16).map fun (i : Nat) => some (.normal, ryF false (i + 1), ryH [q0, q1, q2, q3, q4, q5, q6, q7, q8, q9, q10, q11, q12, q13, q14, q15] [a, b, c, d, e, g] [s0, s1, s2, s3, s4, s5, s6, s7, s8, s9, s10, s11, s12, s13, s14, s15] [m0, m1, m2, m3, m4, m5, m6, m7, m8, m9, m10, m11, m12, m13, m14, m15] [a0, a1, a2, a3, a4, a5], 0, [(decide ([q0, q1, q2, q3, q4, q5, q6, q7, q8, q9, q10, q11, q12, q13, q14, q15].getD i 0 ≥ W (0 - [m0, m1, m2, m3, m4, m5, m6, m7, m8, m9, m10, m11, m12, m13, m14, m15].getD i 0)), false)]) := by kernel_rfl
theorem ry_f2 (q0 q1 q2 q3 q4 q5 q6 q7 q8 q9 q10 q11 q12 q13 q14 q15 a b c d e g s0 s1 s2 s3 s4 s5 s6 s7 s8 s9 s10 s11 s12 s13 s14 s15 m0 m1 m2 m3 m4 m5 m6 m7 m8 m9 m10 m11 m12 m13 m14 m15 a0 a1 a2 a3 a4 a5 : Int) : (List.range' 0 16).map (fun (i : Nat) => evL Try.prog ext (nmPre noPre) (nbC [] [(29, true), (38, false)] noC) noLoops 300 42 (loopAt Try.prog 101 0) (ryF true i) (ryH [q0, q1, q2, q3, q4, q5, q6, q7, q8, q9, q10, q11, q12, q13, q14, q15] [a, b, c, d, e, g] [s0, s1, s2, s3, s4, s5, s6, s7, s8, s9, s10, s11, s12, s13, s14, s15] [m0, m1, m2, m3, m4, m5, m6, m7, m8, m9, m10, m11, m12, m13, m14, m15] [a0, a1, a2, a3, a4, a5]) 0 [] [2, 6, 8, 17]) =
  (List.range' 0 16).map fun (i : Nat) => some (.normal, ryF false (i + 1), ryH [q0, q1, q2, q3, q4, q5, q6, q7, q8, q9, q10, q11, q12, q13, q14, q15] [a, b, c, d, e, g] [s0, s1, s2, s3, s4, s5, s6, s7, s8, s9, s10, s11, s12, s13, s14, s15] [m0, m1, m2, m3, m4, m5, m6, m7, m8, m9, m10, m11, m12, m13, m14, m15] [a0, a1, a2, a3, a4, a5], 0, [(decide ([q0, q1, q2, q3, q4, q5, q6, q7, q8, q9, q10, q11, q12, q13, q14, q15].getD i 0 ≤ [m0, m1, m2, m3, m4, m5, m6, m7, m8, m9, m10, m11, m12, m13, m14, m15].getD i 0), false), (decide ([q0, q1, q2, q3, q4, q5, q6, q7, q8, q9, q10, q11, q12, q13, q14, q15].getD i 0 ≥ W (0 - [m0, m1, m2, m3, m4, m5, m6, m7, m8, m9, m10, m11, m12, m13, m14, m15].getD i 0)), true)]) := by kernel_rfl
theorem ry_z (q0 q1 q2 q3 q4 q5 q6 q7 q8 q9 q10 q11 q12 q13 q14 q15 a b c d e g s0 s1 s2 s3 s4 s5 s6 s7 s8 s9 s10 s11 s12 s13 s14 s15 m0 m1 m2 m3 m4 m5 m6 m7 m8 m9 m10 m11 m12 m13 m14 m15 a0 a1 a2 a3 a4 a5 : Int) : (List.range' 0 16).map (fun (i : Nat) => evL Try.prog ext noPre noC noLoops 300 42 (loopAt Try.prog 101 0) (ryF false i) (ryH [q0, q1, q2, q3, q4, q5, q6, q7, q8, q9, q10, q11, q12, q13, q14, q15] [a, b, c, d, e, g] [s0, s1, s2, s3, s4, s5, s6, s7, s8, s9, s10, s11, s12, s13, s14, s15] [m0, m1, m2, m3, m4, m5, m6, m7, m8, m9, m10, m11, m12, m13, m14, m15] [a0, a1, a2, a3, a4, a5]) 0 [] [2, 6, 8, 17]) =
  (List.range' 0 16).map fun (i : Nat) => some (.normal, ryF false (i + 1), ryH [q0, q1, q2, q3, q4, q5, q6, q7, q8, q9, q10, q11, q12, q13, q14, q15] [a, b, c, d, e, g] [s0, s1, s2, s3, s4, s5, s6, s7, s8, s9, s10, s11, s12, s13, s14, s15] [m0, m1, m2, m3, m4, m5, m6, m7, m8, m9, m10, m11, m12, m13, m14, m15] [a0, a1, a2, a3, a4, a5], 0, []) := by kernel_rfl
theorem ry_e (ok : Bool) (q0 q1 q2 q3 q4 q5 q6 q7 q8 q9 q10 q11 q12 q13 q14 q15 a b c d e g s0 s1 s2 s3 s4 s5 s6 s7 s8 s9 s10 s11 s12 s13 s14 s15 m0 m1 m2 m3 m4 m5 m6 m7 m8 m9 m10 m11 m12 m13 m14 m15 a0 a1 a2 a3 a4 a5 : Int) : evL Try.prog ext noPre noC noLoops 300 42 (loopAt Try.prog 101 0) (ryF ok 16) (ryH [q0, q1, q2, q3, q4, q5, q6, q7, q8, q9, q10, q11, q12, q13, q14, q15] [a, b, c, d, e, g] [s0, s1, s2, s3, s4, s5, s6, s7, s8, s9, s10, s11, s12, s13, s14, s15] [m0, m1, m2, m3, m4, m5, m6, m7, m8, m9, m10, m11, m12, m13, m14, m15] [a0, a1, a2, a3, a4, a5]) 0 [] [8] = some (.exit 0, [(8, .bool ok)], ryH [q0, q1, q2, q3, q4, q5, q6, q7, q8, q9, q10, q11, q12, q13, q14, q15] [a, b, c, d, e, g] [s0, s1, s2, s3, s4, s5, s6, s7, s8, s9, s10, s11, s12, s13, s14, s15] [m0, m1, m2, m3, m4, m5, m6, m7, m8, m9, m10, m11, m12, m13, m14, m15] [a0, a1, a2, a3, a4, a5], 0, []) := by kernel_rfl
theorem ry_code : codeOk (loopAt Try.prog 101 0) = true := by kernel_rfl
def ryS (q M : List Int) (ok : Bool) : Nat → Bool
  | 0 => ok
  | i + 1 => ryS q M ok i && (decide (q.getD i 0 ≥ W (0 - M.getD i 0)) && decide (q.getD i 0 ≤ M.getD i 0))
theorem ry_loop (ok : Bool) (q0 q1 q2 q3 q4 q5 q6 q7 q8 q9 q10 q11 q12 q13 q14 q15 a b c d e g s0 s1 s2 s3 s4 s5 s6 s7 s8 s9 s10 s11 s12 s13 s14 s15 m0 m1 m2 m3 m4 m5 m6 m7 m8 m9 m10 m11 m12 m13 m14 m15 a0 a1 a2 a3 a4 a5 : Int) : WP Try.prog 42 (.loop (loopAt Try.prog 101 0)) ⟨ryF ok 0, ryH [q0, q1, q2, q3, q4, q5, q6, q7, q8, q9, q10, q11, q12, q13, q14, q15] [a, b, c, d, e, g] [s0, s1, s2, s3, s4, s5, s6, s7, s8, s9, s10, s11, s12, s13, s14, s15] [m0, m1, m2, m3, m4, m5, m6, m7, m8, m9, m10, m11, m12, m13, m14, m15] [a0, a1, a2, a3, a4, a5], 0⟩ (.exit 0) ⟨[(8, .bool (ryS [q0, q1, q2, q3, q4, q5, q6, q7, q8, q9, q10, q11, q12, q13, q14, q15] [m0, m1, m2, m3, m4, m5, m6, m7, m8, m9, m10, m11, m12, m13, m14, m15] ok 16))], ryH [q0, q1, q2, q3, q4, q5, q6, q7, q8, q9, q10, q11, q12, q13, q14, q15] [a, b, c, d, e, g] [s0, s1, s2, s3, s4, s5, s6, s7, s8, s9, s10, s11, s12, s13, s14, s15] [m0, m1, m2, m3, m4, m5, m6, m7, m8, m9, m10, m11, m12, m13, m14, m15] [a0, a1, a2, a3, a4, a5], 0⟩ := by
  refine WP.loop (fun i => ⟨ryF (ryS [q0, q1, q2, q3, q4, q5, q6, q7, q8, q9, q10, q11, q12, q13, q14, q15] [m0, m1, m2, m3, m4, m5, m6, m7, m8, m9, m10, m11, m12, m13, m14, m15] ok i) i, ryH [q0, q1, q2, q3, q4, q5, q6, q7, q8, q9, q10, q11, q12, q13, q14, q15] [a, b, c, d, e, g] [s0, s1, s2, s3, s4, s5, s6, s7, s8, s9, s10, s11, s12, s13, s14, s15] [m0, m1, m2, m3, m4, m5, m6, m7, m8, m9, m10, m11, m12, m13, m14, m15] [a0, a1, a2, a3, a4, a5], 0⟩) 16 (by simp) (fun i hi => ?_) ?_
  · show WP _ _ _ _ _ ⟨ryF (ryS [q0, q1, q2, q3, q4, q5, q6, q7, q8, q9, q10, q11, q12, q13, q14, q15] [m0, m1, m2, m3, m4, m5, m6, m7, m8, m9, m10, m11, m12, m13, m14, m15] ok i && (decide ([q0, q1, q2, q3, q4, q5, q6, q7, q8, q9, q10, q11, q12, q13, q14, q15].getD i 0 ≥ W (0 - [m0, m1, m2, m3, m4, m5, m6, m7, m8, m9, m10, m11, m12, m13, m14, m15].getD i 0)) && decide ([q0, q1, q2, q3, q4, q5, q6, q7, q8, q9, q10, q11, q12, q13, q14, q15].getD i 0 ≤ [m0, m1, m2, m3, m4, m5, m6, m7, m8, m9, m10, m11, m12, m13, m14, m15].getD i 0))) (i + 1), _, _⟩
    cases hb : ryS [q0, q1, q2, q3, q4, q5, q6, q7, q8, q9, q10, q11, q12, q13, q14, q15] [m0, m1, m2, m3, m4, m5, m6, m7, m8, m9, m10, m11, m12, m13, m14, m15] ok i with
    | false => exact WP.run progOk extSound noC_sound ry_code noLoops_ok _ (of_list (ry_z q0 q1 q2 q3 q4 q5 q6 q7 q8 q9 q10 q11 q12 q13 q14 q15 a b c d e g s0 s1 s2 s3 s4 s5 s6 s7 s8 s9 s10 s11 s12 s13 s14 s15 m0 m1 m2 m3 m4 m5 m6 m7 m8 m9 m10 m11 m12 m13 m14 m15 a0 a1 a2 a3 a4 a5) (by omega) (by omega)) (by simp [Holds])
    | true =>
      cases h1 : decide ([q0, q1, q2, q3, q4, q5, q6, q7, q8, q9, q10, q11, q12, q13, q14, q15].getD i 0 ≥ W (0 - [m0, m1, m2, m3, m4, m5, m6, m7, m8, m9, m10, m11, m12, m13, m14, m15].getD i 0)) with
      | false => exact WP.run progOk extSound (nb_sound _ _ noC_sound) ry_code noLoops_ok _ (of_list (ry_f1 q0 q1 q2 q3 q4 q5 q6 q7 q8 q9 q10 q11 q12 q13 q14 q15 a b c d e g s0 s1 s2 s3 s4 s5 s6 s7 s8 s9 s10 s11 s12 s13 s14 s15 m0 m1 m2 m3 m4 m5 m6 m7 m8 m9 m10 m11 m12 m13 m14 m15 a0 a1 a2 a3 a4 a5) (by omega) (by omega)) (by simp only [Holds, List.mem_singleton, forall_eq]; exact h1)
      | true =>
        cases h2 : decide ([q0, q1, q2, q3, q4, q5, q6, q7, q8, q9, q10, q11, q12, q13, q14, q15].getD i 0 ≤ [m0, m1, m2, m3, m4, m5, m6, m7, m8, m9, m10, m11, m12, m13, m14, m15].getD i 0) with
        | false => exact WP.run progOk extSound (nb_sound _ _ noC_sound) ry_code noLoops_ok _ (of_list (ry_f2 q0 q1 q2 q3 q4 q5 q6 q7 q8 q9 q10 q11 q12 q13 q14 q15 a b c d e g s0 s1 s2 s3 s4 s5 s6 s7 s8 s9 s10 s11 s12 s13 s14 s15 m0 m1 m2 m3 m4 m5 m6 m7 m8 m9 m10 m11 m12 m13 m14 m15 a0 a1 a2 a3 a4 a5) (by omega) (by omega)) (by simp only [Holds, List.mem_cons, List.not_mem_nil, or_false, forall_eq_or_imp, forall_eq]; exact ⟨h2, h1⟩)
        | true => exact WP.run progOk extSound (nb_sound _ _ noC_sound) ry_code noLoops_ok _ (of_list (ry_t q0 q1 q2 q3 q4 q5 q6 q7 q8 q9 q10 q11 q12 q13 q14 q15 a b c d e g s0 s1 s2 s3 s4 s5 s6 s7 s8 s9 s10 s11 s12 s13 s14 s15 m0 m1 m2 m3 m4 m5 m6 m7 m8 m9 m10 m11 m12 m13 m14 m15 a0 a1 a2 a3 a4 a5) (by omega) (by omega)) (by simp only [Holds, List.mem_cons, List.not_mem_nil, or_false, forall_eq_or_imp, forall_eq]; exact ⟨h2, h1⟩)
  · exact WP.run progOk extSound noC_sound ry_code noLoops_ok _ (ry_e _ q0 q1 q2 q3 q4 q5 q6 q7 q8 q9 q10 q11 q12 q13 q14 q15 a b c d e g s0 s1 s2 s3 s4 s5 s6 s7 s8 s9 s10 s11 s12 s13 s14 s15 m0 m1 m2 m3 m4 m5 m6 m7 m8 m9 m10 m11 m12 m13 m14 m15 a0 a1 a2 a3 a4 a5) (by simp [Holds])
noncomputable def ryN (ok r : Bool) (q l S M A : List Int) : Loops := { loop := sumL 3 ⟨ryF ok 0, ryH q l S M A, 0⟩ (.exit 0) ⟨[(8, .bool r)], ryH q l S M A, 0⟩ }
theorem ry_run (ok r : Bool) (q0 q1 q2 q3 q4 q5 q6 q7 q8 q9 q10 q11 q12 q13 q14 q15 a b c d e g s0 s1 s2 s3 s4 s5 s6 s7 s8 s9 s10 s11 s12 s13 s14 s15 m0 m1 m2 m3 m4 m5 m6 m7 m8 m9 m10 m11 m12 m13 m14 m15 a0 a1 a2 a3 a4 a5 : Int) : (evFnL Try.prog ext 300 (rrP ok true true [s0, s1, s2, s3, s4, s5, s6, s7, s8, s9, s10, s11, s12, s13, s14, s15] [m0, m1, m2, m3, m4, m5, m6, m7, m8, m9, m10, m11, m12, m13, m14, m15] [a0, a1, a2, a3, a4, a5]) (rrC ok true true [s0, s1, s2, s3, s4, s5, s6, s7, s8, s9, s10, s11, s12, s13, s14, s15] [m0, m1, m2, m3, m4, m5, m6, m7, m8, m9, m10, m11, m12, m13, m14, m15] [a0, a1, a2, a3, a4, a5]) (ryN ok r [q0, q1, q2, q3, q4, q5, q6, q7, q8, q9, q10, q11, q12, q13, q14, q15] [a, b, c, d, e, g] [s0, s1, s2, s3, s4, s5, s6, s7, s8, s9, s10, s11, s12, s13, s14, s15] [m0, m1, m2, m3, m4, m5, m6, m7, m8, m9, m10, m11, m12, m13, m14, m15] [a0, a1, a2, a3, a4, a5]) [(0, true)] 101 [.agg (ints [q0, q1, q2, q3, q4, q5, q6, q7, q8, q9, q10, q11, q12, q13, q14, q15]).toArray, .agg (ints [a, b, c, d, e, g]).toArray] []).map (fun r => (r.1.1, r.2)) =
  some (.bool r, [(cdec (ryF ok 0 = ryF ok 0), true), (cdec (ryH [q0, q1, q2, q3, q4, q5, q6, q7, q8, q9, q10, q11, q12, q13, q14, q15] [a, b, c, d, e, g] [s0, s1, s2, s3, s4, s5, s6, s7, s8, s9, s10, s11, s12, s13, s14, s15] [m0, m1, m2, m3, m4, m5, m6, m7, m8, m9, m10, m11, m12, m13, m14, m15] [a0, a1, a2, a3, a4, a5] = ryH [q0, q1, q2, q3, q4, q5, q6, q7, q8, q9, q10, q11, q12, q13, q14, q15] [a, b, c, d, e, g] [s0, s1, s2, s3, s4, s5, s6, s7, s8, s9, s10, s11, s12, s13, s14, s15] [m0, m1, m2, m3, m4, m5, m6, m7, m8, m9, m10, m11, m12, m13, m14, m15] [a0, a1, a2, a3, a4, a5]), true), (cdec (0 = 0), true), (rrP ok true true [s0, s1, s2, s3, s4, s5, s6, s7, s8, s9, s10, s11, s12, s13, s14, s15] [m0, m1, m2, m3, m4, m5, m6, m7, m8, m9, m10, m11, m12, m13, m14, m15] [a0, a1, a2, a3, a4, a5] 130 [.agg (ints [a, b, c, d, e, g]).toArray] [], true)]) := by kernel_rfl
theorem rO_len (l A : List Int) : (rO l A 16).length = 16 := by simp [rO]
theorem rM_len (A : List Int) : (rM A 16).length = 16 := by simp [rM]
theorem rmay_raw (q l : List Int) (hq : q.length = 16) (hl : l.length = 6) : CallOk Try.prog 101 [.agg (ints q).toArray, .agg (ints l).toArray] [] (.bool (ryS q (rM (shl l 120) 16) (okL l) 16)) [] 0 := by
  have hs := rsteps_ok l hl
  have hS := rO_len l (shl l 120)
  have hM := rM_len (shl l 120)
  have hA := shl_len l 120
  revert hs hS hM hA
  generalize rO l (shl l 120) 16 = S
  generalize rM (shl l 120) 16 = M
  generalize shl l 120 = A
  generalize okL l = ok
  intro hs hS hM hA
  obtain ⟨q0, q1, q2, q3, q4, q5, q6, q7, q8, q9, q10, q11, q12, q13, q14, q15, rfl⟩ := six_len16 q hq
  obtain ⟨a, b, c, d, e, g, rfl⟩ := six_ex l hl
  obtain ⟨s0, s1, s2, s3, s4, s5, s6, s7, s8, s9, s10, s11, s12, s13, s14, s15, rfl⟩ := six_len16 S hS
  obtain ⟨m0, m1, m2, m3, m4, m5, m6, m7, m8, m9, m10, m11, m12, m13, m14, m15, rfl⟩ := six_len16 M hM
  obtain ⟨a0, a1, a2, a3, a4, a5, rfl⟩ := six_ex A hA
  refine pf_ok (rr_sound _ _ _ _ _ _) ?_ (ry_run ok (ryS [q0, q1, q2, q3, q4, q5, q6, q7, q8, q9, q10, q11, q12, q13, q14, q15] [m0, m1, m2, m3, m4, m5, m6, m7, m8, m9, m10, m11, m12, m13, m14, m15] ok 16) q0 q1 q2 q3 q4 q5 q6 q7 q8 q9 q10 q11 q12 q13 q14 q15 a b c d e g s0 s1 s2 s3 s4 s5 s6 s7 s8 s9 s10 s11 s12 s13 s14 s15 m0 m1 m2 m3 m4 m5 m6 m7 m8 m9 m10 m11 m12 m13 m14 m15 a0 a1 a2 a3 a4 a5) ?_ rfl
  · refine LoopsOk.sum rfl fun b hb _ => ?_
    rw [show loopsOf (bodyOf Try.prog 101) = [loopAt Try.prog 101 0] by kernel_rfl] at hb
    simp only [List.mem_singleton] at hb
    subst hb
    exact ry_loop ok q0 q1 q2 q3 q4 q5 q6 q7 q8 q9 q10 q11 q12 q13 q14 q15 a b c d e g s0 s1 s2 s3 s4 s5 s6 s7 s8 s9 s10 s11 s12 s13 s14 s15 m0 m1 m2 m3 m4 m5 m6 m7 m8 m9 m10 m11 m12 m13 m14 m15 a0 a1 a2 a3 a4 a5
  · simp only [Holds, List.mem_cons, List.not_mem_nil, or_false, forall_eq_or_imp, forall_eq]
    exact ⟨cdec_iff.2 trivial, cdec_iff.2 trivial, cdec_iff.2 trivial, tell_ok rfl hs⟩
theorem ryS_iff (q M : List Int) (ok : Bool) : ∀ i, ryS q M ok i = true ↔ ok = true ∧ ∀ n, n < i → q.getD n 0 ≥ W (0 - M.getD n 0) ∧ q.getD n 0 ≤ M.getD n 0 := by
  intro i
  induction i with
  | zero => simp [ryS]
  | succ i ih =>
    simp only [ryS, Bool.and_eq_true, decide_eq_true_eq, ih]
    constructor
    · rintro ⟨⟨h1, h2⟩, h3, h4⟩
      refine ⟨h1, fun n hn => ?_⟩
      by_cases h : n < i
      · exact h2 n h
      · have : n = i := by omega
        subst this; exact ⟨h3, h4⟩
    · rintro ⟨h1, h2⟩
      exact ⟨⟨h1, fun n hn => h2 n (by omega)⟩, h2 i (by omega)⟩
theorem rM_get {A : List Int} {n : Nat} (hn : n < 16) : (rM A 16).getD n 0 = moZ (A.getD (bnd n) 0) := by
  unfold rM; rw [range_get hn, if_pos hn]
theorem rO_get {l A : List Int} {n : Nat} (hn : n < 16) : (rO l A 16).getD n 0 = stZ (l.getD (bnd n) 0) (A.getD (bnd n) 0) := by
  unfold rO; rw [range_get hn, if_pos hn]
theorem rmay_ok (q : List Int) (hq : q.length = 16) (l : List Int) (hl : l.length = 6) : CallOk Try.prog 101 [.agg (ints q).toArray, .agg (ints l).toArray] [] (.bool (mayB q l)) [] 0 := by
  have h := rmay_raw q l hq hl
  have e : ryS q (rM (shl l 120) 16) (okL l) 16 = mayB q l := by
    rw [Bool.eq_iff_iff, ryS_iff]
    unfold mayB
    rw [Bool.and_eq_true, decide_eq_true_eq]
    have ha := (shl_ok (b := 120) hl (by omega)).2
    have hmm : ∀ n, n < 16 → 0 ≤ moZ ((shl l 120).getD (bnd n) 0) ∧ moZ ((shl l 120).getD (bnd n) 0) ≤ 127 := fun n hn => moZ_in (ha _ (bnd_lt hn)).1 (ha _ (bnd_lt hn)).2
    constructor
    · rintro ⟨h1, h2⟩
      refine ⟨h1, getD_ext (by simp [clipL, hq]) fun i hi => ?_⟩
      have hi' : i < 16 := by simpa [clipL] using hi
      have h3 := h2 i hi'
      have hm := hmm i hi'
      rw [rM_get hi'] at h3
      unfold clipL
      rw [range_get hi', (scO_get l hi').2]
      generalize moZ _ = m at *
      rw [W_in (by omega) (by omega)] at h3 ⊢
      rw [mxG_eq, mnG_eq]; omega
    · rintro ⟨h1, h2⟩
      refine ⟨h1, fun n hn => ?_⟩
      have h3 : (clipL q (scO l)).getD n 0 = q.getD n 0 := by rw [h2]
      unfold clipL at h3
      rw [range_get hn, (scO_get l hn).2] at h3
      have hm := hmm n hn
      rw [rM_get hn]
      generalize moZ _ = m at *
      rw [W_in (by omega) (by omega)] at h3 ⊢
      rw [mxG_eq, mnG_eq] at h3; omega
  rw [e] at h
  exact h

/-! ### Great -/
def rgrL (q S : List Int) : List Int := (List.range 16).map fun n => mnG (mxG (W (q.getD n 0 * S.getD n 0)) (-67108864)) 67108864
theorem rg_run (q0 q1 q2 q3 q4 q5 q6 q7 q8 q9 q10 q11 q12 q13 q14 q15 a b c d e g s0 s1 s2 s3 s4 s5 s6 s7 s8 s9 s10 s11 s12 s13 s14 s15 m0 m1 m2 m3 m4 m5 m6 m7 m8 m9 m10 m11 m12 m13 m14 m15 a0 a1 a2 a3 a4 a5 : Int) : (evFnL Try.prog ext 300 (rrP true true true [s0, s1, s2, s3, s4, s5, s6, s7, s8, s9, s10, s11, s12, s13, s14, s15] [m0, m1, m2, m3, m4, m5, m6, m7, m8, m9, m10, m11, m12, m13, m14, m15] [a0, a1, a2, a3, a4, a5]) (rrC true true true [s0, s1, s2, s3, s4, s5, s6, s7, s8, s9, s10, s11, s12, s13, s14, s15] [m0, m1, m2, m3, m4, m5, m6, m7, m8, m9, m10, m11, m12, m13, m14, m15] [a0, a1, a2, a3, a4, a5]) noLoops [(0, true), (1, true)] 107 [.agg (ints [q0, q1, q2, q3, q4, q5, q6, q7, q8, q9, q10, q11, q12, q13, q14, q15]).toArray, .agg (ints [a, b, c, d, e, g]).toArray] []).map (fun r => (r.1.1, r.2)) =
  some (.tuple #[.agg (ints (rgrL [q0, q1, q2, q3, q4, q5, q6, q7, q8, q9, q10, q11, q12, q13, q14, q15] [s0, s1, s2, s3, s4, s5, s6, s7, s8, s9, s10, s11, s12, s13, s14, s15])).toArray, .int .i64 0], [(rrP true true true [s0, s1, s2, s3, s4, s5, s6, s7, s8, s9, s10, s11, s12, s13, s14, s15] [m0, m1, m2, m3, m4, m5, m6, m7, m8, m9, m10, m11, m12, m13, m14, m15] [a0, a1, a2, a3, a4, a5] 130 [.agg (ints [a, b, c, d, e, g]).toArray] [], true), (rrP true true true [s0, s1, s2, s3, s4, s5, s6, s7, s8, s9, s10, s11, s12, s13, s14, s15] [m0, m1, m2, m3, m4, m5, m6, m7, m8, m9, m10, m11, m12, m13, m14, m15] [a0, a1, a2, a3, a4, a5] 101 [.agg (ints [q0, q1, q2, q3, q4, q5, q6, q7, q8, q9, q10, q11, q12, q13, q14, q15]).toArray, .agg (ints [a, b, c, d, e, g]).toArray] [], true)]) := by kernel_rfl
theorem rg_bad (q0 q1 q2 q3 q4 q5 q6 q7 q8 q9 q10 q11 q12 q13 q14 q15 a b c d e g : Int) : (evFnL Try.prog ext 300 (rrP true true false [] [] []) (rrC true true false [] [] []) noLoops [(0, true)] 107 [.agg (ints [q0, q1, q2, q3, q4, q5, q6, q7, q8, q9, q10, q11, q12, q13, q14, q15]).toArray, .agg (ints [a, b, c, d, e, g]).toArray] []).map (fun r => (r.1.1, r.2)) =
  some (.tuple #[.agg (ints (List.replicate 16 0)).toArray, .int .i64 1], [(rrP true true false [] [] [] 101 [.agg (ints [q0, q1, q2, q3, q4, q5, q6, q7, q8, q9, q10, q11, q12, q13, q14, q15]).toArray, .agg (ints [a, b, c, d, e, g]).toArray] [], true)]) := by kernel_rfl
theorem rgrL_eq (q l : List Int) : rgrL q (rO l (shl l 120) 16) = greatL q (scO l) := by
  refine getD_ext (by simp [rgrL, greatL]) fun i hi => ?_
  have hi' : i < 16 := by simpa [rgrL] using hi
  unfold rgrL greatL
  rw [range_get hi', range_get hi', rO_get hi', (scO_get l hi').1, mxG_eq, mxG_eq, mnG_eq, mnG_eq]
  omega
theorem rgreat_ok (q : List Int) (hq : q.length = 16) (l : List Int) (hl : l.length = 6) : CallOk Try.prog 107 [.agg (ints q).toArray, .agg (ints l).toArray] [] (.tuple #[.agg (ints (grl q l)).toArray, .int .i64 (gre q l)]) [] 0 := by
  have hm := rmay_ok q hq l hl
  unfold grl gre
  by_cases h : mayB q l = true
  · have hok : okL l = true := by unfold mayB at h; simp only [Bool.and_eq_true] at h; exact h.1
    have hs := rsteps_ok l hl
    rw [hok] at hs
    rw [h] at hm
    rw [if_pos h, if_pos h, ← rgrL_eq]
    have hS := rO_len l (shl l 120)
    have hM := rM_len (shl l 120)
    have hA := shl_len l 120
    revert hs hS hM hA
    generalize rO l (shl l 120) 16 = S
    generalize rM (shl l 120) 16 = M
    generalize shl l 120 = A
    intro hs hS hM hA
    obtain ⟨q0, q1, q2, q3, q4, q5, q6, q7, q8, q9, q10, q11, q12, q13, q14, q15, rfl⟩ := six_len16 q hq
    obtain ⟨a, b, c, d, e, g, rfl⟩ := six_ex l hl
    obtain ⟨s0, s1, s2, s3, s4, s5, s6, s7, s8, s9, s10, s11, s12, s13, s14, s15, rfl⟩ := six_len16 S hS
    obtain ⟨m0, m1, m2, m3, m4, m5, m6, m7, m8, m9, m10, m11, m12, m13, m14, m15, rfl⟩ := six_len16 M hM
    obtain ⟨a0, a1, a2, a3, a4, a5, rfl⟩ := six_ex A hA
    exact pf_ok (rr_sound _ _ _ _ _ _) noLoops_ok (rg_run q0 q1 q2 q3 q4 q5 q6 q7 q8 q9 q10 q11 q12 q13 q14 q15 a b c d e g s0 s1 s2 s3 s4 s5 s6 s7 s8 s9 s10 s11 s12 s13 s14 s15 m0 m1 m2 m3 m4 m5 m6 m7 m8 m9 m10 m11 m12 m13 m14 m15 a0 a1 a2 a3 a4 a5) (by simp only [Holds, List.mem_cons, List.not_mem_nil, or_false, forall_eq_or_imp, forall_eq]; exact ⟨tell_ok rfl hs, tell_ok rfl hm⟩) rfl
  · rw [if_neg h, if_neg h]
    rw [show mayB q l = false by simpa using h] at hm
    obtain ⟨q0, q1, q2, q3, q4, q5, q6, q7, q8, q9, q10, q11, q12, q13, q14, q15, rfl⟩ := six_len16 q hq
    obtain ⟨a, b, c, d, e, g, rfl⟩ := six_ex l hl
    exact pf_ok (rr_sound _ _ _ _ _ _) noLoops_ok (rg_bad q0 q1 q2 q3 q4 q5 q6 q7 q8 q9 q10 q11 q12 q13 q14 q15 a b c d e g) (by simp only [Holds, List.mem_singleton, forall_eq]; exact tell_ok rfl hm) rfl
end Go.Proofs.Ytfbjpenbpbpcaaa

