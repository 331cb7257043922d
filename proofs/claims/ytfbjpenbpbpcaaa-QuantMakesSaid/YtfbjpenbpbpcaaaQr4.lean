/-
  Chapter 09: the reference's Small and Noise.
-/
import Derived.Test.YtfbjpenbpbpcaaaQr2
namespace Go.Proofs.Ytfbjpenbpbpcaaa
open Go Den
set_option maxRecDepth 100000
set_option linter.unusedSimpArgs false
set_option linter.unusedVariables false

/-! ### Small -/
def rsF (i : Nat) : Slots := [(2, ptI 0), (4, ptI 2), (5, ptI 3), (7, ptI 4), (8, ptI 5), (9, ptI 6), (10, ptI 7), (31, .int .i64 i)]
def rsH (x l q S M A : List Int) : Heap := [blkI x, blkI l, blkI (List.replicate 16 0), blkI (List.replicate 6 0), blkI q, blkI S, blkI M, blkI A]
def rsD (x S M : List Int) (n : Nat) : Int := mnG (mxG (divQ (x.getD n 0) (S.getD n 0)) (W (0 - M.getD n 0))) (M.getD n 0)
theorem rsm_t (x0 x1 x2 x3 x4 x5 x6 x7 x8 x9 x10 x11 x12 x13 x14 x15 a b c d e g s0 s1 s2 s3 s4 s5 s6 s7 s8 s9 s10 s11 s12 s13 s14 s15 m0 m1 m2 m3 m4 m5 m6 m7 m8 m9 m10 m11 m12 m13 m14 m15 a0 a1 a2 a3 a4 a5 b0 b1 b2 b3 b4 b5 b6 b7 b8 b9 b10 b11 b12 b13 b14 b15 : Int) : (List.range' 0 16).map (fun (i : Nat) => evL Try.prog ext (nmPre (rrP true true true [s0, s1, s2, s3, s4, s5, s6, s7, s8, s9, s10, s11, s12, s13, s14, s15] [m0, m1, m2, m3, m4, m5, m6, m7, m8, m9, m10, m11, m12, m13, m14, m15] [a0, a1, a2, a3, a4, a5])) (nbC [] [(37, true)] (rrC true true true [s0, s1, s2, s3, s4, s5, s6, s7, s8, s9, s10, s11, s12, s13, s14, s15] [m0, m1, m2, m3, m4, m5, m6, m7, m8, m9, m10, m11, m12, m13, m14, m15] [a0, a1, a2, a3, a4, a5])) noLoops 300 63 (loopAt Try.prog 106 0) (rsF i) (rsH [x0, x1, x2, x3, x4, x5, x6, x7, x8, x9, x10, x11, x12, x13, x14, x15] [a, b, c, d, e, g] [b0, b1, b2, b3, b4, b5, b6, b7, b8, b9, b10, b11, b12, b13, b14, b15] [s0, s1, s2, s3, s4, s5, s6, s7, s8, s9, s10, s11, s12, s13, s14, s15] [m0, m1, m2, m3, m4, m5, m6, m7, m8, m9, m10, m11, m12, m13, m14, m15] [a0, a1, a2, a3, a4, a5]) 0 [(2, true)] [2, 4, 5, 7, 8, 9, 10, 31]) =
  (List.range' 0 16).map fun (i : Nat) => some (.normal, rsF (i + 1), (rsH [x0, x1, x2, x3, x4, x5, x6, x7, x8, x9, x10, x11, x12, x13, x14, x15] [a, b, c, d, e, g] ([b0, b1, b2, b3, b4, b5, b6, b7, b8, b9, b10, b11, b12, b13, b14, b15].set i (rsD [x0, x1, x2, x3, x4, x5, x6, x7, x8, x9, x10, x11, x12, x13, x14, x15] [s0, s1, s2, s3, s4, s5, s6, s7, s8, s9, s10, s11, s12, s13, s14, s15] [m0, m1, m2, m3, m4, m5, m6, m7, m8, m9, m10, m11, m12, m13, m14, m15] i)) [s0, s1, s2, s3, s4, s5, s6, s7, s8, s9, s10, s11, s12, s13, s14, s15] [m0, m1, m2, m3, m4, m5, m6, m7, m8, m9, m10, m11, m12, m13, m14, m15] [a0, a1, a2, a3, a4, a5]), 0, [(rrP true true true [s0, s1, s2, s3, s4, s5, s6, s7, s8, s9, s10, s11, s12, s13, s14, s15] [m0, m1, m2, m3, m4, m5, m6, m7, m8, m9, m10, m11, m12, m13, m14, m15] [a0, a1, a2, a3, a4, a5] 44 [.int .i64 ([x0, x1, x2, x3, x4, x5, x6, x7, x8, x9, x10, x11, x12, x13, x14, x15].getD i 0), .int .i64 ([s0, s1, s2, s3, s4, s5, s6, s7, s8, s9, s10, s11, s12, s13, s14, s15].getD i 0)] [], true), (decide ([s0, s1, s2, s3, s4, s5, s6, s7, s8, s9, s10, s11, s12, s13, s14, s15].getD i 0 > 0), true)]) := by kernel_rfl
theorem rsm_f (x0 x1 x2 x3 x4 x5 x6 x7 x8 x9 x10 x11 x12 x13 x14 x15 a b c d e g s0 s1 s2 s3 s4 s5 s6 s7 s8 s9 s10 s11 s12 s13 s14 s15 m0 m1 m2 m3 m4 m5 m6 m7 m8 m9 m10 m11 m12 m13 m14 m15 a0 a1 a2 a3 a4 a5 b0 b1 b2 b3 b4 b5 b6 b7 b8 b9 b10 b11 b12 b13 b14 b15 : Int) : (List.range' 0 16).map (fun (i : Nat) => evL Try.prog ext (nmPre noPre) (nbC [] [(37, false)] noC) noLoops 300 63 (loopAt Try.prog 106 0) (rsF i) (rsH [x0, x1, x2, x3, x4, x5, x6, x7, x8, x9, x10, x11, x12, x13, x14, x15] [a, b, c, d, e, g] [b0, b1, b2, b3, b4, b5, b6, b7, b8, b9, b10, b11, b12, b13, b14, b15] [s0, s1, s2, s3, s4, s5, s6, s7, s8, s9, s10, s11, s12, s13, s14, s15] [m0, m1, m2, m3, m4, m5, m6, m7, m8, m9, m10, m11, m12, m13, m14, m15] [a0, a1, a2, a3, a4, a5]) 0 [] [2, 4, 5, 7, 8, 9, 10, 31]) =
  (List.range' 0 16).map fun (i : Nat) => some (.normal, rsF (i + 1), (rsH [x0, x1, x2, x3, x4, x5, x6, x7, x8, x9, x10, x11, x12, x13, x14, x15] [a, b, c, d, e, g] [b0, b1, b2, b3, b4, b5, b6, b7, b8, b9, b10, b11, b12, b13, b14, b15] [s0, s1, s2, s3, s4, s5, s6, s7, s8, s9, s10, s11, s12, s13, s14, s15] [m0, m1, m2, m3, m4, m5, m6, m7, m8, m9, m10, m11, m12, m13, m14, m15] [a0, a1, a2, a3, a4, a5]), 0, [(decide ([s0, s1, s2, s3, s4, s5, s6, s7, s8, s9, s10, s11, s12, s13, s14, s15].getD i 0 > 0), false)]) := by kernel_rfl
def rsE : Slots := [(4, ptI 2), (5, ptI 3), (7, ptI 4), (10, ptI 7)]
theorem rsm_e (x0 x1 x2 x3 x4 x5 x6 x7 x8 x9 x10 x11 x12 x13 x14 x15 a b c d e g s0 s1 s2 s3 s4 s5 s6 s7 s8 s9 s10 s11 s12 s13 s14 s15 m0 m1 m2 m3 m4 m5 m6 m7 m8 m9 m10 m11 m12 m13 m14 m15 a0 a1 a2 a3 a4 a5 b0 b1 b2 b3 b4 b5 b6 b7 b8 b9 b10 b11 b12 b13 b14 b15 : Int) : evL Try.prog ext noPre noC noLoops 300 63 (loopAt Try.prog 106 0) (rsF 16) (rsH [x0, x1, x2, x3, x4, x5, x6, x7, x8, x9, x10, x11, x12, x13, x14, x15] [a, b, c, d, e, g] [b0, b1, b2, b3, b4, b5, b6, b7, b8, b9, b10, b11, b12, b13, b14, b15] [s0, s1, s2, s3, s4, s5, s6, s7, s8, s9, s10, s11, s12, s13, s14, s15] [m0, m1, m2, m3, m4, m5, m6, m7, m8, m9, m10, m11, m12, m13, m14, m15] [a0, a1, a2, a3, a4, a5]) 0 [] [4, 5, 7, 10] = some (.exit 0, rsE, (rsH [x0, x1, x2, x3, x4, x5, x6, x7, x8, x9, x10, x11, x12, x13, x14, x15] [a, b, c, d, e, g] [b0, b1, b2, b3, b4, b5, b6, b7, b8, b9, b10, b11, b12, b13, b14, b15] [s0, s1, s2, s3, s4, s5, s6, s7, s8, s9, s10, s11, s12, s13, s14, s15] [m0, m1, m2, m3, m4, m5, m6, m7, m8, m9, m10, m11, m12, m13, m14, m15] [a0, a1, a2, a3, a4, a5]), 0, []) := by kernel_rfl
theorem rsm_code : codeOk (loopAt Try.prog 106 0) = true := by kernel_rfl
def rsS (x S M : List Int) : Nat → List Int
  | 0 => (List.replicate 16 0)
  | i + 1 => if S.getD i 0 > 0 then (rsS x S M i).set i (rsD x S M i) else rsS x S M i
theorem rsS_len (x S M : List Int) : ∀ i, (rsS x S M i).length = 16 := by
  intro i
  induction i with
  | zero => simp [rsS]
  | succ i ih => simp only [rsS]; split <;> simp [ih]
theorem rsS_get (x S M : List Int) : ∀ i, i ≤ 16 → ∀ k, (rsS x S M i).getD k 0 = if k < i then (if S.getD k 0 > 0 then rsD x S M k else 0) else 0 := by
  intro i
  induction i with
  | zero =>
    intro _ k
    simp only [rsS]
    rw [List.getD_eq_getElem?_getD, List.getElem?_replicate]
    split <;> simp
  | succ i ih =>
    intro hi k
    have ih := ih (by omega) k
    simp only [rsS]
    by_cases h : S.getD i 0 > 0
    · rw [if_pos h, getD_set16 (rsS_len x S M i) (by omega)]
      by_cases hk : k = i
      · subst hk; rw [if_pos rfl, if_pos (by omega), if_pos h]
      · rw [if_neg hk, ih]
        by_cases hlt : k < i
        · rw [if_pos hlt, if_pos (show k < i + 1 by omega)]
        · rw [if_neg hlt, if_neg (show ¬ k < i + 1 by omega)]
    · rw [if_neg h, ih]
      by_cases hk : k = i
      · subst hk; rw [if_neg (by omega), if_pos (by omega), if_neg h]
      · by_cases hlt : k < i
        · rw [if_pos hlt, if_pos (show k < i + 1 by omega)]
        · rw [if_neg hlt, if_neg (show ¬ k < i + 1 by omega)]
theorem rdiv_c {a b : Int} (ha : inI a = true) (hb : inI b = true) : CallOk Try.prog 44 [.int .i64 a, .int .i64 b] [] (.tuple #[.int .i64 (divQ a b), .int .i64 (divE b)]) [] 0 :=
  fx3_sound 44 [.int .i64 a, .int .i64 b] [] _ [] 0 (by
    have : fx3Pre 44 [.int .i64 a, .int .i64 b] [] = true := by show (inI a && inI b) = true; rw [ha, hb]; rfl
    unfold strict; rw [this]; rfl)
def okS (S : List Int) : Prop := ∀ n, n < 16 → S.getD n 0 = 0 ∨ (1 ≤ S.getD n 0 ∧ S.getD n 0 ≤ 4026531841)
theorem rsm_loop (x0 x1 x2 x3 x4 x5 x6 x7 x8 x9 x10 x11 x12 x13 x14 x15 a b c d e g s0 s1 s2 s3 s4 s5 s6 s7 s8 s9 s10 s11 s12 s13 s14 s15 m0 m1 m2 m3 m4 m5 m6 m7 m8 m9 m10 m11 m12 m13 m14 m15 a0 a1 a2 a3 a4 a5 : Int) (hO : okS [s0, s1, s2, s3, s4, s5, s6, s7, s8, s9, s10, s11, s12, s13, s14, s15]) (hx : [x0, x1, x2, x3, x4, x5, x6, x7, x8, x9, x10, x11, x12, x13, x14, x15].all (inB 67108864) = true) : WP Try.prog 63 (.loop (loopAt Try.prog 106 0)) ⟨rsF 0, (rsH [x0, x1, x2, x3, x4, x5, x6, x7, x8, x9, x10, x11, x12, x13, x14, x15] [a, b, c, d, e, g] (List.replicate 16 0) [s0, s1, s2, s3, s4, s5, s6, s7, s8, s9, s10, s11, s12, s13, s14, s15] [m0, m1, m2, m3, m4, m5, m6, m7, m8, m9, m10, m11, m12, m13, m14, m15] [a0, a1, a2, a3, a4, a5]), 0⟩ (.exit 0) ⟨rsE, (rsH [x0, x1, x2, x3, x4, x5, x6, x7, x8, x9, x10, x11, x12, x13, x14, x15] [a, b, c, d, e, g] (rsS [x0, x1, x2, x3, x4, x5, x6, x7, x8, x9, x10, x11, x12, x13, x14, x15] [s0, s1, s2, s3, s4, s5, s6, s7, s8, s9, s10, s11, s12, s13, s14, s15] [m0, m1, m2, m3, m4, m5, m6, m7, m8, m9, m10, m11, m12, m13, m14, m15] 16) [s0, s1, s2, s3, s4, s5, s6, s7, s8, s9, s10, s11, s12, s13, s14, s15] [m0, m1, m2, m3, m4, m5, m6, m7, m8, m9, m10, m11, m12, m13, m14, m15] [a0, a1, a2, a3, a4, a5]), 0⟩ := by
  refine WP.loop (fun i => ⟨rsF i, (rsH [x0, x1, x2, x3, x4, x5, x6, x7, x8, x9, x10, x11, x12, x13, x14, x15] [a, b, c, d, e, g] (rsS [x0, x1, x2, x3, x4, x5, x6, x7, x8, x9, x10, x11, x12, x13, x14, x15] [s0, s1, s2, s3, s4, s5, s6, s7, s8, s9, s10, s11, s12, s13, s14, s15] [m0, m1, m2, m3, m4, m5, m6, m7, m8, m9, m10, m11, m12, m13, m14, m15] i) [s0, s1, s2, s3, s4, s5, s6, s7, s8, s9, s10, s11, s12, s13, s14, s15] [m0, m1, m2, m3, m4, m5, m6, m7, m8, m9, m10, m11, m12, m13, m14, m15] [a0, a1, a2, a3, a4, a5]), 0⟩) 16 (by simp) (fun i hi => ?_) ?_
  · obtain ⟨B, hB⟩ : ∃ B, rsS [x0, x1, x2, x3, x4, x5, x6, x7, x8, x9, x10, x11, x12, x13, x14, x15] [s0, s1, s2, s3, s4, s5, s6, s7, s8, s9, s10, s11, s12, s13, s14, s15] [m0, m1, m2, m3, m4, m5, m6, m7, m8, m9, m10, m11, m12, m13, m14, m15] i = B := ⟨_, rfl⟩
    have hl := rsS_len [x0, x1, x2, x3, x4, x5, x6, x7, x8, x9, x10, x11, x12, x13, x14, x15] [s0, s1, s2, s3, s4, s5, s6, s7, s8, s9, s10, s11, s12, s13, s14, s15] [m0, m1, m2, m3, m4, m5, m6, m7, m8, m9, m10, m11, m12, m13, m14, m15] i
    show WP _ _ _ ⟨_, rsH _ _ (rsS _ _ _ i) _ _ _, _⟩ _ ⟨_, rsH _ _ (rsS _ _ _ (i + 1)) _ _ _, _⟩
    simp only [rsS]
    rw [hB] at hl ⊢
    obtain ⟨b0, b1, b2, b3, b4, b5, b6, b7, b8, b9, b10, b11, b12, b13, b14, b15, rfl⟩ := six_len16 B hl
    by_cases h : [s0, s1, s2, s3, s4, s5, s6, s7, s8, s9, s10, s11, s12, s13, s14, s15].getD i 0 > 0
    · rw [if_pos h]
      have h1 := (hO i hi).resolve_left (by omega)
      have hxi : inB 67108864 ([x0, x1, x2, x3, x4, x5, x6, x7, x8, x9, x10, x11, x12, x13, x14, x15].getD i 0) = true := all_getD hx hi
      have hxr : -67108864 ≤ [x0, x1, x2, x3, x4, x5, x6, x7, x8, x9, x10, x11, x12, x13, x14, x15].getD i 0 ∧ [x0, x1, x2, x3, x4, x5, x6, x7, x8, x9, x10, x11, x12, x13, x14, x15].getD i 0 ≤ 67108864 := by
        unfold inB at hxi
        rw [show IntKind.wrap IntKind.i64 (0 - 67108864) = -67108864 by decide] at hxi
        simpa using hxi
      refine WP.run progOk extSound (nb_sound _ _ (rr_sound _ _ _ _ _ _)) rsm_code noLoops_ok _ (of_list (rsm_t x0 x1 x2 x3 x4 x5 x6 x7 x8 x9 x10 x11 x12 x13 x14 x15 a b c d e g s0 s1 s2 s3 s4 s5 s6 s7 s8 s9 s10 s11 s12 s13 s14 s15 m0 m1 m2 m3 m4 m5 m6 m7 m8 m9 m10 m11 m12 m13 m14 m15 a0 a1 a2 a3 a4 a5 b0 b1 b2 b3 b4 b5 b6 b7 b8 b9 b10 b11 b12 b13 b14 b15) (by omega) (by omega)) ?_
      simp only [Holds, List.mem_cons, List.not_mem_nil, or_false, forall_eq_or_imp, forall_eq]
      exact ⟨tell_ok rfl (rdiv_c (inI_iff.2 (by omega)) (inI_iff.2 (by omega))), decide_eq_true h⟩
    · rw [if_neg h]
      exact WP.run progOk extSound (nb_sound _ _ noC_sound) rsm_code noLoops_ok _ (of_list (rsm_f x0 x1 x2 x3 x4 x5 x6 x7 x8 x9 x10 x11 x12 x13 x14 x15 a b c d e g s0 s1 s2 s3 s4 s5 s6 s7 s8 s9 s10 s11 s12 s13 s14 s15 m0 m1 m2 m3 m4 m5 m6 m7 m8 m9 m10 m11 m12 m13 m14 m15 a0 a1 a2 a3 a4 a5 b0 b1 b2 b3 b4 b5 b6 b7 b8 b9 b10 b11 b12 b13 b14 b15) (by omega) (by omega)) (by simp only [Holds, List.mem_singleton, forall_eq]; exact decide_eq_false h)
  · have hl := rsS_len [x0, x1, x2, x3, x4, x5, x6, x7, x8, x9, x10, x11, x12, x13, x14, x15] [s0, s1, s2, s3, s4, s5, s6, s7, s8, s9, s10, s11, s12, s13, s14, s15] [m0, m1, m2, m3, m4, m5, m6, m7, m8, m9, m10, m11, m12, m13, m14, m15] 16
    revert hl
    generalize rsS [x0, x1, x2, x3, x4, x5, x6, x7, x8, x9, x10, x11, x12, x13, x14, x15] [s0, s1, s2, s3, s4, s5, s6, s7, s8, s9, s10, s11, s12, s13, s14, s15] [m0, m1, m2, m3, m4, m5, m6, m7, m8, m9, m10, m11, m12, m13, m14, m15] 16 = B
    intro hl
    obtain ⟨b0, b1, b2, b3, b4, b5, b6, b7, b8, b9, b10, b11, b12, b13, b14, b15, rfl⟩ := six_len16 B hl
    exact WP.run progOk extSound noC_sound rsm_code noLoops_ok _ (rsm_e x0 x1 x2 x3 x4 x5 x6 x7 x8 x9 x10 x11 x12 x13 x14 x15 a b c d e g s0 s1 s2 s3 s4 s5 s6 s7 s8 s9 s10 s11 s12 s13 s14 s15 m0 m1 m2 m3 m4 m5 m6 m7 m8 m9 m10 m11 m12 m13 m14 m15 a0 a1 a2 a3 a4 a5 b0 b1 b2 b3 b4 b5 b6 b7 b8 b9 b10 b11 b12 b13 b14 b15) (by simp [Holds])
noncomputable def sbN (x0 x1 x2 x3 x4 x5 x6 x7 x8 x9 x10 x11 x12 x13 x14 x15 a b c d e g s0 s1 s2 s3 s4 s5 s6 s7 s8 s9 s10 s11 s12 s13 s14 s15 m0 m1 m2 m3 m4 m5 m6 m7 m8 m9 m10 m11 m12 m13 m14 m15 a0 a1 a2 a3 a4 a5 : Int) (B : List Int) : Loops := { loop := sumL 6 ⟨rsF 0, (rsH [x0, x1, x2, x3, x4, x5, x6, x7, x8, x9, x10, x11, x12, x13, x14, x15] [a, b, c, d, e, g] (List.replicate 16 0) [s0, s1, s2, s3, s4, s5, s6, s7, s8, s9, s10, s11, s12, s13, s14, s15] [m0, m1, m2, m3, m4, m5, m6, m7, m8, m9, m10, m11, m12, m13, m14, m15] [a0, a1, a2, a3, a4, a5]), 0⟩ (.exit 0) ⟨rsE, (rsH [x0, x1, x2, x3, x4, x5, x6, x7, x8, x9, x10, x11, x12, x13, x14, x15] [a, b, c, d, e, g] B [s0, s1, s2, s3, s4, s5, s6, s7, s8, s9, s10, s11, s12, s13, s14, s15] [m0, m1, m2, m3, m4, m5, m6, m7, m8, m9, m10, m11, m12, m13, m14, m15] [a0, a1, a2, a3, a4, a5]), 0⟩ }
noncomputable def sb0 : Code := bodyOf Try.prog 106
noncomputable def sb1 : Code := tlC sb0
noncomputable def sb2 : Code := tlC sb1
noncomputable def sb3 : Code := tlC sb2
noncomputable def sb4 : Code := tlC sb3
noncomputable def sb5 : Code := tlC sb4
theorem sb_seq : (isSeq sb0 && isSeq sb1 && isSeq sb2 && isSeq sb3 && isSeq sb4 && isSeq sb5) = true := by kernel_rfl
theorem sb_ok : (codeOk (hdC sb0) && codeOk (hdC sb1) && codeOk (hdC sb2) && codeOk (hdC sb3) && codeOk (hdC sb4) && codeOk (tlC sb5)) = true := by kernel_rfl
theorem sb_r0 (x0 x1 x2 x3 x4 x5 x6 x7 x8 x9 x10 x11 x12 x13 x14 x15 a b c d e g : Int) : evL Try.prog ext noPre noC noLoops 300 63 (hdC sb0) (Den.start 0 [.agg (ints [x0, x1, x2, x3, x4, x5, x6, x7, x8, x9, x10, x11, x12, x13, x14, x15]).toArray, .agg (ints [a, b, c, d, e, g]).toArray]) [] 0 [] [2, 3, 4, 5] = some (.normal, [(2, ptI 0), (3, ptI 1), (4, ptI 2), (5, ptI 3)], [blkI [x0, x1, x2, x3, x4, x5, x6, x7, x8, x9, x10, x11, x12, x13, x14, x15], blkI [a, b, c, d, e, g], blkI (List.replicate 16 0), blkI (List.replicate 6 0)], 0, []) := by kernel_rfl
theorem sb_r1 (x0 x1 x2 x3 x4 x5 x6 x7 x8 x9 x10 x11 x12 x13 x14 x15 a b c d e g : Int) : evL Try.prog ext noPre noC noLoops 300 63 (hdC sb1) [(2, ptI 0), (3, ptI 1), (4, ptI 2), (5, ptI 3)] [blkI [x0, x1, x2, x3, x4, x5, x6, x7, x8, x9, x10, x11, x12, x13, x14, x15], blkI [a, b, c, d, e, g], blkI (List.replicate 16 0), blkI (List.replicate 6 0)] 0 [] [2, 3, 4, 5, 7] = some (.normal, [(2, ptI 0), (3, ptI 1), (4, ptI 2), (5, ptI 3), (7, ptI 4)], [blkI [x0, x1, x2, x3, x4, x5, x6, x7, x8, x9, x10, x11, x12, x13, x14, x15], blkI [a, b, c, d, e, g], blkI (List.replicate 16 0), blkI (List.replicate 6 0), blkI (List.replicate 16 0)], 0, []) := by kernel_rfl
theorem sb_r2 (x0 x1 x2 x3 x4 x5 x6 x7 x8 x9 x10 x11 x12 x13 x14 x15 a b c d e g s0 s1 s2 s3 s4 s5 s6 s7 s8 s9 s10 s11 s12 s13 s14 s15 m0 m1 m2 m3 m4 m5 m6 m7 m8 m9 m10 m11 m12 m13 m14 m15 a0 a1 a2 a3 a4 a5 : Int) : evL Try.prog ext (rrP true true true [s0, s1, s2, s3, s4, s5, s6, s7, s8, s9, s10, s11, s12, s13, s14, s15] [m0, m1, m2, m3, m4, m5, m6, m7, m8, m9, m10, m11, m12, m13, m14, m15] [a0, a1, a2, a3, a4, a5]) (rrC true true true [s0, s1, s2, s3, s4, s5, s6, s7, s8, s9, s10, s11, s12, s13, s14, s15] [m0, m1, m2, m3, m4, m5, m6, m7, m8, m9, m10, m11, m12, m13, m14, m15] [a0, a1, a2, a3, a4, a5]) noLoops 300 63 (hdC sb2) [(2, ptI 0), (3, ptI 1), (4, ptI 2), (5, ptI 3), (7, ptI 4)] [blkI [x0, x1, x2, x3, x4, x5, x6, x7, x8, x9, x10, x11, x12, x13, x14, x15], blkI [a, b, c, d, e, g], blkI (List.replicate 16 0), blkI (List.replicate 6 0), blkI (List.replicate 16 0)] 0 [(0, true)] [2, 4, 5, 7, 8, 9, 10, 11] = some (.normal, [(2, ptI 0), (4, ptI 2), (5, ptI 3), (7, ptI 4), (8, ptI 5), (9, ptI 6), (10, ptI 7), (11, .bool true)], (rsH [x0, x1, x2, x3, x4, x5, x6, x7, x8, x9, x10, x11, x12, x13, x14, x15] [a, b, c, d, e, g] (List.replicate 16 0) [s0, s1, s2, s3, s4, s5, s6, s7, s8, s9, s10, s11, s12, s13, s14, s15] [m0, m1, m2, m3, m4, m5, m6, m7, m8, m9, m10, m11, m12, m13, m14, m15] [a0, a1, a2, a3, a4, a5]), 0, [(rrP true true true [s0, s1, s2, s3, s4, s5, s6, s7, s8, s9, s10, s11, s12, s13, s14, s15] [m0, m1, m2, m3, m4, m5, m6, m7, m8, m9, m10, m11, m12, m13, m14, m15] [a0, a1, a2, a3, a4, a5] 130 [.agg (ints [a, b, c, d, e, g]).toArray] [], true)]) := by kernel_rfl
theorem sb_r3 (x0 x1 x2 x3 x4 x5 x6 x7 x8 x9 x10 x11 x12 x13 x14 x15 a b c d e g s0 s1 s2 s3 s4 s5 s6 s7 s8 s9 s10 s11 s12 s13 s14 s15 m0 m1 m2 m3 m4 m5 m6 m7 m8 m9 m10 m11 m12 m13 m14 m15 a0 a1 a2 a3 a4 a5 : Int) : evL Try.prog ext (rrP true true true [s0, s1, s2, s3, s4, s5, s6, s7, s8, s9, s10, s11, s12, s13, s14, s15] [m0, m1, m2, m3, m4, m5, m6, m7, m8, m9, m10, m11, m12, m13, m14, m15] [a0, a1, a2, a3, a4, a5]) (rrC true true true [s0, s1, s2, s3, s4, s5, s6, s7, s8, s9, s10, s11, s12, s13, s14, s15] [m0, m1, m2, m3, m4, m5, m6, m7, m8, m9, m10, m11, m12, m13, m14, m15] [a0, a1, a2, a3, a4, a5]) noLoops 300 63 (hdC sb3) [(2, ptI 0), (4, ptI 2), (5, ptI 3), (7, ptI 4), (8, ptI 5), (9, ptI 6), (10, ptI 7), (11, .bool true)] (rsH [x0, x1, x2, x3, x4, x5, x6, x7, x8, x9, x10, x11, x12, x13, x14, x15] [a, b, c, d, e, g] (List.replicate 16 0) [s0, s1, s2, s3, s4, s5, s6, s7, s8, s9, s10, s11, s12, s13, s14, s15] [m0, m1, m2, m3, m4, m5, m6, m7, m8, m9, m10, m11, m12, m13, m14, m15] [a0, a1, a2, a3, a4, a5]) 0 [(2, true)] [2, 4, 5, 7, 8, 9, 10] = some (.normal, [(2, ptI 0), (4, ptI 2), (5, ptI 3), (7, ptI 4), (8, ptI 5), (9, ptI 6), (10, ptI 7)], (rsH [x0, x1, x2, x3, x4, x5, x6, x7, x8, x9, x10, x11, x12, x13, x14, x15] [a, b, c, d, e, g] (List.replicate 16 0) [s0, s1, s2, s3, s4, s5, s6, s7, s8, s9, s10, s11, s12, s13, s14, s15] [m0, m1, m2, m3, m4, m5, m6, m7, m8, m9, m10, m11, m12, m13, m14, m15] [a0, a1, a2, a3, a4, a5]), 0, [(rrP true true true [s0, s1, s2, s3, s4, s5, s6, s7, s8, s9, s10, s11, s12, s13, s14, s15] [m0, m1, m2, m3, m4, m5, m6, m7, m8, m9, m10, m11, m12, m13, m14, m15] [a0, a1, a2, a3, a4, a5] 74 [.agg (ints [x0, x1, x2, x3, x4, x5, x6, x7, x8, x9, x10, x11, x12, x13, x14, x15]).toArray] [], true)]) := by kernel_rfl
theorem sb_r4 (x0 x1 x2 x3 x4 x5 x6 x7 x8 x9 x10 x11 x12 x13 x14 x15 a b c d e g s0 s1 s2 s3 s4 s5 s6 s7 s8 s9 s10 s11 s12 s13 s14 s15 m0 m1 m2 m3 m4 m5 m6 m7 m8 m9 m10 m11 m12 m13 m14 m15 a0 a1 a2 a3 a4 a5 : Int) (B : List Int) : evL Try.prog ext noPre noC (sbN x0 x1 x2 x3 x4 x5 x6 x7 x8 x9 x10 x11 x12 x13 x14 x15 a b c d e g s0 s1 s2 s3 s4 s5 s6 s7 s8 s9 s10 s11 s12 s13 s14 s15 m0 m1 m2 m3 m4 m5 m6 m7 m8 m9 m10 m11 m12 m13 m14 m15 a0 a1 a2 a3 a4 a5 B) 300 63 (hdC sb4) [(2, ptI 0), (4, ptI 2), (5, ptI 3), (7, ptI 4), (8, ptI 5), (9, ptI 6), (10, ptI 7)] (rsH [x0, x1, x2, x3, x4, x5, x6, x7, x8, x9, x10, x11, x12, x13, x14, x15] [a, b, c, d, e, g] (List.replicate 16 0) [s0, s1, s2, s3, s4, s5, s6, s7, s8, s9, s10, s11, s12, s13, s14, s15] [m0, m1, m2, m3, m4, m5, m6, m7, m8, m9, m10, m11, m12, m13, m14, m15] [a0, a1, a2, a3, a4, a5]) 0 [] [4, 5, 7, 10] = some (.normal, rsE, (rsH [x0, x1, x2, x3, x4, x5, x6, x7, x8, x9, x10, x11, x12, x13, x14, x15] [a, b, c, d, e, g] B [s0, s1, s2, s3, s4, s5, s6, s7, s8, s9, s10, s11, s12, s13, s14, s15] [m0, m1, m2, m3, m4, m5, m6, m7, m8, m9, m10, m11, m12, m13, m14, m15] [a0, a1, a2, a3, a4, a5]), 0, [(cdec (rsF 0 = rsF 0), true), (cdec ((rsH [x0, x1, x2, x3, x4, x5, x6, x7, x8, x9, x10, x11, x12, x13, x14, x15] [a, b, c, d, e, g] (List.replicate 16 0) [s0, s1, s2, s3, s4, s5, s6, s7, s8, s9, s10, s11, s12, s13, s14, s15] [m0, m1, m2, m3, m4, m5, m6, m7, m8, m9, m10, m11, m12, m13, m14, m15] [a0, a1, a2, a3, a4, a5]) = (rsH [x0, x1, x2, x3, x4, x5, x6, x7, x8, x9, x10, x11, x12, x13, x14, x15] [a, b, c, d, e, g] (List.replicate 16 0) [s0, s1, s2, s3, s4, s5, s6, s7, s8, s9, s10, s11, s12, s13, s14, s15] [m0, m1, m2, m3, m4, m5, m6, m7, m8, m9, m10, m11, m12, m13, m14, m15] [a0, a1, a2, a3, a4, a5])), true), (cdec (0 = 0), true)]) := by kernel_rfl
def sbEF : Slots := [(4, ptI 2), (5, ptI 3), (6, .int .i64 0)]
def sbEH (x l q S M A : List Int) : Heap := [blkI x, blkI l, blkI q, blkI A, blkI q, blkI S, blkI M, blkI A]
theorem sb_pm (x0 x1 x2 x3 x4 x5 x6 x7 x8 x9 x10 x11 x12 x13 x14 x15 a b c d e g s0 s1 s2 s3 s4 s5 s6 s7 s8 s9 s10 s11 s12 s13 s14 s15 m0 m1 m2 m3 m4 m5 m6 m7 m8 m9 m10 m11 m12 m13 m14 m15 a0 a1 a2 a3 a4 a5 b0 b1 b2 b3 b4 b5 b6 b7 b8 b9 b10 b11 b12 b13 b14 b15 : Int) : (evPerm Try.prog ext noC 63 (opsOf (hdC sb5)).toList (opsOf (hdC sb5)).toList.length (List.replicate (opsOf (hdC sb5)).toList.length false) ⟨rsE, (rsH [x0, x1, x2, x3, x4, x5, x6, x7, x8, x9, x10, x11, x12, x13, x14, x15] [a, b, c, d, e, g] [b0, b1, b2, b3, b4, b5, b6, b7, b8, b9, b10, b11, b12, b13, b14, b15] [s0, s1, s2, s3, s4, s5, s6, s7, s8, s9, s10, s11, s12, s13, s14, s15] [m0, m1, m2, m3, m4, m5, m6, m7, m8, m9, m10, m11, m12, m13, m14, m15] [a0, a1, a2, a3, a4, a5]), 0⟩).map (fun L => L.map fun s => (pick s.F [4, 5, 6], s.H, s.lo)) =
  some (List.replicate 3 (sbEF, sbEH [x0, x1, x2, x3, x4, x5, x6, x7, x8, x9, x10, x11, x12, x13, x14, x15] [a, b, c, d, e, g] [b0, b1, b2, b3, b4, b5, b6, b7, b8, b9, b10, b11, b12, b13, b14, b15] [s0, s1, s2, s3, s4, s5, s6, s7, s8, s9, s10, s11, s12, s13, s14, s15] [m0, m1, m2, m3, m4, m5, m6, m7, m8, m9, m10, m11, m12, m13, m14, m15] [a0, a1, a2, a3, a4, a5], 0)) := by kernel_rfl
theorem sb_pd : (isDraw (hdC sb5) && (opsOf (hdC sb5)).toList.all noSel) = true := by kernel_rfl
theorem sb_ret : tlC sb5 = .ret := by kernel_rfl
theorem sb_res (x0 x1 x2 x3 x4 x5 x6 x7 x8 x9 x10 x11 x12 x13 x14 x15 a b c d e g s0 s1 s2 s3 s4 s5 s6 s7 s8 s9 s10 s11 s12 s13 s14 s15 m0 m1 m2 m3 m4 m5 m6 m7 m8 m9 m10 m11 m12 m13 m14 m15 a0 a1 a2 a3 a4 a5 b0 b1 b2 b3 b4 b5 b6 b7 b8 b9 b10 b11 b12 b13 b14 b15 : Int) : (match Try.prog.funcs[106]? with | some fn => evResults Try.prog fn sbEF (sbEH [x0, x1, x2, x3, x4, x5, x6, x7, x8, x9, x10, x11, x12, x13, x14, x15] [a, b, c, d, e, g] [b0, b1, b2, b3, b4, b5, b6, b7, b8, b9, b10, b11, b12, b13, b14, b15] [s0, s1, s2, s3, s4, s5, s6, s7, s8, s9, s10, s11, s12, s13, s14, s15] [m0, m1, m2, m3, m4, m5, m6, m7, m8, m9, m10, m11, m12, m13, m14, m15] [a0, a1, a2, a3, a4, a5]) | none => none) = some (.tuple #[.agg (ints [b0, b1, b2, b3, b4, b5, b6, b7, b8, b9, b10, b11, b12, b13, b14, b15]).toArray, .agg (ints [a0, a1, a2, a3, a4, a5]).toArray, .int .i64 0]) := by kernel_rfl
theorem sb_hf : (match Try.prog.funcs[106]? with | some fn => fn.body.isSome | none => false) = true := by kernel_rfl
theorem sb_nt : ntOf Try.prog 106 2 = 63 := by kernel_rfl
theorem WP.ret_is62 {c : Code} (hc : c = .ret) (hk : codeOk c = true) (s : St) : WP Try.prog 63 c s .ret s := by
  subst hc
  obtain ⟨F, H, lo⟩ := s
  exact WPr.weaken (evCodeL_WP (N := 1) (L := noLoops) progOk extSound noC_sound .ret hk none (.inl ⟨rfl, noLoops_ok⟩) ⟨⟨F, H, lo⟩, [], []⟩ .ret ⟨⟨F, H, lo⟩, [], []⟩ rfl (by simp [Holds])).1 (Sub.refl _) (Sub.refl _)
theorem sb_bad1 (x0 x1 x2 x3 x4 x5 x6 x7 x8 x9 x10 x11 x12 x13 x14 x15 a b c d e g s0 s1 s2 s3 s4 s5 s6 s7 s8 s9 s10 s11 s12 s13 s14 s15 m0 m1 m2 m3 m4 m5 m6 m7 m8 m9 m10 m11 m12 m13 m14 m15 a0 a1 a2 a3 a4 a5 : Int) : (evFnL Try.prog ext 300 (rrP false true true [s0, s1, s2, s3, s4, s5, s6, s7, s8, s9, s10, s11, s12, s13, s14, s15] [m0, m1, m2, m3, m4, m5, m6, m7, m8, m9, m10, m11, m12, m13, m14, m15] [a0, a1, a2, a3, a4, a5]) (rrC false true true [s0, s1, s2, s3, s4, s5, s6, s7, s8, s9, s10, s11, s12, s13, s14, s15] [m0, m1, m2, m3, m4, m5, m6, m7, m8, m9, m10, m11, m12, m13, m14, m15] [a0, a1, a2, a3, a4, a5]) noLoops [(0, true)] 106 [.agg (ints [x0, x1, x2, x3, x4, x5, x6, x7, x8, x9, x10, x11, x12, x13, x14, x15]).toArray, .agg (ints [a, b, c, d, e, g]).toArray] []).map (fun r => (r.1.1, r.2)) =
  some (.tuple #[.agg (ints (List.replicate 16 0)).toArray, .agg (ints (List.replicate 6 0)).toArray, .int .i64 1], [(rrP false true true [s0, s1, s2, s3, s4, s5, s6, s7, s8, s9, s10, s11, s12, s13, s14, s15] [m0, m1, m2, m3, m4, m5, m6, m7, m8, m9, m10, m11, m12, m13, m14, m15] [a0, a1, a2, a3, a4, a5] 130 [.agg (ints [a, b, c, d, e, g]).toArray] [], true)]) := by kernel_rfl
theorem sb_bad2 (x0 x1 x2 x3 x4 x5 x6 x7 x8 x9 x10 x11 x12 x13 x14 x15 a b c d e g s0 s1 s2 s3 s4 s5 s6 s7 s8 s9 s10 s11 s12 s13 s14 s15 m0 m1 m2 m3 m4 m5 m6 m7 m8 m9 m10 m11 m12 m13 m14 m15 a0 a1 a2 a3 a4 a5 : Int) : (evFnL Try.prog ext 300 (rrP true false true [s0, s1, s2, s3, s4, s5, s6, s7, s8, s9, s10, s11, s12, s13, s14, s15] [m0, m1, m2, m3, m4, m5, m6, m7, m8, m9, m10, m11, m12, m13, m14, m15] [a0, a1, a2, a3, a4, a5]) (rrC true false true [s0, s1, s2, s3, s4, s5, s6, s7, s8, s9, s10, s11, s12, s13, s14, s15] [m0, m1, m2, m3, m4, m5, m6, m7, m8, m9, m10, m11, m12, m13, m14, m15] [a0, a1, a2, a3, a4, a5]) noLoops [(0, true), (2, true)] 106 [.agg (ints [x0, x1, x2, x3, x4, x5, x6, x7, x8, x9, x10, x11, x12, x13, x14, x15]).toArray, .agg (ints [a, b, c, d, e, g]).toArray] []).map (fun r => (r.1.1, r.2)) =
  some (.tuple #[.agg (ints (List.replicate 16 0)).toArray, .agg (ints (List.replicate 6 0)).toArray, .int .i64 1], [(rrP true false true [s0, s1, s2, s3, s4, s5, s6, s7, s8, s9, s10, s11, s12, s13, s14, s15] [m0, m1, m2, m3, m4, m5, m6, m7, m8, m9, m10, m11, m12, m13, m14, m15] [a0, a1, a2, a3, a4, a5] 74 [.agg (ints [x0, x1, x2, x3, x4, x5, x6, x7, x8, x9, x10, x11, x12, x13, x14, x15]).toArray] [], true), (rrP true false true [s0, s1, s2, s3, s4, s5, s6, s7, s8, s9, s10, s11, s12, s13, s14, s15] [m0, m1, m2, m3, m4, m5, m6, m7, m8, m9, m10, m11, m12, m13, m14, m15] [a0, a1, a2, a3, a4, a5] 130 [.agg (ints [a, b, c, d, e, g]).toArray] [], true)]) := by kernel_rfl
theorem rsS_eq (x l : List Int) : rsS x (rO l (shl l 120) 16) (rM (shl l 120) 16) 16 = smL x (scO l) := by
  refine getD_ext (by simp [rsS_len, smL]) fun i hi => ?_
  rw [rsS_len] at hi
  rw [rsS_get _ _ _ 16 (Nat.le_refl _), if_pos hi]
  unfold smL rsD clD
  rw [range_get hi, rO_get hi, rM_get hi, (scO_get l hi).1, (scO_get l hi).2]
  have hst := stZ_in (l.getD (bnd i) 0) ((shl l 120).getD (bnd i) 0)
  have hmm : 0 ≤ moZ ((shl l 120).getD (bnd i) 0) ∧ moZ ((shl l 120).getD (bnd i) 0) ≤ 127 := by
    unfold moZ
    have hc : (clW ((shl l 120).getD (bnd i) 0)).toNat < 8 := by unfold clW; omega
    generalize (clW ((shl l 120).getD (bnd i) 0)).toNat = c at hc
    rcases (show c = 0 ∨ c = 1 ∨ c = 2 ∨ c = 3 ∨ c = 4 ∨ c = 5 ∨ c = 6 ∨ c = 7 by omega) with rfl | rfl | rfl | rfl | rfl | rfl | rfl | rfl <;> decide
  generalize stZ _ _ = s at *
  generalize moZ _ = m at *
  by_cases h : s = 0
  · rw [if_neg (by omega), if_pos h]
  · rw [if_pos (by omega), if_neg h]
    generalize divQ _ _ = d
    rw [W_in (by omega) (by omega), mxG_eq, mxG_eq, mnG_eq, mnG_eq]
    omega
theorem rsmall_ok (xs : List Int) (hx : xs.length = 16) (l : List Int) (hl : l.length = 6) : CallOk Try.prog 106 [.agg (ints xs).toArray, .agg (ints l).toArray] [] (.tuple #[.agg (ints (sml xs l)).toArray, .agg (ints (sma xs l)).toArray, .int .i64 (sme xs l)]) [] 0 := by
  have hs := rsteps_ok l hl
  have hmy := may_ok xs hx
  have hS := rO_len l (shl l 120)
  have hM := rM_len (shl l 120)
  have hA := shl_len l 120
  unfold sml sma sme
  by_cases h : okL l = true
  · rw [h] at hs
    by_cases hm : may16 xs = true
    · rw [if_pos ⟨h, hm⟩, if_pos ⟨h, hm⟩, if_pos ⟨h, hm⟩, ← rsS_eq]
      rw [show xs.all (inB 67108864) = true from hm] at hmy
      have hO : okS (rO l (shl l 120) 16) := fun n hn => by rw [rO_get hn]; exact stZ_in _ _
      revert hs hS hM hA hO
      generalize rO l (shl l 120) 16 = S
      generalize rM (shl l 120) 16 = M
      generalize shl l 120 = A
      intro hs hS hM hA hO
      obtain ⟨x0, x1, x2, x3, x4, x5, x6, x7, x8, x9, x10, x11, x12, x13, x14, x15, rfl⟩ := six_len16 xs hx
      obtain ⟨a, b, c, d, e, g, rfl⟩ := six_ex l hl
      obtain ⟨s0, s1, s2, s3, s4, s5, s6, s7, s8, s9, s10, s11, s12, s13, s14, s15, rfl⟩ := six_len16 S hS
      obtain ⟨m0, m1, m2, m3, m4, m5, m6, m7, m8, m9, m10, m11, m12, m13, m14, m15, rfl⟩ := six_len16 M hM
      obtain ⟨a0, a1, a2, a3, a4, a5, rfl⟩ := six_ex A hA
      have hlp := rsm_loop x0 x1 x2 x3 x4 x5 x6 x7 x8 x9 x10 x11 x12 x13 x14 x15 a b c d e g s0 s1 s2 s3 s4 s5 s6 s7 s8 s9 s10 s11 s12 s13 s14 s15 m0 m1 m2 m3 m4 m5 m6 m7 m8 m9 m10 m11 m12 m13 m14 m15 a0 a1 a2 a3 a4 a5 hO hm
      have hB := rsS_len [x0, x1, x2, x3, x4, x5, x6, x7, x8, x9, x10, x11, x12, x13, x14, x15] [s0, s1, s2, s3, s4, s5, s6, s7, s8, s9, s10, s11, s12, s13, s14, s15] [m0, m1, m2, m3, m4, m5, m6, m7, m8, m9, m10, m11, m12, m13, m14, m15] 16
      revert hlp hB
      generalize rsS [x0, x1, x2, x3, x4, x5, x6, x7, x8, x9, x10, x11, x12, x13, x14, x15] [s0, s1, s2, s3, s4, s5, s6, s7, s8, s9, s10, s11, s12, s13, s14, s15] [m0, m1, m2, m3, m4, m5, m6, m7, m8, m9, m10, m11, m12, m13, m14, m15] 16 = B
      intro hlp hB
      obtain ⟨b0, b1, b2, b3, b4, b5, b6, b7, b8, b9, b10, b11, b12, b13, b14, b15, rfl⟩ := six_len16 B hB
      have q := sb_seq
      have k := sb_ok
      simp only [Bool.and_eq_true] at q k
      obtain ⟨⟨⟨⟨⟨q0, q1⟩, q2⟩, q3⟩, q4⟩, q5⟩ := q
      obtain ⟨⟨⟨⟨⟨k0, k1⟩, k2⟩, k3⟩, k4⟩, k5⟩ := k
      have w0 := WP.run (nt := 63) progOk extSound noC_sound k0 noLoops_ok _ (sb_r0 x0 x1 x2 x3 x4 x5 x6 x7 x8 x9 x10 x11 x12 x13 x14 x15 a b c d e g) (by simp [Holds])
      have w1 := WP.run (nt := 63) progOk extSound noC_sound k1 noLoops_ok _ (sb_r1 x0 x1 x2 x3 x4 x5 x6 x7 x8 x9 x10 x11 x12 x13 x14 x15 a b c d e g) (by simp [Holds])
      have w2 := WP.run (nt := 63) progOk extSound (rr_sound _ _ _ _ _ _) k2 noLoops_ok _ (sb_r2 x0 x1 x2 x3 x4 x5 x6 x7 x8 x9 x10 x11 x12 x13 x14 x15 a b c d e g s0 s1 s2 s3 s4 s5 s6 s7 s8 s9 s10 s11 s12 s13 s14 s15 m0 m1 m2 m3 m4 m5 m6 m7 m8 m9 m10 m11 m12 m13 m14 m15 a0 a1 a2 a3 a4 a5) (by simp only [Holds, List.mem_singleton, forall_eq]; exact tell_ok rfl hs)
      have w3 := WP.run (nt := 63) progOk extSound (rr_sound _ _ _ _ _ _) k3 noLoops_ok _ (sb_r3 x0 x1 x2 x3 x4 x5 x6 x7 x8 x9 x10 x11 x12 x13 x14 x15 a b c d e g s0 s1 s2 s3 s4 s5 s6 s7 s8 s9 s10 s11 s12 s13 s14 s15 m0 m1 m2 m3 m4 m5 m6 m7 m8 m9 m10 m11 m12 m13 m14 m15 a0 a1 a2 a3 a4 a5) (by simp only [Holds, List.mem_singleton, forall_eq]; exact tell_ok rfl hmy)
      have w4 := WP.run (nt := 63) progOk extSound noC_sound k4 (LoopsOk.sum rfl fun b hb hi => by
        rw [show loopsOf (hdC sb4) = [loopAt Try.prog 106 0] by kernel_rfl] at hb
        simp only [List.mem_singleton] at hb
        subst hb
        exact hlp) _ (sb_r4 x0 x1 x2 x3 x4 x5 x6 x7 x8 x9 x10 x11 x12 x13 x14 x15 a b c d e g s0 s1 s2 s3 s4 s5 s6 s7 s8 s9 s10 s11 s12 s13 s14 s15 m0 m1 m2 m3 m4 m5 m6 m7 m8 m9 m10 m11 m12 m13 m14 m15 a0 a1 a2 a3 a4 a5 [b0, b1, b2, b3, b4, b5, b6, b7, b8, b9, b10, b11, b12, b13, b14, b15]) (by simp only [Holds, List.mem_cons, List.not_mem_nil, or_false, forall_eq_or_imp, forall_eq]; exact ⟨cdec_iff.2 trivial, cdec_iff.2 trivial, cdec_iff.2 trivial⟩)
      have w5 := WP.perm (nt := 63) progOk extSound noCc_plain sb_pd _ _ (sb_pm x0 x1 x2 x3 x4 x5 x6 x7 x8 x9 x10 x11 x12 x13 x14 x15 a b c d e g s0 s1 s2 s3 s4 s5 s6 s7 s8 s9 s10 s11 s12 s13 s14 s15 m0 m1 m2 m3 m4 m5 m6 m7 m8 m9 m10 m11 m12 m13 m14 m15 a0 a1 a2 a3 a4 a5 b0 b1 b2 b3 b4 b5 b6 b7 b8 b9 b10 b11 b12 b13 b14 b15) (Nat.le_refl _)
      have wb : WP Try.prog 63 sb0 ⟨Den.start 0 [.agg (ints [x0, x1, x2, x3, x4, x5, x6, x7, x8, x9, x10, x11, x12, x13, x14, x15]).toArray, .agg (ints [a, b, c, d, e, g]).toArray], [], 0⟩ .ret ⟨sbEF, sbEH [x0, x1, x2, x3, x4, x5, x6, x7, x8, x9, x10, x11, x12, x13, x14, x15] [a, b, c, d, e, g] [b0, b1, b2, b3, b4, b5, b6, b7, b8, b9, b10, b11, b12, b13, b14, b15] [s0, s1, s2, s3, s4, s5, s6, s7, s8, s9, s10, s11, s12, s13, s14, s15] [m0, m1, m2, m3, m4, m5, m6, m7, m8, m9, m10, m11, m12, m13, m14, m15] [a0, a1, a2, a3, a4, a5], 0⟩ :=
        WP.cut q0 w0 (WP.cut q1 w1 (WP.cut q2 w2 (WP.cut q3 w3 (WP.cut q4 w4 (WP.cut q5 w5 (WP.ret_is62 sb_ret k5 _))))))
      exact CallOk.drop (CallOk.walk sb_hf (n := 2) rfl (by rw [sb_nt]; exact wb) (.inr rfl) (sb_res x0 x1 x2 x3 x4 x5 x6 x7 x8 x9 x10 x11 x12 x13 x14 x15 a b c d e g s0 s1 s2 s3 s4 s5 s6 s7 s8 s9 s10 s11 s12 s13 s14 s15 m0 m1 m2 m3 m4 m5 m6 m7 m8 m9 m10 m11 m12 m13 m14 m15 a0 a1 a2 a3 a4 a5 b0 b1 b2 b3 b4 b5 b6 b7 b8 b9 b10 b11 b12 b13 b14 b15)) rfl
    · rw [if_neg (fun hh => hm hh.2), if_neg (fun hh => hm hh.2), if_neg (fun hh => hm hh.2)]
      rw [show xs.all (inB 67108864) = false by simpa [may16] using hm] at hmy
      revert hs hS hM hA
      generalize rO l (shl l 120) 16 = S
      generalize rM (shl l 120) 16 = M
      generalize shl l 120 = A
      intro hs hS hM hA
      obtain ⟨x0, x1, x2, x3, x4, x5, x6, x7, x8, x9, x10, x11, x12, x13, x14, x15, rfl⟩ := six_len16 xs hx
      obtain ⟨a, b, c, d, e, g, rfl⟩ := six_ex l hl
      obtain ⟨s0, s1, s2, s3, s4, s5, s6, s7, s8, s9, s10, s11, s12, s13, s14, s15, rfl⟩ := six_len16 S hS
      obtain ⟨m0, m1, m2, m3, m4, m5, m6, m7, m8, m9, m10, m11, m12, m13, m14, m15, rfl⟩ := six_len16 M hM
      obtain ⟨a0, a1, a2, a3, a4, a5, rfl⟩ := six_ex A hA
      exact pf_ok (rr_sound _ _ _ _ _ _) noLoops_ok (sb_bad2 x0 x1 x2 x3 x4 x5 x6 x7 x8 x9 x10 x11 x12 x13 x14 x15 a b c d e g s0 s1 s2 s3 s4 s5 s6 s7 s8 s9 s10 s11 s12 s13 s14 s15 m0 m1 m2 m3 m4 m5 m6 m7 m8 m9 m10 m11 m12 m13 m14 m15 a0 a1 a2 a3 a4 a5) (by simp only [Holds, List.mem_cons, List.not_mem_nil, or_false, forall_eq_or_imp, forall_eq]; exact ⟨tell_ok rfl hmy, tell_ok rfl hs⟩) rfl
  · rw [if_neg (fun hh => h hh.1), if_neg (fun hh => h hh.1), if_neg (fun hh => h hh.1)]
    rw [show okL l = false by simpa using h] at hs
    revert hs hS hM hA
    generalize rO l (shl l 120) 16 = S
    generalize rM (shl l 120) 16 = M
    generalize shl l 120 = A
    intro hs hS hM hA
    obtain ⟨x0, x1, x2, x3, x4, x5, x6, x7, x8, x9, x10, x11, x12, x13, x14, x15, rfl⟩ := six_len16 xs hx
    obtain ⟨a, b, c, d, e, g, rfl⟩ := six_ex l hl
    obtain ⟨s0, s1, s2, s3, s4, s5, s6, s7, s8, s9, s10, s11, s12, s13, s14, s15, rfl⟩ := six_len16 S hS
    obtain ⟨m0, m1, m2, m3, m4, m5, m6, m7, m8, m9, m10, m11, m12, m13, m14, m15, rfl⟩ := six_len16 M hM
    obtain ⟨a0, a1, a2, a3, a4, a5, rfl⟩ := six_ex A hA
    exact pf_ok (rr_sound _ _ _ _ _ _) noLoops_ok (sb_bad1 x0 x1 x2 x3 x4 x5 x6 x7 x8 x9 x10 x11 x12 x13 x14 x15 a b c d e g s0 s1 s2 s3 s4 s5 s6 s7 s8 s9 s10 s11 s12 s13 s14 s15 m0 m1 m2 m3 m4 m5 m6 m7 m8 m9 m10 m11 m12 m13 m14 m15 a0 a1 a2 a3 a4 a5) (by simp only [Holds, List.mem_singleton, forall_eq]; exact tell_ok rfl hs) rfl

/-! ### Noise -/
def mzT : FuncId → List Value → Option Value := fun f args => match f, args with
  | 46, [.int .i64 v, .int .i64 k] => some (.int .i64 (roundZ v k))
  | _, _ => none
noncomputable abbrev mzC : Oracle := tellC mzT o9
noncomputable abbrev mzP : Pre := tellPre mzT noPre
theorem mz_sound : Sound Try.prog (strict mzP mzC) := tell_sound _ o9_sound
def mzF (s : Int) (i : Nat) : Slots := [(0, .int .u32 s), (3, ptI 0), (4, ptI 1), (7, ptI 2), (17, .int .i64 i)]
def mzH (l x : List Int) : Heap := [blkI l, blkI (List.replicate 16 0), blkI x]
def rhel (v : Int) : Int := mnG (mxG v (-67108864)) 67108864
theorem rhel_eq (v : Int) : rhel v = hel v := by unfold rhel hel; rw [mxG_eq, mxG_eq, mnG_eq, mnG_eq]; omega
theorem mz_t (a b c d e g b0 b1 b2 b3 b4 b5 b6 b7 b8 b9 b10 b11 b12 b13 b14 b15 s t h : Int) : (List.range' 0 16).map (fun (i : Nat) => evL Try.prog ext (nmPre mzP) (nbC [(22, t), (42, h)] [(31, true)] mzC) noLoops 300 53 (loopAt Try.prog 108 0) (mzF s i) (mzH [a, b, c, d, e, g] [b0, b1, b2, b3, b4, b5, b6, b7, b8, b9, b10, b11, b12, b13, b14, b15]) 0 [(5, true)] [0, 3, 4, 7, 17]) =
  (List.range' 0 16).map fun (i : Nat) => some (.normal, mzF t (i + 1), mzH [a, b, c, d, e, g] ([b0, b1, b2, b3, b4, b5, b6, b7, b8, b9, b10, b11, b12, b13, b14, b15].set i (rhel (roundZ (W (W (h - 32768) * pkZ ([a, b, c, d, e, g].getD (bnd i) 0))) 18))), 0, [(mzP 46 [.int .i64 (W (W (h - 32768) * pkZ ([a, b, c, d, e, g].getD (bnd i) 0))), .int .i64 18] [], true), (decide (hiZ t = h), true), (decide ([a, b, c, d, e, g].getD (bnd i) 0 > 0), true), (decide (WU (WU (1664525 * s) + 1013904223) = t), true)]) := by kernel_rfl
theorem mz_f (a b c d e g b0 b1 b2 b3 b4 b5 b6 b7 b8 b9 b10 b11 b12 b13 b14 b15 s t : Int) : (List.range' 0 16).map (fun (i : Nat) => evL Try.prog ext (nmPre mzP) (nbC [(22, t)] [(31, false)] mzC) noLoops 300 53 (loopAt Try.prog 108 0) (mzF s i) (mzH [a, b, c, d, e, g] [b0, b1, b2, b3, b4, b5, b6, b7, b8, b9, b10, b11, b12, b13, b14, b15]) 0 [] [0, 3, 4, 7, 17]) =
  (List.range' 0 16).map fun (i : Nat) => some (.normal, mzF t (i + 1), mzH [a, b, c, d, e, g] [b0, b1, b2, b3, b4, b5, b6, b7, b8, b9, b10, b11, b12, b13, b14, b15], 0, [(decide ([a, b, c, d, e, g].getD (bnd i) 0 > 0), false), (decide (WU (WU (1664525 * s) + 1013904223) = t), true)]) := by kernel_rfl
theorem mz_e (a b c d e g b0 b1 b2 b3 b4 b5 b6 b7 b8 b9 b10 b11 b12 b13 b14 b15 s : Int) : evL Try.prog ext noPre noC noLoops 300 53 (loopAt Try.prog 108 0) (mzF s 16) (mzH [a, b, c, d, e, g] [b0, b1, b2, b3, b4, b5, b6, b7, b8, b9, b10, b11, b12, b13, b14, b15]) 0 [] [0, 4, 7] = some (.exit 0, [(0, .int .u32 s), (4, ptI 1), (7, ptI 2)], mzH [a, b, c, d, e, g] [b0, b1, b2, b3, b4, b5, b6, b7, b8, b9, b10, b11, b12, b13, b14, b15], 0, []) := by kernel_rfl
theorem mz_code : codeOk (loopAt Try.prog 108 0) = true := by kernel_rfl
theorem nxt_c (s : Int) : WU (WU (1664525 * s) + 1013904223) = nxt s := by unfold nxt; rw [Int.mul_comm]
theorem mz_loop (a b c d e g s : Int) : WP Try.prog 53 (.loop (loopAt Try.prog 108 0)) ⟨mzF s 0, mzH [a, b, c, d, e, g] (List.replicate 16 0), 0⟩ (.exit 0) ⟨[(0, .int .u32 (sdS s 16)), (4, ptI 1), (7, ptI 2)], mzH [a, b, c, d, e, g] (nzX s [a, b, c, d, e, g] 16), 0⟩ := by
  refine WP.loop (fun i => ⟨mzF (sdS s i) i, mzH [a, b, c, d, e, g] (nzX s [a, b, c, d, e, g] i), 0⟩) 16 (by simp) (fun i hi => ?_) ?_
  · obtain ⟨B, hB⟩ : ∃ B, nzX s [a, b, c, d, e, g] i = B := ⟨_, rfl⟩
    have hl := nzX_len s [a, b, c, d, e, g] i
    show WP _ _ _ ⟨_, mzH _ (nzX _ _ i), _⟩ _ ⟨mzF (nxt (sdS s i)) (i + 1), mzH _ (nzX _ _ (i + 1)), _⟩
    simp only [nzX]
    rw [hB] at hl ⊢
    obtain ⟨b0, b1, b2, b3, b4, b5, b6, b7, b8, b9, b10, b11, b12, b13, b14, b15, rfl⟩ := six_len16 B hl
    by_cases h : [a, b, c, d, e, g].getD (bnd i) 0 > 0
    · rw [if_pos h, ← rhel_eq]
      refine WP.run progOk extSound (nb_sound _ _ mz_sound) mz_code noLoops_ok _ (of_list (mz_t a b c d e g b0 b1 b2 b3 b4 b5 b6 b7 b8 b9 b10 b11 b12 b13 b14 b15 (sdS s i) (nxt (sdS s i)) (hiZ (nxt (sdS s i)))) (by omega) (by omega)) ?_
      simp only [Holds, List.mem_cons, List.not_mem_nil, or_false, forall_eq_or_imp, forall_eq, nxt_c]
      exact ⟨tell_ok rfl (ref_round_ok _ _ (inI_wrap _) (by decide)), decide_eq_true trivial, decide_eq_true h, decide_eq_true trivial⟩
    · rw [if_neg h]
      refine WP.run progOk extSound (nb_sound _ _ mz_sound) mz_code noLoops_ok _ (of_list (mz_f a b c d e g b0 b1 b2 b3 b4 b5 b6 b7 b8 b9 b10 b11 b12 b13 b14 b15 (sdS s i) (nxt (sdS s i))) (by omega) (by omega)) ?_
      simp only [Holds, List.mem_cons, List.not_mem_nil, or_false, forall_eq_or_imp, forall_eq, nxt_c]
      exact ⟨decide_eq_false h, decide_eq_true trivial⟩
  · have hl := nzX_len s [a, b, c, d, e, g] 16
    revert hl
    generalize nzX s [a, b, c, d, e, g] 16 = B
    intro hl
    obtain ⟨b0, b1, b2, b3, b4, b5, b6, b7, b8, b9, b10, b11, b12, b13, b14, b15, rfl⟩ := six_len16 B hl
    exact WP.run progOk extSound noC_sound mz_code noLoops_ok _ (mz_e a b c d e g b0 b1 b2 b3 b4 b5 b6 b7 b8 b9 b10 b11 b12 b13 b14 b15 (sdS s 16)) (by simp [Holds])
noncomputable def mzN (s t : Int) (l B : List Int) : Loops := { loop := sumL 5 ⟨mzF s 0, mzH l (List.replicate 16 0), 0⟩ (.exit 0) ⟨[(0, .int .u32 t), (4, ptI 1), (7, ptI 2)], mzH l B, 0⟩ }
theorem mz_run (a b c d e g b0 b1 b2 b3 b4 b5 b6 b7 b8 b9 b10 b11 b12 b13 b14 b15 s t : Int) : (evFnL Try.prog ext 300 (nmPre noPre) (nbC [] [(15, false)] o9) (mzN s t [a, b, c, d, e, g] [b0, b1, b2, b3, b4, b5, b6, b7, b8, b9, b10, b11, b12, b13, b14, b15]) [] 108 [.int .u32 s, .agg (ints [a, b, c, d, e, g]).toArray] []).map (fun r => (r.1.1, r.2)) =
  some (.tuple #[.agg (ints [b0, b1, b2, b3, b4, b5, b6, b7, b8, b9, b10, b11, b12, b13, b14, b15]).toArray, .int .u32 t, .int .i64 0], [(cdec (mzF s 0 = mzF s 0), true), (cdec (mzH [a, b, c, d, e, g] (List.replicate 16 0) = mzH [a, b, c, d, e, g] (List.replicate 16 0)), true), (cdec (0 = 0), true), (chk8 [a, b, c, d, e, g] != 0, false)]) := by kernel_rfl
theorem mz_bad (a b c d e g s : Int) : (evFnL Try.prog ext 300 (nmPre noPre) (nbC [] [(15, true)] o9) noLoops [] 108 [.int .u32 s, .agg (ints [a, b, c, d, e, g]).toArray] []).map (fun r => (r.1.1, r.2)) =
  some (.tuple #[.agg (ints (List.replicate 16 0)).toArray, .int .u32 0, .int .i64 1], [(chk8 [a, b, c, d, e, g] != 0, true)]) := by kernel_rfl
theorem rnoise_ok (s : Int) (l : List Int) (hl : l.length = 6) : CallOk Try.prog 108 [.int .u32 s, .agg (ints l).toArray] [] (.tuple #[.agg (ints (nzl s l)).toArray, .int .u32 (nzs s l), .int .i64 (chk8 l)]) [] 0 := by
  unfold nzl nzs
  by_cases h : okL l = true
  · rw [if_pos h, if_pos h]
    have hc : chk8 l = 0 := by unfold chk8; rw [if_pos h]
    rw [hc]
    obtain ⟨a, b, c, d, e, g, rfl⟩ := six_ex l hl
    have hlp := mz_loop a b c d e g s
    have hb := nzX_len s [a, b, c, d, e, g] 16
    revert hlp hb
    generalize nzX s [a, b, c, d, e, g] 16 = B
    generalize sdS s 16 = t
    intro hlp hb
    obtain ⟨b0, b1, b2, b3, b4, b5, b6, b7, b8, b9, b10, b11, b12, b13, b14, b15, rfl⟩ := six_len16 B hb
    refine pf_ok (nb_sound _ _ o9_sound) ?_ (mz_run a b c d e g b0 b1 b2 b3 b4 b5 b6 b7 b8 b9 b10 b11 b12 b13 b14 b15 s t) (by simp only [Holds, List.mem_cons, List.not_mem_nil, or_false, forall_eq_or_imp, forall_eq]; exact ⟨cdec_iff.2 trivial, cdec_iff.2 trivial, cdec_iff.2 trivial, by rw [hc]; rfl⟩) rfl
    refine LoopsOk.sum rfl fun b hb _ => ?_
    rw [show loopsOf (bodyOf Try.prog 108) = [loopAt Try.prog 108 0] by kernel_rfl] at hb
    simp only [List.mem_singleton] at hb
    subst hb
    exact hlp
  · rw [if_neg h, if_neg h]
    have hc : chk8 l = 1 := by unfold chk8; rw [if_neg h]
    rw [hc]
    obtain ⟨a, b, c, d, e, g, rfl⟩ := six_ex l hl
    exact pf_ok (nb_sound _ _ o9_sound) noLoops_ok (mz_bad a b c d e g s) (by simp only [Holds, List.mem_singleton, forall_eq]; rw [hc]; rfl) rfl
end Go.Proofs.Ytfbjpenbpbpcaaa

