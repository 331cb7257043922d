/-
  Chapter 09: Small, May and Great: the contracts.
-/
import Derived.Test.YtfbjpenbpbpcaaaQn5
namespace Go.Proofs.Ytfbjpenbpbpcaaa
open Go Den
set_option maxRecDepth 100000
set_option linter.unusedSimpArgs false
set_option linter.unusedVariables false

def sQ (xs O : List Int) : Nat → List Int
  | 0 => (List.replicate 16 0)
  | i + 1 => if O.getD (2 * i) 0 = 0 then sQ xs O i else (sQ xs O i).set i (clD xs O i)
theorem sQ_len (xs O : List Int) : ∀ i, (sQ xs O i).length = 16 := by
  intro i
  induction i with
  | zero => simp [sQ]
  | succ i ih => simp only [sQ]; split <;> simp [ih]
theorem getD_set16 {A : List Int} (h : A.length = 16) {k i : Nat} (hk : k < 16) (v : Int) : (A.set k v).getD i 0 = if i = k then v else A.getD i 0 := by
  simp only [List.getD_eq_getElem?_getD, List.getElem?_set]
  by_cases hik : k = i
  · subst hik; simp [h, hk]
  · have : ¬ i = k := fun e => hik e.symm
    simp [hik, this]
theorem sQ_get (xs O : List Int) : ∀ i, i ≤ 16 → ∀ k, (sQ xs O i).getD k 0 = if k < i then (if O.getD (2 * k) 0 = 0 then 0 else clD xs O k) else 0 := by
  intro i
  induction i with
  | zero =>
    intro _ k
    simp only [sQ]
    rw [List.getD_eq_getElem?_getD, List.getElem?_replicate]
    split <;> simp
  | succ i ih =>
    intro hi k
    have ih := ih (by omega) k
    simp only [sQ]
    by_cases h : O.getD (2 * i) 0 = 0
    · rw [if_pos h, ih]
      by_cases hk : k = i
      · subst hk; rw [if_neg (by omega), if_pos (by omega), if_pos h]
      · by_cases hlt : k < i
        · rw [if_pos hlt, if_pos (show k < i + 1 by omega)]
        · rw [if_neg hlt, if_neg (show ¬ k < i + 1 by omega)]
    · rw [if_neg h, getD_set16 (sQ_len xs O i) (by omega)]
      by_cases hk : k = i
      · subst hk; rw [if_pos rfl, if_pos (by omega), if_neg h]
      · rw [if_neg hk, ih]
        by_cases hlt : k < i
        · rw [if_pos hlt, if_pos (show k < i + 1 by omega)]
        · rw [if_neg hlt, if_neg (show ¬ k < i + 1 by omega)]
def smL (xs O : List Int) : List Int := (List.range 16).map fun n => if O.getD (2 * n) 0 = 0 then 0 else clD xs O n
theorem sQ_eq (xs O : List Int) : sQ xs O 16 = smL xs O := by
  refine getD_ext (by simp [sQ_len, smL]) fun i hi => ?_
  rw [sQ_len] at hi
  rw [sQ_get xs O 16 (Nat.le_refl _), if_pos hi]
  unfold smL
  rw [range_get hi]

theorem div_c {a b : Int} (ha : inI a = true) (hb : inI b = true) : CallOk Try.prog 43 [.int .i64 a, .int .i64 b] [] (.tuple #[.int .i64 (divQ a b), .int .i64 (divE b)]) [] 0 :=
  fx3_sound 43 [.int .i64 a, .int .i64 b] [] _ [] 0 (by
    have : fx3Pre 43 [.int .i64 a, .int .i64 b] [] = true := by show (inI a && inI b) = true; rw [ha, hb]; rfl
    unfold strict; rw [this]; rfl)
/-- Steps are none, or from 1 on. -/
def okO (O : List Int) : Prop := ∀ n, n < 16 → O.getD (2 * n) 0 = 0 ∨ (1 ≤ O.getD (2 * n) 0 ∧ O.getD (2 * n) 0 ≤ 4026531841)
theorem sm_loop (x0 x1 x2 x3 x4 x5 x6 x7 x8 x9 x10 x11 x12 x13 x14 x15 a b c d e g : Int) (O A lv : List Int) (hO : okO O) (hx : [x0, x1, x2, x3, x4, x5, x6, x7, x8, x9, x10, x11, x12, x13, x14, x15].all (inB 67108864) = true) : WP Try.prog 74 (.loop (loopAt Try.prog 103 0)) ⟨smF [x0, x1, x2, x3, x4, x5, x6, x7, x8, x9, x10, x11, x12, x13, x14, x15] 0, smH [x0, x1, x2, x3, x4, x5, x6, x7, x8, x9, x10, x11, x12, x13, x14, x15] [a, b, c, d, e, g] (List.replicate 16 0) A O lv, 0⟩ (.exit 0) ⟨smE, smH [x0, x1, x2, x3, x4, x5, x6, x7, x8, x9, x10, x11, x12, x13, x14, x15] [a, b, c, d, e, g] (sQ [x0, x1, x2, x3, x4, x5, x6, x7, x8, x9, x10, x11, x12, x13, x14, x15] O 16) A O lv, 0⟩ := by
  refine WP.loop (fun i => ⟨smF [x0, x1, x2, x3, x4, x5, x6, x7, x8, x9, x10, x11, x12, x13, x14, x15] i, smH [x0, x1, x2, x3, x4, x5, x6, x7, x8, x9, x10, x11, x12, x13, x14, x15] [a, b, c, d, e, g] (sQ [x0, x1, x2, x3, x4, x5, x6, x7, x8, x9, x10, x11, x12, x13, x14, x15] O i) A O lv, 0⟩) 16 (by simp) (fun i hi => ?_) ?_
  · obtain ⟨B, hB⟩ : ∃ B, sQ [x0, x1, x2, x3, x4, x5, x6, x7, x8, x9, x10, x11, x12, x13, x14, x15] O i = B := ⟨_, rfl⟩
    have hl := sQ_len [x0, x1, x2, x3, x4, x5, x6, x7, x8, x9, x10, x11, x12, x13, x14, x15] O i
    show WP _ _ _ ⟨_, smH _ _ (sQ _ _ i) _ _ _, _⟩ _ ⟨_, smH _ _ (sQ _ _ (i + 1)) _ _ _, _⟩
    simp only [sQ]
    rw [hB] at hl ⊢
    obtain ⟨q0, q1, q2, q3, q4, q5, q6, q7, q8, q9, q10, q11, q12, q13, q14, q15, rfl⟩ := six_len16 B hl
    by_cases h : O.getD (2 * i) 0 = 0
    · rw [if_pos h]
      exact WP.run progOk extSound (nb_sound _ _ noC_sound) sm_code noLoops_ok _ (of_list (sm_t x0 x1 x2 x3 x4 x5 x6 x7 x8 x9 x10 x11 x12 x13 x14 x15 q0 q1 q2 q3 q4 q5 q6 q7 q8 q9 q10 q11 q12 q13 q14 q15 a b c d e g O A lv) (by omega) (by omega)) (by simp only [Holds, List.mem_singleton, forall_eq]; rw [h]; rfl)
    · rw [if_neg h]
      have h1 := (hO i hi).resolve_left h
      have hxi : inB 67108864 ([x0, x1, x2, x3, x4, x5, x6, x7, x8, x9, x10, x11, x12, x13, x14, x15].getD i 0) = true := all_getD hx hi
      have hxr : -67108864 ≤ [x0, x1, x2, x3, x4, x5, x6, x7, x8, x9, x10, x11, x12, x13, x14, x15].getD i 0 ∧ [x0, x1, x2, x3, x4, x5, x6, x7, x8, x9, x10, x11, x12, x13, x14, x15].getD i 0 ≤ 67108864 := by
        unfold inB at hxi
        rw [show IntKind.wrap IntKind.i64 (0 - 67108864) = -67108864 by decide] at hxi
        simpa using hxi
      refine WP.run progOk extSound (nb_sound _ _ (q_sound _ _ _ _ _ _)) sm_code noLoops_ok _ (of_list (sm_f x0 x1 x2 x3 x4 x5 x6 x7 x8 x9 x10 x11 x12 x13 x14 x15 q0 q1 q2 q3 q4 q5 q6 q7 q8 q9 q10 q11 q12 q13 q14 q15 a b c d e g O A lv) (by omega) (by omega)) ?_
      simp only [Holds, List.mem_cons, List.not_mem_nil, or_false, forall_eq_or_imp, forall_eq]
      refine ⟨?_, tell_ok rfl (div_c (inI_iff.2 (by omega)) (inI_iff.2 (by omega))), beq_eq_false_iff_ne.2 h⟩
      unfold divE
      rw [if_neg (by omega)]
      rfl
  · have hl := sQ_len [x0, x1, x2, x3, x4, x5, x6, x7, x8, x9, x10, x11, x12, x13, x14, x15] O 16
    revert hl
    generalize sQ [x0, x1, x2, x3, x4, x5, x6, x7, x8, x9, x10, x11, x12, x13, x14, x15] O 16 = B
    intro hl
    obtain ⟨q0, q1, q2, q3, q4, q5, q6, q7, q8, q9, q10, q11, q12, q13, q14, q15, rfl⟩ := six_len16 B hl
    exact WP.run progOk extSound noC_sound sm_code noLoops_ok _ (sm_e x0 x1 x2 x3 x4 x5 x6 x7 x8 x9 x10 x11 x12 x13 x14 x15 q0 q1 q2 q3 q4 q5 q6 q7 q8 q9 q10 q11 q12 q13 q14 q15 a b c d e g O A lv) (by simp [Holds])

noncomputable def smN (xs l O A lv B : List Int) : Loops := { loop := sumL 6 ⟨smF xs 0, smH xs l (List.replicate 16 0) A O lv, 0⟩ (.exit 0) ⟨smE, smH xs l B A O lv, 0⟩ }
theorem sm_run (x0 x1 x2 x3 x4 x5 x6 x7 x8 x9 x10 x11 x12 x13 x14 x15 q0 q1 q2 q3 q4 q5 q6 q7 q8 q9 q10 q11 q12 q13 q14 q15 a b c d e g : Int) (O A lv : List Int) : (evFnL Try.prog ext 300 (qP true O A lv 0 0) (qC true O A lv 0 0) (smN [x0, x1, x2, x3, x4, x5, x6, x7, x8, x9, x10, x11, x12, x13, x14, x15] [a, b, c, d, e, g] O A lv [q0, q1, q2, q3, q4, q5, q6, q7, q8, q9, q10, q11, q12, q13, q14, q15]) [(0, true), (0, true)] 103 [.agg (ints [x0, x1, x2, x3, x4, x5, x6, x7, x8, x9, x10, x11, x12, x13, x14, x15]).toArray, .agg (ints [a, b, c, d, e, g]).toArray] []).map (fun r => (r.1.1, r.2)) =
  some (.tuple #[.agg (ints [q0, q1, q2, q3, q4, q5, q6, q7, q8, q9, q10, q11, q12, q13, q14, q15]).toArray, .agg (ints (L6 A)).toArray, .int .i64 0], [(cdec (smF [x0, x1, x2, x3, x4, x5, x6, x7, x8, x9, x10, x11, x12, x13, x14, x15] 0 = smF [x0, x1, x2, x3, x4, x5, x6, x7, x8, x9, x10, x11, x12, x13, x14, x15] 0), true), (cdec (smH [x0, x1, x2, x3, x4, x5, x6, x7, x8, x9, x10, x11, x12, x13, x14, x15] [a, b, c, d, e, g] (List.replicate 16 0) A O lv = smH [x0, x1, x2, x3, x4, x5, x6, x7, x8, x9, x10, x11, x12, x13, x14, x15] [a, b, c, d, e, g] (List.replicate 16 0) A O lv), true), (cdec (0 = 0), true), (qP true O A lv 0 0 76 [.agg (ints [x0, x1, x2, x3, x4, x5, x6, x7, x8, x9, x10, x11, x12, x13, x14, x15]).toArray] [], true), (qP true O A lv 0 0 131 [.agg (ints [a, b, c, d, e, g]).toArray] [], true)]) := by kernel_rfl
theorem sm_bad1 (x0 x1 x2 x3 x4 x5 x6 x7 x8 x9 x10 x11 x12 x13 x14 x15 a b c d e g le : Int) (O A lv : List Int) : (evFnL Try.prog ext 300 (qP true O A lv 1 le) (qC true O A lv 1 le) noLoops [(0, true), (0, true)] 103 [.agg (ints [x0, x1, x2, x3, x4, x5, x6, x7, x8, x9, x10, x11, x12, x13, x14, x15]).toArray, .agg (ints [a, b, c, d, e, g]).toArray] []).map (fun r => (r.1.1, r.2)) =
  some (.tuple #[.agg (ints (List.replicate 16 0)).toArray, .agg (ints (List.replicate 6 0)).toArray, .int .i64 1], [(qP true O A lv 1 le 76 [.agg (ints [x0, x1, x2, x3, x4, x5, x6, x7, x8, x9, x10, x11, x12, x13, x14, x15]).toArray] [], true), (qP true O A lv 1 le 131 [.agg (ints [a, b, c, d, e, g]).toArray] [], true)]) := by kernel_rfl
theorem sm_bad2 (x0 x1 x2 x3 x4 x5 x6 x7 x8 x9 x10 x11 x12 x13 x14 x15 a b c d e g : Int) (O A lv : List Int) : (evFnL Try.prog ext 300 (qP true O A lv 0 1) (qC true O A lv 0 1) noLoops [(0, true), (0, true)] 103 [.agg (ints [x0, x1, x2, x3, x4, x5, x6, x7, x8, x9, x10, x11, x12, x13, x14, x15]).toArray, .agg (ints [a, b, c, d, e, g]).toArray] []).map (fun r => (r.1.1, r.2)) =
  some (.tuple #[.agg (ints (List.replicate 16 0)).toArray, .agg (ints (List.replicate 6 0)).toArray, .int .i64 1], [(qP true O A lv 0 1 76 [.agg (ints [x0, x1, x2, x3, x4, x5, x6, x7, x8, x9, x10, x11, x12, x13, x14, x15]).toArray] [], true), (qP true O A lv 0 1 131 [.agg (ints [a, b, c, d, e, g]).toArray] [], true)]) := by kernel_rfl

/-- The scales of levels. -/
def scO (l : List Int) : List Int := oS l (shl l 120) 6
theorem scO_len (l : List Int) : (scO l).length = 32 := by simp [scO, oS]
theorem scO_get (l : List Int) {n : Nat} (hn : n < 16) : (scO l).getD (2 * n) 0 = stZ (l.getD (bnd n) 0) ((shl l 120).getD (bnd n) 0) ∧ (scO l).getD (2 * n + 1) 0 = moZ ((shl l 120).getD (bnd n) 0) := by
  have e6 : edg 6 = 16 := rfl
  refine ⟨?_, ?_⟩
  · unfold scO oS
    rw [range_get (by omega), if_pos (by rw [e6]; omega), if_pos (by omega), show 2 * n / 2 = n by omega]
  · unfold scO oS
    rw [range_get (by omega), if_pos (by rw [e6]; omega), if_neg (by omega), show (2 * n + 1) / 2 = n by omega]
theorem bnd_lt {n : Nat} (hn : n < 16) : bnd n < 6 := by
  unfold bnd
  repeat' split
  all_goals omega
theorem moZ_in {w : Int} (h0 : 0 ≤ w) (h7 : w ≤ 7) : 0 ≤ moZ w ∧ moZ w ≤ 127 := by
  rcases (show w = 0 ∨ w = 1 ∨ w = 2 ∨ w = 3 ∨ w = 4 ∨ w = 5 ∨ w = 6 ∨ w = 7 by omega) with rfl | rfl | rfl | rfl | rfl | rfl | rfl | rfl <;> decide
theorem stZ_in (l w : Int) : stZ l w = 0 ∨ (1 ≤ stZ l w ∧ stZ l w ≤ 4026531841) := by
  unfold stZ
  by_cases h : stOk l w
  · right
    rw [if_pos h]
    have hp := pkZ_in h.1
    have hw := h.2
    have hm : moZ w = 1 ∨ moZ w = 3 ∨ moZ w = 7 ∨ moZ w = 15 ∨ moZ w = 31 ∨ moZ w = 63 ∨ moZ w = 127 := by
      rcases (show w = 1 ∨ w = 2 ∨ w = 3 ∨ w = 4 ∨ w = 5 ∨ w = 6 ∨ w = 7 by omega) with rfl | rfl | rfl | rfl | rfl | rfl | rfl <;> decide
    rcases hm with h | h | h | h | h | h | h <;> rw [h] <;> omega
  · left; rw [if_neg h]
theorem scO_ok (l : List Int) : okO (scO l) := fun n hn => by rw [(scO_get l hn).1]; exact stZ_in _ _

theorem scales_t (b : Bool) (l : List Int) (hl : l.length = 6) (lv : List Int) (le : Int) : qP b (scO l) (shl l 120) lv (she l 120) le 131 [.agg (ints l).toArray] [] = true := by
  refine tell_ok rfl ?_
  rw [L32_eq (scO_len l), L6_eq (shl_len l 120)]
  exact scales_ok l hl
theorem she_120 (l : List Int) : she l 120 = if okL l = true then 0 else 1 := by
  unfold she
  by_cases h : okL l = true
  · rw [if_pos ⟨h, by omega⟩, if_pos h]
  · rw [if_neg (fun hh => h hh.1), if_neg h]
def mayB (q l : List Int) : Bool := okL l && decide (clipL q (scO l) = q)
theorem mayq_ok (q : List Int) (hq : q.length = 16) (l : List Int) (hl : l.length = 6) : CallOk Try.prog 104 [.agg (ints q).toArray, .agg (ints l).toArray] [] (.bool (mayB q l)) [] 0 := by
  have ht := scales_t true l hl [] 0
  rw [she_120] at ht
  unfold mayB
  by_cases h : okL l = true
  · rw [if_pos h] at ht
    rw [h, Bool.true_and]
    revert ht
    generalize scO l = O
    generalize shl l 120 = A
    obtain ⟨q0, q1, q2, q3, q4, q5, q6, q7, q8, q9, q10, q11, q12, q13, q14, q15, rfl⟩ := six_len16 q hq
    obtain ⟨a, b, c, d, e, g, rfl⟩ := six_ex l hl
    intro ht
    exact pf_ok (q_sound _ _ _ _ _ _) noLoops_ok (may_run q0 q1 q2 q3 q4 q5 q6 q7 q8 q9 q10 q11 q12 q13 q14 q15 a b c d e g O A) (by simp only [Holds, List.mem_singleton, forall_eq]; exact ht) rfl
  · rw [if_neg h] at ht
    rw [show okL l = false by simpa using h, Bool.false_and]
    revert ht
    generalize scO l = O
    generalize shl l 120 = A
    obtain ⟨q0, q1, q2, q3, q4, q5, q6, q7, q8, q9, q10, q11, q12, q13, q14, q15, rfl⟩ := six_len16 q hq
    obtain ⟨a, b, c, d, e, g, rfl⟩ := six_ex l hl
    intro ht
    exact pf_ok (q_sound _ _ _ _ _ _) noLoops_ok (may_bad q0 q1 q2 q3 q4 q5 q6 q7 q8 q9 q10 q11 q12 q13 q14 q15 a b c d e g O A) (by simp only [Holds, List.mem_singleton, forall_eq]; exact ht) rfl
def grl (q l : List Int) : List Int := if mayB q l = true then greatL q (scO l) else (List.replicate 16 0)
def gre (q l : List Int) : Int := if mayB q l = true then 0 else 1
theorem great_ok (q : List Int) (hq : q.length = 16) (l : List Int) (hl : l.length = 6) : CallOk Try.prog 102 [.agg (ints q).toArray, .agg (ints l).toArray] [] (.tuple #[.agg (ints (grl q l)).toArray, .int .i64 (gre q l)]) [] 0 := by
  have hm := mayq_ok q hq l hl
  unfold grl gre
  by_cases h : mayB q l = true
  · have hok : okL l = true := by unfold mayB at h; simp only [Bool.and_eq_true] at h; exact h.1
    have ht := scales_t true l hl [] 0
    rw [she_120, if_pos hok] at ht
    rw [h] at hm
    rw [if_pos h, if_pos h]
    revert ht
    generalize scO l = O
    generalize shl l 120 = A
    obtain ⟨q0, q1, q2, q3, q4, q5, q6, q7, q8, q9, q10, q11, q12, q13, q14, q15, rfl⟩ := six_len16 q hq
    obtain ⟨a, b, c, d, e, g, rfl⟩ := six_ex l hl
    intro ht
    exact pf_ok (q_sound _ _ _ _ _ _) noLoops_ok (gr_run q0 q1 q2 q3 q4 q5 q6 q7 q8 q9 q10 q11 q12 q13 q14 q15 a b c d e g O A) (by simp only [Holds, List.mem_cons, List.not_mem_nil, or_false, forall_eq_or_imp, forall_eq]; exact ⟨ht, tell_ok rfl hm⟩) rfl
  · rw [if_neg h, if_neg h]
    rw [show mayB q l = false by simpa using h] at hm
    obtain ⟨q0, q1, q2, q3, q4, q5, q6, q7, q8, q9, q10, q11, q12, q13, q14, q15, rfl⟩ := six_len16 q hq
    obtain ⟨a, b, c, d, e, g, rfl⟩ := six_ex l hl
    exact pf_ok (q_sound _ _ _ _ _ _) noLoops_ok (gr_bad q0 q1 q2 q3 q4 q5 q6 q7 q8 q9 q10 q11 q12 q13 q14 q15 a b c d e g [] []) (by simp only [Holds, List.mem_singleton, forall_eq]; exact tell_ok rfl hm) rfl
def sml (xs l : List Int) : List Int := if okL l = true ∧ may16 xs = true then smL xs (scO l) else (List.replicate 16 0)
def sma (xs l : List Int) : List Int := if okL l = true ∧ may16 xs = true then shl l 120 else zer6
def sme (xs l : List Int) : Int := if okL l = true ∧ may16 xs = true then 0 else 1
theorem small_ok (xs : List Int) (hx : xs.length = 16) (l : List Int) (hl : l.length = 6) : CallOk Try.prog 103 [.agg (ints xs).toArray, .agg (ints l).toArray] [] (.tuple #[.agg (ints (sml xs l)).toArray, .agg (ints (sma xs l)).toArray, .int .i64 (sme xs l)]) [] 0 := by
  have hms := measure_c 76 (.inl rfl) xs hx
  have ht := fun b => scales_t b l hl (lvl xs) (lve xs)
  rw [she_120] at ht
  have hme : ∀ e, qP true (scO l) (shl l 120) (lvl xs) e (lve xs) 76 [.agg (ints xs).toArray] [] = true := fun e => tell_ok rfl hms
  have hle : lve xs = if may16 xs = true then 0 else 1 := rfl
  unfold sml sma sme
  by_cases h : okL l = true
  · rw [if_pos h] at ht
    by_cases hm : may16 xs = true
    · rw [if_pos ⟨h, hm⟩, if_pos ⟨h, hm⟩, if_pos ⟨h, hm⟩]
      rw [if_pos hm] at hle
      rw [hle] at ht hme
      have hO := scO_ok l
      rw [← sQ_eq, ← L6_eq (shl_len l 120)]
      replace ht := ht true
      replace hme := hme 0
      revert ht hme hO
      generalize scO l = O
      generalize shl l 120 = A
      generalize lvl xs = lv
      intro hO ht hme
      have hq := sQ_len xs O 16
      obtain ⟨x0, x1, x2, x3, x4, x5, x6, x7, x8, x9, x10, x11, x12, x13, x14, x15, rfl⟩ := six_len16 xs hx
      obtain ⟨a, b, c, d, e, g, rfl⟩ := six_ex l hl
      have hlp := sm_loop x0 x1 x2 x3 x4 x5 x6 x7 x8 x9 x10 x11 x12 x13 x14 x15 a b c d e g O A lv hO hm
      revert hlp hq
      generalize sQ [x0, x1, x2, x3, x4, x5, x6, x7, x8, x9, x10, x11, x12, x13, x14, x15] O 16 = B
      intro hq hlp
      obtain ⟨q0, q1, q2, q3, q4, q5, q6, q7, q8, q9, q10, q11, q12, q13, q14, q15, rfl⟩ := six_len16 B hq
      refine pf_ok (q_sound _ _ _ _ _ _) ?_ (sm_run x0 x1 x2 x3 x4 x5 x6 x7 x8 x9 x10 x11 x12 x13 x14 x15 q0 q1 q2 q3 q4 q5 q6 q7 q8 q9 q10 q11 q12 q13 q14 q15 a b c d e g O A lv) (by simp only [Holds, List.mem_cons, List.not_mem_nil, or_false, forall_eq_or_imp, forall_eq]; exact ⟨cdec_iff.2 trivial, cdec_iff.2 trivial, cdec_iff.2 trivial, hme, ht⟩) rfl
      refine LoopsOk.sum rfl fun b hb _ => ?_
      rw [show loopsOf (bodyOf Try.prog 103) = [loopAt Try.prog 103 0] by kernel_rfl] at hb
      simp only [List.mem_singleton] at hb
      subst hb
      exact hlp
    · rw [if_neg (fun hh => hm hh.2), if_neg (fun hh => hm hh.2), if_neg (fun hh => hm hh.2)]
      rw [if_neg hm] at hle
      rw [hle] at ht hme
      replace ht := ht true
      replace hme := hme 0
      revert ht hme
      generalize scO l = O
      generalize shl l 120 = A
      generalize lvl xs = lv
      intro ht hme
      obtain ⟨x0, x1, x2, x3, x4, x5, x6, x7, x8, x9, x10, x11, x12, x13, x14, x15, rfl⟩ := six_len16 xs hx
      obtain ⟨a, b, c, d, e, g, rfl⟩ := six_ex l hl
      exact pf_ok (q_sound _ _ _ _ _ _) noLoops_ok (sm_bad2 x0 x1 x2 x3 x4 x5 x6 x7 x8 x9 x10 x11 x12 x13 x14 x15 a b c d e g O A lv) (by simp only [Holds, List.mem_cons, List.not_mem_nil, or_false, forall_eq_or_imp, forall_eq]; exact ⟨hme, ht⟩) rfl
  · rw [if_neg h] at ht
    rw [if_neg (fun hh => h hh.1), if_neg (fun hh => h hh.1), if_neg (fun hh => h hh.1)]
    replace ht := ht true
    replace hme := hme 1
    revert ht hme
    generalize scO l = O
    generalize shl l 120 = A
    generalize lvl xs = lv
    generalize lve xs = le
    intro ht hme
    obtain ⟨x0, x1, x2, x3, x4, x5, x6, x7, x8, x9, x10, x11, x12, x13, x14, x15, rfl⟩ := six_len16 xs hx
    obtain ⟨a, b, c, d, e, g, rfl⟩ := six_ex l hl
    exact pf_ok (q_sound _ _ _ _ _ _) noLoops_ok (sm_bad1 x0 x1 x2 x3 x4 x5 x6 x7 x8 x9 x10 x11 x12 x13 x14 x15 a b c d e g le O A lv) (by simp only [Holds, List.mem_cons, List.not_mem_nil, or_false, forall_eq_or_imp, forall_eq]; exact ⟨hme, ht⟩) rfl
end Go.Proofs.Ytfbjpenbpbpcaaa

