/-
  Chapter 09: the law QuantAgain as a call.
-/
import Derived.Test.YtfbjpenbpbpcaaaQr2
import Derived.Test.YtfbjpenbpbpcaaaQn8
namespace Go.Proofs.Ytfbjpenbpbpcaaa
open Go Den
set_option maxRecDepth 100000
set_option linter.unusedSimpArgs false
set_option linter.unusedVariables false

/-! ### Loud -/
def louC (l : List Int) : Int := mxG (mxG (mxG (mxG (mxG (mxG 0 (l.getD 0 0)) (l.getD 1 0)) (l.getD 2 0)) (l.getD 3 0)) (l.getD 4 0)) (l.getD 5 0)
theorem lou_run (a b c d e g : Int) : (evFnL Try.prog ext 300 (nmPre noPre) (nbC [] [(8, false)] o9) noLoops [] 100 [.agg (ints [a, b, c, d, e, g]).toArray] []).map (fun r => (r.1.1, r.2)) =
  some (.int .i64 (louC [a, b, c, d, e, g]), [(chk8 [a, b, c, d, e, g] != 0, false)]) := by kernel_rfl
theorem loud_ok (l : List Int) (hl : l.length = 6) (h : okL l = true) : CallOk Try.prog 100 [.agg (ints l).toArray] [] (.int .i64 (louC l)) [] 0 := by
  have hc : chk8 l = 0 := by unfold chk8; rw [if_pos h]
  obtain ⟨a, b, c, d, e, g, rfl⟩ := six_ex l hl
  exact pf_ok (nb_sound _ _ o9_sound) noLoops_ok (lou_run a b c d e g) (by simp only [Holds, List.mem_singleton, forall_eq]; rw [hc]; rfl) rfl
theorem louC_le {l : List Int} {k : Int} (h : louC l ≤ k) : ∀ i, i < 6 → l.getD i 0 ≤ k := by
  intro i hi
  unfold louC at h
  simp only [mxG_eq] at h
  rcases (show i = 0 ∨ i = 1 ∨ i = 2 ∨ i = 3 ∨ i = 4 ∨ i = 5 by omega) with rfl | rfl | rfl | rfl | rfl | rfl <;> omega

/-! ### The walk -/
def qaT (lou : Int) (b : Bool) (yf : List Int → List Int) (q A : List Int) : FuncId → List Value → Option Value := fun f args => match f, args with
  | 100, [_] => some (.int .i64 lou)
  | 101, [_, _] => some (.bool b)
  | 102, [.agg cs, _] => (aggF 16 (fun q => .tuple #[.agg (ints (L16 (yf q))).toArray, .int .i64 0]) cs).map (·.1)
  | 103, [_, _] => some (.tuple #[.agg (ints q).toArray, .agg (ints A).toArray, .int .i64 0])
  | _, _ => none
noncomputable abbrev qaC (lou : Int) (b : Bool) (yf : List Int → List Int) (q A : List Int) : Oracle := tellC (qaT lou b yf q A) o9
noncomputable abbrev qaP (lou : Int) (b : Bool) (yf : List Int → List Int) (q A : List Int) : Pre := tellPre (qaT lou b yf q A) noPre
theorem qa_sound (lou : Int) (b : Bool) (yf : List Int → List Int) (q A : List Int) : Sound Try.prog (strict (qaP lou b yf q A) (qaC lou b yf q A)) := tell_sound _ o9_sound
theorem qa_bad1 (q0 q1 q2 q3 q4 q5 q6 q7 q8 q9 q10 q11 q12 q13 q14 q15 a b c d e g : Int) : (evFnL Try.prog ext 300 (nmPre noPre) (nbC [] [(21, true)] o9) noLoops [] 27 [.agg (ints [q0, q1, q2, q3, q4, q5, q6, q7, q8, q9, q10, q11, q12, q13, q14, q15]).toArray, .agg (ints [a, b, c, d, e, g]).toArray] []).map (fun r => (r.1.1, r.2)) =
  some (.bool true, [(chk8 [a, b, c, d, e, g] != 0, true)]) := by kernel_rfl
theorem qa_bad2 (q0 q1 q2 q3 q4 q5 q6 q7 q8 q9 q10 q11 q12 q13 q14 q15 a b c d e g lou : Int) (yf : List Int → List Int) : (evFnL Try.prog ext 300 (nmPre (qaP lou true yf [] [])) (nbC [] [(21, false), (25, true)] (qaC lou true yf [] [])) noLoops [(5, true)] 27 [.agg (ints [q0, q1, q2, q3, q4, q5, q6, q7, q8, q9, q10, q11, q12, q13, q14, q15]).toArray, .agg (ints [a, b, c, d, e, g]).toArray] []).map (fun r => (r.1.1, r.2)) =
  some (.bool true, [(decide (lou > 200), true), (qaP lou true yf [] [] 100 [.agg (ints [a, b, c, d, e, g]).toArray] [], true), (chk8 [a, b, c, d, e, g] != 0, false)]) := by kernel_rfl
theorem qa_bad3 (q0 q1 q2 q3 q4 q5 q6 q7 q8 q9 q10 q11 q12 q13 q14 q15 a b c d e g lou : Int) (yf : List Int → List Int) : (evFnL Try.prog ext 300 (nmPre (qaP lou false yf [] [])) (nbC [] [(21, false), (25, false)] (qaC lou false yf [] [])) noLoops [(5, true), (4, true)] 27 [.agg (ints [q0, q1, q2, q3, q4, q5, q6, q7, q8, q9, q10, q11, q12, q13, q14, q15]).toArray, .agg (ints [a, b, c, d, e, g]).toArray] []).map (fun r => (r.1.1, r.2)) =
  some (.bool true, [(qaP lou false yf [] [] 101 [.agg (ints [q0, q1, q2, q3, q4, q5, q6, q7, q8, q9, q10, q11, q12, q13, q14, q15]).toArray, .agg (ints [a, b, c, d, e, g]).toArray] [], true), (decide (lou > 200), false), (qaP lou false yf [] [] 100 [.agg (ints [a, b, c, d, e, g]).toArray] [], true), (chk8 [a, b, c, d, e, g] != 0, false)]) := by kernel_rfl
theorem qa_run (q0 q1 q2 q3 q4 q5 q6 q7 q8 q9 q10 q11 q12 q13 q14 q15 a b c d e g a0 a1 a2 a3 a4 a5 lou : Int) (yf : List Int → List Int) : (evFnL Try.prog ext 300 (nmPre (qaP lou true yf [q0, q1, q2, q3, q4, q5, q6, q7, q8, q9, q10, q11, q12, q13, q14, q15] [a0, a1, a2, a3, a4, a5])) (nbC [] [(21, false), (25, false), (77, false), (89, false)] (qaC lou true yf [q0, q1, q2, q3, q4, q5, q6, q7, q8, q9, q10, q11, q12, q13, q14, q15] [a0, a1, a2, a3, a4, a5])) noLoops [(5, true), (4, true), (2, true), (0, true), (17, true)] 27 [.agg (ints [q0, q1, q2, q3, q4, q5, q6, q7, q8, q9, q10, q11, q12, q13, q14, q15]).toArray, .agg (ints [a, b, c, d, e, g]).toArray] []).map (fun r => (r.1.1, r.2)) =
  some (.bool true, ((List.range 16).reverse.map fun n => ((L16 (yf [W (0 - q0), W (0 - q1), W (0 - q2), W (0 - q3), W (0 - q4), W (0 - q5), W (0 - q6), W (0 - q7), W (0 - q8), W (0 - q9), W (0 - q10), W (0 - q11), W (0 - q12), W (0 - q13), W (0 - q14), W (0 - q15)])).getD n 0 != W (0 - (L16 (yf [q0, q1, q2, q3, q4, q5, q6, q7, q8, q9, q10, q11, q12, q13, q14, q15])).getD n 0), false)) ++
    [(!decide ([q0, q1, q2, q3, q4, q5, q6, q7, q8, q9, q10, q11, q12, q13, q14, q15] = [q0, q1, q2, q3, q4, q5, q6, q7, q8, q9, q10, q11, q12, q13, q14, q15]), false), (qaP lou true yf [q0, q1, q2, q3, q4, q5, q6, q7, q8, q9, q10, q11, q12, q13, q14, q15] [a0, a1, a2, a3, a4, a5] 102 [.agg (ints [W (0 - q0), W (0 - q1), W (0 - q2), W (0 - q3), W (0 - q4), W (0 - q5), W (0 - q6), W (0 - q7), W (0 - q8), W (0 - q9), W (0 - q10), W (0 - q11), W (0 - q12), W (0 - q13), W (0 - q14), W (0 - q15)]).toArray, .agg (ints [a, b, c, d, e, g]).toArray] [], true), (qaP lou true yf [q0, q1, q2, q3, q4, q5, q6, q7, q8, q9, q10, q11, q12, q13, q14, q15] [a0, a1, a2, a3, a4, a5] 103 [.agg (ints (L16 (yf [q0, q1, q2, q3, q4, q5, q6, q7, q8, q9, q10, q11, q12, q13, q14, q15]))).toArray, .agg (ints [a, b, c, d, e, g]).toArray] [], true), (qaP lou true yf [q0, q1, q2, q3, q4, q5, q6, q7, q8, q9, q10, q11, q12, q13, q14, q15] [a0, a1, a2, a3, a4, a5] 102 [.agg (ints [q0, q1, q2, q3, q4, q5, q6, q7, q8, q9, q10, q11, q12, q13, q14, q15]).toArray, .agg (ints [a, b, c, d, e, g]).toArray] [], true),
    (qaP lou true yf [q0, q1, q2, q3, q4, q5, q6, q7, q8, q9, q10, q11, q12, q13, q14, q15] [a0, a1, a2, a3, a4, a5] 101 [.agg (ints [q0, q1, q2, q3, q4, q5, q6, q7, q8, q9, q10, q11, q12, q13, q14, q15]).toArray, .agg (ints [a, b, c, d, e, g]).toArray] [], true), (decide (lou > 200), false), (qaP lou true yf [q0, q1, q2, q3, q4, q5, q6, q7, q8, q9, q10, q11, q12, q13, q14, q15] [a0, a1, a2, a3, a4, a5] 100 [.agg (ints [a, b, c, d, e, g]).toArray] [], true), (chk8 [a, b, c, d, e, g] != 0, false)]) := by kernel_rfl

/-! ### The plain law -/
theorem pk_200 : ((List.range 201).all fun n => decide (pkN n ≤ 33554433)) = true := by kernel_rfl
theorem again_one {q s m : Int} (hq : -m ≤ q ∧ q ≤ m) (hs : 1 ≤ s) (hms : m * s ≤ 67108864) (hm : 1 ≤ m ∧ m ≤ 127) :
    mxG (-67108864) (mnG (W (q * s)) 67108864) = q * s ∧ mxG (W (0 - m)) (mnG (divQ (q * s) s) m) = q ∧ mxG (-67108864) (mnG (W (W (0 - q) * s)) 67108864) = W (0 - q * s) ∧ -67108864 ≤ q * s ∧ q * s ≤ 67108864 := by
  have h1 : q * s ≤ m * s := Int.mul_le_mul_of_nonneg_right hq.2 (by omega)
  have h2 : -m * s ≤ q * s := Int.mul_le_mul_of_nonneg_right hq.1 (by omega)
  rw [Int.neg_mul] at h2
  have hd : divQ (q * s) s = q := by
    unfold divQ
    rw [if_neg (by omega), Int.mul_tmod_left, if_pos (by omega), if_neg (by omega), Int.mul_tdiv_cancel _ (by omega)]
  have hn : W (0 - q) * s = -(q * s) := by
    rw [W_in (by omega) (by omega), Int.zero_sub, Int.neg_mul]
  rw [hd, hn]
  generalize q * s = E at *
  generalize m * s = K at *
  rw [W_in (n := E) (by omega) (by omega), W_in (n := 0 - m) (by omega) (by omega), W_in (n := -E) (by omega) (by omega), W_in (n := 0 - E) (by omega) (by omega), mxG_eq, mxG_eq, mxG_eq, mnG_eq, mnG_eq, mnG_eq]
  omega
theorem again_plain {q l : List Int} (hq : q.length = 16) (hl : l.length = 6) (h200 : ∀ i, i < 6 → l.getD i 0 ≤ 200) (hm : mayB q l = true) :
    (greatL q (scO l)).all (inB 67108864) = true ∧ smL (greatL q (scO l)) (scO l) = q ∧ mayB (q.map fun v => W (0 - v)) l = true ∧ ∀ n, n < 16 → (greatL (q.map fun v => W (0 - v)) (scO l)).getD n 0 = W (0 - (greatL q (scO l)).getD n 0) := by
  have hok : okL l = true := by unfold mayB at hm; simp only [Bool.and_eq_true] at hm; exact hm.1
  have hcl : clipL q (scO l) = q := by unfold mayB at hm; simp only [Bool.and_eq_true, decide_eq_true_eq] at hm; exact hm.2
  have ha := (shl_ok (b := 120) hl (by omega)).2
  have hmap : ∀ n, n < 16 → (q.map fun v => W (0 - v)).getD n 0 = W (0 - q.getD n 0) := fun n hn => by
    rw [List.getD_eq_getElem?_getD, List.getElem?_map, List.getD_eq_getElem?_getD, List.getElem?_eq_getElem (by omega)]
    rfl
  have key : ∀ n, n < 16 → (greatL q (scO l)).getD n 0 = q.getD n 0 * (scO l).getD (2 * n) 0 ∧ (if (scO l).getD (2 * n) 0 = 0 then 0 else clD (greatL q (scO l)) (scO l) n) = q.getD n 0 ∧
      (-(scO l).getD (2 * n + 1) 0 ≤ q.getD n 0 ∧ q.getD n 0 ≤ (scO l).getD (2 * n + 1) 0 ∧ 0 ≤ (scO l).getD (2 * n + 1) 0 ∧ (scO l).getD (2 * n + 1) 0 ≤ 127) ∧ (greatL (q.map fun v => W (0 - v)) (scO l)).getD n 0 = W (0 - (greatL q (scO l)).getD n 0) ∧ -67108864 ≤ (greatL q (scO l)).getD n 0 ∧ (greatL q (scO l)).getD n 0 ≤ 67108864 := by
    intro n hn
    have hb := bnd_lt hn
    have hlb := okL_get hl hok _ hb
    have hl2 := h200 _ hb
    have hab := ha _ hb
    have h3 : (clipL q (scO l)).getD n 0 = q.getD n 0 := by rw [hcl]
    unfold clipL at h3
    rw [range_get hn] at h3
    have hg : (greatL q (scO l)).getD n 0 = mxG (-67108864) (mnG (W (q.getD n 0 * (scO l).getD (2 * n) 0)) 67108864) := by unfold greatL; rw [range_get hn]
    have hg2 : (greatL (q.map fun v => W (0 - v)) (scO l)).getD n 0 = mxG (-67108864) (mnG (W (W (0 - q.getD n 0) * (scO l).getD (2 * n) 0)) 67108864) := by unfold greatL; rw [range_get hn, hmap n hn]
    unfold clD
    rw [hg2, hg]
    obtain ⟨e1, e2⟩ := scO_get l hn
    rw [e1, e2]
    rw [e2] at h3
    have hmi := moZ_in hab.1 hab.2
    have hpz : pkZ (l.getD (bnd n) 0) ≤ 33554433 := by
      have := List.all_eq_true.1 pk_200 (l.getD (bnd n) 0).toNat (List.mem_range.2 (by omega))
      simp only [decide_eq_true_eq] at this
      unfold pkZ; rw [if_pos hlb]; exact this
    have hpi := pkZ_in hlb
    generalize q.getD n 0 = Q at *
    generalize (shl l 120).getD (bnd n) 0 = A at *
    generalize l.getD (bnd n) 0 = L at *
    by_cases hA : A = 0
    · subst hA
      rw [moZ_0] at h3 ⊢
      rw [stZ_0]
      have hQ : Q = 0 := by
        rw [W_in (by omega) (by omega), mxG_eq, mnG_eq] at h3; omega
      subst hQ
      refine ⟨by decide, by simp, by omega, by decide, by decide, by decide⟩
    · have hw : 1 ≤ A ∧ A ≤ 7 := by omega
      have hst : stZ L A = (pkZ L - 1) / moZ A + 1 := by unfold stZ; rw [if_pos ⟨hlb, hw⟩]
      have hmo := mo_cases hw
      have hms : moZ A * stZ L A ≤ 67108864 ∧ 1 ≤ stZ L A ∧ 1 ≤ moZ A := by
        rw [hst]
        generalize pkZ L = p at *
        rcases hmo with h | h | h | h | h | h | h <;> rw [h] <;> omega
      generalize stZ L A = s at *
      generalize moZ A = m at *
      have hQ : -m ≤ Q ∧ Q ≤ m := by
        rw [W_in (by omega) (by omega), mxG_eq, mnG_eq] at h3; omega
      obtain ⟨n1, n2, n3, n4, n5⟩ := again_one hQ hms.2.1 hms.1 ⟨hms.2.2, hmi.2⟩
      rw [n1, n3, n2, if_neg (by omega)]
      exact ⟨rfl, rfl, ⟨hQ.1, hQ.2, hmi.1, hmi.2⟩, rfl, n4, n5⟩
  have hgl : (greatL q (scO l)).length = 16 := by simp [greatL]
  refine ⟨List.all_eq_true.2 fun v hv => ?_, getD_ext (by simp [smL, hq]) fun i hi => ?_, ?_, fun n hn => (key n hn).2.2.2.1⟩
  · obtain ⟨i, hi, rfl⟩ := List.mem_iff_getElem.1 hv
    have := (key i (by omega)).2.2.2.2
    simp only [List.getD_eq_getElem?_getD, List.getElem?_eq_getElem hi, Option.getD_some] at this
    exact inB_iff.2 this
  · have hi' : i < 16 := by simpa [smL] using hi
    unfold smL
    rw [range_get hi']
    exact (key i hi').2.1
  · unfold mayB
    rw [hok, Bool.true_and]
    refine decide_eq_true (getD_ext (by simp [clipL, hq]) fun i hi => ?_)
    have hi' : i < 16 := by simpa [clipL] using hi
    unfold clipL
    rw [range_get hi', hmap i hi']
    obtain ⟨_, _, h1, _⟩ := key i hi'
    generalize (scO l).getD (2 * i + 1) 0 = m at *
    rw [W_in (n := 0 - m) (by omega) (by omega), W_in (by omega) (by omega), mxG_eq, mnG_eq]; omega

theorem again_call (q : List Int) (hq : q.length = 16) (l : List Int) (hl : l.length = 6) : CallOk Try.prog 27 [.agg (ints q).toArray, .agg (ints l).toArray] [] (.bool true) [] 0 := by
  by_cases h : okL l = true
  · have hc : chk8 l = 0 := by unfold chk8; rw [if_pos h]
    have c0 := loud_ok l hl h
    by_cases h2 : louC l > 200
    · obtain ⟨q0, q1, q2, q3, q4, q5, q6, q7, q8, q9, q10, q11, q12, q13, q14, q15, rfl⟩ := six_len16 q hq
      obtain ⟨a, b, c, d, e, g, rfl⟩ := six_ex l hl
      exact pf_ok (nb_sound _ _ (qa_sound _ _ _ _ _)) noLoops_ok (qa_bad2 q0 q1 q2 q3 q4 q5 q6 q7 q8 q9 q10 q11 q12 q13 q14 q15 a b c d e g (louC [a, b, c, d, e, g]) id) (by
        simp only [Holds, List.mem_cons, List.not_mem_nil, or_false, forall_eq_or_imp, forall_eq]
        exact ⟨decide_eq_true h2, tell_ok rfl c0, by rw [hc]; rfl⟩) rfl
    · have c1 := rmay_ok q hq l hl
      cases hm : mayB q l with
      | false =>
        rw [hm] at c1
        obtain ⟨q0, q1, q2, q3, q4, q5, q6, q7, q8, q9, q10, q11, q12, q13, q14, q15, rfl⟩ := six_len16 q hq
        obtain ⟨a, b, c, d, e, g, rfl⟩ := six_ex l hl
        exact pf_ok (nb_sound _ _ (qa_sound _ _ _ _ _)) noLoops_ok (qa_bad3 q0 q1 q2 q3 q4 q5 q6 q7 q8 q9 q10 q11 q12 q13 q14 q15 a b c d e g (louC [a, b, c, d, e, g]) id) (by
          simp only [Holds, List.mem_cons, List.not_mem_nil, or_false, forall_eq_or_imp, forall_eq]
          exact ⟨tell_ok rfl c1, decide_eq_false h2, tell_ok rfl c0, by rw [hc]; rfl⟩) rfl
      | true =>
        rw [hm] at c1
        obtain ⟨p1, p2, p3, p4⟩ := again_plain hq hl (louC_le (by omega)) hm
        have hgl : ∀ q, (greatL q (scO l)).length = 16 := fun q => by simp [greatL]
        have c2 := great_ok q hq l hl
        unfold grl gre at c2
        rw [if_pos hm, if_pos hm, ← L16_eq (hgl q)] at c2
        have c3 := small_ok (greatL q (scO l)) (hgl q) l hl
        unfold sml sma sme at c3
        rw [if_pos ⟨h, p1⟩, if_pos ⟨h, p1⟩, if_pos ⟨h, p1⟩, p2] at c3
        have c4 := great_ok (q.map fun v => W (0 - v)) (by simpa using hq) l hl
        unfold grl gre at c4
        rw [if_pos p3, if_pos p3, ← L16_eq (hgl _)] at c4
        rw [← L16_eq (hgl q)] at c3
        have hAl := shl_len l 120
        have p5 : ∀ n, n < 16 → (L16 (greatL (q.map fun v => W (0 - v)) (scO l))).getD n 0 = W (0 - (L16 (greatL q (scO l))).getD n 0) := fun n hn => by rw [L16_eq (hgl _), L16_eq (hgl _)]; exact p4 n hn
        clear p1 p2 p3 p4 hgl
        obtain ⟨yf, hyf⟩ : ∃ yf : List Int → List Int, (fun q => greatL q (scO l)) = yf := ⟨_, rfl⟩
        have hyf' : ∀ q, greatL q (scO l) = yf q := fun q => by rw [← hyf]
        rw [hyf'] at c2 c3 c4
        simp only [hyf'] at p5
        generalize shl l 120 = A at *
        obtain ⟨q0, q1, q2, q3, q4, q5, q6, q7, q8, q9, q10, q11, q12, q13, q14, q15, rfl⟩ := six_len16 q hq
        obtain ⟨a, b, c, d, e, g, rfl⟩ := six_ex l hl
        obtain ⟨a0, a1, a2, a3, a4, a5, rfl⟩ := six_ex A hAl
        simp only [List.map_cons, List.map_nil] at c4 p5
        refine pf_ok (nb_sound _ _ (qa_sound _ _ _ _ _)) noLoops_ok (qa_run q0 q1 q2 q3 q4 q5 q6 q7 q8 q9 q10 q11 q12 q13 q14 q15 a b c d e g a0 a1 a2 a3 a4 a5 (louC [a, b, c, d, e, g]) yf) ?_ rfl
        intro p hp
        rcases List.mem_append.1 hp with hp | hp
        · obtain ⟨n, hn, rfl⟩ := List.mem_map.1 hp
          have hn' : n < 16 := by simpa using hn
          simp only
          rw [p5 n hn']
          simp
        · revert p
          suffices hh : Holds [(!decide ([q0, q1, q2, q3, q4, q5, q6, q7, q8, q9, q10, q11, q12, q13, q14, q15] = [q0, q1, q2, q3, q4, q5, q6, q7, q8, q9, q10, q11, q12, q13, q14, q15]), false), (qaP (louC [a, b, c, d, e, g]) true yf [q0, q1, q2, q3, q4, q5, q6, q7, q8, q9, q10, q11, q12, q13, q14, q15] [a0, a1, a2, a3, a4, a5] 102 [.agg (ints [W (0 - q0), W (0 - q1), W (0 - q2), W (0 - q3), W (0 - q4), W (0 - q5), W (0 - q6), W (0 - q7), W (0 - q8), W (0 - q9), W (0 - q10), W (0 - q11), W (0 - q12), W (0 - q13), W (0 - q14), W (0 - q15)]).toArray, .agg (ints [a, b, c, d, e, g]).toArray] [], true), (qaP (louC [a, b, c, d, e, g]) true yf [q0, q1, q2, q3, q4, q5, q6, q7, q8, q9, q10, q11, q12, q13, q14, q15] [a0, a1, a2, a3, a4, a5] 103 [.agg (ints (L16 (yf [q0, q1, q2, q3, q4, q5, q6, q7, q8, q9, q10, q11, q12, q13, q14, q15]))).toArray, .agg (ints [a, b, c, d, e, g]).toArray] [], true), (qaP (louC [a, b, c, d, e, g]) true yf [q0, q1, q2, q3, q4, q5, q6, q7, q8, q9, q10, q11, q12, q13, q14, q15] [a0, a1, a2, a3, a4, a5] 102 [.agg (ints [q0, q1, q2, q3, q4, q5, q6, q7, q8, q9, q10, q11, q12, q13, q14, q15]).toArray, .agg (ints [a, b, c, d, e, g]).toArray] [], true),
            (qaP (louC [a, b, c, d, e, g]) true yf [q0, q1, q2, q3, q4, q5, q6, q7, q8, q9, q10, q11, q12, q13, q14, q15] [a0, a1, a2, a3, a4, a5] 101 [.agg (ints [q0, q1, q2, q3, q4, q5, q6, q7, q8, q9, q10, q11, q12, q13, q14, q15]).toArray, .agg (ints [a, b, c, d, e, g]).toArray] [], true), (decide (louC [a, b, c, d, e, g] > 200), false), (qaP (louC [a, b, c, d, e, g]) true yf [q0, q1, q2, q3, q4, q5, q6, q7, q8, q9, q10, q11, q12, q13, q14, q15] [a0, a1, a2, a3, a4, a5] 100 [.agg (ints [a, b, c, d, e, g]).toArray] [], true), (chk8 [a, b, c, d, e, g] != 0, false)] from fun p _ hp => hh p hp
          simp only [Holds, List.mem_cons, List.not_mem_nil, or_false, forall_eq_or_imp, forall_eq]
          exact ⟨by simp, tell_ok rfl c4, tell_ok rfl c3, tell_ok rfl c2, tell_ok rfl c1, decide_eq_false h2, tell_ok rfl c0, by rw [hc]; rfl⟩
  · have hc : chk8 l = 1 := by unfold chk8; rw [if_neg h]
    obtain ⟨q0, q1, q2, q3, q4, q5, q6, q7, q8, q9, q10, q11, q12, q13, q14, q15, rfl⟩ := six_len16 q hq
    obtain ⟨a, b, c, d, e, g, rfl⟩ := six_ex l hl
    exact pf_ok (nb_sound _ _ o9_sound) noLoops_ok (qa_bad1 q0 q1 q2 q3 q4 q5 q6 q7 q8 q9 q10 q11 q12 q13 q14 q15 a b c d e g) (by simp only [Holds, List.mem_singleton, forall_eq]; rw [hc]; rfl) rfl
end Go.Proofs.Ytfbjpenbpbpcaaa

