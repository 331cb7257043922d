/-
  Chapter 08: the law BandsMasks as a call.
-/
import Derived.Test.YtfbjpenbpbpcaaaBn10
namespace Go.Proofs.Ytfbjpenbpbpcaaa
open Go Den
set_option maxRecDepth 100000
set_option linter.unusedSimpArgs false
set_option linter.unusedVariables false

theorem mx_mono {a b c d : Int} (h1 : a ≤ c) (h2 : b ≤ d) : max a b ≤ max c d := by omega
theorem maskC_mono {a b c d e g a' b' c' d' e' g' : Int} (ha : a ≤ a') (hb : b ≤ b') (hc : c ≤ c') (hd : d ≤ d') (he : e ≤ e') (hg : g ≤ g') :
    ∀ i, i < 6 → (maskC [a, b, c, d, e, g]).getD i 0 ≤ (maskC [a', b', c', d', e', g']).getD i 0 := by
  intro i hi
  match i, hi with
  | 0, _ | 1, _ | 2, _ | 3, _ | 4, _ | 5, _ =>
    simp only [maskC, List.getD_cons_zero, List.getD_cons_succ]
    refine mx_mono (mx_mono (mx_mono (mx_mono (mx_mono ?_ ?_) ?_) ?_) ?_) ?_ <;> omega
theorem bm_bad (a b c d e g x mo : Int) (y : Int) : (evFnL Try.prog ext 300 (nmPre noPre) (nbC [(23, y)] [(26, true)] o8) noLoops [] 21 [.agg (ints [a, b, c, d, e, g]).toArray, .int .i64 x, .int .i64 mo] []).map (fun r => (r.1.1, r.2)) =
  some (.bool true, [(chk8 [a, b, c, d, e, g] != 0, true), (decide ((W (x.tmod 6 + 6)).tmod 6 = y), true)]) := by kernel_rfl
theorem ne_false {a b : Int} (h : a = b) : (a != b) = false := by subst h; simp
theorem bm_run0 (a b c d e g x mo R : Int) : (evFnL Try.prog ext 300 (nmPre noPre) (nbC [(23, 0), (41, R)] (allF [26, 61, 64, 68, 77, 83, 94, 102, 126]) o8) noLoops [] 21 [.agg (ints [a, b, c, d, e, g]).toArray, .int .i64 x, .int .i64 mo] []).map (fun r => (r.1.1, r.2)) =
  some (.bool true, [((mkl [a, 0, 0, 0, 0, 0]).getD 5 0 != mxG 0 (W (W (a - 60) - 8)), false), (decide ((mkl [a, 0, 0, 0, 0, 0]).getD 5 0 > (mkl [a, b, c, d, e, g]).getD 5 0), false), (decide ((mkl [mnG 255 (W (a + R)), b, c, d, e, g]).getD 5 0 < (mkl [a, b, c, d, e, g]).getD 5 0), false), ((mkl [a, 0, 0, 0, 0, 0]).getD 4 0 != mxG 0 (W (W (a - 48) - 8)), false), (decide ((mkl [a, 0, 0, 0, 0, 0]).getD 4 0 > (mkl [a, b, c, d, e, g]).getD 4 0), false), (decide ((mkl [mnG 255 (W (a + R)), b, c, d, e, g]).getD 4 0 < (mkl [a, b, c, d, e, g]).getD 4 0), false), ((mkl [a, 0, 0, 0, 0, 0]).getD 3 0 != mxG 0 (W (W (a - 36) - 8)), false), (decide ((mkl [a, 0, 0, 0, 0, 0]).getD 3 0 > (mkl [a, b, c, d, e, g]).getD 3 0), false), (decide ((mkl [mnG 255 (W (a + R)), b, c, d, e, g]).getD 3 0 < (mkl [a, b, c, d, e, g]).getD 3 0), false), ((mkl [a, 0, 0, 0, 0, 0]).getD 2 0 != mxG 0 (W (W (a - 24) - 8)), false), (decide ((mkl [a, 0, 0, 0, 0, 0]).getD 2 0 > (mkl [a, b, c, d, e, g]).getD 2 0), false), (decide ((mkl [mnG 255 (W (a + R)), b, c, d, e, g]).getD 2 0 < (mkl [a, b, c, d, e, g]).getD 2 0), false), ((mkl [a, 0, 0, 0, 0, 0]).getD 1 0 != mxG 0 (W (W (a - 12) - 8)), false), (decide ((mkl [a, 0, 0, 0, 0, 0]).getD 1 0 > (mkl [a, b, c, d, e, g]).getD 1 0), false), (decide ((mkl [mnG 255 (W (a + R)), b, c, d, e, g]).getD 1 0 < (mkl [a, b, c, d, e, g]).getD 1 0), false), (decide ((mkl [a, 0, 0, 0, 0, 0]).getD 0 0 > (mkl [a, b, c, d, e, g]).getD 0 0), false), (decide ((mkl [mnG 255 (W (a + R)), b, c, d, e, g]).getD 0 0 < (mkl [a, b, c, d, e, g]).getD 0 0), false), ((mkl [a, 0, 0, 0, 0, 0]).getD 0 0 != 0, false), ((mkl [mnG 255 (W (a + R)), b, c, d, e, g]).getD 0 0 != (mkl [a, b, c, d, e, g]).getD 0 0, false), (mke [a, 0, 0, 0, 0, 0] != 0, false), (mke [mnG 255 (W (a + R)), b, c, d, e, g] != 0, false), (mke [a, b, c, d, e, g] != 0, false), (decide ((W (mo.tmod 100 + 100)).tmod 100 = R), true), (chk8 [a, b, c, d, e, g] != 0, false), (decide ((W (x.tmod 6 + 6)).tmod 6 = 0), true)]) := by kernel_rfl
theorem bm_case0 (a b c d e g x mo : Int) (h : okL [a, b, c, d, e, g] = true) (hk0 : (W (x.tmod 6 + 6)).tmod 6 = 0) : CallOk Try.prog 21 [.agg (ints [a, b, c, d, e, g]).toArray, .int .i64 x, .int .i64 mo] [] (.bool true) [] 0 := by
  obtain ⟨R, hR0⟩ : ∃ R, (W (mo.tmod 100 + 100)).tmod 100 = R := ⟨_, rfl⟩
  have hR2 := rem_in mo 100 (by omega) (by omega)
  rw [hR0] at hR2
  obtain ⟨ha, hb, hc, hd, he, hg⟩ := okL6 h
  have hW : W (a + R) = a + R := W_in (by omega) (by omega)
  have hmn : mnG 255 (W (a + R)) = min 255 (a + R) := by rw [hW, mnG_eq]
  have hk := decide_eq_true hk0
  have hR := decide_eq_true hR0
  have hck : (chk8 [a, b, c, d, e, g] != 0) = false := by unfold chk8; rw [if_pos h]; rfl
  have hme : (mke [a, b, c, d, e, g] != 0) = false := by unfold mke; rw [if_pos h]; rfl
  have ok2 : okL [mnG 255 (W (a + R)), b, c, d, e, g] = true := by
    rw [hmn]
    simp only [okL, List.all_cons, List.all_nil, Bool.and_true, Bool.and_eq_true, okV_iff]
    omega
  have ok3 : okL [a, 0, 0, 0, 0, 0] = true := by
    simp only [okL, List.all_cons, List.all_nil, Bool.and_true, Bool.and_eq_true, okV_iff]
    omega
  have hme2 : (mke [mnG 255 (W (a + R)), b, c, d, e, g] != 0) = false := by unfold mke; rw [if_pos ok2]; rfl
  have hme3 : (mke [a, 0, 0, 0, 0, 0] != 0) = false := by unfold mke; rw [if_pos ok3]; rfl
  have e1 : mkl [a, b, c, d, e, g] = maskC [a, b, c, d, e, g] := by unfold mkl; rw [if_pos h]
  have e2 : mkl [mnG 255 (W (a + R)), b, c, d, e, g] = maskC [mnG 255 (W (a + R)), b, c, d, e, g] := by unfold mkl; rw [if_pos ok2]
  have e3 : mkl [a, 0, 0, 0, 0, 0] = maskC [a, 0, 0, 0, 0, 0] := by unfold mkl; rw [if_pos ok3]
  have hn : ∀ i, i < 6 → decide ((maskC [mnG 255 (W (a + R)), b, c, d, e, g]).getD i 0 < (maskC [a, b, c, d, e, g]).getD i 0) = false := fun i hi => decide_eq_false (by
    rw [hmn]
    have := maskC_mono (a := a) (b := b) (c := c) (d := d) (e := e) (g := g) (a' := min 255 (a + R)) (b' := b) (c' := c) (d' := d) (e' := e) (g' := g) (by omega) (by omega) (by omega) (by omega) (by omega) (by omega) i hi
    omega)
  have ho : ∀ i, i < 6 → decide ((maskC [a, 0, 0, 0, 0, 0]).getD i 0 > (maskC [a, b, c, d, e, g]).getD i 0) = false := fun i hi => decide_eq_false (by
    have := maskC_mono (a := a) (b := 0) (c := 0) (d := 0) (e := 0) (g := 0) (a' := a) (b' := b) (c' := c) (d' := d) (e' := e) (g' := g) (by omega) (by omega) (by omega) (by omega) (by omega) (by omega) i hi
    omega)
  have hz : ((maskC [a, 0, 0, 0, 0, 0]).getD 0 0 != 0) = false := ne_false (by simp only [maskC, List.getD_cons_zero, List.getD_cons_succ]; omega)
  have hd1 : ((maskC [a, 0, 0, 0, 0, 0]).getD 1 0 != mxG 0 (W (W (a - 12) - 8))) = false := ne_false (by
    rw [W_in (n := a - 12) (by omega) (by omega), W_in (by omega) (by omega), mxG_eq]
    simp only [maskC, List.getD_cons_zero, List.getD_cons_succ]; omega)
  have hd2 : ((maskC [a, 0, 0, 0, 0, 0]).getD 2 0 != mxG 0 (W (W (a - 24) - 8))) = false := ne_false (by
    rw [W_in (n := a - 24) (by omega) (by omega), W_in (by omega) (by omega), mxG_eq]
    simp only [maskC, List.getD_cons_zero, List.getD_cons_succ]; omega)
  have hd3 : ((maskC [a, 0, 0, 0, 0, 0]).getD 3 0 != mxG 0 (W (W (a - 36) - 8))) = false := ne_false (by
    rw [W_in (n := a - 36) (by omega) (by omega), W_in (by omega) (by omega), mxG_eq]
    simp only [maskC, List.getD_cons_zero, List.getD_cons_succ]; omega)
  have hd4 : ((maskC [a, 0, 0, 0, 0, 0]).getD 4 0 != mxG 0 (W (W (a - 48) - 8))) = false := ne_false (by
    rw [W_in (n := a - 48) (by omega) (by omega), W_in (by omega) (by omega), mxG_eq]
    simp only [maskC, List.getD_cons_zero, List.getD_cons_succ]; omega)
  have hd5 : ((maskC [a, 0, 0, 0, 0, 0]).getD 5 0 != mxG 0 (W (W (a - 60) - 8))) = false := ne_false (by
    rw [W_in (n := a - 60) (by omega) (by omega), W_in (by omega) (by omega), mxG_eq]
    simp only [maskC, List.getD_cons_zero, List.getD_cons_succ]; omega)
  refine pf_ok (nb_sound _ _ o8_sound) noLoops_ok (bm_run0 a b c d e g x mo R) ?_ rfl
  rw [e1, e2, e3]
  simp only [Holds, List.mem_cons, List.not_mem_nil, or_false, forall_eq_or_imp, forall_eq]
  exact ⟨hd5, ho 5 (by omega), hn 5 (by omega), hd4, ho 4 (by omega), hn 4 (by omega), hd3, ho 3 (by omega), hn 3 (by omega), hd2, ho 2 (by omega), hn 2 (by omega), hd1, ho 1 (by omega), hn 1 (by omega), ho 0 (by omega), hn 0 (by omega), hz, ne_false rfl, hme3, hme2, hme, hR, hck, hk⟩
theorem bm_run1 (a b c d e g x mo R : Int) : (evFnL Try.prog ext 300 (nmPre noPre) (nbC [(23, 1), (41, R)] (allF [26, 61, 64, 68, 77, 83, 94, 102, 126]) o8) noLoops [] 21 [.agg (ints [a, b, c, d, e, g]).toArray, .int .i64 x, .int .i64 mo] []).map (fun r => (r.1.1, r.2)) =
  some (.bool true, [((mkl [0, b, 0, 0, 0, 0]).getD 5 0 != mxG 0 (W (W (b - 48) - 8)), false), (decide ((mkl [0, b, 0, 0, 0, 0]).getD 5 0 > (mkl [a, b, c, d, e, g]).getD 5 0), false), (decide ((mkl [a, mnG 255 (W (b + R)), c, d, e, g]).getD 5 0 < (mkl [a, b, c, d, e, g]).getD 5 0), false), ((mkl [0, b, 0, 0, 0, 0]).getD 4 0 != mxG 0 (W (W (b - 36) - 8)), false), (decide ((mkl [0, b, 0, 0, 0, 0]).getD 4 0 > (mkl [a, b, c, d, e, g]).getD 4 0), false), (decide ((mkl [a, mnG 255 (W (b + R)), c, d, e, g]).getD 4 0 < (mkl [a, b, c, d, e, g]).getD 4 0), false), ((mkl [0, b, 0, 0, 0, 0]).getD 3 0 != mxG 0 (W (W (b - 24) - 8)), false), (decide ((mkl [0, b, 0, 0, 0, 0]).getD 3 0 > (mkl [a, b, c, d, e, g]).getD 3 0), false), (decide ((mkl [a, mnG 255 (W (b + R)), c, d, e, g]).getD 3 0 < (mkl [a, b, c, d, e, g]).getD 3 0), false), ((mkl [0, b, 0, 0, 0, 0]).getD 2 0 != mxG 0 (W (W (b - 12) - 8)), false), (decide ((mkl [0, b, 0, 0, 0, 0]).getD 2 0 > (mkl [a, b, c, d, e, g]).getD 2 0), false), (decide ((mkl [a, mnG 255 (W (b + R)), c, d, e, g]).getD 2 0 < (mkl [a, b, c, d, e, g]).getD 2 0), false), (decide ((mkl [0, b, 0, 0, 0, 0]).getD 1 0 > (mkl [a, b, c, d, e, g]).getD 1 0), false), (decide ((mkl [a, mnG 255 (W (b + R)), c, d, e, g]).getD 1 0 < (mkl [a, b, c, d, e, g]).getD 1 0), false), ((mkl [0, b, 0, 0, 0, 0]).getD 0 0 != mxG 0 (W (W (b - 12) - 8)), false), (decide ((mkl [0, b, 0, 0, 0, 0]).getD 0 0 > (mkl [a, b, c, d, e, g]).getD 0 0), false), (decide ((mkl [a, mnG 255 (W (b + R)), c, d, e, g]).getD 0 0 < (mkl [a, b, c, d, e, g]).getD 0 0), false), ((mkl [0, b, 0, 0, 0, 0]).getD 1 0 != 0, false), ((mkl [a, mnG 255 (W (b + R)), c, d, e, g]).getD 1 0 != (mkl [a, b, c, d, e, g]).getD 1 0, false), (mke [0, b, 0, 0, 0, 0] != 0, false), (mke [a, mnG 255 (W (b + R)), c, d, e, g] != 0, false), (mke [a, b, c, d, e, g] != 0, false), (decide ((W (mo.tmod 100 + 100)).tmod 100 = R), true), (chk8 [a, b, c, d, e, g] != 0, false), (decide ((W (x.tmod 6 + 6)).tmod 6 = 1), true)]) := by kernel_rfl
theorem bm_case1 (a b c d e g x mo : Int) (h : okL [a, b, c, d, e, g] = true) (hk0 : (W (x.tmod 6 + 6)).tmod 6 = 1) : CallOk Try.prog 21 [.agg (ints [a, b, c, d, e, g]).toArray, .int .i64 x, .int .i64 mo] [] (.bool true) [] 0 := by
  obtain ⟨R, hR0⟩ : ∃ R, (W (mo.tmod 100 + 100)).tmod 100 = R := ⟨_, rfl⟩
  have hR2 := rem_in mo 100 (by omega) (by omega)
  rw [hR0] at hR2
  obtain ⟨ha, hb, hc, hd, he, hg⟩ := okL6 h
  have hW : W (b + R) = b + R := W_in (by omega) (by omega)
  have hmn : mnG 255 (W (b + R)) = min 255 (b + R) := by rw [hW, mnG_eq]
  have hk := decide_eq_true hk0
  have hR := decide_eq_true hR0
  have hck : (chk8 [a, b, c, d, e, g] != 0) = false := by unfold chk8; rw [if_pos h]; rfl
  have hme : (mke [a, b, c, d, e, g] != 0) = false := by unfold mke; rw [if_pos h]; rfl
  have ok2 : okL [a, mnG 255 (W (b + R)), c, d, e, g] = true := by
    rw [hmn]
    simp only [okL, List.all_cons, List.all_nil, Bool.and_true, Bool.and_eq_true, okV_iff]
    omega
  have ok3 : okL [0, b, 0, 0, 0, 0] = true := by
    simp only [okL, List.all_cons, List.all_nil, Bool.and_true, Bool.and_eq_true, okV_iff]
    omega
  have hme2 : (mke [a, mnG 255 (W (b + R)), c, d, e, g] != 0) = false := by unfold mke; rw [if_pos ok2]; rfl
  have hme3 : (mke [0, b, 0, 0, 0, 0] != 0) = false := by unfold mke; rw [if_pos ok3]; rfl
  have e1 : mkl [a, b, c, d, e, g] = maskC [a, b, c, d, e, g] := by unfold mkl; rw [if_pos h]
  have e2 : mkl [a, mnG 255 (W (b + R)), c, d, e, g] = maskC [a, mnG 255 (W (b + R)), c, d, e, g] := by unfold mkl; rw [if_pos ok2]
  have e3 : mkl [0, b, 0, 0, 0, 0] = maskC [0, b, 0, 0, 0, 0] := by unfold mkl; rw [if_pos ok3]
  have hn : ∀ i, i < 6 → decide ((maskC [a, mnG 255 (W (b + R)), c, d, e, g]).getD i 0 < (maskC [a, b, c, d, e, g]).getD i 0) = false := fun i hi => decide_eq_false (by
    rw [hmn]
    have := maskC_mono (a := a) (b := b) (c := c) (d := d) (e := e) (g := g) (a' := a) (b' := min 255 (b + R)) (c' := c) (d' := d) (e' := e) (g' := g) (by omega) (by omega) (by omega) (by omega) (by omega) (by omega) i hi
    omega)
  have ho : ∀ i, i < 6 → decide ((maskC [0, b, 0, 0, 0, 0]).getD i 0 > (maskC [a, b, c, d, e, g]).getD i 0) = false := fun i hi => decide_eq_false (by
    have := maskC_mono (a := 0) (b := b) (c := 0) (d := 0) (e := 0) (g := 0) (a' := a) (b' := b) (c' := c) (d' := d) (e' := e) (g' := g) (by omega) (by omega) (by omega) (by omega) (by omega) (by omega) i hi
    omega)
  have hz : ((maskC [0, b, 0, 0, 0, 0]).getD 1 0 != 0) = false := ne_false (by simp only [maskC, List.getD_cons_zero, List.getD_cons_succ]; omega)
  have hd0 : ((maskC [0, b, 0, 0, 0, 0]).getD 0 0 != mxG 0 (W (W (b - 12) - 8))) = false := ne_false (by
    rw [W_in (n := b - 12) (by omega) (by omega), W_in (by omega) (by omega), mxG_eq]
    simp only [maskC, List.getD_cons_zero, List.getD_cons_succ]; omega)
  have hd2 : ((maskC [0, b, 0, 0, 0, 0]).getD 2 0 != mxG 0 (W (W (b - 12) - 8))) = false := ne_false (by
    rw [W_in (n := b - 12) (by omega) (by omega), W_in (by omega) (by omega), mxG_eq]
    simp only [maskC, List.getD_cons_zero, List.getD_cons_succ]; omega)
  have hd3 : ((maskC [0, b, 0, 0, 0, 0]).getD 3 0 != mxG 0 (W (W (b - 24) - 8))) = false := ne_false (by
    rw [W_in (n := b - 24) (by omega) (by omega), W_in (by omega) (by omega), mxG_eq]
    simp only [maskC, List.getD_cons_zero, List.getD_cons_succ]; omega)
  have hd4 : ((maskC [0, b, 0, 0, 0, 0]).getD 4 0 != mxG 0 (W (W (b - 36) - 8))) = false := ne_false (by
    rw [W_in (n := b - 36) (by omega) (by omega), W_in (by omega) (by omega), mxG_eq]
    simp only [maskC, List.getD_cons_zero, List.getD_cons_succ]; omega)
  have hd5 : ((maskC [0, b, 0, 0, 0, 0]).getD 5 0 != mxG 0 (W (W (b - 48) - 8))) = false := ne_false (by
    rw [W_in (n := b - 48) (by omega) (by omega), W_in (by omega) (by omega), mxG_eq]
    simp only [maskC, List.getD_cons_zero, List.getD_cons_succ]; omega)
  refine pf_ok (nb_sound _ _ o8_sound) noLoops_ok (bm_run1 a b c d e g x mo R) ?_ rfl
  rw [e1, e2, e3]
  simp only [Holds, List.mem_cons, List.not_mem_nil, or_false, forall_eq_or_imp, forall_eq]
  exact ⟨hd5, ho 5 (by omega), hn 5 (by omega), hd4, ho 4 (by omega), hn 4 (by omega), hd3, ho 3 (by omega), hn 3 (by omega), hd2, ho 2 (by omega), hn 2 (by omega), ho 1 (by omega), hn 1 (by omega), hd0, ho 0 (by omega), hn 0 (by omega), hz, ne_false rfl, hme3, hme2, hme, hR, hck, hk⟩
theorem bm_run2 (a b c d e g x mo R : Int) : (evFnL Try.prog ext 300 (nmPre noPre) (nbC [(23, 2), (41, R)] (allF [26, 61, 64, 68, 77, 83, 94, 102, 126]) o8) noLoops [] 21 [.agg (ints [a, b, c, d, e, g]).toArray, .int .i64 x, .int .i64 mo] []).map (fun r => (r.1.1, r.2)) =
  some (.bool true, [((mkl [0, 0, c, 0, 0, 0]).getD 5 0 != mxG 0 (W (W (c - 36) - 8)), false), (decide ((mkl [0, 0, c, 0, 0, 0]).getD 5 0 > (mkl [a, b, c, d, e, g]).getD 5 0), false), (decide ((mkl [a, b, mnG 255 (W (c + R)), d, e, g]).getD 5 0 < (mkl [a, b, c, d, e, g]).getD 5 0), false), ((mkl [0, 0, c, 0, 0, 0]).getD 4 0 != mxG 0 (W (W (c - 24) - 8)), false), (decide ((mkl [0, 0, c, 0, 0, 0]).getD 4 0 > (mkl [a, b, c, d, e, g]).getD 4 0), false), (decide ((mkl [a, b, mnG 255 (W (c + R)), d, e, g]).getD 4 0 < (mkl [a, b, c, d, e, g]).getD 4 0), false), ((mkl [0, 0, c, 0, 0, 0]).getD 3 0 != mxG 0 (W (W (c - 12) - 8)), false), (decide ((mkl [0, 0, c, 0, 0, 0]).getD 3 0 > (mkl [a, b, c, d, e, g]).getD 3 0), false), (decide ((mkl [a, b, mnG 255 (W (c + R)), d, e, g]).getD 3 0 < (mkl [a, b, c, d, e, g]).getD 3 0), false), (decide ((mkl [0, 0, c, 0, 0, 0]).getD 2 0 > (mkl [a, b, c, d, e, g]).getD 2 0), false), (decide ((mkl [a, b, mnG 255 (W (c + R)), d, e, g]).getD 2 0 < (mkl [a, b, c, d, e, g]).getD 2 0), false), ((mkl [0, 0, c, 0, 0, 0]).getD 1 0 != mxG 0 (W (W (c - 12) - 8)), false), (decide ((mkl [0, 0, c, 0, 0, 0]).getD 1 0 > (mkl [a, b, c, d, e, g]).getD 1 0), false), (decide ((mkl [a, b, mnG 255 (W (c + R)), d, e, g]).getD 1 0 < (mkl [a, b, c, d, e, g]).getD 1 0), false), ((mkl [0, 0, c, 0, 0, 0]).getD 0 0 != mxG 0 (W (W (c - 24) - 8)), false), (decide ((mkl [0, 0, c, 0, 0, 0]).getD 0 0 > (mkl [a, b, c, d, e, g]).getD 0 0), false), (decide ((mkl [a, b, mnG 255 (W (c + R)), d, e, g]).getD 0 0 < (mkl [a, b, c, d, e, g]).getD 0 0), false), ((mkl [0, 0, c, 0, 0, 0]).getD 2 0 != 0, false), ((mkl [a, b, mnG 255 (W (c + R)), d, e, g]).getD 2 0 != (mkl [a, b, c, d, e, g]).getD 2 0, false), (mke [0, 0, c, 0, 0, 0] != 0, false), (mke [a, b, mnG 255 (W (c + R)), d, e, g] != 0, false), (mke [a, b, c, d, e, g] != 0, false), (decide ((W (mo.tmod 100 + 100)).tmod 100 = R), true), (chk8 [a, b, c, d, e, g] != 0, false), (decide ((W (x.tmod 6 + 6)).tmod 6 = 2), true)]) := by kernel_rfl
theorem bm_case2 (a b c d e g x mo : Int) (h : okL [a, b, c, d, e, g] = true) (hk0 : (W (x.tmod 6 + 6)).tmod 6 = 2) : CallOk Try.prog 21 [.agg (ints [a, b, c, d, e, g]).toArray, .int .i64 x, .int .i64 mo] [] (.bool true) [] 0 := by
  obtain ⟨R, hR0⟩ : ∃ R, (W (mo.tmod 100 + 100)).tmod 100 = R := ⟨_, rfl⟩
  have hR2 := rem_in mo 100 (by omega) (by omega)
  rw [hR0] at hR2
  obtain ⟨ha, hb, hc, hd, he, hg⟩ := okL6 h
  have hW : W (c + R) = c + R := W_in (by omega) (by omega)
  have hmn : mnG 255 (W (c + R)) = min 255 (c + R) := by rw [hW, mnG_eq]
  have hk := decide_eq_true hk0
  have hR := decide_eq_true hR0
  have hck : (chk8 [a, b, c, d, e, g] != 0) = false := by unfold chk8; rw [if_pos h]; rfl
  have hme : (mke [a, b, c, d, e, g] != 0) = false := by unfold mke; rw [if_pos h]; rfl
  have ok2 : okL [a, b, mnG 255 (W (c + R)), d, e, g] = true := by
    rw [hmn]
    simp only [okL, List.all_cons, List.all_nil, Bool.and_true, Bool.and_eq_true, okV_iff]
    omega
  have ok3 : okL [0, 0, c, 0, 0, 0] = true := by
    simp only [okL, List.all_cons, List.all_nil, Bool.and_true, Bool.and_eq_true, okV_iff]
    omega
  have hme2 : (mke [a, b, mnG 255 (W (c + R)), d, e, g] != 0) = false := by unfold mke; rw [if_pos ok2]; rfl
  have hme3 : (mke [0, 0, c, 0, 0, 0] != 0) = false := by unfold mke; rw [if_pos ok3]; rfl
  have e1 : mkl [a, b, c, d, e, g] = maskC [a, b, c, d, e, g] := by unfold mkl; rw [if_pos h]
  have e2 : mkl [a, b, mnG 255 (W (c + R)), d, e, g] = maskC [a, b, mnG 255 (W (c + R)), d, e, g] := by unfold mkl; rw [if_pos ok2]
  have e3 : mkl [0, 0, c, 0, 0, 0] = maskC [0, 0, c, 0, 0, 0] := by unfold mkl; rw [if_pos ok3]
  have hn : ∀ i, i < 6 → decide ((maskC [a, b, mnG 255 (W (c + R)), d, e, g]).getD i 0 < (maskC [a, b, c, d, e, g]).getD i 0) = false := fun i hi => decide_eq_false (by
    rw [hmn]
    have := maskC_mono (a := a) (b := b) (c := c) (d := d) (e := e) (g := g) (a' := a) (b' := b) (c' := min 255 (c + R)) (d' := d) (e' := e) (g' := g) (by omega) (by omega) (by omega) (by omega) (by omega) (by omega) i hi
    omega)
  have ho : ∀ i, i < 6 → decide ((maskC [0, 0, c, 0, 0, 0]).getD i 0 > (maskC [a, b, c, d, e, g]).getD i 0) = false := fun i hi => decide_eq_false (by
    have := maskC_mono (a := 0) (b := 0) (c := c) (d := 0) (e := 0) (g := 0) (a' := a) (b' := b) (c' := c) (d' := d) (e' := e) (g' := g) (by omega) (by omega) (by omega) (by omega) (by omega) (by omega) i hi
    omega)
  have hz : ((maskC [0, 0, c, 0, 0, 0]).getD 2 0 != 0) = false := ne_false (by simp only [maskC, List.getD_cons_zero, List.getD_cons_succ]; omega)
  have hd0 : ((maskC [0, 0, c, 0, 0, 0]).getD 0 0 != mxG 0 (W (W (c - 24) - 8))) = false := ne_false (by
    rw [W_in (n := c - 24) (by omega) (by omega), W_in (by omega) (by omega), mxG_eq]
    simp only [maskC, List.getD_cons_zero, List.getD_cons_succ]; omega)
  have hd1 : ((maskC [0, 0, c, 0, 0, 0]).getD 1 0 != mxG 0 (W (W (c - 12) - 8))) = false := ne_false (by
    rw [W_in (n := c - 12) (by omega) (by omega), W_in (by omega) (by omega), mxG_eq]
    simp only [maskC, List.getD_cons_zero, List.getD_cons_succ]; omega)
  have hd3 : ((maskC [0, 0, c, 0, 0, 0]).getD 3 0 != mxG 0 (W (W (c - 12) - 8))) = false := ne_false (by
    rw [W_in (n := c - 12) (by omega) (by omega), W_in (by omega) (by omega), mxG_eq]
    simp only [maskC, List.getD_cons_zero, List.getD_cons_succ]; omega)
  have hd4 : ((maskC [0, 0, c, 0, 0, 0]).getD 4 0 != mxG 0 (W (W (c - 24) - 8))) = false := ne_false (by
    rw [W_in (n := c - 24) (by omega) (by omega), W_in (by omega) (by omega), mxG_eq]
    simp only [maskC, List.getD_cons_zero, List.getD_cons_succ]; omega)
  have hd5 : ((maskC [0, 0, c, 0, 0, 0]).getD 5 0 != mxG 0 (W (W (c - 36) - 8))) = false := ne_false (by
    rw [W_in (n := c - 36) (by omega) (by omega), W_in (by omega) (by omega), mxG_eq]
    simp only [maskC, List.getD_cons_zero, List.getD_cons_succ]; omega)
  refine pf_ok (nb_sound _ _ o8_sound) noLoops_ok (bm_run2 a b c d e g x mo R) ?_ rfl
  rw [e1, e2, e3]
  simp only [Holds, List.mem_cons, List.not_mem_nil, or_false, forall_eq_or_imp, forall_eq]
  exact ⟨hd5, ho 5 (by omega), hn 5 (by omega), hd4, ho 4 (by omega), hn 4 (by omega), hd3, ho 3 (by omega), hn 3 (by omega), ho 2 (by omega), hn 2 (by omega), hd1, ho 1 (by omega), hn 1 (by omega), hd0, ho 0 (by omega), hn 0 (by omega), hz, ne_false rfl, hme3, hme2, hme, hR, hck, hk⟩
theorem bm_run3 (a b c d e g x mo R : Int) : (evFnL Try.prog ext 300 (nmPre noPre) (nbC [(23, 3), (41, R)] (allF [26, 61, 64, 68, 77, 83, 94, 102, 126]) o8) noLoops [] 21 [.agg (ints [a, b, c, d, e, g]).toArray, .int .i64 x, .int .i64 mo] []).map (fun r => (r.1.1, r.2)) =
  some (.bool true, [((mkl [0, 0, 0, d, 0, 0]).getD 5 0 != mxG 0 (W (W (d - 24) - 8)), false), (decide ((mkl [0, 0, 0, d, 0, 0]).getD 5 0 > (mkl [a, b, c, d, e, g]).getD 5 0), false), (decide ((mkl [a, b, c, mnG 255 (W (d + R)), e, g]).getD 5 0 < (mkl [a, b, c, d, e, g]).getD 5 0), false), ((mkl [0, 0, 0, d, 0, 0]).getD 4 0 != mxG 0 (W (W (d - 12) - 8)), false), (decide ((mkl [0, 0, 0, d, 0, 0]).getD 4 0 > (mkl [a, b, c, d, e, g]).getD 4 0), false), (decide ((mkl [a, b, c, mnG 255 (W (d + R)), e, g]).getD 4 0 < (mkl [a, b, c, d, e, g]).getD 4 0), false), (decide ((mkl [0, 0, 0, d, 0, 0]).getD 3 0 > (mkl [a, b, c, d, e, g]).getD 3 0), false), (decide ((mkl [a, b, c, mnG 255 (W (d + R)), e, g]).getD 3 0 < (mkl [a, b, c, d, e, g]).getD 3 0), false), ((mkl [0, 0, 0, d, 0, 0]).getD 2 0 != mxG 0 (W (W (d - 12) - 8)), false), (decide ((mkl [0, 0, 0, d, 0, 0]).getD 2 0 > (mkl [a, b, c, d, e, g]).getD 2 0), false), (decide ((mkl [a, b, c, mnG 255 (W (d + R)), e, g]).getD 2 0 < (mkl [a, b, c, d, e, g]).getD 2 0), false), ((mkl [0, 0, 0, d, 0, 0]).getD 1 0 != mxG 0 (W (W (d - 24) - 8)), false), (decide ((mkl [0, 0, 0, d, 0, 0]).getD 1 0 > (mkl [a, b, c, d, e, g]).getD 1 0), false), (decide ((mkl [a, b, c, mnG 255 (W (d + R)), e, g]).getD 1 0 < (mkl [a, b, c, d, e, g]).getD 1 0), false), ((mkl [0, 0, 0, d, 0, 0]).getD 0 0 != mxG 0 (W (W (d - 36) - 8)), false), (decide ((mkl [0, 0, 0, d, 0, 0]).getD 0 0 > (mkl [a, b, c, d, e, g]).getD 0 0), false), (decide ((mkl [a, b, c, mnG 255 (W (d + R)), e, g]).getD 0 0 < (mkl [a, b, c, d, e, g]).getD 0 0), false), ((mkl [0, 0, 0, d, 0, 0]).getD 3 0 != 0, false), ((mkl [a, b, c, mnG 255 (W (d + R)), e, g]).getD 3 0 != (mkl [a, b, c, d, e, g]).getD 3 0, false), (mke [0, 0, 0, d, 0, 0] != 0, false), (mke [a, b, c, mnG 255 (W (d + R)), e, g] != 0, false), (mke [a, b, c, d, e, g] != 0, false), (decide ((W (mo.tmod 100 + 100)).tmod 100 = R), true), (chk8 [a, b, c, d, e, g] != 0, false), (decide ((W (x.tmod 6 + 6)).tmod 6 = 3), true)]) := by kernel_rfl
theorem bm_case3 (a b c d e g x mo : Int) (h : okL [a, b, c, d, e, g] = true) (hk0 : (W (x.tmod 6 + 6)).tmod 6 = 3) : CallOk Try.prog 21 [.agg (ints [a, b, c, d, e, g]).toArray, .int .i64 x, .int .i64 mo] [] (.bool true) [] 0 := by
  obtain ⟨R, hR0⟩ : ∃ R, (W (mo.tmod 100 + 100)).tmod 100 = R := ⟨_, rfl⟩
  have hR2 := rem_in mo 100 (by omega) (by omega)
  rw [hR0] at hR2
  obtain ⟨ha, hb, hc, hd, he, hg⟩ := okL6 h
  have hW : W (d + R) = d + R := W_in (by omega) (by omega)
  have hmn : mnG 255 (W (d + R)) = min 255 (d + R) := by rw [hW, mnG_eq]
  have hk := decide_eq_true hk0
  have hR := decide_eq_true hR0
  have hck : (chk8 [a, b, c, d, e, g] != 0) = false := by unfold chk8; rw [if_pos h]; rfl
  have hme : (mke [a, b, c, d, e, g] != 0) = false := by unfold mke; rw [if_pos h]; rfl
  have ok2 : okL [a, b, c, mnG 255 (W (d + R)), e, g] = true := by
    rw [hmn]
    simp only [okL, List.all_cons, List.all_nil, Bool.and_true, Bool.and_eq_true, okV_iff]
    omega
  have ok3 : okL [0, 0, 0, d, 0, 0] = true := by
    simp only [okL, List.all_cons, List.all_nil, Bool.and_true, Bool.and_eq_true, okV_iff]
    omega
  have hme2 : (mke [a, b, c, mnG 255 (W (d + R)), e, g] != 0) = false := by unfold mke; rw [if_pos ok2]; rfl
  have hme3 : (mke [0, 0, 0, d, 0, 0] != 0) = false := by unfold mke; rw [if_pos ok3]; rfl
  have e1 : mkl [a, b, c, d, e, g] = maskC [a, b, c, d, e, g] := by unfold mkl; rw [if_pos h]
  have e2 : mkl [a, b, c, mnG 255 (W (d + R)), e, g] = maskC [a, b, c, mnG 255 (W (d + R)), e, g] := by unfold mkl; rw [if_pos ok2]
  have e3 : mkl [0, 0, 0, d, 0, 0] = maskC [0, 0, 0, d, 0, 0] := by unfold mkl; rw [if_pos ok3]
  have hn : ∀ i, i < 6 → decide ((maskC [a, b, c, mnG 255 (W (d + R)), e, g]).getD i 0 < (maskC [a, b, c, d, e, g]).getD i 0) = false := fun i hi => decide_eq_false (by
    rw [hmn]
    have := maskC_mono (a := a) (b := b) (c := c) (d := d) (e := e) (g := g) (a' := a) (b' := b) (c' := c) (d' := min 255 (d + R)) (e' := e) (g' := g) (by omega) (by omega) (by omega) (by omega) (by omega) (by omega) i hi
    omega)
  have ho : ∀ i, i < 6 → decide ((maskC [0, 0, 0, d, 0, 0]).getD i 0 > (maskC [a, b, c, d, e, g]).getD i 0) = false := fun i hi => decide_eq_false (by
    have := maskC_mono (a := 0) (b := 0) (c := 0) (d := d) (e := 0) (g := 0) (a' := a) (b' := b) (c' := c) (d' := d) (e' := e) (g' := g) (by omega) (by omega) (by omega) (by omega) (by omega) (by omega) i hi
    omega)
  have hz : ((maskC [0, 0, 0, d, 0, 0]).getD 3 0 != 0) = false := ne_false (by simp only [maskC, List.getD_cons_zero, List.getD_cons_succ]; omega)
  have hd0 : ((maskC [0, 0, 0, d, 0, 0]).getD 0 0 != mxG 0 (W (W (d - 36) - 8))) = false := ne_false (by
    rw [W_in (n := d - 36) (by omega) (by omega), W_in (by omega) (by omega), mxG_eq]
    simp only [maskC, List.getD_cons_zero, List.getD_cons_succ]; omega)
  have hd1 : ((maskC [0, 0, 0, d, 0, 0]).getD 1 0 != mxG 0 (W (W (d - 24) - 8))) = false := ne_false (by
    rw [W_in (n := d - 24) (by omega) (by omega), W_in (by omega) (by omega), mxG_eq]
    simp only [maskC, List.getD_cons_zero, List.getD_cons_succ]; omega)
  have hd2 : ((maskC [0, 0, 0, d, 0, 0]).getD 2 0 != mxG 0 (W (W (d - 12) - 8))) = false := ne_false (by
    rw [W_in (n := d - 12) (by omega) (by omega), W_in (by omega) (by omega), mxG_eq]
    simp only [maskC, List.getD_cons_zero, List.getD_cons_succ]; omega)
  have hd4 : ((maskC [0, 0, 0, d, 0, 0]).getD 4 0 != mxG 0 (W (W (d - 12) - 8))) = false := ne_false (by
    rw [W_in (n := d - 12) (by omega) (by omega), W_in (by omega) (by omega), mxG_eq]
    simp only [maskC, List.getD_cons_zero, List.getD_cons_succ]; omega)
  have hd5 : ((maskC [0, 0, 0, d, 0, 0]).getD 5 0 != mxG 0 (W (W (d - 24) - 8))) = false := ne_false (by
    rw [W_in (n := d - 24) (by omega) (by omega), W_in (by omega) (by omega), mxG_eq]
    simp only [maskC, List.getD_cons_zero, List.getD_cons_succ]; omega)
  refine pf_ok (nb_sound _ _ o8_sound) noLoops_ok (bm_run3 a b c d e g x mo R) ?_ rfl
  rw [e1, e2, e3]
  simp only [Holds, List.mem_cons, List.not_mem_nil, or_false, forall_eq_or_imp, forall_eq]
  exact ⟨hd5, ho 5 (by omega), hn 5 (by omega), hd4, ho 4 (by omega), hn 4 (by omega), ho 3 (by omega), hn 3 (by omega), hd2, ho 2 (by omega), hn 2 (by omega), hd1, ho 1 (by omega), hn 1 (by omega), hd0, ho 0 (by omega), hn 0 (by omega), hz, ne_false rfl, hme3, hme2, hme, hR, hck, hk⟩
theorem bm_run4 (a b c d e g x mo R : Int) : (evFnL Try.prog ext 300 (nmPre noPre) (nbC [(23, 4), (41, R)] (allF [26, 61, 64, 68, 77, 83, 94, 102, 126]) o8) noLoops [] 21 [.agg (ints [a, b, c, d, e, g]).toArray, .int .i64 x, .int .i64 mo] []).map (fun r => (r.1.1, r.2)) =
  some (.bool true, [((mkl [0, 0, 0, 0, e, 0]).getD 5 0 != mxG 0 (W (W (e - 12) - 8)), false), (decide ((mkl [0, 0, 0, 0, e, 0]).getD 5 0 > (mkl [a, b, c, d, e, g]).getD 5 0), false), (decide ((mkl [a, b, c, d, mnG 255 (W (e + R)), g]).getD 5 0 < (mkl [a, b, c, d, e, g]).getD 5 0), false), (decide ((mkl [0, 0, 0, 0, e, 0]).getD 4 0 > (mkl [a, b, c, d, e, g]).getD 4 0), false), (decide ((mkl [a, b, c, d, mnG 255 (W (e + R)), g]).getD 4 0 < (mkl [a, b, c, d, e, g]).getD 4 0), false), ((mkl [0, 0, 0, 0, e, 0]).getD 3 0 != mxG 0 (W (W (e - 12) - 8)), false), (decide ((mkl [0, 0, 0, 0, e, 0]).getD 3 0 > (mkl [a, b, c, d, e, g]).getD 3 0), false), (decide ((mkl [a, b, c, d, mnG 255 (W (e + R)), g]).getD 3 0 < (mkl [a, b, c, d, e, g]).getD 3 0), false), ((mkl [0, 0, 0, 0, e, 0]).getD 2 0 != mxG 0 (W (W (e - 24) - 8)), false), (decide ((mkl [0, 0, 0, 0, e, 0]).getD 2 0 > (mkl [a, b, c, d, e, g]).getD 2 0), false), (decide ((mkl [a, b, c, d, mnG 255 (W (e + R)), g]).getD 2 0 < (mkl [a, b, c, d, e, g]).getD 2 0), false), ((mkl [0, 0, 0, 0, e, 0]).getD 1 0 != mxG 0 (W (W (e - 36) - 8)), false), (decide ((mkl [0, 0, 0, 0, e, 0]).getD 1 0 > (mkl [a, b, c, d, e, g]).getD 1 0), false), (decide ((mkl [a, b, c, d, mnG 255 (W (e + R)), g]).getD 1 0 < (mkl [a, b, c, d, e, g]).getD 1 0), false), ((mkl [0, 0, 0, 0, e, 0]).getD 0 0 != mxG 0 (W (W (e - 48) - 8)), false), (decide ((mkl [0, 0, 0, 0, e, 0]).getD 0 0 > (mkl [a, b, c, d, e, g]).getD 0 0), false), (decide ((mkl [a, b, c, d, mnG 255 (W (e + R)), g]).getD 0 0 < (mkl [a, b, c, d, e, g]).getD 0 0), false), ((mkl [0, 0, 0, 0, e, 0]).getD 4 0 != 0, false), ((mkl [a, b, c, d, mnG 255 (W (e + R)), g]).getD 4 0 != (mkl [a, b, c, d, e, g]).getD 4 0, false), (mke [0, 0, 0, 0, e, 0] != 0, false), (mke [a, b, c, d, mnG 255 (W (e + R)), g] != 0, false), (mke [a, b, c, d, e, g] != 0, false), (decide ((W (mo.tmod 100 + 100)).tmod 100 = R), true), (chk8 [a, b, c, d, e, g] != 0, false), (decide ((W (x.tmod 6 + 6)).tmod 6 = 4), true)]) := by kernel_rfl
theorem bm_case4 (a b c d e g x mo : Int) (h : okL [a, b, c, d, e, g] = true) (hk0 : (W (x.tmod 6 + 6)).tmod 6 = 4) : CallOk Try.prog 21 [.agg (ints [a, b, c, d, e, g]).toArray, .int .i64 x, .int .i64 mo] [] (.bool true) [] 0 := by
  obtain ⟨R, hR0⟩ : ∃ R, (W (mo.tmod 100 + 100)).tmod 100 = R := ⟨_, rfl⟩
  have hR2 := rem_in mo 100 (by omega) (by omega)
  rw [hR0] at hR2
  obtain ⟨ha, hb, hc, hd, he, hg⟩ := okL6 h
  have hW : W (e + R) = e + R := W_in (by omega) (by omega)
  have hmn : mnG 255 (W (e + R)) = min 255 (e + R) := by rw [hW, mnG_eq]
  have hk := decide_eq_true hk0
  have hR := decide_eq_true hR0
  have hck : (chk8 [a, b, c, d, e, g] != 0) = false := by unfold chk8; rw [if_pos h]; rfl
  have hme : (mke [a, b, c, d, e, g] != 0) = false := by unfold mke; rw [if_pos h]; rfl
  have ok2 : okL [a, b, c, d, mnG 255 (W (e + R)), g] = true := by
    rw [hmn]
    simp only [okL, List.all_cons, List.all_nil, Bool.and_true, Bool.and_eq_true, okV_iff]
    omega
  have ok3 : okL [0, 0, 0, 0, e, 0] = true := by
    simp only [okL, List.all_cons, List.all_nil, Bool.and_true, Bool.and_eq_true, okV_iff]
    omega
  have hme2 : (mke [a, b, c, d, mnG 255 (W (e + R)), g] != 0) = false := by unfold mke; rw [if_pos ok2]; rfl
  have hme3 : (mke [0, 0, 0, 0, e, 0] != 0) = false := by unfold mke; rw [if_pos ok3]; rfl
  have e1 : mkl [a, b, c, d, e, g] = maskC [a, b, c, d, e, g] := by unfold mkl; rw [if_pos h]
  have e2 : mkl [a, b, c, d, mnG 255 (W (e + R)), g] = maskC [a, b, c, d, mnG 255 (W (e + R)), g] := by unfold mkl; rw [if_pos ok2]
  have e3 : mkl [0, 0, 0, 0, e, 0] = maskC [0, 0, 0, 0, e, 0] := by unfold mkl; rw [if_pos ok3]
  have hn : ∀ i, i < 6 → decide ((maskC [a, b, c, d, mnG 255 (W (e + R)), g]).getD i 0 < (maskC [a, b, c, d, e, g]).getD i 0) = false := fun i hi => decide_eq_false (by
    rw [hmn]
    have := maskC_mono (a := a) (b := b) (c := c) (d := d) (e := e) (g := g) (a' := a) (b' := b) (c' := c) (d' := d) (e' := min 255 (e + R)) (g' := g) (by omega) (by omega) (by omega) (by omega) (by omega) (by omega) i hi
    omega)
  have ho : ∀ i, i < 6 → decide ((maskC [0, 0, 0, 0, e, 0]).getD i 0 > (maskC [a, b, c, d, e, g]).getD i 0) = false := fun i hi => decide_eq_false (by
    have := maskC_mono (a := 0) (b := 0) (c := 0) (d := 0) (e := e) (g := 0) (a' := a) (b' := b) (c' := c) (d' := d) (e' := e) (g' := g) (by omega) (by omega) (by omega) (by omega) (by omega) (by omega) i hi
    omega)
  have hz : ((maskC [0, 0, 0, 0, e, 0]).getD 4 0 != 0) = false := ne_false (by simp only [maskC, List.getD_cons_zero, List.getD_cons_succ]; omega)
  have hd0 : ((maskC [0, 0, 0, 0, e, 0]).getD 0 0 != mxG 0 (W (W (e - 48) - 8))) = false := ne_false (by
    rw [W_in (n := e - 48) (by omega) (by omega), W_in (by omega) (by omega), mxG_eq]
    simp only [maskC, List.getD_cons_zero, List.getD_cons_succ]; omega)
  have hd1 : ((maskC [0, 0, 0, 0, e, 0]).getD 1 0 != mxG 0 (W (W (e - 36) - 8))) = false := ne_false (by
    rw [W_in (n := e - 36) (by omega) (by omega), W_in (by omega) (by omega), mxG_eq]
    simp only [maskC, List.getD_cons_zero, List.getD_cons_succ]; omega)
  have hd2 : ((maskC [0, 0, 0, 0, e, 0]).getD 2 0 != mxG 0 (W (W (e - 24) - 8))) = false := ne_false (by
    rw [W_in (n := e - 24) (by omega) (by omega), W_in (by omega) (by omega), mxG_eq]
    simp only [maskC, List.getD_cons_zero, List.getD_cons_succ]; omega)
  have hd3 : ((maskC [0, 0, 0, 0, e, 0]).getD 3 0 != mxG 0 (W (W (e - 12) - 8))) = false := ne_false (by
    rw [W_in (n := e - 12) (by omega) (by omega), W_in (by omega) (by omega), mxG_eq]
    simp only [maskC, List.getD_cons_zero, List.getD_cons_succ]; omega)
  have hd5 : ((maskC [0, 0, 0, 0, e, 0]).getD 5 0 != mxG 0 (W (W (e - 12) - 8))) = false := ne_false (by
    rw [W_in (n := e - 12) (by omega) (by omega), W_in (by omega) (by omega), mxG_eq]
    simp only [maskC, List.getD_cons_zero, List.getD_cons_succ]; omega)
  refine pf_ok (nb_sound _ _ o8_sound) noLoops_ok (bm_run4 a b c d e g x mo R) ?_ rfl
  rw [e1, e2, e3]
  simp only [Holds, List.mem_cons, List.not_mem_nil, or_false, forall_eq_or_imp, forall_eq]
  exact ⟨hd5, ho 5 (by omega), hn 5 (by omega), ho 4 (by omega), hn 4 (by omega), hd3, ho 3 (by omega), hn 3 (by omega), hd2, ho 2 (by omega), hn 2 (by omega), hd1, ho 1 (by omega), hn 1 (by omega), hd0, ho 0 (by omega), hn 0 (by omega), hz, ne_false rfl, hme3, hme2, hme, hR, hck, hk⟩
theorem bm_run5 (a b c d e g x mo R : Int) : (evFnL Try.prog ext 300 (nmPre noPre) (nbC [(23, 5), (41, R)] (allF [26, 61, 64, 68, 77, 83, 94, 102, 126]) o8) noLoops [] 21 [.agg (ints [a, b, c, d, e, g]).toArray, .int .i64 x, .int .i64 mo] []).map (fun r => (r.1.1, r.2)) =
  some (.bool true, [(decide ((mkl [0, 0, 0, 0, 0, g]).getD 5 0 > (mkl [a, b, c, d, e, g]).getD 5 0), false), (decide ((mkl [a, b, c, d, e, mnG 255 (W (g + R))]).getD 5 0 < (mkl [a, b, c, d, e, g]).getD 5 0), false), ((mkl [0, 0, 0, 0, 0, g]).getD 4 0 != mxG 0 (W (W (g - 12) - 8)), false), (decide ((mkl [0, 0, 0, 0, 0, g]).getD 4 0 > (mkl [a, b, c, d, e, g]).getD 4 0), false), (decide ((mkl [a, b, c, d, e, mnG 255 (W (g + R))]).getD 4 0 < (mkl [a, b, c, d, e, g]).getD 4 0), false), ((mkl [0, 0, 0, 0, 0, g]).getD 3 0 != mxG 0 (W (W (g - 24) - 8)), false), (decide ((mkl [0, 0, 0, 0, 0, g]).getD 3 0 > (mkl [a, b, c, d, e, g]).getD 3 0), false), (decide ((mkl [a, b, c, d, e, mnG 255 (W (g + R))]).getD 3 0 < (mkl [a, b, c, d, e, g]).getD 3 0), false), ((mkl [0, 0, 0, 0, 0, g]).getD 2 0 != mxG 0 (W (W (g - 36) - 8)), false), (decide ((mkl [0, 0, 0, 0, 0, g]).getD 2 0 > (mkl [a, b, c, d, e, g]).getD 2 0), false), (decide ((mkl [a, b, c, d, e, mnG 255 (W (g + R))]).getD 2 0 < (mkl [a, b, c, d, e, g]).getD 2 0), false), ((mkl [0, 0, 0, 0, 0, g]).getD 1 0 != mxG 0 (W (W (g - 48) - 8)), false), (decide ((mkl [0, 0, 0, 0, 0, g]).getD 1 0 > (mkl [a, b, c, d, e, g]).getD 1 0), false), (decide ((mkl [a, b, c, d, e, mnG 255 (W (g + R))]).getD 1 0 < (mkl [a, b, c, d, e, g]).getD 1 0), false), ((mkl [0, 0, 0, 0, 0, g]).getD 0 0 != mxG 0 (W (W (g - 60) - 8)), false), (decide ((mkl [0, 0, 0, 0, 0, g]).getD 0 0 > (mkl [a, b, c, d, e, g]).getD 0 0), false), (decide ((mkl [a, b, c, d, e, mnG 255 (W (g + R))]).getD 0 0 < (mkl [a, b, c, d, e, g]).getD 0 0), false), ((mkl [0, 0, 0, 0, 0, g]).getD 5 0 != 0, false), ((mkl [a, b, c, d, e, mnG 255 (W (g + R))]).getD 5 0 != (mkl [a, b, c, d, e, g]).getD 5 0, false), (mke [0, 0, 0, 0, 0, g] != 0, false), (mke [a, b, c, d, e, mnG 255 (W (g + R))] != 0, false), (mke [a, b, c, d, e, g] != 0, false), (decide ((W (mo.tmod 100 + 100)).tmod 100 = R), true), (chk8 [a, b, c, d, e, g] != 0, false), (decide ((W (x.tmod 6 + 6)).tmod 6 = 5), true)]) := by kernel_rfl
theorem bm_case5 (a b c d e g x mo : Int) (h : okL [a, b, c, d, e, g] = true) (hk0 : (W (x.tmod 6 + 6)).tmod 6 = 5) : CallOk Try.prog 21 [.agg (ints [a, b, c, d, e, g]).toArray, .int .i64 x, .int .i64 mo] [] (.bool true) [] 0 := by
  obtain ⟨R, hR0⟩ : ∃ R, (W (mo.tmod 100 + 100)).tmod 100 = R := ⟨_, rfl⟩
  have hR2 := rem_in mo 100 (by omega) (by omega)
  rw [hR0] at hR2
  obtain ⟨ha, hb, hc, hd, he, hg⟩ := okL6 h
  have hW : W (g + R) = g + R := W_in (by omega) (by omega)
  have hmn : mnG 255 (W (g + R)) = min 255 (g + R) := by rw [hW, mnG_eq]
  have hk := decide_eq_true hk0
  have hR := decide_eq_true hR0
  have hck : (chk8 [a, b, c, d, e, g] != 0) = false := by unfold chk8; rw [if_pos h]; rfl
  have hme : (mke [a, b, c, d, e, g] != 0) = false := by unfold mke; rw [if_pos h]; rfl
  have ok2 : okL [a, b, c, d, e, mnG 255 (W (g + R))] = true := by
    rw [hmn]
    simp only [okL, List.all_cons, List.all_nil, Bool.and_true, Bool.and_eq_true, okV_iff]
    omega
  have ok3 : okL [0, 0, 0, 0, 0, g] = true := by
    simp only [okL, List.all_cons, List.all_nil, Bool.and_true, Bool.and_eq_true, okV_iff]
    omega
  have hme2 : (mke [a, b, c, d, e, mnG 255 (W (g + R))] != 0) = false := by unfold mke; rw [if_pos ok2]; rfl
  have hme3 : (mke [0, 0, 0, 0, 0, g] != 0) = false := by unfold mke; rw [if_pos ok3]; rfl
  have e1 : mkl [a, b, c, d, e, g] = maskC [a, b, c, d, e, g] := by unfold mkl; rw [if_pos h]
  have e2 : mkl [a, b, c, d, e, mnG 255 (W (g + R))] = maskC [a, b, c, d, e, mnG 255 (W (g + R))] := by unfold mkl; rw [if_pos ok2]
  have e3 : mkl [0, 0, 0, 0, 0, g] = maskC [0, 0, 0, 0, 0, g] := by unfold mkl; rw [if_pos ok3]
  have hn : ∀ i, i < 6 → decide ((maskC [a, b, c, d, e, mnG 255 (W (g + R))]).getD i 0 < (maskC [a, b, c, d, e, g]).getD i 0) = false := fun i hi => decide_eq_false (by
    rw [hmn]
    have := maskC_mono (a := a) (b := b) (c := c) (d := d) (e := e) (g := g) (a' := a) (b' := b) (c' := c) (d' := d) (e' := e) (g' := min 255 (g + R)) (by omega) (by omega) (by omega) (by omega) (by omega) (by omega) i hi
    omega)
  have ho : ∀ i, i < 6 → decide ((maskC [0, 0, 0, 0, 0, g]).getD i 0 > (maskC [a, b, c, d, e, g]).getD i 0) = false := fun i hi => decide_eq_false (by
    have := maskC_mono (a := 0) (b := 0) (c := 0) (d := 0) (e := 0) (g := g) (a' := a) (b' := b) (c' := c) (d' := d) (e' := e) (g' := g) (by omega) (by omega) (by omega) (by omega) (by omega) (by omega) i hi
    omega)
  have hz : ((maskC [0, 0, 0, 0, 0, g]).getD 5 0 != 0) = false := ne_false (by simp only [maskC, List.getD_cons_zero, List.getD_cons_succ]; omega)
  have hd0 : ((maskC [0, 0, 0, 0, 0, g]).getD 0 0 != mxG 0 (W (W (g - 60) - 8))) = false := ne_false (by
    rw [W_in (n := g - 60) (by omega) (by omega), W_in (by omega) (by omega), mxG_eq]
    simp only [maskC, List.getD_cons_zero, List.getD_cons_succ]; omega)
  have hd1 : ((maskC [0, 0, 0, 0, 0, g]).getD 1 0 != mxG 0 (W (W (g - 48) - 8))) = false := ne_false (by
    rw [W_in (n := g - 48) (by omega) (by omega), W_in (by omega) (by omega), mxG_eq]
    simp only [maskC, List.getD_cons_zero, List.getD_cons_succ]; omega)
  have hd2 : ((maskC [0, 0, 0, 0, 0, g]).getD 2 0 != mxG 0 (W (W (g - 36) - 8))) = false := ne_false (by
    rw [W_in (n := g - 36) (by omega) (by omega), W_in (by omega) (by omega), mxG_eq]
    simp only [maskC, List.getD_cons_zero, List.getD_cons_succ]; omega)
  have hd3 : ((maskC [0, 0, 0, 0, 0, g]).getD 3 0 != mxG 0 (W (W (g - 24) - 8))) = false := ne_false (by
    rw [W_in (n := g - 24) (by omega) (by omega), W_in (by omega) (by omega), mxG_eq]
    simp only [maskC, List.getD_cons_zero, List.getD_cons_succ]; omega)
  have hd4 : ((maskC [0, 0, 0, 0, 0, g]).getD 4 0 != mxG 0 (W (W (g - 12) - 8))) = false := ne_false (by
    rw [W_in (n := g - 12) (by omega) (by omega), W_in (by omega) (by omega), mxG_eq]
    simp only [maskC, List.getD_cons_zero, List.getD_cons_succ]; omega)
  refine pf_ok (nb_sound _ _ o8_sound) noLoops_ok (bm_run5 a b c d e g x mo R) ?_ rfl
  rw [e1, e2, e3]
  simp only [Holds, List.mem_cons, List.not_mem_nil, or_false, forall_eq_or_imp, forall_eq]
  exact ⟨ho 5 (by omega), hn 5 (by omega), hd4, ho 4 (by omega), hn 4 (by omega), hd3, ho 3 (by omega), hn 3 (by omega), hd2, ho 2 (by omega), hn 2 (by omega), hd1, ho 1 (by omega), hn 1 (by omega), hd0, ho 0 (by omega), hn 0 (by omega), hz, ne_false rfl, hme3, hme2, hme, hR, hck, hk⟩
theorem masks_call (l : List Int) (hl : l.length = 6) (x mo : Int) : CallOk Try.prog 21 [.agg (ints l).toArray, .int .i64 x, .int .i64 mo] [] (.bool true) [] 0 := by
  obtain ⟨a, b, c, d, e, g, rfl⟩ := six_ex l hl
  by_cases h : okL [a, b, c, d, e, g] = true
  · have h6 := rem_in x 6 (by omega) (by omega)
    have h7 : (W (x.tmod 6 + 6)).tmod 6 = 0 ∨ (W (x.tmod 6 + 6)).tmod 6 = 1 ∨ (W (x.tmod 6 + 6)).tmod 6 = 2 ∨ (W (x.tmod 6 + 6)).tmod 6 = 3 ∨ (W (x.tmod 6 + 6)).tmod 6 = 4 ∨ (W (x.tmod 6 + 6)).tmod 6 = 5 := by omega
    rcases h7 with h7 | h7 | h7 | h7 | h7 | h7
    · exact bm_case0 a b c d e g x mo h h7
    · exact bm_case1 a b c d e g x mo h h7
    · exact bm_case2 a b c d e g x mo h h7
    · exact bm_case3 a b c d e g x mo h h7
    · exact bm_case4 a b c d e g x mo h h7
    · exact bm_case5 a b c d e g x mo h h7
  · exact pf_ok (nb_sound _ _ o8_sound) noLoops_ok (bm_bad a b c d e g x mo _) (by
      simp only [Holds, List.mem_cons, List.not_mem_nil, or_false, forall_eq_or_imp, forall_eq]
      exact ⟨by unfold chk8; rw [if_neg h]; rfl, decide_eq_true rfl⟩) rfl
end Go.Proofs.Ytfbjpenbpbpcaaa

