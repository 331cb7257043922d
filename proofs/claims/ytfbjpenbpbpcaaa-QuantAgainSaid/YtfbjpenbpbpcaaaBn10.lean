/-
  Chapter 08: the law BandsFits as a call.
-/
import Derived.Test.YtfbjpenbpbpcaaaBn9
namespace Go.Proofs.Ytfbjpenbpbpcaaa
open Go Den
set_option maxRecDepth 100000
set_option linter.unusedSimpArgs false
set_option linter.unusedVariables false

def allF (l : List Nat) : List (Nat × Bool) := l.map fun t => (t, false)
theorem bf_bad (a b c d e g bu mo : Int) : (evFnL Try.prog ext 300 (nmPre noPre) (nbC [] [(22, true)] o8) noLoops [] 19 [.agg (ints [a, b, c, d, e, g]).toArray, .int .i64 bu, .int .i64 mo] []).map (fun r => (r.1.1, r.2)) =
  some (.bool true, [(chk8 [a, b, c, d, e, g] != 0, true)]) := by kernel_rfl
theorem bf_run1 (a b c d e g bu mo B M : Int) : (evFnL Try.prog ext 300 (nmPre noPre) (nbC [(27, B), (31, M)] ((135, true) :: allF [22, 57, 60, 64, 68, 74, 82, 90, 98, 107, 113, 127]) o8) noLoops [] 19 [.agg (ints [a, b, c, d, e, g]).toArray, .int .i64 bu, .int .i64 mo] []).map (fun r => (r.1.1, r.2)) =
  some (.bool true, [(decide (costG (L6 (shl [a, b, c, d, e, g] 112)) > B), true), (((shl [a, b, c, d, e, g] 112).getD 5 0 == 0) != decide (g ≤ (mkl [a, b, c, d, e, g]).getD 5 0), false), (decide ((shl [a, b, c, d, e, g] 112).getD 5 0 > 7), false), (decide ((shl [a, b, c, d, e, g] (W (B + M))).getD 5 0 > (shl [a, b, c, d, e, g] 112).getD 5 0), false), (decide ((shl [a, b, c, d, e, g] B).getD 5 0 > (shl [a, b, c, d, e, g] (W (B + M))).getD 5 0), false), (decide ((shl [a, b, c, d, e, g] B).getD 5 0 < 0), false), (((shl [a, b, c, d, e, g] 112).getD 4 0 == 0) != decide (e ≤ (mkl [a, b, c, d, e, g]).getD 4 0), false), (decide ((shl [a, b, c, d, e, g] 112).getD 4 0 > 7), false), (decide ((shl [a, b, c, d, e, g] (W (B + M))).getD 4 0 > (shl [a, b, c, d, e, g] 112).getD 4 0), false), (decide ((shl [a, b, c, d, e, g] B).getD 4 0 > (shl [a, b, c, d, e, g] (W (B + M))).getD 4 0), false), (decide ((shl [a, b, c, d, e, g] B).getD 4 0 < 0), false), (((shl [a, b, c, d, e, g] 112).getD 3 0 == 0) != decide (d ≤ (mkl [a, b, c, d, e, g]).getD 3 0), false), (decide ((shl [a, b, c, d, e, g] 112).getD 3 0 > 7), false), (decide ((shl [a, b, c, d, e, g] (W (B + M))).getD 3 0 > (shl [a, b, c, d, e, g] 112).getD 3 0), false), (decide ((shl [a, b, c, d, e, g] B).getD 3 0 > (shl [a, b, c, d, e, g] (W (B + M))).getD 3 0), false), (decide ((shl [a, b, c, d, e, g] B).getD 3 0 < 0), false), (((shl [a, b, c, d, e, g] 112).getD 2 0 == 0) != decide (c ≤ (mkl [a, b, c, d, e, g]).getD 2 0), false), (decide ((shl [a, b, c, d, e, g] 112).getD 2 0 > 7), false), (decide ((shl [a, b, c, d, e, g] (W (B + M))).getD 2 0 > (shl [a, b, c, d, e, g] 112).getD 2 0), false), (decide ((shl [a, b, c, d, e, g] B).getD 2 0 > (shl [a, b, c, d, e, g] (W (B + M))).getD 2 0), false), (decide ((shl [a, b, c, d, e, g] B).getD 2 0 < 0), false), (((shl [a, b, c, d, e, g] 112).getD 1 0 == 0) != decide (b ≤ (mkl [a, b, c, d, e, g]).getD 1 0), false), (decide ((shl [a, b, c, d, e, g] 112).getD 1 0 > 7), false), (decide ((shl [a, b, c, d, e, g] (W (B + M))).getD 1 0 > (shl [a, b, c, d, e, g] 112).getD 1 0), false), (decide ((shl [a, b, c, d, e, g] B).getD 1 0 > (shl [a, b, c, d, e, g] (W (B + M))).getD 1 0), false), (decide ((shl [a, b, c, d, e, g] B).getD 1 0 < 0), false), (((shl [a, b, c, d, e, g] 112).getD 0 0 == 0) != decide (a ≤ (mkl [a, b, c, d, e, g]).getD 0 0), false), (decide ((shl [a, b, c, d, e, g] 112).getD 0 0 > 7), false), (decide ((shl [a, b, c, d, e, g] (W (B + M))).getD 0 0 > (shl [a, b, c, d, e, g] 112).getD 0 0), false), (decide ((shl [a, b, c, d, e, g] B).getD 0 0 > (shl [a, b, c, d, e, g] (W (B + M))).getD 0 0), false), (decide ((shl [a, b, c, d, e, g] B).getD 0 0 < 0), false), (decide (costG (L6 (shl [a, b, c, d, e, g] (W (B + M)))) > W (B + M)), false), (decide (costG (L6 (shl [a, b, c, d, e, g] B)) > B), false), (she [a, b, c, d, e, g] 112 != 0, false), (she [a, b, c, d, e, g] (W (B + M)) != 0, false), (she [a, b, c, d, e, g] B != 0, false), (mke [a, b, c, d, e, g] != 0, false), (decide ((W (mo.tmod 200 + 200)).tmod 200 = M), true), (decide ((W (bu.tmod 200 + 200)).tmod 200 = B), true), (chk8 [a, b, c, d, e, g] != 0, false)]) := by kernel_rfl
theorem bf_run2 (a b c d e g bu mo B M : Int) : (evFnL Try.prog ext 300 (nmPre noPre) (nbC [(27, B), (31, M)] ((139, true) :: (135, false) :: allF [22, 57, 60, 64, 68, 74, 82, 90, 98, 107, 113, 127]) o8) noLoops [] 19 [.agg (ints [a, b, c, d, e, g]).toArray, .int .i64 bu, .int .i64 mo] []).map (fun r => (r.1.1, r.2)) =
  some (.bool true, [(decide (L6 (shl [a, b, c, d, e, g] B) = L6 (shl [a, b, c, d, e, g] 112)), true), (decide (costG (L6 (shl [a, b, c, d, e, g] 112)) > B), false), (((shl [a, b, c, d, e, g] 112).getD 5 0 == 0) != decide (g ≤ (mkl [a, b, c, d, e, g]).getD 5 0), false), (decide ((shl [a, b, c, d, e, g] 112).getD 5 0 > 7), false), (decide ((shl [a, b, c, d, e, g] (W (B + M))).getD 5 0 > (shl [a, b, c, d, e, g] 112).getD 5 0), false), (decide ((shl [a, b, c, d, e, g] B).getD 5 0 > (shl [a, b, c, d, e, g] (W (B + M))).getD 5 0), false), (decide ((shl [a, b, c, d, e, g] B).getD 5 0 < 0), false), (((shl [a, b, c, d, e, g] 112).getD 4 0 == 0) != decide (e ≤ (mkl [a, b, c, d, e, g]).getD 4 0), false), (decide ((shl [a, b, c, d, e, g] 112).getD 4 0 > 7), false), (decide ((shl [a, b, c, d, e, g] (W (B + M))).getD 4 0 > (shl [a, b, c, d, e, g] 112).getD 4 0), false), (decide ((shl [a, b, c, d, e, g] B).getD 4 0 > (shl [a, b, c, d, e, g] (W (B + M))).getD 4 0), false), (decide ((shl [a, b, c, d, e, g] B).getD 4 0 < 0), false), (((shl [a, b, c, d, e, g] 112).getD 3 0 == 0) != decide (d ≤ (mkl [a, b, c, d, e, g]).getD 3 0), false), (decide ((shl [a, b, c, d, e, g] 112).getD 3 0 > 7), false), (decide ((shl [a, b, c, d, e, g] (W (B + M))).getD 3 0 > (shl [a, b, c, d, e, g] 112).getD 3 0), false), (decide ((shl [a, b, c, d, e, g] B).getD 3 0 > (shl [a, b, c, d, e, g] (W (B + M))).getD 3 0), false), (decide ((shl [a, b, c, d, e, g] B).getD 3 0 < 0), false), (((shl [a, b, c, d, e, g] 112).getD 2 0 == 0) != decide (c ≤ (mkl [a, b, c, d, e, g]).getD 2 0), false), (decide ((shl [a, b, c, d, e, g] 112).getD 2 0 > 7), false), (decide ((shl [a, b, c, d, e, g] (W (B + M))).getD 2 0 > (shl [a, b, c, d, e, g] 112).getD 2 0), false), (decide ((shl [a, b, c, d, e, g] B).getD 2 0 > (shl [a, b, c, d, e, g] (W (B + M))).getD 2 0), false), (decide ((shl [a, b, c, d, e, g] B).getD 2 0 < 0), false), (((shl [a, b, c, d, e, g] 112).getD 1 0 == 0) != decide (b ≤ (mkl [a, b, c, d, e, g]).getD 1 0), false), (decide ((shl [a, b, c, d, e, g] 112).getD 1 0 > 7), false), (decide ((shl [a, b, c, d, e, g] (W (B + M))).getD 1 0 > (shl [a, b, c, d, e, g] 112).getD 1 0), false), (decide ((shl [a, b, c, d, e, g] B).getD 1 0 > (shl [a, b, c, d, e, g] (W (B + M))).getD 1 0), false), (decide ((shl [a, b, c, d, e, g] B).getD 1 0 < 0), false), (((shl [a, b, c, d, e, g] 112).getD 0 0 == 0) != decide (a ≤ (mkl [a, b, c, d, e, g]).getD 0 0), false), (decide ((shl [a, b, c, d, e, g] 112).getD 0 0 > 7), false), (decide ((shl [a, b, c, d, e, g] (W (B + M))).getD 0 0 > (shl [a, b, c, d, e, g] 112).getD 0 0), false), (decide ((shl [a, b, c, d, e, g] B).getD 0 0 > (shl [a, b, c, d, e, g] (W (B + M))).getD 0 0), false), (decide ((shl [a, b, c, d, e, g] B).getD 0 0 < 0), false), (decide (costG (L6 (shl [a, b, c, d, e, g] (W (B + M)))) > W (B + M)), false), (decide (costG (L6 (shl [a, b, c, d, e, g] B)) > B), false), (she [a, b, c, d, e, g] 112 != 0, false), (she [a, b, c, d, e, g] (W (B + M)) != 0, false), (she [a, b, c, d, e, g] B != 0, false), (mke [a, b, c, d, e, g] != 0, false), (decide ((W (mo.tmod 200 + 200)).tmod 200 = M), true), (decide ((W (bu.tmod 200 + 200)).tmod 200 = B), true), (chk8 [a, b, c, d, e, g] != 0, false)]) := by kernel_rfl

/-! ### what shares keep -/
theorem mA_max {A : List Int} : ∀ (i : Nat), i < 6 → A.getD i 0 ≤ A.getD (mA A 6) 0 := by
  have key : ∀ n, ∀ i, i < n → A.getD i 0 ≤ A.getD (mA A n) 0 := by
    intro n
    induction n with
    | zero => intro i hi; omega
    | succ n ih =>
      intro i hi
      simp only [mA]
      split
      · rename_i h
        by_cases hin : i = n
        · subst hin; exact Int.le_refl _
        · exact Int.le_trans (ih i (by omega)) h
      · rename_i h
        by_cases hin : i = n
        · subst hin; omega
        · exact ih i (by omega)
  exact key 6
theorem decA_ok {A : List Int} {b : Int} (h : okA A) (hb : 0 ≤ b) (hc : costG A > b) : okA (decA A) ∧ ∀ i, i < 6 → (decA A).getD i 0 ≤ A.getD i 0 := by
  have hm := mA_lt A 6 (Nat.le_refl _)
  have hk := h.2 _ hm
  have hpos : 1 ≤ A.getD (mA A 6) 0 := by
    rw [costG_eq h] at hc
    have m0 := mA_max (A := A) 0 (by omega)
    have m1 := mA_max (A := A) 1 (by omega)
    have m2 := mA_max (A := A) 2 (by omega)
    have m3 := mA_max (A := A) 3 (by omega)
    have m4 := mA_max (A := A) 4 (by omega)
    have m5 := mA_max (A := A) 5 (by omega)
    unfold costC at hc
    omega
  have e : W (A.getD (mA A 6) 0 - 1) = A.getD (mA A 6) 0 - 1 := W_in (by omega) (by omega)
  have hg : ∀ i, (decA A).getD i 0 = if i = mA A 6 then A.getD (mA A 6) 0 - 1 else A.getD i 0 := fun i => by
    unfold decA
    rw [getD_set6 h.1 hm, e]
  refine ⟨⟨decA_len h.1, fun i hi => ?_⟩, fun i hi => ?_⟩
  · rw [hg]
    have := h.2 i hi
    split
    · omega
    · exact this
  · rw [hg]
    split
    · rename_i he; subst he; omega
    · exact Int.le_refl _
theorem refCut_le {b : Int} (hb : 0 ≤ b) : ∀ (n : Nat) (A : List Int), okA A → okA (refCut b n A) ∧ ∀ i, i < 6 → (refCut b n A).getD i 0 ≤ A.getD i 0 := by
  intro n
  induction n with
  | zero => intro A h; exact ⟨h, fun _ _ => Int.le_refl _⟩
  | succ n ih =>
    intro A h
    simp only [refCut]
    split
    · rename_i hc
      obtain ⟨h1, h2⟩ := decA_ok h hb hc
      obtain ⟨h3, h4⟩ := ih _ h1
      exact ⟨h3, fun i hi => Int.le_trans (h4 i hi) (h2 i hi)⟩
    · exact ⟨h, fun _ _ => Int.le_refl _⟩
theorem refCut_mono {b b' : Int} (hb : 0 ≤ b) (hbb : b ≤ b') : ∀ (n : Nat) (A : List Int), okA A → ∀ i, i < 6 → (refCut b n A).getD i 0 ≤ (refCut b' n A).getD i 0 := by
  intro n
  induction n with
  | zero => intro A h i _; exact Int.le_refl _
  | succ n ih =>
    intro A h i hi
    simp only [refCut]
    by_cases hc : costG A > b
    · rw [if_pos hc]
      obtain ⟨h1, h2⟩ := decA_ok h hb hc
      by_cases hc' : costG A > b'
      · rw [if_pos hc']
        exact ih _ h1 i hi
      · rw [if_neg hc']
        exact Int.le_trans ((refCut_le hb n _ h1).2 i hi) (h2 i hi)
    · rw [if_neg hc, if_neg (by omega)]
      exact Int.le_refl _
theorem base_cost {l : List Int} (hm : l.length = 6) (h : okL l = true) : costG (baseC l (maskC l)) ≤ 112 := by
  have hb := base_ok hm h
  rw [costG_eq hb]
  have h0 := hb.2 0 (by omega)
  have h1 := hb.2 1 (by omega)
  have h2 := hb.2 2 (by omega)
  have h3 := hb.2 3 (by omega)
  have h4 := hb.2 4 (by omega)
  have h5 := hb.2 5 (by omega)
  unfold costC
  omega
theorem share_all {l : List Int} (hm : l.length = 6) (h : okL l = true) {b : Int} (hc : costG (baseC l (maskC l)) ≤ b) : shareC l b = baseC l (maskC l) := by
  unfold shareC
  simp only [refCut]
  rw [if_neg (by omega)]

theorem rem_in (x : Int) (k : Int) (hk : 0 < k) (hk2 : k ≤ 1000000) : 0 ≤ (W (x.tmod k + k)).tmod k ∧ (W (x.tmod k + k)).tmod k < k := by
  have h1 := Int.tmod_lt_of_pos x hk
  have h2 : -k < x.tmod k := by
    have := Int.lt_tmod_of_pos x hk
    exact this
  rw [W_in (by omega) (by omega)]
  exact ⟨Int.tmod_nonneg _ (by omega), Int.tmod_lt_of_pos _ hk⟩

theorem fits_call (l : List Int) (hl : l.length = 6) (bu mo : Int) : CallOk Try.prog 19 [.agg (ints l).toArray, .int .i64 bu, .int .i64 mo] [] (.bool true) [] 0 := by
  by_cases h : okL l = true
  case neg =>
    obtain ⟨a, b, c, d, e, g, rfl⟩ := six_ex l hl
    exact pf_ok (nb_sound [] [(22, true)] o8_sound) noLoops_ok (bf_bad a b c d e g bu mo) (by simp only [Holds, List.mem_singleton, forall_eq]; unfold chk8; rw [if_neg h]; rfl) rfl
  obtain ⟨B, hB⟩ : ∃ B, (W (bu.tmod 200 + 200)).tmod 200 = B := ⟨_, rfl⟩
  obtain ⟨M, hM⟩ : ∃ M, (W (mo.tmod 200 + 200)).tmod 200 = M := ⟨_, rfl⟩
  have hB2 := rem_in bu 200 (by omega) (by omega)
  have hM2 := rem_in mo 200 (by omega) (by omega)
  rw [hB] at hB2
  rw [hM] at hM2
  have hW : W (B + M) = B + M := W_in (by omega) (by omega)
  have hs : ∀ b, 0 ≤ b → shl l b = shareC l b := fun b hb => by unfold shl; rw [if_pos ⟨h, hb⟩]
  have hse : ∀ b, 0 ≤ b → (she l b != 0) = false := fun b hb => by unfold she; rw [if_pos ⟨h, hb⟩]; rfl
  have hbase := base_ok hl h
  have hcost : ∀ b, 0 ≤ b → decide (costG (L6 (shl l b)) > b) = false := fun b hb => by
    rw [hs b hb, L6_eq (shareC_len l b)]
    exact decide_eq_false (share_eqs hl h hb).2.2
  have hall : shl l 112 = baseC l (maskC l) := by rw [hs 112 (by omega)]; exact share_all hl h (base_cost hl h)
  have q1 : ∀ i, i < 6 → decide ((shl l B).getD i 0 < 0) = false := fun i hi => decide_eq_false (by
    rw [hs B hB2.1]
    have := (refCut_le hB2.1 42 _ hbase).1.2 i hi
    unfold shareC; omega)
  have q2 : ∀ i, i < 6 → decide ((shl l B).getD i 0 > (shl l (W (B + M))).getD i 0) = false := fun i hi => decide_eq_false (by
    rw [hW, hs B hB2.1, hs (B + M) (by omega)]
    have := refCut_mono hB2.1 (show B ≤ B + M by omega) 42 _ hbase i hi
    unfold shareC; omega)
  have q3 : ∀ i, i < 6 → decide ((shl l (W (B + M))).getD i 0 > (shl l 112).getD i 0) = false := fun i hi => decide_eq_false (by
    rw [hW, hall, hs (B + M) (by omega)]
    have := (refCut_le (show 0 ≤ B + M by omega) 42 _ hbase).2 i hi
    unfold shareC; omega)
  have q4 : ∀ i, i < 6 → decide ((shl l 112).getD i 0 > 7) = false := fun i hi => decide_eq_false (by
    rw [hall]
    have := hbase.2 i hi
    omega)
  have hmk : mkl l = maskC l := by unfold mkl; rw [if_pos h]
  have q5 : ∀ i, i < 6 → (((shl l 112).getD i 0 == 0) != decide (l.getD i 0 ≤ (mkl l).getD i 0)) = false := fun i hi => by
    rw [hall, hmk]
    have e : (baseC l (maskC l)).getD i 0 = wantC (l.getD i 0) ((maskC l).getD i 0) := by
      match i, hi with
      | 0, _ | 1, _ | 2, _ | 3, _ | 4, _ | 5, _ => rfl
    rw [e]
    have h1 := okL_get hl h i hi
    have h2 := mask_get hl h i hi
    unfold wantC
    by_cases hc : l.getD i 0 ≤ (maskC l).getD i 0
    · rw [if_pos hc, decide_eq_true hc]; rfl
    · rw [if_neg hc, decide_eq_false hc]
      have : min ((l.getD i 0 - (maskC l).getD i 0 + 7) / 8) 7 ≠ 0 := by omega
      rw [beq_eq_false_iff_ne.2 this]; rfl
  have hck : (chk8 l != 0) = false := by unfold chk8; rw [if_pos h]; rfl
  have hmke : (mke l != 0) = false := by unfold mke; rw [if_pos h]; rfl
  by_cases hc : costG (L6 (shl l 112)) > B
  · obtain ⟨a, b, c, d, e, g, rfl⟩ := six_ex l hl
    refine pf_ok (nb_sound _ _ o8_sound) noLoops_ok (bf_run1 a b c d e g bu mo B M) ?_ rfl
    simp only [Holds, List.mem_cons, List.not_mem_nil, or_false, forall_eq_or_imp, forall_eq]
    exact ⟨decide_eq_true hc, q5 5 (by omega), q4 5 (by omega), q3 5 (by omega), q2 5 (by omega), q1 5 (by omega), q5 4 (by omega), q4 4 (by omega), q3 4 (by omega), q2 4 (by omega), q1 4 (by omega), q5 3 (by omega), q4 3 (by omega), q3 3 (by omega), q2 3 (by omega), q1 3 (by omega),
      q5 2 (by omega), q4 2 (by omega), q3 2 (by omega), q2 2 (by omega), q1 2 (by omega), q5 1 (by omega), q4 1 (by omega), q3 1 (by omega), q2 1 (by omega), q1 1 (by omega), q5 0 (by omega), q4 0 (by omega), q3 0 (by omega), q2 0 (by omega), q1 0 (by omega),
      by rw [hW]; exact hcost (B + M) (by omega), hcost B hB2.1, hse 112 (by omega), by rw [hW]; exact hse (B + M) (by omega), hse B hB2.1, hmke, decide_eq_true hM, decide_eq_true hB, hck⟩
  · have heq : L6 (shl l B) = L6 (shl l 112) := by
      rw [hall, L6_eq hbase.1] at hc
      rw [hs B hB2.1, hall, share_all hl h (by omega)]
    obtain ⟨a, b, c, d, e, g, rfl⟩ := six_ex l hl
    refine pf_ok (nb_sound _ _ o8_sound) noLoops_ok (bf_run2 a b c d e g bu mo B M) ?_ rfl
    simp only [Holds, List.mem_cons, List.not_mem_nil, or_false, forall_eq_or_imp, forall_eq]
    exact ⟨decide_eq_true heq, decide_eq_false hc, q5 5 (by omega), q4 5 (by omega), q3 5 (by omega), q2 5 (by omega), q1 5 (by omega), q5 4 (by omega), q4 4 (by omega), q3 4 (by omega), q2 4 (by omega), q1 4 (by omega), q5 3 (by omega), q4 3 (by omega), q3 3 (by omega), q2 3 (by omega), q1 3 (by omega),
      q5 2 (by omega), q4 2 (by omega), q3 2 (by omega), q2 2 (by omega), q1 2 (by omega), q5 1 (by omega), q4 1 (by omega), q3 1 (by omega), q2 1 (by omega), q1 1 (by omega), q5 0 (by omega), q4 0 (by omega), q3 0 (by omega), q2 0 (by omega), q1 0 (by omega),
      by rw [hW]; exact hcost (B + M) (by omega), hcost B hB2.1, hse 112 (by omega), by rw [hW]; exact hse (B + M) (by omega), hse B hB2.1, hmke, decide_eq_true hM, decide_eq_true hB, hck⟩
end Go.Proofs.Ytfbjpenbpbpcaaa

