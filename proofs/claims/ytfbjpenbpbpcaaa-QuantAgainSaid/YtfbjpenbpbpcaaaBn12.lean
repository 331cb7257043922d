/-
  Chapter 08: the law BandsLevels as a call.
-/
import Derived.Test.YtfbjpenbpbpcaaaBn11
import Derived.Test.YtfbjpenbpbpcaaaZM
namespace Go.Proofs.Ytfbjpenbpbpcaaa
open Go Den
set_option maxRecDepth 100000
set_option linter.unusedSimpArgs false
set_option linter.unusedVariables false

/-! ### the loops -/
def b24 (x : Int) : Bool := !decide (x > 16777216) && !decide (x < -16777216)
def l1F (x mo : Int) (xs : List Int) (i : Nat) : Slots := [(1, .int .i64 x), (2, .int .i64 mo), (3, ptI 0), (6, .bool false), (7, .bool true), (26, .agg (ints xs).toArray), (27, .int .i64 i)]
theorem l1_good (x0 x1 x2 x3 x4 x5 x6 x7 x8 x9 x10 x11 x12 x13 x14 x15 x mo : Int) : (List.range' 0 16).map (fun (i : Nat) => evL Try.prog ext (nmPre noPre) (nbC [] [(31, false), (34, false)] noC) noLoops 300 163 (loopAt Try.prog 20 0) (l1F x mo [x0, x1, x2, x3, x4, x5, x6, x7, x8, x9, x10, x11, x12, x13, x14, x15] i) [blkI [x0, x1, x2, x3, x4, x5, x6, x7, x8, x9, x10, x11, x12, x13, x14, x15]] 0 [] [1, 2, 3, 6, 7, 26, 27]) =
  (List.range' 0 16).map fun (i : Nat) => some (.normal, l1F x mo [x0, x1, x2, x3, x4, x5, x6, x7, x8, x9, x10, x11, x12, x13, x14, x15] (i + 1), [blkI [x0, x1, x2, x3, x4, x5, x6, x7, x8, x9, x10, x11, x12, x13, x14, x15]], 0, [(decide ([x0, x1, x2, x3, x4, x5, x6, x7, x8, x9, x10, x11, x12, x13, x14, x15].getD i 0 < -16777216), false), (decide ([x0, x1, x2, x3, x4, x5, x6, x7, x8, x9, x10, x11, x12, x13, x14, x15].getD i 0 > 16777216), false)]) := by kernel_rfl
theorem l1_bad0 (x0 x1 x2 x3 x4 x5 x6 x7 x8 x9 x10 x11 x12 x13 x14 x15 x mo : Int) : (List.range' 0 16).map (fun (i : Nat) => evL Try.prog ext (nmPre noPre) (nbC [] [(31, true)] noC) noLoops 300 163 (loopAt Try.prog 20 0) (l1F x mo [x0, x1, x2, x3, x4, x5, x6, x7, x8, x9, x10, x11, x12, x13, x14, x15] i) [blkI [x0, x1, x2, x3, x4, x5, x6, x7, x8, x9, x10, x11, x12, x13, x14, x15]] 0 [] [6]) =
  (List.range' 0 16).map fun (i : Nat) => some (.ret, [(6, .bool true)], [blkI [x0, x1, x2, x3, x4, x5, x6, x7, x8, x9, x10, x11, x12, x13, x14, x15]], 0, [(decide ([x0, x1, x2, x3, x4, x5, x6, x7, x8, x9, x10, x11, x12, x13, x14, x15].getD i 0 > 16777216), true)]) := by kernel_rfl
theorem l1_bad1 (x0 x1 x2 x3 x4 x5 x6 x7 x8 x9 x10 x11 x12 x13 x14 x15 x mo : Int) : (List.range' 0 16).map (fun (i : Nat) => evL Try.prog ext (nmPre noPre) (nbC [] [(31, false), (34, true)] noC) noLoops 300 163 (loopAt Try.prog 20 0) (l1F x mo [x0, x1, x2, x3, x4, x5, x6, x7, x8, x9, x10, x11, x12, x13, x14, x15] i) [blkI [x0, x1, x2, x3, x4, x5, x6, x7, x8, x9, x10, x11, x12, x13, x14, x15]] 0 [] [6]) =
  (List.range' 0 16).map fun (i : Nat) => some (.ret, [(6, .bool true)], [blkI [x0, x1, x2, x3, x4, x5, x6, x7, x8, x9, x10, x11, x12, x13, x14, x15]], 0, [(decide ([x0, x1, x2, x3, x4, x5, x6, x7, x8, x9, x10, x11, x12, x13, x14, x15].getD i 0 < -16777216), true), (decide ([x0, x1, x2, x3, x4, x5, x6, x7, x8, x9, x10, x11, x12, x13, x14, x15].getD i 0 > 16777216), false)]) := by kernel_rfl
theorem l1_end (x0 x1 x2 x3 x4 x5 x6 x7 x8 x9 x10 x11 x12 x13 x14 x15 x mo : Int) : evL Try.prog ext noPre noC noLoops 300 163 (loopAt Try.prog 20 0) (l1F x mo [x0, x1, x2, x3, x4, x5, x6, x7, x8, x9, x10, x11, x12, x13, x14, x15] 16) [blkI [x0, x1, x2, x3, x4, x5, x6, x7, x8, x9, x10, x11, x12, x13, x14, x15]] 0 [] [1, 2, 3, 7] = some (.exit 0, [(1, .int .i64 x), (2, .int .i64 mo), (3, ptI 0), (7, .bool true)], [blkI [x0, x1, x2, x3, x4, x5, x6, x7, x8, x9, x10, x11, x12, x13, x14, x15]], 0, []) := by kernel_rfl
theorem l1_code : codeOk (loopAt Try.prog 20 0) = true := by kernel_rfl
theorem l1_step (x0 x1 x2 x3 x4 x5 x6 x7 x8 x9 x10 x11 x12 x13 x14 x15 x mo : Int) (i : Nat) (hi : i < 16) (h : b24 ([x0, x1, x2, x3, x4, x5, x6, x7, x8, x9, x10, x11, x12, x13, x14, x15].getD i 0) = true) : WP Try.prog 163 (loopAt Try.prog 20 0) ⟨l1F x mo [x0, x1, x2, x3, x4, x5, x6, x7, x8, x9, x10, x11, x12, x13, x14, x15] i, [blkI [x0, x1, x2, x3, x4, x5, x6, x7, x8, x9, x10, x11, x12, x13, x14, x15]], 0⟩ .normal ⟨l1F x mo [x0, x1, x2, x3, x4, x5, x6, x7, x8, x9, x10, x11, x12, x13, x14, x15] (i + 1), [blkI [x0, x1, x2, x3, x4, x5, x6, x7, x8, x9, x10, x11, x12, x13, x14, x15]], 0⟩ := by
  refine WP.run progOk extSound (nb_sound _ _ noC_sound) l1_code noLoops_ok _ (of_list (l1_good x0 x1 x2 x3 x4 x5 x6 x7 x8 x9 x10 x11 x12 x13 x14 x15 x mo) (by omega) (by omega)) ?_
  simp only [Holds, List.mem_cons, List.not_mem_nil, or_false, forall_eq_or_imp, forall_eq]
  simp only [b24, Bool.and_eq_true, Bool.not_eq_true'] at h
  exact ⟨h.2, h.1⟩
theorem l1_all (x0 x1 x2 x3 x4 x5 x6 x7 x8 x9 x10 x11 x12 x13 x14 x15 x mo : Int) (h : [x0, x1, x2, x3, x4, x5, x6, x7, x8, x9, x10, x11, x12, x13, x14, x15].all b24 = true) : WP Try.prog 163 (.loop (loopAt Try.prog 20 0)) ⟨l1F x mo [x0, x1, x2, x3, x4, x5, x6, x7, x8, x9, x10, x11, x12, x13, x14, x15] 0, [blkI [x0, x1, x2, x3, x4, x5, x6, x7, x8, x9, x10, x11, x12, x13, x14, x15]], 0⟩ (.exit 0) ⟨[(1, .int .i64 x), (2, .int .i64 mo), (3, ptI 0), (7, .bool true)], [blkI [x0, x1, x2, x3, x4, x5, x6, x7, x8, x9, x10, x11, x12, x13, x14, x15]], 0⟩ :=
  WP.loop (fun i => ⟨l1F x mo [x0, x1, x2, x3, x4, x5, x6, x7, x8, x9, x10, x11, x12, x13, x14, x15] i, [blkI [x0, x1, x2, x3, x4, x5, x6, x7, x8, x9, x10, x11, x12, x13, x14, x15]], 0⟩) 16 (by simp) (fun i hi => l1_step x0 x1 x2 x3 x4 x5 x6 x7 x8 x9 x10 x11 x12 x13 x14 x15 x mo i hi (all_getD h hi)) (WP.run progOk extSound noC_sound l1_code noLoops_ok _ (l1_end x0 x1 x2 x3 x4 x5 x6 x7 x8 x9 x10 x11 x12 x13 x14 x15 x mo) (by simp [Holds]))
theorem l1_some (x0 x1 x2 x3 x4 x5 x6 x7 x8 x9 x10 x11 x12 x13 x14 x15 x mo : Int) (h : [x0, x1, x2, x3, x4, x5, x6, x7, x8, x9, x10, x11, x12, x13, x14, x15].all b24 = false) : WP Try.prog 163 (.loop (loopAt Try.prog 20 0)) ⟨l1F x mo [x0, x1, x2, x3, x4, x5, x6, x7, x8, x9, x10, x11, x12, x13, x14, x15] 0, [blkI [x0, x1, x2, x3, x4, x5, x6, x7, x8, x9, x10, x11, x12, x13, x14, x15]], 0⟩ .ret ⟨[(6, .bool true)], [blkI [x0, x1, x2, x3, x4, x5, x6, x7, x8, x9, x10, x11, x12, x13, x14, x15]], 0⟩ := by
  obtain ⟨i, hi, hg, hj⟩ := first_bad _ _ h
  have hi' : i < 16 := hi
  refine WP.loop (fun i => ⟨l1F x mo [x0, x1, x2, x3, x4, x5, x6, x7, x8, x9, x10, x11, x12, x13, x14, x15] i, [blkI [x0, x1, x2, x3, x4, x5, x6, x7, x8, x9, x10, x11, x12, x13, x14, x15]], 0⟩) i (by simp) (fun j hj' => l1_step x0 x1 x2 x3 x4 x5 x6 x7 x8 x9 x10 x11 x12 x13 x14 x15 x mo j (by omega) (hj j hj')) ?_
  by_cases hc : [x0, x1, x2, x3, x4, x5, x6, x7, x8, x9, x10, x11, x12, x13, x14, x15].getD i 0 > 16777216
  · exact WP.run progOk extSound (nb_sound _ _ noC_sound) l1_code noLoops_ok _ (of_list (l1_bad0 x0 x1 x2 x3 x4 x5 x6 x7 x8 x9 x10 x11 x12 x13 x14 x15 x mo) (by omega) (by omega)) (by simp only [Holds, List.mem_singleton, forall_eq]; exact decide_eq_true hc)
  · refine WP.run progOk extSound (nb_sound _ _ noC_sound) l1_code noLoops_ok _ (of_list (l1_bad1 x0 x1 x2 x3 x4 x5 x6 x7 x8 x9 x10 x11 x12 x13 x14 x15 x mo) (by omega) (by omega)) ?_
    simp only [Holds, List.mem_cons, List.not_mem_nil, or_false, forall_eq_or_imp, forall_eq]
    refine ⟨?_, decide_eq_false hc⟩
    simp only [b24, decide_eq_false hc, Bool.not_false, Bool.true_and, Bool.not_eq_false'] at hg
    exact hg

def l3F (x mo : Int) (b : Nat) : Slots := [(1, .int .i64 x), (2, .int .i64 mo), (3, ptI 0), (7, .bool true), (10, ptI 1), (12, ptI 2), (14, ptI 3), (62, .int .i64 b)]
def l3H (xs l tw m : List Int) : Heap := [blkI xs, blkI l, blkI tw, blkI m]
theorem l3_z (x0 x1 x2 x3 x4 x5 x6 x7 x8 x9 x10 x11 x12 x13 x14 x15 a b c d e g m0 m1 m2 m3 m4 m5 x mo : Int) (T : List Int) : (List.range' 0 6).map (fun (k : Nat) => evL Try.prog ext (nmPre noPre) (nbC [] [(68, true), (73, false), (79, false)] noC) noLoops 300 163 (loopAt Try.prog 20 2) (l3F x mo k) (l3H [x0, x1, x2, x3, x4, x5, x6, x7, x8, x9, x10, x11, x12, x13, x14, x15] [a, b, c, d, e, g] T [m0, m1, m2, m3, m4, m5]) 0 [] [1, 2, 3, 7, 10, 12, 14, 62]) =
  (List.range' 0 6).map fun (k : Nat) => some (.normal, l3F x mo (k + 1), l3H [x0, x1, x2, x3, x4, x5, x6, x7, x8, x9, x10, x11, x12, x13, x14, x15] [a, b, c, d, e, g] T [m0, m1, m2, m3, m4, m5], 0, [(decide ([a, b, c, d, e, g].getD k 0 > 0), false), ([m0, m1, m2, m3, m4, m5].getD k 0 != 0, false), ([a, b, c, d, e, g].getD k 0 == 0, true)]) := by kernel_rfl
theorem l3_p (x0 x1 x2 x3 x4 x5 x6 x7 x8 x9 x10 x11 x12 x13 x14 x15 a b c d e g m0 m1 m2 m3 m4 m5 x mo : Int) (T : List Int) : (List.range' 0 6).map (fun (k : Nat) => evL Try.prog ext (nmPre noPre) (nbC [] [(68, false), (79, true), (88, false)] noC) noLoops 300 163 (loopAt Try.prog 20 2) (l3F x mo k) (l3H [x0, x1, x2, x3, x4, x5, x6, x7, x8, x9, x10, x11, x12, x13, x14, x15] [a, b, c, d, e, g] T [m0, m1, m2, m3, m4, m5]) 0 [] [1, 2, 3, 7, 10, 12, 14, 62]) =
  (List.range' 0 6).map fun (k : Nat) => some (.normal, l3F x mo (k + 1), l3H [x0, x1, x2, x3, x4, x5, x6, x7, x8, x9, x10, x11, x12, x13, x14, x15] [a, b, c, d, e, g] T [m0, m1, m2, m3, m4, m5], 0, [([m0, m1, m2, m3, m4, m5].getD k 0 != W ([a, b, c, d, e, g].getD k 0 + 8), false), (decide ([a, b, c, d, e, g].getD k 0 > 0), true), ([a, b, c, d, e, g].getD k 0 == 0, false)]) := by kernel_rfl
theorem l3_e (x0 x1 x2 x3 x4 x5 x6 x7 x8 x9 x10 x11 x12 x13 x14 x15 a b c d e g m0 m1 m2 m3 m4 m5 x mo : Int) (T : List Int) : evL Try.prog ext noPre noC noLoops 300 163 (loopAt Try.prog 20 2) (l3F x mo 6) (l3H [x0, x1, x2, x3, x4, x5, x6, x7, x8, x9, x10, x11, x12, x13, x14, x15] [a, b, c, d, e, g] T [m0, m1, m2, m3, m4, m5]) 0 [] [1, 2, 3, 7, 10, 12] = some (.exit 4, [(1, .int .i64 x), (2, .int .i64 mo), (3, ptI 0), (7, .bool true), (10, ptI 1), (12, ptI 2)], l3H [x0, x1, x2, x3, x4, x5, x6, x7, x8, x9, x10, x11, x12, x13, x14, x15] [a, b, c, d, e, g] T [m0, m1, m2, m3, m4, m5], 0, []) := by kernel_rfl
theorem l3_code : codeOk (loopAt Try.prog 20 2) = true := by kernel_rfl
theorem l3_loop (x0 x1 x2 x3 x4 x5 x6 x7 x8 x9 x10 x11 x12 x13 x14 x15 a b c d e g m0 m1 m2 m3 m4 m5 x mo : Int) (T : List Int) (h : ∀ k : Nat, k < 6 → ([a, b, c, d, e, g].getD k 0 = 0 ∧ [m0, m1, m2, m3, m4, m5].getD k 0 = 0) ∨ ([a, b, c, d, e, g].getD k 0 > 0 ∧ [m0, m1, m2, m3, m4, m5].getD k 0 = [a, b, c, d, e, g].getD k 0 + 8 ∧ [a, b, c, d, e, g].getD k 0 ≤ 255)) : WP Try.prog 163 (.loop (loopAt Try.prog 20 2)) ⟨l3F x mo 0, l3H [x0, x1, x2, x3, x4, x5, x6, x7, x8, x9, x10, x11, x12, x13, x14, x15] [a, b, c, d, e, g] T [m0, m1, m2, m3, m4, m5], 0⟩ (.exit 4) ⟨[(1, .int .i64 x), (2, .int .i64 mo), (3, ptI 0), (7, .bool true), (10, ptI 1), (12, ptI 2)], l3H [x0, x1, x2, x3, x4, x5, x6, x7, x8, x9, x10, x11, x12, x13, x14, x15] [a, b, c, d, e, g] T [m0, m1, m2, m3, m4, m5], 0⟩ := by
  refine WP.loop (fun k => ⟨l3F x mo k, l3H [x0, x1, x2, x3, x4, x5, x6, x7, x8, x9, x10, x11, x12, x13, x14, x15] [a, b, c, d, e, g] T [m0, m1, m2, m3, m4, m5], 0⟩) 6 (by simp) (fun k hk => ?_) (WP.run progOk extSound noC_sound l3_code noLoops_ok _ (l3_e x0 x1 x2 x3 x4 x5 x6 x7 x8 x9 x10 x11 x12 x13 x14 x15 a b c d e g m0 m1 m2 m3 m4 m5 x mo T) (by simp [Holds]))
  rcases h k hk with ⟨h1, h2⟩ | ⟨h1, h2, h3⟩
  · refine WP.run progOk extSound (nb_sound _ _ noC_sound) l3_code noLoops_ok _ (of_list (l3_z x0 x1 x2 x3 x4 x5 x6 x7 x8 x9 x10 x11 x12 x13 x14 x15 a b c d e g m0 m1 m2 m3 m4 m5 x mo T) (by omega) (by omega)) ?_
    simp only [Holds, List.mem_cons, List.not_mem_nil, or_false, forall_eq_or_imp, forall_eq]
    rw [h1, h2]
    exact ⟨rfl, rfl, rfl⟩
  · refine WP.run progOk extSound (nb_sound _ _ noC_sound) l3_code noLoops_ok _ (of_list (l3_p x0 x1 x2 x3 x4 x5 x6 x7 x8 x9 x10 x11 x12 x13 x14 x15 a b c d e g m0 m1 m2 m3 m4 m5 x mo T) (by omega) (by omega)) ?_
    simp only [Holds, List.mem_cons, List.not_mem_nil, or_false, forall_eq_or_imp, forall_eq]
    rw [h2, W_in (n := [a, b, c, d, e, g].getD k 0 + 8) (by omega) (by omega)]
    refine ⟨ne_false rfl, decide_eq_true h1, ?_⟩
    rw [beq_eq_false_iff_ne]
    omega

/-! ### levels of powers -/
theorem lg53 : logZ 9007199254740992 = 424 := by kernel_rfl
theorem log_nonneg {p : Int} (h0 : 0 < p) : 0 ≤ logZ p := by
  have := log_mono (n := 1) (m := p) (by omega) (by omega)
  rw [show logZ 1 = 0 by kernel_rfl] at this
  exact this
theorem lvG_eq {p : Int} (h0 : 0 < p) (h1 : p ≤ 9007199254740992) : lvG p = logZ p / 2 + 1 ∧ 0 ≤ logZ p ∧ logZ p ≤ 424 := by
  have h2 := log_mono (n := p) (m := 9007199254740992) (by omega) h1
  rw [lg53] at h2
  have h3 := log_nonneg h0
  unfold lvG
  rw [Int.tdiv_eq_ediv_of_nonneg h3, W_in (n := logZ p / 2) (by omega) (by omega), W_in (by omega) (by omega), mnG_eq]
  exact ⟨by omega, h3, h2⟩
theorem lvG_four {p : Int} (h0 : 0 < p) (h1 : p ≤ 2251799813685248) : lvG (4 * p) = lvG p + 8 := by
  have e : 4 * p = 2 * (2 * p) := by omega
  have h2 : logZ (4 * p) = logZ p + 16 := by
    rw [e, log_twice (by omega), log_twice h0]; omega
  rw [(lvG_eq (p := 4 * p) (by omega) (by omega)).1, (lvG_eq h0 (by omega)).1, h2]
  omega
theorem lvG_mono {p q : Int} (h0 : 0 < p) (hpq : p ≤ q) (h1 : q ≤ 9007199254740992) : lvG p ≤ lvG q := by
  rw [(lvG_eq h0 (by omega)).1, (lvG_eq (p := q) (by omega) h1).1]
  have := log_mono (n := p) (m := q) (by omega) hpq
  omega
/-- A level, by its power. -/
theorem lS_get (P : Nat → Int) : ∀ i, i ≤ 6 → ∀ k, (lS P i).getD k 0 = if k < i then (if P k > 0 then lvG (P k) else 0) else 0 := by
  intro i
  induction i with
  | zero =>
    intro _ k
    simp only [lS]
    match k with
    | 0 | 1 | 2 | 3 | 4 | 5 => rfl
    | k + 6 => simp
  | succ i ih =>
    intro hi k
    have ih := ih (by omega) k
    simp only [lS]
    by_cases h : P i > 0
    · rw [if_pos h, getD_set6 (lS_len P i) (by omega)]
      by_cases hk : k = i
      · subst hk; rw [if_pos rfl, if_pos (by omega), if_pos h]
      · rw [if_neg hk, ih]
        by_cases hlt : k < i
        · rw [if_pos hlt, if_pos (show k < i + 1 by omega)]
        · rw [if_neg hlt, if_neg (show ¬ k < i + 1 by omega)]
    · rw [if_neg h, ih]
      by_cases hk : k = i
      · subst hk; rw [if_neg (by omega), if_pos (by omega), if_neg h]
      · by_cases hlt : k < i
        · rw [if_pos hlt, if_pos (show k < i + 1 by omega)]
        · rw [if_neg hlt, if_neg (show ¬ k < i + 1 by omega)]
theorem lvC_get {xs : List Int} (h : xs.all (inB 67108864) = true) {k : Nat} (hk : k < 6) : (lvC xs).getD k 0 = if sq (bpart xs k) > 0 then lvG (sq (bpart xs k)) else 0 := by
  unfold lvC
  rw [lS_get _ 6 (Nat.le_refl _) k, if_pos hk, (sumQ_sq (bpart_all h k) (by have := bpart_len xs k hk; omega)).1]
theorem b24_iff {v : Int} : b24 v = true ↔ -16777216 ≤ v ∧ v ≤ 16777216 := by
  simp only [b24, Bool.and_eq_true, Bool.not_eq_true', decide_eq_false_iff_not]
  omega
theorem inB_iff {v : Int} : inB 67108864 v = true ↔ -67108864 ≤ v ∧ v ≤ 67108864 := by
  unfold inB
  rw [show IntKind.wrap IntKind.i64 (0 - 67108864) = -67108864 by decide]
  simp
theorem sq48 {v : Int} (h1 : -33554432 ≤ v) (h2 : v ≤ 33554432) : 0 ≤ v * v ∧ v * v ≤ 1125899906842624 := by
  have h3 : v.natAbs ≤ 33554432 := by omega
  have h4 := Nat.mul_le_mul h3 h3
  have h5 : v * v = ((v.natAbs * v.natAbs : Nat) : Int) := by rw [Int.natCast_mul]; exact (Int.natAbs_mul_self).symm
  rw [h5]
  omega
theorem sq_small : ∀ (xs : List Int), (∀ v ∈ xs, -16777216 ≤ v ∧ v ≤ 16777216) → 0 ≤ sq xs ∧ sq xs ≤ xs.length * 281474976710656 := by
  intro xs
  induction xs with
  | nil => intro _; simp [sq]
  | cons x xs ih =>
    intro h
    have e3 : sq (x :: xs) = x * x + sq xs := by simp [sq]
    have hx := h x (by simp)
    have h3 : x.natAbs ≤ 16777216 := by omega
    have h4 := Nat.mul_le_mul h3 h3
    have h5 : x * x = ((x.natAbs * x.natAbs : Nat) : Int) := by rw [Int.natCast_mul]; exact (Int.natAbs_mul_self).symm
    have := ih (fun v hv => h v (by simp [hv]))
    simp only [List.length_cons]
    omega
theorem sq_twice : ∀ (xs : List Int), (∀ v ∈ xs, -16777216 ≤ v ∧ v ≤ 16777216) → sq (xs.map fun v => W (v * 2)) = 4 * sq xs := by
  intro xs
  induction xs with
  | nil => intro _; rfl
  | cons x xs ih =>
    intro h
    have hx := h x (by simp)
    have e3 : sq (x :: xs) = x * x + sq xs := by simp [sq]
    have e4 : sq ((x :: xs).map fun v => W (v * 2)) = W (x * 2) * W (x * 2) + sq (xs.map fun v => W (v * 2)) := by simp [sq]
    rw [e3, e4, ih (fun v hv => h v (by simp [hv])), W_in (n := x * 2) (by omega) (by omega)]
    grind
theorem bpart_map (f : Int → Int) (xs : List Int) (j : Nat) : bpart (xs.map f) j = (bpart xs j).map f := by
  unfold bpart
  rw [List.map_take, List.map_drop]
theorem bpart_mem {xs : List Int} {j : Nat} {v : Int} (h : v ∈ bpart xs j) : v ∈ xs := List.mem_of_mem_drop (List.mem_of_mem_take h)
end Go.Proofs.Ytfbjpenbpbpcaaa

