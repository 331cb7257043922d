/-
  Chapter 07: the contracts of Inverse, and of the reference's.
-/
import Derived.Test.YtfbjpenbpbpcaaaLp11
namespace Go.Proofs.Ytfbjpenbpbpcaaa
open Go Den
set_option maxRecDepth 100000
set_option linter.unusedSimpArgs false
set_option linter.unusedVariables false

theorem invG_eq {rd : Int → Int → Int} (h : ∀ v b, inI v = true → inL b = true → rd v b = roundZ v b) (xs : List Int) : invG rd xs = invG roundZ xs := by
  unfold invG
  apply List.map_congr_left
  intro n _
  have hd : inI (dotW xs (colL n)) = true := dot_in _ 0 (by decide)
  rw [h (dotW xs (colL n)) 20 hd (by decide)]
  exact h _ _ (inI_wrap _) (by decide)

theorem codeOk72 : codeOk (loopAt Try.prog 72 0) = true := by kernel_rfl
theorem loops72 : loopsOf (bodyOf Try.prog 72) = [loopAt Try.prog 72 0, loopAt Try.prog 72 1, loopAt Try.prog 72 2] := by kernel_rfl
theorem first72a : firstId (loopAt Try.prog 72 1) = 10 := by kernel_rfl
theorem first72b : firstId (loopAt Try.prog 72 2) = 16 := by kernel_rfl
theorem codeOk73 : codeOk (loopAt Try.prog 73 0) = true := by kernel_rfl
theorem loops73 : loopsOf (bodyOf Try.prog 73) = [loopAt Try.prog 73 0, loopAt Try.prog 73 1] := by kernel_rfl
theorem first73 : firstId (loopAt Try.prog 73 1) = 10 := by kernel_rfl
theorem rvC_sound : Sound Try.prog (strict noPre rvC) := plain_sound (x7i_all.or (over_sound x7i_all 1))

theorem inv_end (x0 x1 x2 x3 x4 x5 x6 x7 x8 x9 x10 x11 x12 x13 x14 x15 : Int) : evL Try.prog ext noPre x7i invL 300 64 (loopAt Try.prog 72 0) (ivF 16) (ivH [x0, x1, x2, x3, x4, x5, x6, x7, x8, x9, x10, x11, x12, x13, x14, x15] 16) 0 [] [1, 2, 4, 23, 24] = some (.exit 0, ivF 16, ivH [x0, x1, x2, x3, x4, x5, x6, x7, x8, x9, x10, x11, x12, x13, x14, x15] 16, 0, []) := by kernel_rfl
theorem inv_loop (x0 x1 x2 x3 x4 x5 x6 x7 x8 x9 x10 x11 x12 x13 x14 x15 : Int) : WP Try.prog 64 (.loop (loopAt Try.prog 72 0)) ⟨ivF 0, ivH [x0, x1, x2, x3, x4, x5, x6, x7, x8, x9, x10, x11, x12, x13, x14, x15] 0, 0⟩ (.exit 0) ⟨ivF 16, ivH [x0, x1, x2, x3, x4, x5, x6, x7, x8, x9, x10, x11, x12, x13, x14, x15] 16, 0⟩ := by
  refine WP.loop (fun k => ⟨ivF k, ivH [x0, x1, x2, x3, x4, x5, x6, x7, x8, x9, x10, x11, x12, x13, x14, x15] k, 0⟩) 16 (by simp) (fun k hk => ?_) (WP.run progOk extSound x7i_sound codeOk72 (LoopsOk.names rfl) [1, 2, 4, 23, 24] (inv_end x0 x1 x2 x3 x4 x5 x6 x7 x8 x9 x10 x11 x12 x13 x14 x15) (by simp [Holds]))
  have key : evL Try.prog ext noPre x7i invL 300 64 (loopAt Try.prog 72 0) (ivF k) (ivH [x0, x1, x2, x3, x4, x5, x6, x7, x8, x9, x10, x11, x12, x13, x14, x15] k) 0 [] [1, 2, 4, 23, 24] = some (.normal, ivF (k + 1), ivH [x0, x1, x2, x3, x4, x5, x6, x7, x8, x9, x10, x11, x12, x13, x14, x15] (k + 1), 0, []) := by
    by_cases h0 : k < 4
    · exact of_list (inv_run0 x0 x1 x2 x3 x4 x5 x6 x7 x8 x9 x10 x11 x12 x13 x14 x15) (by omega) (by omega)
    by_cases h1 : k < 8
    · exact of_list (inv_run1 x0 x1 x2 x3 x4 x5 x6 x7 x8 x9 x10 x11 x12 x13 x14 x15) (by omega) (by omega)
    by_cases h2 : k < 12
    · exact of_list (inv_run2 x0 x1 x2 x3 x4 x5 x6 x7 x8 x9 x10 x11 x12 x13 x14 x15) (by omega) (by omega)
    · exact of_list (inv_run3 x0 x1 x2 x3 x4 x5 x6 x7 x8 x9 x10 x11 x12 x13 x14 x15) (by omega) (by omega)
  exact WP.run progOk extSound x7i_sound codeOk72 (LoopsOk.names rfl) [1, 2, 4, 23, 24] key (by simp [Holds])

noncomputable def ivN (xs : List Int) : Loops := { loop := sumL 7 ⟨ivF 0, ivH xs 0, 0⟩ (.exit 0) ⟨ivF 16, ivH xs 16, 0⟩, keys := invL.keys }
theorem inv_fn (x0 x1 x2 x3 x4 x5 x6 x7 x8 x9 x10 x11 x12 x13 x14 x15 : Int) : (evFnL Try.prog ext 300 (nmPre noPre) (nbC [] [(11, true)] x7i) (ivN [x0, x1, x2, x3, x4, x5, x6, x7, x8, x9, x10, x11, x12, x13, x14, x15]) [] 72 [.agg (ints [x0, x1, x2, x3, x4, x5, x6, x7, x8, x9, x10, x11, x12, x13, x14, x15]).toArray] []).map (fun r => (r.1.1, r.2)) =
    some (.tuple #[.agg (ints (invG raw45 [x0, x1, x2, x3, x4, x5, x6, x7, x8, x9, x10, x11, x12, x13, x14, x15])).toArray, .int .i64 0], [(cdec (ivF 0 = ivF 0), true), (cdec (ivH [x0, x1, x2, x3, x4, x5, x6, x7, x8, x9, x10, x11, x12, x13, x14, x15] 0 = ivH [x0, x1, x2, x3, x4, x5, x6, x7, x8, x9, x10, x11, x12, x13, x14, x15] 0), true), (cdec (0 = 0), true), ([x0, x1, x2, x3, x4, x5, x6, x7, x8, x9, x10, x11, x12, x13, x14, x15].all (inB 67108864), true)]) := by kernel_rfl
theorem inv_bad (x0 x1 x2 x3 x4 x5 x6 x7 x8 x9 x10 x11 x12 x13 x14 x15 : Int) : (evFnL Try.prog ext 300 (nmPre noPre) (nbC [] [(11, false)] x7i) noLoops [] 72 [.agg (ints [x0, x1, x2, x3, x4, x5, x6, x7, x8, x9, x10, x11, x12, x13, x14, x15]).toArray] []).map (fun r => (r.1.1, r.2)) =
    some (.tuple #[.agg (ints (List.replicate 32 0)).toArray, .int .i64 1], [([x0, x1, x2, x3, x4, x5, x6, x7, x8, x9, x10, x11, x12, x13, x14, x15].all (inB 67108864), false)]) := by kernel_rfl

theorem riv_end (x0 x1 x2 x3 x4 x5 x6 x7 x8 x9 x10 x11 x12 x13 x14 x15 : Int) : evL Try.prog ext noPre rvC rivL 300 42 (loopAt Try.prog 73 0) (rvF 32) (rvH [x0, x1, x2, x3, x4, x5, x6, x7, x8, x9, x10, x11, x12, x13, x14, x15] 32) 0 [] [1, 2, 4, 5, 14] = some (.exit 0, rvF 32, rvH [x0, x1, x2, x3, x4, x5, x6, x7, x8, x9, x10, x11, x12, x13, x14, x15] 32, 0, []) := by kernel_rfl
theorem riv_loop (x0 x1 x2 x3 x4 x5 x6 x7 x8 x9 x10 x11 x12 x13 x14 x15 : Int) : WP Try.prog 42 (.loop (loopAt Try.prog 73 0)) ⟨rvF 0, rvH [x0, x1, x2, x3, x4, x5, x6, x7, x8, x9, x10, x11, x12, x13, x14, x15] 0, 0⟩ (.exit 0) ⟨rvF 32, rvH [x0, x1, x2, x3, x4, x5, x6, x7, x8, x9, x10, x11, x12, x13, x14, x15] 32, 0⟩ := by
  refine WP.loop (fun k => ⟨rvF k, rvH [x0, x1, x2, x3, x4, x5, x6, x7, x8, x9, x10, x11, x12, x13, x14, x15] k, 0⟩) 32 (by simp) (fun k hk => ?_) (WP.run progOk extSound rvC_sound codeOk73 (LoopsOk.names rfl) [1, 2, 4, 5, 14] (riv_end x0 x1 x2 x3 x4 x5 x6 x7 x8 x9 x10 x11 x12 x13 x14 x15) (by simp [Holds]))
  have key : evL Try.prog ext noPre rvC rivL 300 42 (loopAt Try.prog 73 0) (rvF k) (rvH [x0, x1, x2, x3, x4, x5, x6, x7, x8, x9, x10, x11, x12, x13, x14, x15] k) 0 [] [1, 2, 4, 5, 14] = some (.normal, rvF (k + 1), rvH [x0, x1, x2, x3, x4, x5, x6, x7, x8, x9, x10, x11, x12, x13, x14, x15] (k + 1), 0, []) := by
    by_cases h0 : k < 4
    · exact of_list (riv_run0 x0 x1 x2 x3 x4 x5 x6 x7 x8 x9 x10 x11 x12 x13 x14 x15) (by omega) (by omega)
    by_cases h1 : k < 8
    · exact of_list (riv_run1 x0 x1 x2 x3 x4 x5 x6 x7 x8 x9 x10 x11 x12 x13 x14 x15) (by omega) (by omega)
    by_cases h2 : k < 12
    · exact of_list (riv_run2 x0 x1 x2 x3 x4 x5 x6 x7 x8 x9 x10 x11 x12 x13 x14 x15) (by omega) (by omega)
    by_cases h3 : k < 16
    · exact of_list (riv_run3 x0 x1 x2 x3 x4 x5 x6 x7 x8 x9 x10 x11 x12 x13 x14 x15) (by omega) (by omega)
    by_cases h4 : k < 20
    · exact of_list (riv_run4 x0 x1 x2 x3 x4 x5 x6 x7 x8 x9 x10 x11 x12 x13 x14 x15) (by omega) (by omega)
    by_cases h5 : k < 24
    · exact of_list (riv_run5 x0 x1 x2 x3 x4 x5 x6 x7 x8 x9 x10 x11 x12 x13 x14 x15) (by omega) (by omega)
    by_cases h6 : k < 28
    · exact of_list (riv_run6 x0 x1 x2 x3 x4 x5 x6 x7 x8 x9 x10 x11 x12 x13 x14 x15) (by omega) (by omega)
    exact of_list (riv_run7 x0 x1 x2 x3 x4 x5 x6 x7 x8 x9 x10 x11 x12 x13 x14 x15) (by omega) (by omega)
  exact WP.run progOk extSound rvC_sound codeOk73 (LoopsOk.names rfl) [1, 2, 4, 5, 14] key (by simp [Holds])
noncomputable def rvN (xs : List Int) : Loops := { loop := sumL 6 ⟨rvF 0, rvH xs 0, 0⟩ (.exit 0) ⟨rvF 32, rvH xs 32, 0⟩ }
theorem riv_fn (x0 x1 x2 x3 x4 x5 x6 x7 x8 x9 x10 x11 x12 x13 x14 x15 : Int) : (evFnL Try.prog ext 300 (nmPre noPre) (nbC [] [(10, true)] x7i) (rvN [x0, x1, x2, x3, x4, x5, x6, x7, x8, x9, x10, x11, x12, x13, x14, x15]) [] 73 [.agg (ints [x0, x1, x2, x3, x4, x5, x6, x7, x8, x9, x10, x11, x12, x13, x14, x15]).toArray] []).map (fun r => (r.1.1, r.2)) =
    some (.tuple #[.agg (ints (invG raw46 [x0, x1, x2, x3, x4, x5, x6, x7, x8, x9, x10, x11, x12, x13, x14, x15])).toArray, .int .i64 0], [(cdec (rvF 0 = rvF 0), true), (cdec (rvH [x0, x1, x2, x3, x4, x5, x6, x7, x8, x9, x10, x11, x12, x13, x14, x15] 0 = rvH [x0, x1, x2, x3, x4, x5, x6, x7, x8, x9, x10, x11, x12, x13, x14, x15] 0), true), (cdec (0 = 0), true), ([x0, x1, x2, x3, x4, x5, x6, x7, x8, x9, x10, x11, x12, x13, x14, x15].all (inB 67108864), true)]) := by kernel_rfl
theorem riv_bad (x0 x1 x2 x3 x4 x5 x6 x7 x8 x9 x10 x11 x12 x13 x14 x15 : Int) : (evFnL Try.prog ext 300 (nmPre noPre) (nbC [] [(10, false)] x7i) noLoops [] 73 [.agg (ints [x0, x1, x2, x3, x4, x5, x6, x7, x8, x9, x10, x11, x12, x13, x14, x15]).toArray] []).map (fun r => (r.1.1, r.2)) =
    some (.tuple #[.agg (ints (List.replicate 32 0)).toArray, .int .i64 1], [([x0, x1, x2, x3, x4, x5, x6, x7, x8, x9, x10, x11, x12, x13, x14, x15].all (inB 67108864), false)]) := by kernel_rfl

def ivO (xs : List Int) : List Int := bif xs.all (inB 67108864) then invG roundZ xs else List.replicate 32 0
def ivE (xs : List Int) : Int := bif xs.all (inB 67108864) then 0 else 1

theorem inverses_ok (f : FuncId) (hf : f = 72 ∨ f = 73) (xs : List Int) (hm : xs.length = 16) : CallOk Try.prog f [.agg (ints xs).toArray] [] (.tuple #[.agg (ints (ivO xs)).toArray, .int .i64 (ivE xs)]) [] 0 := by
  obtain ⟨x0, x1, x2, x3, x4, x5, x6, x7, x8, x9, x10, x11, x12, x13, x14, x15, rfl⟩ : ∃ x0 x1 x2 x3 x4 x5 x6 x7 x8 x9 x10 x11 x12 x13 x14 x15, xs = [x0, x1, x2, x3, x4, x5, x6, x7, x8, x9, x10, x11, x12, x13, x14, x15] := by match xs, hm with | [x0, x1, x2, x3, x4, x5, x6, x7, x8, x9, x10, x11, x12, x13, x14, x15], _ => exact ⟨x0, x1, x2, x3, x4, x5, x6, x7, x8, x9, x10, x11, x12, x13, x14, x15, rfl⟩
  unfold ivO ivE
  cases hc : [x0, x1, x2, x3, x4, x5, x6, x7, x8, x9, x10, x11, x12, x13, x14, x15].all (inB 67108864) with
  | true =>
    rw [cond_true, cond_true]
    rcases hf with rfl | rfl
    · rw [← invG_eq raw45_eq]
      refine pf_ok (nb_sound [] [(11, true)] x7i_sound) (LoopsOk.sum rfl ?_) (inv_fn x0 x1 x2 x3 x4 x5 x6 x7 x8 x9 x10 x11 x12 x13 x14 x15) (by simp only [Holds, List.mem_cons, List.not_mem_nil, or_false, forall_eq_or_imp, forall_eq, hc]; simp [cdec]) rfl
      intro b hb hid
      rw [loops72] at hb
      simp only [List.mem_cons, List.not_mem_nil, or_false] at hb
      rcases hb with rfl | rfl | rfl
      · exact inv_loop x0 x1 x2 x3 x4 x5 x6 x7 x8 x9 x10 x11 x12 x13 x14 x15
      · rw [first72a] at hid; simp at hid
      · rw [first72b] at hid; simp at hid
    · rw [← invG_eq raw46_eq]
      refine pf_ok (nb_sound [] [(10, true)] x7i_sound) (LoopsOk.sum rfl ?_) (riv_fn x0 x1 x2 x3 x4 x5 x6 x7 x8 x9 x10 x11 x12 x13 x14 x15) (by simp only [Holds, List.mem_cons, List.not_mem_nil, or_false, forall_eq_or_imp, forall_eq, hc]; simp [cdec]) rfl
      intro b hb hid
      rw [loops73] at hb
      simp only [List.mem_cons, List.not_mem_nil, or_false] at hb
      rcases hb with rfl | rfl
      · exact riv_loop x0 x1 x2 x3 x4 x5 x6 x7 x8 x9 x10 x11 x12 x13 x14 x15
      · rw [first73] at hid; simp at hid
  | false =>
    rw [cond_false, cond_false]
    rcases hf with rfl | rfl
    · exact pf_ok (nb_sound [] [(11, false)] x7i_sound) noLoops_ok (inv_bad x0 x1 x2 x3 x4 x5 x6 x7 x8 x9 x10 x11 x12 x13 x14 x15) (by simp only [Holds, List.mem_cons, List.not_mem_nil, or_false, forall_eq, hc]) rfl
    · exact pf_ok (nb_sound [] [(10, false)] x7i_sound) noLoops_ok (riv_bad x0 x1 x2 x3 x4 x5 x6 x7 x8 x9 x10 x11 x12 x13 x14 x15) (by simp only [Holds, List.mem_cons, List.not_mem_nil, or_false, forall_eq, hc]) rfl

end Go.Proofs.Ytfbjpenbpbpcaaa

