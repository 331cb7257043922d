/-
  Chapter 07: the contracts of Forward, and of the reference's.
-/
import Derived.Test.YtfbjpenbpbpcaaaLp5
namespace Go.Proofs.Ytfbjpenbpbpcaaa
open Go Den
set_option maxRecDepth 100000
set_option linter.unusedSimpArgs false
set_option linter.unusedVariables false

theorem inL_of {b : Nat} (h : b ∈ bitsL) : inL (b : Int) = true := by
  unfold inL
  exact List.any_eq_true.2 ⟨b, h, by simp⟩

theorem dot_in : ∀ (l : List (Int × Int)) (s : Int), inI s = true → inI (l.foldl (fun s p => IntKind.wrap IntKind.i64 (s + IntKind.wrap IntKind.i64 (p.1 * p.2))) s) = true := by
  intro l
  induction l with
  | nil => intro s h; exact h
  | cons p l ih => intro s _; exact ih _ (inI_wrap _)

theorem fwdG_eq {rd : Int → Int → Int} (h : ∀ v b, inI v = true → inL b = true → rd v b = roundZ v b) (xs : List Int) : fwdG rd xs = fwdG roundZ xs := by
  unfold fwdG
  have e1 : List.zipWith (fun x w => rd (IntKind.wrap IntKind.i64 (x * w)) 16) xs winL = List.zipWith (fun x w => roundZ (IntKind.wrap IntKind.i64 (x * w)) 16) xs winL := by
    congr 1
    funext x w
    exact h _ _ (inI_wrap _) (by decide)
  rw [e1]
  apply List.map_congr_left
  intro cs _
  exact h _ _ (dot_in _ 0 (by decide)) (by decide)

def fwE (P C : List Int) : Int := if chkZ P = 0 ∧ chkZ C = 0 then 0 else 1
def fwO (P C : List Int) : List Int := if chkZ P = 0 ∧ chkZ C = 0 then fwdG roundZ (P ++ C) else List.replicate 16 0

theorem codeOk67 : codeOk (loopAt Try.prog 67 0) = true := by kernel_rfl
theorem loops67 : loopsOf (bodyOf Try.prog 67) = [loopAt Try.prog 67 0, loopAt Try.prog 67 1] := by kernel_rfl
theorem first67 : firstId (loopAt Try.prog 67 1) = 10 := by kernel_rfl
theorem rfC_sound : Sound Try.prog (strict noPre rfC) := by
  have h0 : Sound Try.prog (frameC x7) := by
    have h := frame_sound (pre := noPre) (plain_sound (x7a_sound.or rdO_sound))
    intro f args H v H' l hc
    refine h f args H v H' l ?_
    unfold strict framePre
    split
    · exact hc
    · rename_i hp
      split at hp <;> simp [noPre] at hp
  exact plain_sound (h0.or (over_sound h0 1))

theorem rfw_end (p0 p1 p2 p3 p4 p5 p6 p7 p8 p9 p10 p11 p12 p13 p14 p15 c0 c1 c2 c3 c4 c5 c6 c7 c8 c9 c10 c11 c12 c13 c14 c15 : Int) : evL Try.prog ext noPre rfC rfwL 300 57 (loopAt Try.prog 67 0) (rfF 16) (rfH [p0, p1, p2, p3, p4, p5, p6, p7, p8, p9, p10, p11, p12, p13, p14, p15] [c0, c1, c2, c3, c4, c5, c6, c7, c8, c9, c10, c11, c12, c13, c14, c15] 16) 0 [] [2, 3, 4, 6, 7, 22] = some (.exit 0, rfF 16, rfH [p0, p1, p2, p3, p4, p5, p6, p7, p8, p9, p10, p11, p12, p13, p14, p15] [c0, c1, c2, c3, c4, c5, c6, c7, c8, c9, c10, c11, c12, c13, c14, c15] 16, 0, []) := by kernel_rfl

theorem rfw_loop (p0 p1 p2 p3 p4 p5 p6 p7 p8 p9 p10 p11 p12 p13 p14 p15 c0 c1 c2 c3 c4 c5 c6 c7 c8 c9 c10 c11 c12 c13 c14 c15 : Int) : WP Try.prog 57 (.loop (loopAt Try.prog 67 0)) ⟨rfF 0, rfH [p0, p1, p2, p3, p4, p5, p6, p7, p8, p9, p10, p11, p12, p13, p14, p15] [c0, c1, c2, c3, c4, c5, c6, c7, c8, c9, c10, c11, c12, c13, c14, c15] 0, 0⟩ (.exit 0) ⟨rfF 16, rfH [p0, p1, p2, p3, p4, p5, p6, p7, p8, p9, p10, p11, p12, p13, p14, p15] [c0, c1, c2, c3, c4, c5, c6, c7, c8, c9, c10, c11, c12, c13, c14, c15] 16, 0⟩ := by
  refine WP.loop (fun k => ⟨rfF k, rfH [p0, p1, p2, p3, p4, p5, p6, p7, p8, p9, p10, p11, p12, p13, p14, p15] [c0, c1, c2, c3, c4, c5, c6, c7, c8, c9, c10, c11, c12, c13, c14, c15] k, 0⟩) 16 (by simp) (fun k hk => ?_) (WP.run progOk extSound rfC_sound codeOk67 (LoopsOk.names rfl) [2, 3, 4, 6, 7, 22] (rfw_end p0 p1 p2 p3 p4 p5 p6 p7 p8 p9 p10 p11 p12 p13 p14 p15 c0 c1 c2 c3 c4 c5 c6 c7 c8 c9 c10 c11 c12 c13 c14 c15) (by simp [Holds]))
  have key : evL Try.prog ext noPre rfC rfwL 300 57 (loopAt Try.prog 67 0) (rfF k) (rfH [p0, p1, p2, p3, p4, p5, p6, p7, p8, p9, p10, p11, p12, p13, p14, p15] [c0, c1, c2, c3, c4, c5, c6, c7, c8, c9, c10, c11, c12, c13, c14, c15] k) 0 [] [2, 3, 4, 6, 7, 22] = some (.normal, rfF (k + 1), rfH [p0, p1, p2, p3, p4, p5, p6, p7, p8, p9, p10, p11, p12, p13, p14, p15] [c0, c1, c2, c3, c4, c5, c6, c7, c8, c9, c10, c11, c12, c13, c14, c15] (k + 1), 0, []) := by
    by_cases h0 : k < 4
    · exact of_list (rfw_run0 p0 p1 p2 p3 p4 p5 p6 p7 p8 p9 p10 p11 p12 p13 p14 p15 c0 c1 c2 c3 c4 c5 c6 c7 c8 c9 c10 c11 c12 c13 c14 c15) (by omega) (by omega)
    by_cases h1 : k < 8
    · exact of_list (rfw_run1 p0 p1 p2 p3 p4 p5 p6 p7 p8 p9 p10 p11 p12 p13 p14 p15 c0 c1 c2 c3 c4 c5 c6 c7 c8 c9 c10 c11 c12 c13 c14 c15) (by omega) (by omega)
    by_cases h2 : k < 12
    · exact of_list (rfw_run2 p0 p1 p2 p3 p4 p5 p6 p7 p8 p9 p10 p11 p12 p13 p14 p15 c0 c1 c2 c3 c4 c5 c6 c7 c8 c9 c10 c11 c12 c13 c14 c15) (by omega) (by omega)
    · exact of_list (rfw_run3 p0 p1 p2 p3 p4 p5 p6 p7 p8 p9 p10 p11 p12 p13 p14 p15 c0 c1 c2 c3 c4 c5 c6 c7 c8 c9 c10 c11 c12 c13 c14 c15) (by omega) (by omega)
  exact WP.run progOk extSound rfC_sound codeOk67 (LoopsOk.names rfl) [2, 3, 4, 6, 7, 22] key (by simp [Holds])

noncomputable def rfN (P C : List Int) : Loops := { loop := sumL 6 ⟨rfF 0, rfH P C 0, 0⟩ (.exit 0) ⟨rfF 16, rfH P C 16, 0⟩ }

theorem rfw_fn (p0 p1 p2 p3 p4 p5 p6 p7 p8 p9 p10 p11 p12 p13 p14 p15 c0 c1 c2 c3 c4 c5 c6 c7 c8 c9 c10 c11 c12 c13 c14 c15 : Int) : (evFnL Try.prog ext 300 (nmPre (framePre noPre)) (nbC [] [(14, false), (18, false)] (frameC x7)) (rfN [p0, p1, p2, p3, p4, p5, p6, p7, p8, p9, p10, p11, p12, p13, p14, p15] [c0, c1, c2, c3, c4, c5, c6, c7, c8, c9, c10, c11, c12, c13, c14, c15]) [] 67 [.agg (ints [p0, p1, p2, p3, p4, p5, p6, p7, p8, p9, p10, p11, p12, p13, p14, p15]).toArray, .agg (ints [c0, c1, c2, c3, c4, c5, c6, c7, c8, c9, c10, c11, c12, c13, c14, c15]).toArray] []).map (fun r => (r.1.1, r.2)) =
    some (.tuple #[.agg (ints (fwdG raw46 ([p0, p1, p2, p3, p4, p5, p6, p7, p8, p9, p10, p11, p12, p13, p14, p15] ++ [c0, c1, c2, c3, c4, c5, c6, c7, c8, c9, c10, c11, c12, c13, c14, c15]))).toArray, .int .i64 0], [(cdec (rfF 0 = rfF 0), true), (cdec (rfH [p0, p1, p2, p3, p4, p5, p6, p7, p8, p9, p10, p11, p12, p13, p14, p15] [c0, c1, c2, c3, c4, c5, c6, c7, c8, c9, c10, c11, c12, c13, c14, c15] 0 = rfH [p0, p1, p2, p3, p4, p5, p6, p7, p8, p9, p10, p11, p12, p13, p14, p15] [c0, c1, c2, c3, c4, c5, c6, c7, c8, c9, c10, c11, c12, c13, c14, c15] 0), true), (cdec (0 = 0), true), (chkZ [c0, c1, c2, c3, c4, c5, c6, c7, c8, c9, c10, c11, c12, c13, c14, c15] != 0, false), (chkZ [p0, p1, p2, p3, p4, p5, p6, p7, p8, p9, p10, p11, p12, p13, p14, p15] != 0, false)]) := by kernel_rfl

theorem bad66a (p0 p1 p2 p3 p4 p5 p6 p7 p8 p9 p10 p11 p12 p13 p14 p15 c0 c1 c2 c3 c4 c5 c6 c7 c8 c9 c10 c11 c12 c13 c14 c15 : Int) : (evFnL Try.prog ext 300 (nmPre (framePre noPre)) (nbC [] [(16, true)] (frameC x7)) fwdL [] 66 [.agg (ints [p0, p1, p2, p3, p4, p5, p6, p7, p8, p9, p10, p11, p12, p13, p14, p15]).toArray, .agg (ints [c0, c1, c2, c3, c4, c5, c6, c7, c8, c9, c10, c11, c12, c13, c14, c15]).toArray] []).map (fun r => (r.1.1, r.2)) =
    some (.tuple #[.agg (ints (List.replicate 16 0)).toArray, .int .i64 1], [(chkZ [p0, p1, p2, p3, p4, p5, p6, p7, p8, p9, p10, p11, p12, p13, p14, p15] != 0, true)]) := by kernel_rfl
theorem bad66b (p0 p1 p2 p3 p4 p5 p6 p7 p8 p9 p10 p11 p12 p13 p14 p15 c0 c1 c2 c3 c4 c5 c6 c7 c8 c9 c10 c11 c12 c13 c14 c15 : Int) : (evFnL Try.prog ext 300 (nmPre (framePre noPre)) (nbC [] [(16, false), (20, true)] (frameC x7)) fwdL [] 66 [.agg (ints [p0, p1, p2, p3, p4, p5, p6, p7, p8, p9, p10, p11, p12, p13, p14, p15]).toArray, .agg (ints [c0, c1, c2, c3, c4, c5, c6, c7, c8, c9, c10, c11, c12, c13, c14, c15]).toArray] []).map (fun r => (r.1.1, r.2)) =
    some (.tuple #[.agg (ints (List.replicate 16 0)).toArray, .int .i64 1], [(chkZ [c0, c1, c2, c3, c4, c5, c6, c7, c8, c9, c10, c11, c12, c13, c14, c15] != 0, true), (chkZ [p0, p1, p2, p3, p4, p5, p6, p7, p8, p9, p10, p11, p12, p13, p14, p15] != 0, false)]) := by kernel_rfl
theorem bad67a (p0 p1 p2 p3 p4 p5 p6 p7 p8 p9 p10 p11 p12 p13 p14 p15 c0 c1 c2 c3 c4 c5 c6 c7 c8 c9 c10 c11 c12 c13 c14 c15 : Int) : (evFnL Try.prog ext 300 (nmPre (framePre noPre)) (nbC [] [(14, true)] (frameC x7)) noLoops [] 67 [.agg (ints [p0, p1, p2, p3, p4, p5, p6, p7, p8, p9, p10, p11, p12, p13, p14, p15]).toArray, .agg (ints [c0, c1, c2, c3, c4, c5, c6, c7, c8, c9, c10, c11, c12, c13, c14, c15]).toArray] []).map (fun r => (r.1.1, r.2)) =
    some (.tuple #[.agg (ints (List.replicate 16 0)).toArray, .int .i64 1], [(chkZ [p0, p1, p2, p3, p4, p5, p6, p7, p8, p9, p10, p11, p12, p13, p14, p15] != 0, true)]) := by kernel_rfl
theorem bad67b (p0 p1 p2 p3 p4 p5 p6 p7 p8 p9 p10 p11 p12 p13 p14 p15 c0 c1 c2 c3 c4 c5 c6 c7 c8 c9 c10 c11 c12 c13 c14 c15 : Int) : (evFnL Try.prog ext 300 (nmPre (framePre noPre)) (nbC [] [(14, false), (18, true)] (frameC x7)) noLoops [] 67 [.agg (ints [p0, p1, p2, p3, p4, p5, p6, p7, p8, p9, p10, p11, p12, p13, p14, p15]).toArray, .agg (ints [c0, c1, c2, c3, c4, c5, c6, c7, c8, c9, c10, c11, c12, c13, c14, c15]).toArray] []).map (fun r => (r.1.1, r.2)) =
    some (.tuple #[.agg (ints (List.replicate 16 0)).toArray, .int .i64 1], [(chkZ [c0, c1, c2, c3, c4, c5, c6, c7, c8, c9, c10, c11, c12, c13, c14, c15] != 0, true), (chkZ [p0, p1, p2, p3, p4, p5, p6, p7, p8, p9, p10, p11, p12, p13, p14, p15] != 0, false)]) := by kernel_rfl

theorem forwards_ok (f : FuncId) (hf : f = 66 ∨ f = 67) (P C : List Int) (hP : P.length = 16) (hC : C.length = 16) : CallOk Try.prog f [.agg (ints P).toArray, .agg (ints C).toArray] [] (.tuple #[.agg (ints (fwO P C)).toArray, .int .i64 (fwE P C)]) [] 0 := by
  obtain ⟨p0, p1, p2, p3, p4, p5, p6, p7, p8, p9, p10, p11, p12, p13, p14, p15, rfl⟩ : ∃ p0 p1 p2 p3 p4 p5 p6 p7 p8 p9 p10 p11 p12 p13 p14 p15, P = [p0, p1, p2, p3, p4, p5, p6, p7, p8, p9, p10, p11, p12, p13, p14, p15] := by match P, hP with | [p0, p1, p2, p3, p4, p5, p6, p7, p8, p9, p10, p11, p12, p13, p14, p15], _ => exact ⟨p0, p1, p2, p3, p4, p5, p6, p7, p8, p9, p10, p11, p12, p13, p14, p15, rfl⟩
  obtain ⟨c0, c1, c2, c3, c4, c5, c6, c7, c8, c9, c10, c11, c12, c13, c14, c15, rfl⟩ : ∃ c0 c1 c2 c3 c4 c5 c6 c7 c8 c9 c10 c11 c12 c13 c14 c15, C = [c0, c1, c2, c3, c4, c5, c6, c7, c8, c9, c10, c11, c12, c13, c14, c15] := by match C, hC with | [c0, c1, c2, c3, c4, c5, c6, c7, c8, c9, c10, c11, c12, c13, c14, c15], _ => exact ⟨c0, c1, c2, c3, c4, c5, c6, c7, c8, c9, c10, c11, c12, c13, c14, c15, rfl⟩
  unfold fwO fwE
  by_cases h1 : chkZ [p0, p1, p2, p3, p4, p5, p6, p7, p8, p9, p10, p11, p12, p13, p14, p15] = 0
  · by_cases h2 : chkZ [c0, c1, c2, c3, c4, c5, c6, c7, c8, c9, c10, c11, c12, c13, c14, c15] = 0
    · rw [if_pos ⟨h1, h2⟩, if_pos ⟨h1, h2⟩]
      rcases hf with rfl | rfl
      · rw [← fwdG_eq raw45_eq]
        exact pf_ok (nb_sound [] [(16, false), (20, false)] x7_sound) (LoopsOk.names rfl) (fwd_run p0 p1 p2 p3 p4 p5 p6 p7 p8 p9 p10 p11 p12 p13 p14 p15 c0 c1 c2 c3 c4 c5 c6 c7 c8 c9 c10 c11 c12 c13 c14 c15) (by simp [Holds, h1, h2]) rfl
      · rw [← fwdG_eq raw46_eq]
        refine pf_ok (nb_sound [] [(14, false), (18, false)] x7_sound) (LoopsOk.sum rfl ?_) (rfw_fn p0 p1 p2 p3 p4 p5 p6 p7 p8 p9 p10 p11 p12 p13 p14 p15 c0 c1 c2 c3 c4 c5 c6 c7 c8 c9 c10 c11 c12 c13 c14 c15) (by simp [Holds, cdec, h1, h2]) rfl
        intro b hb hid
        rw [loops67] at hb
        simp only [List.mem_cons, List.not_mem_nil, or_false] at hb
        rcases hb with rfl | rfl
        · exact rfw_loop p0 p1 p2 p3 p4 p5 p6 p7 p8 p9 p10 p11 p12 p13 p14 p15 c0 c1 c2 c3 c4 c5 c6 c7 c8 c9 c10 c11 c12 c13 c14 c15
        · rw [first67] at hid; simp at hid
    · rw [if_neg (fun h => h2 h.2), if_neg (fun h => h2 h.2)]
      rcases hf with rfl | rfl
      · exact pf_ok (nb_sound [] [(16, false), (20, true)] x7_sound) (LoopsOk.names rfl) (bad66b p0 p1 p2 p3 p4 p5 p6 p7 p8 p9 p10 p11 p12 p13 p14 p15 c0 c1 c2 c3 c4 c5 c6 c7 c8 c9 c10 c11 c12 c13 c14 c15) (by simp [Holds, h1, h2]) rfl
      · exact pf_ok (nb_sound [] [(14, false), (18, true)] x7_sound) noLoops_ok (bad67b p0 p1 p2 p3 p4 p5 p6 p7 p8 p9 p10 p11 p12 p13 p14 p15 c0 c1 c2 c3 c4 c5 c6 c7 c8 c9 c10 c11 c12 c13 c14 c15) (by simp [Holds, h1, h2]) rfl
  · rw [if_neg (fun h => h1 h.1), if_neg (fun h => h1 h.1)]
    rcases hf with rfl | rfl
    · exact pf_ok (nb_sound [] [(16, true)] x7_sound) (LoopsOk.names rfl) (bad66a p0 p1 p2 p3 p4 p5 p6 p7 p8 p9 p10 p11 p12 p13 p14 p15 c0 c1 c2 c3 c4 c5 c6 c7 c8 c9 c10 c11 c12 c13 c14 c15) (by simp [Holds, h1]) rfl
    · exact pf_ok (nb_sound [] [(14, true)] x7_sound) noLoops_ok (bad67a p0 p1 p2 p3 p4 p5 p6 p7 p8 p9 p10 p11 p12 p13 p14 p15 c0 c1 c2 c3 c4 c5 c6 c7 c8 c9 c10 c11 c12 c13 c14 c15) (by simp [Holds, h1]) rfl
end Go.Proofs.Ytfbjpenbpbpcaaa
