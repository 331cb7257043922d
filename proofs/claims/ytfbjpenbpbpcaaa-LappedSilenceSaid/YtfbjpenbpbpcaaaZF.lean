/-
  Chapter 07: functions that look at all of an array's numbers (lapped.Check, and the reference's).
-/
import Derived.Test.YtfbjpenbpbpcaaaZE
namespace Go.Proofs.Ytfbjpenbpbpcaaa
open Go Den
set_option maxRecDepth 100000
set_option linter.unusedSimpArgs false
set_option linter.unusedVariables false

theorem first_bad (p : Int → Bool) : ∀ (xs : List Int), xs.all p = false → ∃ i, i < xs.length ∧ p (xs.getD i 0) = false ∧ ∀ j, j < i → p (xs.getD j 0) = true := by
  intro xs
  induction xs with
  | nil => intro h; simp at h
  | cons x xs ih =>
    intro h
    cases hx : p x with
    | false => exact ⟨0, by simp, by simpa using hx, fun j hj => by omega⟩
    | true =>
      rw [List.all_cons, hx, Bool.true_and] at h
      obtain ⟨i, h1, h2, h3⟩ := ih h
      refine ⟨i + 1, by simpa using h1, by simpa using h2, fun j hj => ?_⟩
      cases j with
      | zero => simpa using hx
      | succ j => simpa using h3 j (by omega)

theorem all_getD {p : Int → Bool} {xs : List Int} (h : xs.all p = true) {i : Nat} (hi : i < xs.length) : p (xs.getD i 0) = true := by
  rw [List.getD_eq_getElem?_getD, List.getElem?_eq_getElem hi]
  exact List.all_eq_true.1 h _ (List.getElem_mem hi)

def okP (x : Int) : Bool := decide (-32768 ≤ x) && decide (x ≤ 32767)
theorem sat16v (x : Int) : satZ x 16 = if x < -32768 then -32768 else if 32767 < x then 32767 else x := by
  have e : topZ 16 = 32767 := by decide
  unfold satZ withinZ
  rw [e]
  repeat' split
  all_goals omega
theorem sat16 (x : Int) : (satZ x 16 != x) = !okP x := by
  rw [sat16v]
  unfold okP
  by_cases h1 : x < -32768
  · have : ¬ -32768 ≤ x := by omega
    simp [h1, this]; omega
  · by_cases h2 : 32767 < x
    · have : ¬ x ≤ 32767 := by omega
      simp [h1, h2, this]; omega
    · have a : -32768 ≤ x := by omega
      have b : x ≤ 32767 := by omega
      simp [h1, h2, a, b]

/-! ### chk (68) -/
def chkF (a : Value) (i : Nat) : Slots := [(5, a), (6, .int .i64 i)]
theorem chk_code : codeOk (loopAt Try.prog 68 0) = true := by kernel_rfl
theorem chk_loops : loopsOf (bodyOf Try.prog 68) = [loopAt Try.prog 68 0] := by kernel_rfl
theorem chk_good (x0 x1 x2 x3 x4 x5 x6 x7 x8 x9 x10 x11 x12 x13 x14 x15 : Int) (H : Heap) (lo : Nat) : (List.range' 0 16).map (fun (i : Nat) => evL Try.prog ext (nmPre fx3Pre) (nbC [] [(12, false)] fx3) noLoops 300 14 (loopAt Try.prog 68 0) (chkF (.agg (ints [x0, x1, x2, x3, x4, x5, x6, x7, x8, x9, x10, x11, x12, x13, x14, x15]).toArray) i) H lo [] [5, 6]) =
  (List.range' 0 16).map fun (i : Nat) => some (.normal, chkF (.agg (ints [x0, x1, x2, x3, x4, x5, x6, x7, x8, x9, x10, x11, x12, x13, x14, x15]).toArray) (i + 1), H, lo, [(satZ ([x0, x1, x2, x3, x4, x5, x6, x7, x8, x9, x10, x11, x12, x13, x14, x15].getD i 0) 16 != ([x0, x1, x2, x3, x4, x5, x6, x7, x8, x9, x10, x11, x12, x13, x14, x15].getD i 0), false)]) := by kernel_rfl
theorem chk_bad0 (x0 x1 x2 x3 x4 x5 x6 x7 x8 x9 x10 x11 x12 x13 x14 x15 : Int) (H : Heap) (lo : Nat) : (List.range' 0 16).map (fun (i : Nat) => evL Try.prog ext (nmPre fx3Pre) (nbC [] [(12, true)] fx3) noLoops 300 14 (loopAt Try.prog 68 0) (chkF (.agg (ints [x0, x1, x2, x3, x4, x5, x6, x7, x8, x9, x10, x11, x12, x13, x14, x15]).toArray) i) H lo [] [2]) =
  (List.range' 0 16).map fun (i : Nat) => some (.ret, [(2, .int .i64 1)], H, lo, [(satZ ([x0, x1, x2, x3, x4, x5, x6, x7, x8, x9, x10, x11, x12, x13, x14, x15].getD i 0) 16 != ([x0, x1, x2, x3, x4, x5, x6, x7, x8, x9, x10, x11, x12, x13, x14, x15].getD i 0), true)]) := by kernel_rfl
theorem chk_end (x0 x1 x2 x3 x4 x5 x6 x7 x8 x9 x10 x11 x12 x13 x14 x15 : Int) (H : Heap) (lo : Nat) : evL Try.prog ext noPre noC noLoops 300 14 (loopAt Try.prog 68 0) (chkF (.agg (ints [x0, x1, x2, x3, x4, x5, x6, x7, x8, x9, x10, x11, x12, x13, x14, x15]).toArray) 16) H lo [] [] = some (.exit 0, [], H, lo, []) := by kernel_rfl
noncomputable def chkN (a : Value) (H : Heap) (lo : Nat) (x : Ex) (F : Slots) : Loops := { loop := sumL 2 ⟨chkF a 0, H, lo⟩ x ⟨F, H, lo⟩ }
theorem chk_fnt (x0 x1 x2 x3 x4 x5 x6 x7 x8 x9 x10 x11 x12 x13 x14 x15 : Int) : (evFnL Try.prog ext 300 noPre noC (chkN (.agg (ints [x0, x1, x2, x3, x4, x5, x6, x7, x8, x9, x10, x11, x12, x13, x14, x15]).toArray) [⟨true, none, ints [x0, x1, x2, x3, x4, x5, x6, x7, x8, x9, x10, x11, x12, x13, x14, x15]⟩] 0 (.exit 0) []) [] 68 [(.agg (ints [x0, x1, x2, x3, x4, x5, x6, x7, x8, x9, x10, x11, x12, x13, x14, x15]).toArray)] []).map (fun r => (r.1.1, r.2)) = some (.int .i64 0, [(cdec (chkF (.agg (ints [x0, x1, x2, x3, x4, x5, x6, x7, x8, x9, x10, x11, x12, x13, x14, x15]).toArray) 0 = chkF (.agg (ints [x0, x1, x2, x3, x4, x5, x6, x7, x8, x9, x10, x11, x12, x13, x14, x15]).toArray) 0), true), (cdec ([(⟨true, none, ints [x0, x1, x2, x3, x4, x5, x6, x7, x8, x9, x10, x11, x12, x13, x14, x15]⟩ : Blk)] = [⟨true, none, ints [x0, x1, x2, x3, x4, x5, x6, x7, x8, x9, x10, x11, x12, x13, x14, x15]⟩]), true), (cdec (0 = 0), true)]) := by kernel_rfl
theorem chk_fnf (x0 x1 x2 x3 x4 x5 x6 x7 x8 x9 x10 x11 x12 x13 x14 x15 : Int) : (evFnL Try.prog ext 300 noPre noC (chkN (.agg (ints [x0, x1, x2, x3, x4, x5, x6, x7, x8, x9, x10, x11, x12, x13, x14, x15]).toArray) [⟨true, none, ints [x0, x1, x2, x3, x4, x5, x6, x7, x8, x9, x10, x11, x12, x13, x14, x15]⟩] 0 .ret [(2, .int .i64 1)]) [] 68 [(.agg (ints [x0, x1, x2, x3, x4, x5, x6, x7, x8, x9, x10, x11, x12, x13, x14, x15]).toArray)] []).map (fun r => (r.1.1, r.2)) = some (.int .i64 1, [(cdec (chkF (.agg (ints [x0, x1, x2, x3, x4, x5, x6, x7, x8, x9, x10, x11, x12, x13, x14, x15]).toArray) 0 = chkF (.agg (ints [x0, x1, x2, x3, x4, x5, x6, x7, x8, x9, x10, x11, x12, x13, x14, x15]).toArray) 0), true), (cdec ([(⟨true, none, ints [x0, x1, x2, x3, x4, x5, x6, x7, x8, x9, x10, x11, x12, x13, x14, x15]⟩ : Blk)] = [⟨true, none, ints [x0, x1, x2, x3, x4, x5, x6, x7, x8, x9, x10, x11, x12, x13, x14, x15]⟩]), true), (cdec (0 = 0), true)]) := by kernel_rfl

theorem chk_ok (xs : List Int) (hm : xs.length = 16) : CallOk Try.prog 68 [.agg (ints xs).toArray] [] (bif xs.all (fun x => okP x) then .int .i64 0 else .int .i64 1) [] 0 := by
  obtain ⟨x0, x1, x2, x3, x4, x5, x6, x7, x8, x9, x10, x11, x12, x13, x14, x15, rfl⟩ : ∃ x0 x1 x2 x3 x4 x5 x6 x7 x8 x9 x10 x11 x12 x13 x14 x15, xs = [x0, x1, x2, x3, x4, x5, x6, x7, x8, x9, x10, x11, x12, x13, x14, x15] := by match xs, hm with | [x0, x1, x2, x3, x4, x5, x6, x7, x8, x9, x10, x11, x12, x13, x14, x15], _ => exact ⟨x0, x1, x2, x3, x4, x5, x6, x7, x8, x9, x10, x11, x12, x13, x14, x15, rfl⟩
  have hstep : ∀ i, i < 16 → (okP ([x0, x1, x2, x3, x4, x5, x6, x7, x8, x9, x10, x11, x12, x13, x14, x15].getD i 0)) = true → WP Try.prog 14 (loopAt Try.prog 68 0) ⟨chkF (.agg (ints [x0, x1, x2, x3, x4, x5, x6, x7, x8, x9, x10, x11, x12, x13, x14, x15]).toArray) i, [⟨true, none, ints [x0, x1, x2, x3, x4, x5, x6, x7, x8, x9, x10, x11, x12, x13, x14, x15]⟩], 0⟩ .normal ⟨chkF (.agg (ints [x0, x1, x2, x3, x4, x5, x6, x7, x8, x9, x10, x11, x12, x13, x14, x15]).toArray) (i + 1), [⟨true, none, ints [x0, x1, x2, x3, x4, x5, x6, x7, x8, x9, x10, x11, x12, x13, x14, x15]⟩], 0⟩ := by
    intro i hi hg
    refine WP.run progOk extSound (nb_sound [] [(12, false)] fx3_sound) chk_code noLoops_ok [5, 6] (of_list (chk_good x0 x1 x2 x3 x4 x5 x6 x7 x8 x9 x10 x11 x12 x13 x14 x15 _ _) (by omega) (by omega)) ?_
    revert hg
    generalize ([x0, x1, x2, x3, x4, x5, x6, x7, x8, x9, x10, x11, x12, x13, x14, x15].getD i 0) = y
    intro hg
    simp [Holds, sat16, hg]
  have hbad : ∀ i, i < 16 → (okP ([x0, x1, x2, x3, x4, x5, x6, x7, x8, x9, x10, x11, x12, x13, x14, x15].getD i 0)) = false → WP Try.prog 14 (loopAt Try.prog 68 0) ⟨chkF (.agg (ints [x0, x1, x2, x3, x4, x5, x6, x7, x8, x9, x10, x11, x12, x13, x14, x15]).toArray) i, [⟨true, none, ints [x0, x1, x2, x3, x4, x5, x6, x7, x8, x9, x10, x11, x12, x13, x14, x15]⟩], 0⟩ .ret ⟨[(2, .int .i64 1)], [⟨true, none, ints [x0, x1, x2, x3, x4, x5, x6, x7, x8, x9, x10, x11, x12, x13, x14, x15]⟩], 0⟩ := by
    intro i hi hg
    refine WP.run progOk extSound (nb_sound [] [(12, true)] fx3_sound) chk_code noLoops_ok [2] (of_list (chk_bad0 x0 x1 x2 x3 x4 x5 x6 x7 x8 x9 x10 x11 x12 x13 x14 x15 _ _) (by omega) (by omega)) ?_
    revert hg 
    generalize ([x0, x1, x2, x3, x4, x5, x6, x7, x8, x9, x10, x11, x12, x13, x14, x15].getD i 0) = y
    intro hg 
    simp [Holds, sat16, hg]
  have hend : WP Try.prog 14 (loopAt Try.prog 68 0) ⟨chkF (.agg (ints [x0, x1, x2, x3, x4, x5, x6, x7, x8, x9, x10, x11, x12, x13, x14, x15]).toArray) 16, [⟨true, none, ints [x0, x1, x2, x3, x4, x5, x6, x7, x8, x9, x10, x11, x12, x13, x14, x15]⟩], 0⟩ (.exit 0) ⟨[], [⟨true, none, ints [x0, x1, x2, x3, x4, x5, x6, x7, x8, x9, x10, x11, x12, x13, x14, x15]⟩], 0⟩ :=
    WP.run progOk extSound noC_sound chk_code noLoops_ok [] (chk_end x0 x1 x2 x3 x4 x5 x6 x7 x8 x9 x10 x11 x12 x13 x14 x15 _ _) (by simp [Holds])
  have hsum : ∀ x F, WP Try.prog 14 (.loop (loopAt Try.prog 68 0)) ⟨chkF (.agg (ints [x0, x1, x2, x3, x4, x5, x6, x7, x8, x9, x10, x11, x12, x13, x14, x15]).toArray) 0, [⟨true, none, ints [x0, x1, x2, x3, x4, x5, x6, x7, x8, x9, x10, x11, x12, x13, x14, x15]⟩], 0⟩ x ⟨F, [⟨true, none, ints [x0, x1, x2, x3, x4, x5, x6, x7, x8, x9, x10, x11, x12, x13, x14, x15]⟩], 0⟩ → LoopsOk Try.prog 14 (chkN (.agg (ints [x0, x1, x2, x3, x4, x5, x6, x7, x8, x9, x10, x11, x12, x13, x14, x15]).toArray) [⟨true, none, ints [x0, x1, x2, x3, x4, x5, x6, x7, x8, x9, x10, x11, x12, x13, x14, x15]⟩] 0 x F) (bodyOf Try.prog 68) := fun x F h => LoopsOk.sum rfl (by
    intro b hb _
    rw [chk_loops] at hb
    simp only [List.mem_singleton] at hb
    subst hb
    exact h)
  cases ha : [x0, x1, x2, x3, x4, x5, x6, x7, x8, x9, x10, x11, x12, x13, x14, x15].all (fun x => okP x) with
  | true =>
    have hl := WP.loop (fun i => ⟨chkF (.agg (ints [x0, x1, x2, x3, x4, x5, x6, x7, x8, x9, x10, x11, x12, x13, x14, x15]).toArray) i, [⟨true, none, ints [x0, x1, x2, x3, x4, x5, x6, x7, x8, x9, x10, x11, x12, x13, x14, x15]⟩], 0⟩) 16 (by simp) (fun i hi => hstep i hi (all_getD ha hi)) hend
    exact pf_ok noC_sound (hsum _ _ hl) (chk_fnt x0 x1 x2 x3 x4 x5 x6 x7 x8 x9 x10 x11 x12 x13 x14 x15) (by simp [Holds, cdec]) rfl
  | false =>
    obtain ⟨i, hi, hg, hj⟩ := first_bad _ _ ha
    have hi' : i < 16 := hi
    have hl := WP.loop (fun i => ⟨chkF (.agg (ints [x0, x1, x2, x3, x4, x5, x6, x7, x8, x9, x10, x11, x12, x13, x14, x15]).toArray) i, [⟨true, none, ints [x0, x1, x2, x3, x4, x5, x6, x7, x8, x9, x10, x11, x12, x13, x14, x15]⟩], 0⟩) i (by simp) (fun j hj' => hstep j (by omega) (hj j hj')) (hbad i hi' hg)
    exact pf_ok noC_sound (hsum _ _ hl) (chk_fnf x0 x1 x2 x3 x4 x5 x6 x7 x8 x9 x10 x11 x12 x13 x14 x15) (by simp [Holds, cdec]) rfl

/-! ### rchk (69) -/
def rchkF (a : Value) (i : Nat) : Slots := [(5, a), (6, .int .i64 i)]
theorem rchk_code : codeOk (loopAt Try.prog 69 0) = true := by kernel_rfl
theorem rchk_loops : loopsOf (bodyOf Try.prog 69) = [loopAt Try.prog 69 0] := by kernel_rfl
theorem rchk_good (x0 x1 x2 x3 x4 x5 x6 x7 x8 x9 x10 x11 x12 x13 x14 x15 : Int) (H : Heap) (lo : Nat) : (List.range' 0 16).map (fun (i : Nat) => evL Try.prog ext (nmPre noPre) (nbC [] [(10, false), (13, false)] noC) noLoops 300 16 (loopAt Try.prog 69 0) (rchkF (.agg (ints [x0, x1, x2, x3, x4, x5, x6, x7, x8, x9, x10, x11, x12, x13, x14, x15]).toArray) i) H lo [] [5, 6]) =
  (List.range' 0 16).map fun (i : Nat) => some (.normal, rchkF (.agg (ints [x0, x1, x2, x3, x4, x5, x6, x7, x8, x9, x10, x11, x12, x13, x14, x15]).toArray) (i + 1), H, lo, [(decide (([x0, x1, x2, x3, x4, x5, x6, x7, x8, x9, x10, x11, x12, x13, x14, x15].getD i 0) > 32767), false), (decide (([x0, x1, x2, x3, x4, x5, x6, x7, x8, x9, x10, x11, x12, x13, x14, x15].getD i 0) < -32768), false)]) := by kernel_rfl
theorem rchk_bad0 (x0 x1 x2 x3 x4 x5 x6 x7 x8 x9 x10 x11 x12 x13 x14 x15 : Int) (H : Heap) (lo : Nat) : (List.range' 0 16).map (fun (i : Nat) => evL Try.prog ext (nmPre noPre) (nbC [] [(10, true)] noC) noLoops 300 16 (loopAt Try.prog 69 0) (rchkF (.agg (ints [x0, x1, x2, x3, x4, x5, x6, x7, x8, x9, x10, x11, x12, x13, x14, x15]).toArray) i) H lo [] [2]) =
  (List.range' 0 16).map fun (i : Nat) => some (.ret, [(2, .int .i64 1)], H, lo, [(decide (([x0, x1, x2, x3, x4, x5, x6, x7, x8, x9, x10, x11, x12, x13, x14, x15].getD i 0) < -32768), true)]) := by kernel_rfl
theorem rchk_bad1 (x0 x1 x2 x3 x4 x5 x6 x7 x8 x9 x10 x11 x12 x13 x14 x15 : Int) (H : Heap) (lo : Nat) : (List.range' 0 16).map (fun (i : Nat) => evL Try.prog ext (nmPre noPre) (nbC [] [(10, false), (13, true)] noC) noLoops 300 16 (loopAt Try.prog 69 0) (rchkF (.agg (ints [x0, x1, x2, x3, x4, x5, x6, x7, x8, x9, x10, x11, x12, x13, x14, x15]).toArray) i) H lo [] [2]) =
  (List.range' 0 16).map fun (i : Nat) => some (.ret, [(2, .int .i64 1)], H, lo, [(decide (([x0, x1, x2, x3, x4, x5, x6, x7, x8, x9, x10, x11, x12, x13, x14, x15].getD i 0) > 32767), true), (decide (([x0, x1, x2, x3, x4, x5, x6, x7, x8, x9, x10, x11, x12, x13, x14, x15].getD i 0) < -32768), false)]) := by kernel_rfl
theorem rchk_end (x0 x1 x2 x3 x4 x5 x6 x7 x8 x9 x10 x11 x12 x13 x14 x15 : Int) (H : Heap) (lo : Nat) : evL Try.prog ext noPre noC noLoops 300 16 (loopAt Try.prog 69 0) (rchkF (.agg (ints [x0, x1, x2, x3, x4, x5, x6, x7, x8, x9, x10, x11, x12, x13, x14, x15]).toArray) 16) H lo [] [] = some (.exit 0, [], H, lo, []) := by kernel_rfl
noncomputable def rchkN (a : Value) (H : Heap) (lo : Nat) (x : Ex) (F : Slots) : Loops := { loop := sumL 2 ⟨rchkF a 0, H, lo⟩ x ⟨F, H, lo⟩ }
theorem rchk_fnt (x0 x1 x2 x3 x4 x5 x6 x7 x8 x9 x10 x11 x12 x13 x14 x15 : Int) : (evFnL Try.prog ext 300 noPre noC (rchkN (.agg (ints [x0, x1, x2, x3, x4, x5, x6, x7, x8, x9, x10, x11, x12, x13, x14, x15]).toArray) [⟨true, none, ints [x0, x1, x2, x3, x4, x5, x6, x7, x8, x9, x10, x11, x12, x13, x14, x15]⟩] 0 (.exit 0) []) [] 69 [(.agg (ints [x0, x1, x2, x3, x4, x5, x6, x7, x8, x9, x10, x11, x12, x13, x14, x15]).toArray)] []).map (fun r => (r.1.1, r.2)) = some (.int .i64 0, [(cdec (rchkF (.agg (ints [x0, x1, x2, x3, x4, x5, x6, x7, x8, x9, x10, x11, x12, x13, x14, x15]).toArray) 0 = rchkF (.agg (ints [x0, x1, x2, x3, x4, x5, x6, x7, x8, x9, x10, x11, x12, x13, x14, x15]).toArray) 0), true), (cdec ([(⟨true, none, ints [x0, x1, x2, x3, x4, x5, x6, x7, x8, x9, x10, x11, x12, x13, x14, x15]⟩ : Blk)] = [⟨true, none, ints [x0, x1, x2, x3, x4, x5, x6, x7, x8, x9, x10, x11, x12, x13, x14, x15]⟩]), true), (cdec (0 = 0), true)]) := by kernel_rfl
theorem rchk_fnf (x0 x1 x2 x3 x4 x5 x6 x7 x8 x9 x10 x11 x12 x13 x14 x15 : Int) : (evFnL Try.prog ext 300 noPre noC (rchkN (.agg (ints [x0, x1, x2, x3, x4, x5, x6, x7, x8, x9, x10, x11, x12, x13, x14, x15]).toArray) [⟨true, none, ints [x0, x1, x2, x3, x4, x5, x6, x7, x8, x9, x10, x11, x12, x13, x14, x15]⟩] 0 .ret [(2, .int .i64 1)]) [] 69 [(.agg (ints [x0, x1, x2, x3, x4, x5, x6, x7, x8, x9, x10, x11, x12, x13, x14, x15]).toArray)] []).map (fun r => (r.1.1, r.2)) = some (.int .i64 1, [(cdec (rchkF (.agg (ints [x0, x1, x2, x3, x4, x5, x6, x7, x8, x9, x10, x11, x12, x13, x14, x15]).toArray) 0 = rchkF (.agg (ints [x0, x1, x2, x3, x4, x5, x6, x7, x8, x9, x10, x11, x12, x13, x14, x15]).toArray) 0), true), (cdec ([(⟨true, none, ints [x0, x1, x2, x3, x4, x5, x6, x7, x8, x9, x10, x11, x12, x13, x14, x15]⟩ : Blk)] = [⟨true, none, ints [x0, x1, x2, x3, x4, x5, x6, x7, x8, x9, x10, x11, x12, x13, x14, x15]⟩]), true), (cdec (0 = 0), true)]) := by kernel_rfl

theorem rchk_ok (xs : List Int) (hm : xs.length = 16) : CallOk Try.prog 69 [.agg (ints xs).toArray] [] (bif xs.all (fun x => okP x) then .int .i64 0 else .int .i64 1) [] 0 := by
  obtain ⟨x0, x1, x2, x3, x4, x5, x6, x7, x8, x9, x10, x11, x12, x13, x14, x15, rfl⟩ : ∃ x0 x1 x2 x3 x4 x5 x6 x7 x8 x9 x10 x11 x12 x13 x14 x15, xs = [x0, x1, x2, x3, x4, x5, x6, x7, x8, x9, x10, x11, x12, x13, x14, x15] := by match xs, hm with | [x0, x1, x2, x3, x4, x5, x6, x7, x8, x9, x10, x11, x12, x13, x14, x15], _ => exact ⟨x0, x1, x2, x3, x4, x5, x6, x7, x8, x9, x10, x11, x12, x13, x14, x15, rfl⟩
  have hstep : ∀ i, i < 16 → (okP ([x0, x1, x2, x3, x4, x5, x6, x7, x8, x9, x10, x11, x12, x13, x14, x15].getD i 0)) = true → WP Try.prog 16 (loopAt Try.prog 69 0) ⟨rchkF (.agg (ints [x0, x1, x2, x3, x4, x5, x6, x7, x8, x9, x10, x11, x12, x13, x14, x15]).toArray) i, [⟨true, none, ints [x0, x1, x2, x3, x4, x5, x6, x7, x8, x9, x10, x11, x12, x13, x14, x15]⟩], 0⟩ .normal ⟨rchkF (.agg (ints [x0, x1, x2, x3, x4, x5, x6, x7, x8, x9, x10, x11, x12, x13, x14, x15]).toArray) (i + 1), [⟨true, none, ints [x0, x1, x2, x3, x4, x5, x6, x7, x8, x9, x10, x11, x12, x13, x14, x15]⟩], 0⟩ := by
    intro i hi hg
    refine WP.run progOk extSound (nb_sound [] [(10, false), (13, false)] noC_sound) rchk_code noLoops_ok [5, 6] (of_list (rchk_good x0 x1 x2 x3 x4 x5 x6 x7 x8 x9 x10 x11 x12 x13 x14 x15 _ _) (by omega) (by omega)) ?_
    revert hg
    generalize ([x0, x1, x2, x3, x4, x5, x6, x7, x8, x9, x10, x11, x12, x13, x14, x15].getD i 0) = y
    intro hg
    simp [okP] at hg
    simp [Holds]
    omega
  have hbad : ∀ i, i < 16 → (okP ([x0, x1, x2, x3, x4, x5, x6, x7, x8, x9, x10, x11, x12, x13, x14, x15].getD i 0)) = false → WP Try.prog 16 (loopAt Try.prog 69 0) ⟨rchkF (.agg (ints [x0, x1, x2, x3, x4, x5, x6, x7, x8, x9, x10, x11, x12, x13, x14, x15]).toArray) i, [⟨true, none, ints [x0, x1, x2, x3, x4, x5, x6, x7, x8, x9, x10, x11, x12, x13, x14, x15]⟩], 0⟩ .ret ⟨[(2, .int .i64 1)], [⟨true, none, ints [x0, x1, x2, x3, x4, x5, x6, x7, x8, x9, x10, x11, x12, x13, x14, x15]⟩], 0⟩ := by
    intro i hi hg
    by_cases hc0 : ([x0, x1, x2, x3, x4, x5, x6, x7, x8, x9, x10, x11, x12, x13, x14, x15].getD i 0) < -32768
    · refine WP.run progOk extSound (nb_sound [] [(10, true)] noC_sound) rchk_code noLoops_ok [2] (of_list (rchk_bad0 x0 x1 x2 x3 x4 x5 x6 x7 x8 x9 x10 x11 x12 x13 x14 x15 _ _) (by omega) (by omega)) ?_
      revert hc0
      generalize ([x0, x1, x2, x3, x4, x5, x6, x7, x8, x9, x10, x11, x12, x13, x14, x15].getD i 0) = y
      intro hc0
      simp [Holds, hc0]
    refine WP.run progOk extSound (nb_sound [] [(10, false), (13, true)] noC_sound) rchk_code noLoops_ok [2] (of_list (rchk_bad1 x0 x1 x2 x3 x4 x5 x6 x7 x8 x9 x10 x11 x12 x13 x14 x15 _ _) (by omega) (by omega)) ?_
    revert hg hc0
    generalize ([x0, x1, x2, x3, x4, x5, x6, x7, x8, x9, x10, x11, x12, x13, x14, x15].getD i 0) = y
    intro hg hc0
    simp [okP] at hg
    simp [Holds]
    omega
  have hend : WP Try.prog 16 (loopAt Try.prog 69 0) ⟨rchkF (.agg (ints [x0, x1, x2, x3, x4, x5, x6, x7, x8, x9, x10, x11, x12, x13, x14, x15]).toArray) 16, [⟨true, none, ints [x0, x1, x2, x3, x4, x5, x6, x7, x8, x9, x10, x11, x12, x13, x14, x15]⟩], 0⟩ (.exit 0) ⟨[], [⟨true, none, ints [x0, x1, x2, x3, x4, x5, x6, x7, x8, x9, x10, x11, x12, x13, x14, x15]⟩], 0⟩ :=
    WP.run progOk extSound noC_sound rchk_code noLoops_ok [] (rchk_end x0 x1 x2 x3 x4 x5 x6 x7 x8 x9 x10 x11 x12 x13 x14 x15 _ _) (by simp [Holds])
  have hsum : ∀ x F, WP Try.prog 16 (.loop (loopAt Try.prog 69 0)) ⟨rchkF (.agg (ints [x0, x1, x2, x3, x4, x5, x6, x7, x8, x9, x10, x11, x12, x13, x14, x15]).toArray) 0, [⟨true, none, ints [x0, x1, x2, x3, x4, x5, x6, x7, x8, x9, x10, x11, x12, x13, x14, x15]⟩], 0⟩ x ⟨F, [⟨true, none, ints [x0, x1, x2, x3, x4, x5, x6, x7, x8, x9, x10, x11, x12, x13, x14, x15]⟩], 0⟩ → LoopsOk Try.prog 16 (rchkN (.agg (ints [x0, x1, x2, x3, x4, x5, x6, x7, x8, x9, x10, x11, x12, x13, x14, x15]).toArray) [⟨true, none, ints [x0, x1, x2, x3, x4, x5, x6, x7, x8, x9, x10, x11, x12, x13, x14, x15]⟩] 0 x F) (bodyOf Try.prog 69) := fun x F h => LoopsOk.sum rfl (by
    intro b hb _
    rw [rchk_loops] at hb
    simp only [List.mem_singleton] at hb
    subst hb
    exact h)
  cases ha : [x0, x1, x2, x3, x4, x5, x6, x7, x8, x9, x10, x11, x12, x13, x14, x15].all (fun x => okP x) with
  | true =>
    have hl := WP.loop (fun i => ⟨rchkF (.agg (ints [x0, x1, x2, x3, x4, x5, x6, x7, x8, x9, x10, x11, x12, x13, x14, x15]).toArray) i, [⟨true, none, ints [x0, x1, x2, x3, x4, x5, x6, x7, x8, x9, x10, x11, x12, x13, x14, x15]⟩], 0⟩) 16 (by simp) (fun i hi => hstep i hi (all_getD ha hi)) hend
    exact pf_ok noC_sound (hsum _ _ hl) (rchk_fnt x0 x1 x2 x3 x4 x5 x6 x7 x8 x9 x10 x11 x12 x13 x14 x15) (by simp [Holds, cdec]) rfl
  | false =>
    obtain ⟨i, hi, hg, hj⟩ := first_bad _ _ ha
    have hi' : i < 16 := hi
    have hl := WP.loop (fun i => ⟨rchkF (.agg (ints [x0, x1, x2, x3, x4, x5, x6, x7, x8, x9, x10, x11, x12, x13, x14, x15]).toArray) i, [⟨true, none, ints [x0, x1, x2, x3, x4, x5, x6, x7, x8, x9, x10, x11, x12, x13, x14, x15]⟩], 0⟩) i (by simp) (fun j hj' => hstep j (by omega) (hj j hj')) (hbad i hi' hg)
    exact pf_ok noC_sound (hsum _ _ hl) (rchk_fnf x0 x1 x2 x3 x4 x5 x6 x7 x8 x9 x10 x11 x12 x13 x14 x15) (by simp [Holds, cdec]) rfl

end Go.Proofs.Ytfbjpenbpbpcaaa

/-
  Round, and the reference's, by few whole numbers of bits: what they come to for any number, with nothing asked.
-/
namespace Go.Proofs.Ytfbjpenbpbpcaaa
open Go Den
set_option maxRecDepth 100000
set_option linter.unusedSimpArgs false
set_option linter.unusedVariables false

def bitsL : List Nat := [6, 8, 16, 18, 20, 27, 28, 30]
def inL (b : Int) : Bool := bitsL.any fun n => decide ((n : Int) = b)

def raw45 (v b : Int) : Int := IntKind.wrap IntKind.i64 (Int.fdiv v (2 ^ min (Int.toNat b) (IntKind.bits IntKind.i64)) + IntKind.wrap IntKind.i64 ((BitVec.ofInt (IntKind.bits IntKind.i64) (Int.fdiv v (2 ^ min (Int.toNat (IntKind.wrap IntKind.i64 (b - 1))) (IntKind.bits IntKind.i64))) &&& BitVec.ofInt (IntKind.bits IntKind.i64) 1).toNat : Int))

theorem raw45_run (v : Int) : (bitsL.map fun (b : Nat) => (evFnL Try.prog ext 300 noPre noC noLoops [] 45 [.int .i64 v, .int .i64 (b : Int)] []).map (fun r => (r.1.1, r.2))) = bitsL.map fun (b : Nat) => some (.int .i64 (raw45 v b), []) := by kernel_rfl

theorem of_map {α : Type} {f g : Nat → α} : ∀ {l : List Nat}, l.map f = l.map g → ∀ i ∈ l, f i = g i := by
  intro l
  induction l with
  | nil => intro _ i hi; simp at hi
  | cons x l ih =>
    intro h i hi
    simp only [List.map_cons, List.cons.injEq] at h
    rcases List.mem_cons.1 hi with rfl | hi
    · exact h.1
    · exact ih h.2 i hi

theorem inL_get {b : Int} (h : inL b = true) : ∃ n ∈ bitsL, (n : Int) = b := by
  unfold inL at h
  obtain ⟨n, hn, h2⟩ := List.any_eq_true.1 h
  exact ⟨n, hn, by simpa using h2⟩

theorem raw45_ok (v b : Int) (h : inL b = true) : CallOk Try.prog 45 [.int .i64 v, .int .i64 b] [] (.int .i64 (raw45 v b)) [] 0 := by
  obtain ⟨n, hn, rfl⟩ := inL_get h
  exact pf_ok noC_sound noLoops_ok (of_map (raw45_run v) n hn) (by simp [Holds]) rfl

def downZ (v b : Int) : Int := Int.fdiv v (2 ^ min (Int.toNat (IntKind.wrap IntKind.u64 b)) (IntKind.bits IntKind.i64))
def tst46 (v b : Int) : Prop := IntKind.wrap IntKind.i64 (v - IntKind.wrap IntKind.i64 (downZ v b * 2 ^ min (Int.toNat (IntKind.wrap IntKind.u64 b)) (IntKind.bits IntKind.i64))) ≥ IntKind.wrap IntKind.i64 (1 * 2 ^ min (Int.toNat (IntKind.wrap IntKind.u64 (IntKind.wrap IntKind.i64 (b - 1)))) (IntKind.bits IntKind.i64))
instance (v b : Int) : Decidable (tst46 v b) := by unfold tst46; infer_instance
def raw46 (v b : Int) : Int := if tst46 v b then IntKind.wrap IntKind.i64 (downZ v b + 1) else downZ v b

theorem raw46_t (v : Int) : (bitsL.map fun (b : Nat) => (evFnL Try.prog ext 300 noPre noC noLoops [(5, true)] 46 [.int .i64 v, .int .i64 (b : Int)] []).map (fun r => (r.1.1, r.2))) = bitsL.map fun (b : Nat) => some (.int .i64 (IntKind.wrap IntKind.i64 (downZ v b + 1)), [(decide (tst46 v b), true)]) := by kernel_rfl
theorem raw46_f (v : Int) : (bitsL.map fun (b : Nat) => (evFnL Try.prog ext 300 noPre noC noLoops [(5, false)] 46 [.int .i64 v, .int .i64 (b : Int)] []).map (fun r => (r.1.1, r.2))) = bitsL.map fun (b : Nat) => some (.int .i64 (downZ v b), [(decide (tst46 v b), false)]) := by kernel_rfl

theorem raw46_ok (v b : Int) (h : inL b = true) : CallOk Try.prog 46 [.int .i64 v, .int .i64 b] [] (.int .i64 (raw46 v b)) [] 0 := by
  obtain ⟨n, hn, rfl⟩ := inL_get h
  unfold raw46
  by_cases ht : tst46 v n
  · rw [if_pos ht]
    exact pf_ok noC_sound noLoops_ok (of_map (raw46_t v) n hn) (by simp [Holds, ht]) rfl
  · rw [if_neg ht]
    exact pf_ok noC_sound noLoops_ok (of_map (raw46_f v) n hn) (by simp [Holds, ht]) rfl

theorem raw45_eq (v b : Int) (hv : inI v = true) (h : inL b = true) : raw45 v b = roundZ v b := by
  obtain ⟨m, hm, rfl⟩ := inL_get h
  have hm2 : 6 ≤ m ∧ m ≤ 30 := by simp [bitsL] at hm; omega
  obtain ⟨n, rfl⟩ : ∃ n, m = n + 1 := ⟨m - 1, by omega⟩
  have hv' := inI_iff.1 hv
  have e1 : ((n + 1 : Nat) : Int) - 1 = n := by omega
  have hw : IntKind.i64.wrap (n : Int) = n := wrap_in (inI_iff.2 (by omega))
  have t1 : min (Int.toNat ((n + 1 : Nat) : Int)) (IntKind.bits IntKind.i64) = n + 1 := by rw [bits64]; omega
  have t2 : min (Int.toNat (n : Int)) (IntKind.bits IntKind.i64) = n := by rw [bits64]; omega
  unfold raw45 roundZ
  rw [if_neg (by omega), if_neg (by omega), e1, hw, t1, t2, and_one, show Int.toNat ((n + 1 : Nat) : Int) = n + 1 by omega, Nat.add_sub_cancel, ← half_up]
  have hq : inI (v.fdiv (2 ^ n) % 2) = true := inI_iff.2 (by omega)
  rw [wrap_in hq]
  refine wrap_in ?_
  have p0 := pow_pos n
  have p1 := pow_pos (n + 1)
  rw [Int.fdiv_eq_ediv_of_nonneg _ (Int.le_of_lt p1)]
  have a1 : -9223372036854775808 / 2 ≤ v / 2 ^ (n + 1) ∧ v / 2 ^ (n + 1) ≤ 9223372036854775807 / 2 := by
    rw [show (2 : Int) ^ (n + 1) = 2 * 2 ^ n by rw [Int.pow_succ]; omega, ← Int.ediv_ediv_of_nonneg (by decide)]
    have q1 : v / 2 / 2 ^ n ≤ 9223372036854775807 / 2 := by
      refine Int.ediv_le_of_le_mul p0 ?_
      have : (9223372036854775807 / 2 : Int) * 1 ≤ 9223372036854775807 / 2 * 2 ^ n := Int.mul_le_mul_of_nonneg_left (by omega) (by decide)
      omega
    have q2 : -9223372036854775808 / 2 ≤ v / 2 / 2 ^ n := by
      refine Int.le_ediv_of_mul_le p0 ?_
      have : (9223372036854775808 / 2 : Int) * 1 ≤ 9223372036854775808 / 2 * 2 ^ n := Int.mul_le_mul_of_nonneg_left (by omega) (by decide)
      omega
    exact ⟨q2, q1⟩
  exact inI_iff.2 (by omega)

theorem raw46_eq (v b : Int) (hv : inI v = true) (h : inL b = true) : raw46 v b = roundZ v b := by
  obtain ⟨m, hm, rfl⟩ := inL_get h
  have hm2 : 6 ≤ m ∧ m ≤ 30 := by simp [bitsL] at hm; omega
  obtain ⟨n, rfl⟩ : ∃ n, m = n + 1 := ⟨m - 1, by omega⟩
  have hv' := inI_iff.1 hv
  have e1 : ((n + 1 : Nat) : Int) - 1 = n := by omega
  have hw : IntKind.i64.wrap (n : Int) = n := wrap_in (inI_iff.2 (by omega))
  have hu : IntKind.u64.wrap ((n + 1 : Nat) : Int) = ((n + 1 : Nat) : Int) := wrapU_in (by omega) (by omega)
  have hu0 : IntKind.u64.wrap (n : Int) = (n : Int) := wrapU_in (by omega) (by omega)
  have t1 : min (Int.toNat ((n + 1 : Nat) : Int)) (IntKind.bits IntKind.i64) = n + 1 := by rw [bits64]; omega
  have t2 : min (Int.toNat (n : Int)) (IntKind.bits IntKind.i64) = n := by rw [bits64]; omega
  have t3 : Int.toNat ((n + 1 : Nat) : Int) = n + 1 := by omega
  have p0 := pow_pos n
  have p1 := pow_pos (n + 1)
  have q0 := pow_le62 (n := n) (by omega)
  have q1 := pow_le62 (n := n + 1) (by omega)
  have f1 : v.fdiv (2 ^ (n + 1)) = v / 2 ^ (n + 1) := Int.fdiv_eq_ediv_of_nonneg _ (Int.le_of_lt p1)
  have hm0 := mult_in (n := n + 1) hv (by omega)
  have hmw : IntKind.i64.wrap (v.fdiv (2 ^ (n + 1)) * 2 ^ (n + 1)) = v.fdiv (2 ^ (n + 1)) * 2 ^ (n + 1) := by rw [f1]; exact wrap_in hm0
  have hd : inI (v - v.fdiv (2 ^ (n + 1)) * 2 ^ (n + 1)) = true := by
    rw [f1]
    have a1 := Int.mul_ediv_add_emod v (2 ^ (n + 1))
    have a2 := Int.emod_nonneg v (Int.ne_of_gt p1)
    have a3 := Int.emod_lt_of_pos v p1
    rw [Int.mul_comm] at a1
    exact inI_iff.2 (by omega)
  have hw1 := wrap_in hd
  have hw2 : IntKind.i64.wrap (2 ^ n) = 2 ^ n := wrap_in (inI_iff.2 (by omega))
  have hq : inI (v.fdiv (2 ^ (n + 1)) + 1) = true := by
    rw [f1]
    have a1 : -9223372036854775808 / 2 ≤ v / 2 ^ (n + 1) ∧ v / 2 ^ (n + 1) ≤ 9223372036854775807 / 2 := by
      rw [show (2 : Int) ^ (n + 1) = 2 * 2 ^ n by rw [Int.pow_succ]; omega, ← Int.ediv_ediv_of_nonneg (by decide)]
      have q1 : v / 2 / 2 ^ n ≤ 9223372036854775807 / 2 := by
        refine Int.ediv_le_of_le_mul p0 ?_
        have : (9223372036854775807 / 2 : Int) * 1 ≤ 9223372036854775807 / 2 * 2 ^ n := Int.mul_le_mul_of_nonneg_left (by omega) (by decide)
        omega
      have q2 : -9223372036854775808 / 2 ≤ v / 2 / 2 ^ n := by
        refine Int.le_ediv_of_mul_le p0 ?_
        have : (9223372036854775808 / 2 : Int) * 1 ≤ 9223372036854775808 / 2 * 2 ^ n := Int.mul_le_mul_of_nonneg_left (by omega) (by decide)
        omega
      exact ⟨q2, q1⟩
    exact inI_iff.2 (by omega)
  have ed : downZ v ((n + 1 : Nat) : Int) = v.fdiv (2 ^ (n + 1)) := by unfold downZ; rw [hu, t1]
  have et : tst46 v ((n + 1 : Nat) : Int) ↔ v - v.fdiv (2 ^ (n + 1)) * 2 ^ (n + 1) ≥ 2 ^ n := by
    unfold tst46
    rw [ed, hu, t1, e1, hw, hu0, t2, hmw, hw1, Int.one_mul, hw2]
  have er : roundZ v ((n + 1 : Nat) : Int) = (v + 2 ^ n) / 2 ^ (n + 1) := by unfold roundZ; rw [if_neg (by omega), if_neg (by omega), t3, Nat.add_sub_cancel]
  rw [er, half_ref]
  unfold raw46
  rw [ed]
  by_cases hc : v - v.fdiv (2 ^ (n + 1)) * 2 ^ (n + 1) ≥ 2 ^ n
  · rw [if_pos (et.2 hc), if_pos hc, wrap_in hq]
  · rw [if_neg (fun h => hc (et.1 h)), if_neg hc]

def rdO : Oracle := fun f args H => match H with
  | [] => match f, args with
    | 45, [.int .i64 v, .int .i64 b] => match inL b with
      | true => some (.int .i64 (raw45 v b), [], 0)
      | false => none
    | 46, [.int .i64 v, .int .i64 b] => match inL b with
      | true => some (.int .i64 (raw46 v b), [], 0)
      | false => none
    | _, _ => none
  | _ => none
theorem rdO_sound : Sound Try.prog rdO := by
  intro f args H v H' l h
  unfold rdO at h
  split at h
  · split at h
    · split at h
      · simp only [Option.some.injEq, Prod.mk.injEq] at h; obtain ⟨rfl, rfl, rfl⟩ := h
        exact raw45_ok _ _ (by assumption)
      · simp at h
    · split at h
      · simp only [Option.some.injEq, Prod.mk.injEq] at h; obtain ⟨rfl, rfl, rfl⟩ := h
        exact raw46_ok _ _ (by assumption)
      · simp at h
    · simp at h
  · simp at h

end Go.Proofs.Ytfbjpenbpbpcaaa

/-
  Chapter 07: the window and the kernel (lapped.shaped), and the reference's circle.
-/
namespace Go.Proofs.Ytfbjpenbpbpcaaa
open Go Den
set_option maxRecDepth 100000
set_option linter.unusedSimpArgs false
set_option linter.unusedVariables false

def winL : List Int := [823219, 2461729, 4076531, 5652074, 7173184, 8625213, 9994176, 11266890, 12431097, 13475586, 14390298, 15166424, 15796488, 16274424, 16595628, 16757007, 16757007, 16595628, 16274424, 15796488, 15166424, 14390298, 13475586, 12431097, 11266890, 9994176, 8625213, 7173184, 5652074, 4076531, 2461729, 823219]
def rowsL : List (List Int) := [[11266890, 9994176, 8625213, 7173184, 5652074, 4076531, 2461729, 823219, (-823219), (-2461729), (-4076531), (-5652074), (-7173184), (-8625213), (-9994176), (-11266890), (-12431097), (-13475586), (-14390298), (-15166424), (-15796488), (-16274424), (-16595628), (-16757007), (-16757007), (-16595628), (-16274424), (-15796488), (-15166424), (-14390298), (-13475586), (-12431097)],
  [(-13475586), (-15796488), (-16757007), (-16274424), (-14390298), (-11266890), (-7173184), (-2461729), 2461729, 7173184, 11266890, 14390298, 16274424, 16757007, 15796488, 13475586, 9994176, 5652074, 823219, (-4076531), (-8625213), (-12431097), (-15166424), (-16595628), (-16595628), (-15166424), (-12431097), (-8625213), (-4076531), 823219, 5652074, 9994176],
  [(-8625213), (-823219), 7173184, 13475586, 16595628, 15796488, 11266890, 4076531, (-4076531), (-11266890), (-15796488), (-16595628), (-13475586), (-7173184), 823219, 8625213, 14390298, 16757007, 15166424, 9994176, 2461729, (-5652074), (-12431097), (-16274424), (-16274424), (-12431097), (-5652074), 2461729, 9994176, 15166424, 16757007, 14390298],
  [15166424, 16274424, 9994176, (-823219), (-11266890), (-16595628), (-14390298), (-5652074), 5652074, 14390298, 16595628, 11266890, 823219, (-9994176), (-16274424), (-15166424), (-7173184), 4076531, 13475586, 16757007, 12431097, 2461729, (-8625213), (-15796488), (-15796488), (-8625213), 2461729, 12431097, 16757007, 13475586, 4076531, (-7173184)],
  [5652074, (-8625213), (-16595628), (-12431097), 823219, 13475586, 16274424, 7173184, (-7173184), (-16274424), (-13475586), (-823219), 12431097, 16595628, 8625213, (-5652074), (-15796488), (-14390298), (-2461729), 11266890, 16757007, 9994176, (-4076531), (-15166424), (-15166424), (-4076531), 9994176, 16757007, 11266890, (-2461729), (-14390298), (-15796488)],
  [(-16274424), (-11266890), 5652074, 16595628, 9994176, (-7173184), (-16757007), (-8625213), 8625213, 16757007, 7173184, (-9994176), (-16595628), (-5652074), 11266890, 16274424, 4076531, (-12431097), (-15796488), (-2461729), 13475586, 15166424, 823219, (-14390298), (-14390298), 823219, 15166424, 13475586, (-2461729), (-15796488), (-12431097), 4076531],
  [(-2461729), 15166424, 11266890, (-8625213), (-16274424), (-823219), 15796488, 9994176, (-9994176), (-15796488), 823219, 16274424, 8625213, (-11266890), (-15166424), 2461729, 16595628, 7173184, (-12431097), (-14390298), 4076531, 16757007, 5652074, (-13475586), (-13475586), 5652074, 16757007, 4076531, (-14390298), (-12431097), 7173184, 16595628],
  [16757007, 2461729, (-16274424), (-5652074), 15166424, 8625213, (-13475586), (-11266890), 11266890, 13475586, (-8625213), (-15166424), 5652074, 16274424, (-2461729), (-16757007), (-823219), 16595628, 4076531, (-15796488), (-7173184), 14390298, 9994176, (-12431097), (-12431097), 9994176, 14390298, (-7173184), (-15796488), 4076531, 16595628, (-823219)],
  [(-823219), (-16595628), 4076531, 15796488, (-7173184), (-14390298), 9994176, 12431097, (-12431097), (-9994176), 14390298, 7173184, (-15796488), (-4076531), 16595628, 823219, (-16757007), 2461729, 16274424, (-5652074), (-15166424), 8625213, 13475586, (-11266890), (-11266890), 13475586, 8625213, (-15166424), (-5652074), 16274424, 2461729, (-16757007)],
  [(-16595628), 7173184, 12431097, (-14390298), (-4076531), 16757007, (-5652074), (-13475586), 13475586, 5652074, (-16757007), 4076531, 14390298, (-12431097), (-7173184), 16595628, (-2461729), (-15166424), 11266890, 8625213, (-16274424), 823219, 15796488, (-9994176), (-9994176), 15796488, 823219, (-16274424), 8625213, 11266890, (-15166424), (-2461729)],
  [4076531, 12431097, (-15796488), 2461729, 13475586, (-15166424), 823219, 14390298, (-14390298), (-823219), 15166424, (-13475586), (-2461729), 15796488, (-12431097), (-4076531), 16274424, (-11266890), (-5652074), 16595628, (-9994176), (-7173184), 16757007, (-8625213), (-8625213), 16757007, (-7173184), (-9994176), 16595628, (-5652074), (-11266890), 16274424],
  [15796488, (-14390298), 2461729, 11266890, (-16757007), 9994176, 4076531, (-15166424), 15166424, (-4076531), (-9994176), 16757007, (-11266890), (-2461729), 14390298, (-15796488), 5652074, 8625213, (-16595628), 12431097, 823219, (-13475586), 16274424, (-7173184), (-7173184), 16274424, (-13475586), 823219, 12431097, (-16595628), 8625213, 5652074],
  [(-7173184), (-4076531), 13475586, (-16757007), 12431097, (-2461729), (-8625213), 15796488, (-15796488), 8625213, 2461729, (-12431097), 16757007, (-13475586), 4076531, 7173184, (-15166424), 16274424, (-9994176), (-823219), 11266890, (-16595628), 14390298, (-5652074), (-5652074), 14390298, (-16595628), 11266890, (-823219), (-9994176), 16274424, (-15166424)],
  [(-14390298), 16757007, (-15166424), 9994176, (-2461729), (-5652074), 12431097, (-16274424), 16274424, (-12431097), 5652074, 2461729, (-9994176), 15166424, (-16757007), 14390298, (-8625213), 823219, 7173184, (-13475586), 16595628, (-15796488), 11266890, (-4076531), (-4076531), 11266890, (-15796488), 16595628, (-13475586), 7173184, 823219, (-8625213)],
  [9994176, (-5652074), 823219, 4076531, (-8625213), 12431097, (-15166424), 16595628, (-16595628), 15166424, (-12431097), 8625213, (-4076531), (-823219), 5652074, (-9994176), 13475586, (-15796488), 16757007, (-16274424), 14390298, (-11266890), 7173184, (-2461729), (-2461729), 7173184, (-11266890), 14390298, (-16274424), 16757007, (-15796488), 13475586],
  [12431097, (-13475586), 14390298, (-15166424), 15796488, (-16274424), 16595628, (-16757007), 16757007, (-16595628), 16274424, (-15796488), 15166424, (-14390298), 13475586, (-12431097), 11266890, (-9994176), 8625213, (-7173184), 5652074, (-4076531), 2461729, (-823219), (-823219), 2461729, (-4076531), 5652074, (-7173184), 8625213, (-9994176), 11266890]]
def cosL : List Int := [16777216, 16757007, 16696429, 16595628, 16454846, 16274424, 16054795, 15796488, 15500126, 15166424, 14796184, 14390298, 13949745, 13475586, 12968963, 12431097, 11863283, 11266890, 10643353, 9994176, 9320922, 8625213, 7908725, 7173184, 6420363, 5652074, 4870169, 4076531, 3273072, 2461729, 1644455, 823219, 0, (-823219), (-1644455), (-2461729), (-3273072), (-4076531), (-4870169), (-5652074), (-6420363), (-7173184), (-7908725), (-8625213), (-9320922), (-9994176), (-10643353), (-11266890), (-11863283), (-12431097), (-12968963), (-13475586), (-13949745), (-14390298), (-14796184), (-15166424), (-15500126), (-15796488), (-16054795), (-16274424), (-16454846), (-16595628), (-16696429), (-16757007), (-16777216), (-16757007), (-16696429), (-16595628), (-16454846), (-16274424), (-16054795), (-15796488), (-15500126), (-15166424), (-14796184), (-14390298), (-13949745), (-13475586), (-12968963), (-12431097), (-11863283), (-11266890), (-10643353), (-9994176), (-9320922), (-8625213), (-7908725), (-7173184), (-6420363), (-5652074), (-4870169), (-4076531), (-3273072), (-2461729), (-1644455), (-823219), 0, 823219, 1644455, 2461729, 3273072, 4076531, 4870169, 5652074, 6420363, 7173184, 7908725, 8625213, 9320922, 9994176, 10643353, 11266890, 11863283, 12431097, 12968963, 13475586, 13949745, 14390298, 14796184, 15166424, 15500126, 15796488, 16054795, 16274424, 16454846, 16595628, 16696429, 16757007]
def sinL : List Int := [0, 823219, 1644455, 2461729, 3273072, 4076531, 4870169, 5652074, 6420363, 7173184, 7908725, 8625213, 9320922, 9994176, 10643353, 11266890, 11863283, 12431097, 12968963, 13475586, 13949745, 14390298, 14796184, 15166424, 15500126, 15796488, 16054795, 16274424, 16454846, 16595628, 16696429, 16757007, 16777216, 16757007, 16696429, 16595628, 16454846, 16274424, 16054795, 15796488, 15500126, 15166424, 14796184, 14390298, 13949745, 13475586, 12968963, 12431097, 11863283, 11266890, 10643353, 9994176, 9320922, 8625213, 7908725, 7173184, 6420363, 5652074, 4870169, 4076531, 3273072, 2461729, 1644455, 823219, 0, (-823219), (-1644455), (-2461729), (-3273072), (-4076531), (-4870169), (-5652074), (-6420363), (-7173184), (-7908725), (-8625213), (-9320922), (-9994176), (-10643353), (-11266890), (-11863283), (-12431097), (-12968963), (-13475586), (-13949745), (-14390298), (-14796184), (-15166424), (-15500126), (-15796488), (-16054795), (-16274424), (-16454846), (-16595628), (-16696429), (-16757007), (-16777216), (-16757007), (-16696429), (-16595628), (-16454846), (-16274424), (-16054795), (-15796488), (-15500126), (-15166424), (-14796184), (-14390298), (-13949745), (-13475586), (-12968963), (-12431097), (-11863283), (-11266890), (-10643353), (-9994176), (-9320922), (-8625213), (-7908725), (-7173184), (-6420363), (-5652074), (-4870169), (-4076531), (-3273072), (-2461729), (-1644455), (-823219)]

def slL (o : Nat) : List Value := (List.range 16).map fun k => Value.slice (some ⟨k + o, 0, none⟩) 32 32
def shAgg (o : Nat) : Value := .agg (ints winL ++ slL o).toArray
def rowBlks : Heap := rowsL.map fun r => ⟨true, none, ints r⟩

theorem shaped_run : evFnL Try.prog ext 300 (framePre t6dPre) (frameC x6d) noLoops [] 119 [] [] = some ((.tuple #[shAgg 1, .int .i64 0], ⟨true, none, ints winL ++ slL 1⟩ :: rowBlks, 0), []) := by kernel_rfl

theorem shaped_ok : CallOk Try.prog 119 [] [] (.tuple #[shAgg 0, .int .i64 0]) rowBlks 0 := by
  have h := fnL_ok progOk extSound x6d_sound noLoops_ok shaped_run (by simp [Holds])
  exact h.gc [1, 2, 3, 4, 5, 6, 7, 8, 9, 10, 11, 12, 13, 14, 15, 16] rfl (by kernel_rfl) (by kernel_rfl) (by kernel_rfl)

theorem circ_ok : CallOk Try.prog 120 [] [] (.agg (ints (cosL ++ sinL)).toArray) [] 0 := of_over (B := orElse l6O t6b) (l6O_sound.or t6b_sound) (n := 1) (by kernel_rfl) (by kernel_rfl)

end Go.Proofs.Ytfbjpenbpbpcaaa

/-
  Chapter 07: lapped.Forward.
-/
namespace Go.Proofs.Ytfbjpenbpbpcaaa
open Go Den
set_option maxRecDepth 100000
set_option linter.unusedSimpArgs false
set_option linter.unusedVariables false

def intsI : List Value → Option (List Int)
  | [] => some []
  | .int .i64 n :: r => match intsI r with
    | some l => some (n :: l)
    | none => none
  | _ => none
theorem intsI_eq : ∀ (cs : List Value) (xs : List Int), intsI cs = some xs → cs = ints xs := by
  intro cs
  induction cs with
  | nil => intro xs h; simp [intsI] at h; subst h; rfl
  | cons c cs ih =>
    intro xs h
    unfold intsI at h
    split at h
    · rename_i he; cases he
    · rename_i n r he
      cases he
      split at h
      · rename_i l hl
        simp only [Option.some.injEq] at h
        subst h
        rw [ih l hl]
        rfl
      · simp at h
    · simp at h

def chkZ (xs : List Int) : Int := bif xs.all okP then 0 else 1

/-- What an array's numbers come to, by a function of them. -/
def aggF (n : Nat) (g : List Int → Value) (cs : Array Value) : Option (Value × Heap × Nat) := match intsI cs.toList with
  | some xs => match Nat.beq xs.length n with
    | true => some (g xs, [], 0)
    | false => none
  | none => none
theorem aggF_ok {n : Nat} {g : List Int → Value} {cs : Array Value} {f : FuncId} {v : Value} {H' : Heap} {l : Nat} (h : aggF n g cs = some (v, H', l))
    (hg : ∀ xs : List Int, xs.length = n → CallOk Try.prog f [.agg (ints xs).toArray] [] (g xs) [] 0) : CallOk Try.prog f [.agg cs] [] v H' l := by
  unfold aggF at h
  split at h
  · rename_i xs hxs
    split at h
    · rename_i hn
      simp only [Option.some.injEq, Prod.mk.injEq] at h
      obtain ⟨rfl, rfl, rfl⟩ := h
      have e := intsI_eq _ _ hxs
      have e2 : cs = (ints xs).toArray := by rw [← e]
      rw [e2]
      exact hg xs (Nat.eq_of_beq_eq_true hn)
    · simp at h
  · simp at h

def x7a : Oracle := fun f args H => match H with
  | [] => match f, args with
    | 68, [.agg cs] => aggF 16 (fun xs => .int .i64 (chkZ xs)) cs
    | 69, [.agg cs] => aggF 16 (fun xs => .int .i64 (chkZ xs)) cs
    | 119, [] => some (.tuple #[shAgg 0, .int .i64 0], rowBlks, 0)
    | 120, [] => some (.agg (ints (cosL ++ sinL)).toArray, [], 0)
    | _, _ => none
  | _ => none
theorem x7a_sound : Sound Try.prog x7a := by
  intro f args H v H' l h
  unfold x7a at h
  split at h
  · split at h
    · refine aggF_ok h fun xs hm => ?_
      have := chk_ok xs hm
      unfold chkZ
      cases hc : xs.all okP with
      | true => rw [hc] at this; exact this
      | false => rw [hc] at this; exact this
    · refine aggF_ok h fun xs hm => ?_
      have := rchk_ok xs hm
      unfold chkZ
      cases hc : xs.all okP with
      | true => rw [hc] at this; exact this
      | false => rw [hc] at this; exact this
    · simp only [Option.some.injEq, Prod.mk.injEq] at h; obtain ⟨rfl, rfl, rfl⟩ := h
      exact shaped_ok
    · simp only [Option.some.injEq, Prod.mk.injEq] at h; obtain ⟨rfl, rfl, rfl⟩ := h
      exact circ_ok
    · simp at h
  · simp at h
def x7 : Oracle := orElse x7a rdO
theorem x7_sound : Sound Try.prog (strict (framePre noPre) (frameC x7)) := frame_sound (plain_sound (x7a_sound.or rdO_sound))

def dotW (xs cs : List Int) : Int := (List.zip xs cs).foldl (fun s p => IntKind.wrap IntKind.i64 (s + IntKind.wrap IntKind.i64 (p.1 * p.2))) 0
def fwdG (rd : Int → Int → Int) (xs : List Int) : List Int := rowsL.map fun cs => rd (dotW (List.zipWith (fun x w => rd (IntKind.wrap IntKind.i64 (x * w)) 16) xs winL) cs) 28

def fwdL : Loops := { keys := fun id F => match id with
  | 10 => [4, 6, 7, 37]
  | 15 => [4, 7, 53, 54]
  | 19 => [4, 7, 9, 11, 53, 54, 58, 59, 60]
  | _ => keysOf F }

theorem fwd_run (p0 p1 p2 p3 p4 p5 p6 p7 p8 p9 p10 p11 p12 p13 p14 p15 c0 c1 c2 c3 c4 c5 c6 c7 c8 c9 c10 c11 c12 c13 c14 c15 : Int) : (evFnL Try.prog ext 300 (nmPre (framePre noPre)) (nbC [] [(16, false), (20, false)] (frameC x7)) fwdL [] 66 [.agg (ints [p0, p1, p2, p3, p4, p5, p6, p7, p8, p9, p10, p11, p12, p13, p14, p15]).toArray, .agg (ints [c0, c1, c2, c3, c4, c5, c6, c7, c8, c9, c10, c11, c12, c13, c14, c15]).toArray] []).map (fun r => (r.1.1, r.2)) =
    some (.tuple #[.agg (ints (fwdG raw45 ([p0, p1, p2, p3, p4, p5, p6, p7, p8, p9, p10, p11, p12, p13, p14, p15] ++ [c0, c1, c2, c3, c4, c5, c6, c7, c8, c9, c10, c11, c12, c13, c14, c15]))).toArray, .int .i64 0], [(chkZ [c0, c1, c2, c3, c4, c5, c6, c7, c8, c9, c10, c11, c12, c13, c14, c15] != 0, false), (chkZ [p0, p1, p2, p3, p4, p5, p6, p7, p8, p9, p10, p11, p12, p13, p14, p15] != 0, false)]) := by kernel_rfl

end Go.Proofs.Ytfbjpenbpbpcaaa

/-
  Chapter 07: the reference's Forward, round by round.
-/
namespace Go.Proofs.Ytfbjpenbpbpcaaa
open Go Den
set_option maxRecDepth 100000
set_option linter.unusedSimpArgs false
set_option linter.unusedVariables false

def rfwL : Loops := { keys := fun id F => match id with
  | 10 => [2, 3, 4, 6, 7, 8, 9, 22, 25]
  | _ => keysOf F }
def rfF (k : Nat) : Slots := [(2, .pointer (some ⟨0, 0, none⟩)), (3, .pointer (some ⟨1, 0, none⟩)), (4, .pointer (some ⟨2, 0, none⟩)), (6, .pointer (some ⟨3, 0, none⟩)), (7, .pointer (some ⟨4, 0, none⟩)), (22, .int .i64 k)]
def rfH (P C : List Int) (k : Nat) : Heap := [⟨true, none, ints P⟩, ⟨true, none, ints C⟩, ⟨true, none, ints (List.replicate 16 0)⟩, ⟨true, none, ints ((fwdG raw46 (P ++ C)).take k ++ List.replicate (16 - k) 0)⟩, ⟨true, none, ints (cosL ++ sinL)⟩]
noncomputable def rfC : Oracle := orElse (frameC x7) (over (frameC x7) 1)

theorem rfw_run0 (p0 p1 p2 p3 p4 p5 p6 p7 p8 p9 p10 p11 p12 p13 p14 p15 c0 c1 c2 c3 c4 c5 c6 c7 c8 c9 c10 c11 c12 c13 c14 c15 : Int) : (List.range' 0 4).map (fun (k : Nat) => evL Try.prog ext noPre rfC rfwL 300 57 (loopAt Try.prog 67 0) (rfF k) (rfH [p0, p1, p2, p3, p4, p5, p6, p7, p8, p9, p10, p11, p12, p13, p14, p15] [c0, c1, c2, c3, c4, c5, c6, c7, c8, c9, c10, c11, c12, c13, c14, c15] k) 0 [] [2, 3, 4, 6, 7, 22]) =
    (List.range' 0 4).map fun (k : Nat) => some (.normal, rfF (k + 1), rfH [p0, p1, p2, p3, p4, p5, p6, p7, p8, p9, p10, p11, p12, p13, p14, p15] [c0, c1, c2, c3, c4, c5, c6, c7, c8, c9, c10, c11, c12, c13, c14, c15] (k + 1), 0, []) := by kernel_rfl

theorem rfw_run1 (p0 p1 p2 p3 p4 p5 p6 p7 p8 p9 p10 p11 p12 p13 p14 p15 c0 c1 c2 c3 c4 c5 c6 c7 c8 c9 c10 c11 c12 c13 c14 c15 : Int) : (List.range' 4 4).map (fun (k : Nat) => evL Try.prog ext noPre rfC rfwL 300 57 (loopAt Try.prog 67 0) (rfF k) (rfH [p0, p1, p2, p3, p4, p5, p6, p7, p8, p9, p10, p11, p12, p13, p14, p15] [c0, c1, c2, c3, c4, c5, c6, c7, c8, c9, c10, c11, c12, c13, c14, c15] k) 0 [] [2, 3, 4, 6, 7, 22]) =
    (List.range' 4 4).map fun (k : Nat) => some (.normal, rfF (k + 1), rfH [p0, p1, p2, p3, p4, p5, p6, p7, p8, p9, p10, p11, p12, p13, p14, p15] [c0, c1, c2, c3, c4, c5, c6, c7, c8, c9, c10, c11, c12, c13, c14, c15] (k + 1), 0, []) := by kernel_rfl

theorem rfw_run2 (p0 p1 p2 p3 p4 p5 p6 p7 p8 p9 p10 p11 p12 p13 p14 p15 c0 c1 c2 c3 c4 c5 c6 c7 c8 c9 c10 c11 c12 c13 c14 c15 : Int) : (List.range' 8 4).map (fun (k : Nat) => evL Try.prog ext noPre rfC rfwL 300 57 (loopAt Try.prog 67 0) (rfF k) (rfH [p0, p1, p2, p3, p4, p5, p6, p7, p8, p9, p10, p11, p12, p13, p14, p15] [c0, c1, c2, c3, c4, c5, c6, c7, c8, c9, c10, c11, c12, c13, c14, c15] k) 0 [] [2, 3, 4, 6, 7, 22]) =
    (List.range' 8 4).map fun (k : Nat) => some (.normal, rfF (k + 1), rfH [p0, p1, p2, p3, p4, p5, p6, p7, p8, p9, p10, p11, p12, p13, p14, p15] [c0, c1, c2, c3, c4, c5, c6, c7, c8, c9, c10, c11, c12, c13, c14, c15] (k + 1), 0, []) := by kernel_rfl

theorem rfw_run3 (p0 p1 p2 p3 p4 p5 p6 p7 p8 p9 p10 p11 p12 p13 p14 p15 c0 c1 c2 c3 c4 c5 c6 c7 c8 c9 c10 c11 c12 c13 c14 c15 : Int) : (List.range' 12 4).map (fun (k : Nat) => evL Try.prog ext noPre rfC rfwL 300 57 (loopAt Try.prog 67 0) (rfF k) (rfH [p0, p1, p2, p3, p4, p5, p6, p7, p8, p9, p10, p11, p12, p13, p14, p15] [c0, c1, c2, c3, c4, c5, c6, c7, c8, c9, c10, c11, c12, c13, c14, c15] k) 0 [] [2, 3, 4, 6, 7, 22]) =
    (List.range' 12 4).map fun (k : Nat) => some (.normal, rfF (k + 1), rfH [p0, p1, p2, p3, p4, p5, p6, p7, p8, p9, p10, p11, p12, p13, p14, p15] [c0, c1, c2, c3, c4, c5, c6, c7, c8, c9, c10, c11, c12, c13, c14, c15] (k + 1), 0, []) := by kernel_rfl

end Go.Proofs.Ytfbjpenbpbpcaaa

/-
  Chapter 07: the contracts of Forward, and of the reference's.
-/
namespace Go.Proofs.Ytfbjpenbpbpcaaa
open Go Den
set_option maxRecDepth 100000
set_option linter.unusedSimpArgs false
set_option linter.unusedVariables false

theorem inL_of {b : Nat} (h : b ∈ bitsL) : inL (b : Int) = true := by
  unfold inL
  exact List.any_eq_true.2 ⟨b, h, by simp⟩

theorem dot_in : ∀ (l : List (Int × Int)) (s : Int), inI s = true → inI (l.foldl (fun s p => IntKind.wrap IntKind.i64 (s + IntKind.wrap IntKind.i64 (p.1 * p.2))) s) = true := by
  intro l
  induction l with
  | nil => intro s h; exact h
  | cons p l ih => intro s _; exact ih _ (inI_wrap _)

theorem fwdG_eq {rd : Int → Int → Int} (h : ∀ v b, inI v = true → inL b = true → rd v b = roundZ v b) (xs : List Int) : fwdG rd xs = fwdG roundZ xs := by
  unfold fwdG
  have e1 : List.zipWith (fun x w => rd (IntKind.wrap IntKind.i64 (x * w)) 16) xs winL = List.zipWith (fun x w => roundZ (IntKind.wrap IntKind.i64 (x * w)) 16) xs winL := by
    congr 1
    funext x w
    exact h _ _ (inI_wrap _) (by decide)
  rw [e1]
  apply List.map_congr_left
  intro cs _
  exact h _ _ (dot_in _ 0 (by decide)) (by decide)

def fwE (P C : List Int) : Int := if chkZ P = 0 ∧ chkZ C = 0 then 0 else 1
def fwO (P C : List Int) : List Int := if chkZ P = 0 ∧ chkZ C = 0 then fwdG roundZ (P ++ C) else List.replicate 16 0

theorem codeOk67 : codeOk (loopAt Try.prog 67 0) = true := by kernel_rfl
theorem loops67 : loopsOf (bodyOf Try.prog 67) = [loopAt Try.prog 67 0, loopAt Try.prog 67 1] := by kernel_rfl
theorem first67 : firstId (loopAt Try.prog 67 1) = 10 := by kernel_rfl
theorem rfC_sound : Sound Try.prog (strict noPre rfC) := by
  have h0 : Sound Try.prog (frameC x7) := by
    have h := frame_sound (pre := noPre) (plain_sound (x7a_sound.or rdO_sound))
    intro f args H v H' l hc
    refine h f args H v H' l ?_
    unfold strict framePre
    split
    · exact hc
    · rename_i hp
      split at hp <;> simp [noPre] at hp
  exact plain_sound (h0.or (over_sound h0 1))

theorem rfw_end (p0 p1 p2 p3 p4 p5 p6 p7 p8 p9 p10 p11 p12 p13 p14 p15 c0 c1 c2 c3 c4 c5 c6 c7 c8 c9 c10 c11 c12 c13 c14 c15 : Int) : evL Try.prog ext noPre rfC rfwL 300 57 (loopAt Try.prog 67 0) (rfF 16) (rfH [p0, p1, p2, p3, p4, p5, p6, p7, p8, p9, p10, p11, p12, p13, p14, p15] [c0, c1, c2, c3, c4, c5, c6, c7, c8, c9, c10, c11, c12, c13, c14, c15] 16) 0 [] [2, 3, 4, 6, 7, 22] = some (.exit 0, rfF 16, rfH [p0, p1, p2, p3, p4, p5, p6, p7, p8, p9, p10, p11, p12, p13, p14, p15] [c0, c1, c2, c3, c4, c5, c6, c7, c8, c9, c10, c11, c12, c13, c14, c15] 16, 0, []) := by kernel_rfl

theorem rfw_loop (p0 p1 p2 p3 p4 p5 p6 p7 p8 p9 p10 p11 p12 p13 p14 p15 c0 c1 c2 c3 c4 c5 c6 c7 c8 c9 c10 c11 c12 c13 c14 c15 : Int) : WP Try.prog 57 (.loop (loopAt Try.prog 67 0)) ⟨rfF 0, rfH [p0, p1, p2, p3, p4, p5, p6, p7, p8, p9, p10, p11, p12, p13, p14, p15] [c0, c1, c2, c3, c4, c5, c6, c7, c8, c9, c10, c11, c12, c13, c14, c15] 0, 0⟩ (.exit 0) ⟨rfF 16, rfH [p0, p1, p2, p3, p4, p5, p6, p7, p8, p9, p10, p11, p12, p13, p14, p15] [c0, c1, c2, c3, c4, c5, c6, c7, c8, c9, c10, c11, c12, c13, c14, c15] 16, 0⟩ := by
  refine WP.loop (fun k => ⟨rfF k, rfH [p0, p1, p2, p3, p4, p5, p6, p7, p8, p9, p10, p11, p12, p13, p14, p15] [c0, c1, c2, c3, c4, c5, c6, c7, c8, c9, c10, c11, c12, c13, c14, c15] k, 0⟩) 16 (by simp) (fun k hk => ?_) (WP.run progOk extSound rfC_sound codeOk67 (LoopsOk.names rfl) [2, 3, 4, 6, 7, 22] (rfw_end p0 p1 p2 p3 p4 p5 p6 p7 p8 p9 p10 p11 p12 p13 p14 p15 c0 c1 c2 c3 c4 c5 c6 c7 c8 c9 c10 c11 c12 c13 c14 c15) (by simp [Holds]))
  have key : evL Try.prog ext noPre rfC rfwL 300 57 (loopAt Try.prog 67 0) (rfF k) (rfH [p0, p1, p2, p3, p4, p5, p6, p7, p8, p9, p10, p11, p12, p13, p14, p15] [c0, c1, c2, c3, c4, c5, c6, c7, c8, c9, c10, c11, c12, c13, c14, c15] k) 0 [] [2, 3, 4, 6, 7, 22] = some (.normal, rfF (k + 1), rfH [p0, p1, p2, p3, p4, p5, p6, p7, p8, p9, p10, p11, p12, p13, p14, p15] [c0, c1, c2, c3, c4, c5, c6, c7, c8, c9, c10, c11, c12, c13, c14, c15] (k + 1), 0, []) := by
    by_cases h0 : k < 4
    · exact of_list (rfw_run0 p0 p1 p2 p3 p4 p5 p6 p7 p8 p9 p10 p11 p12 p13 p14 p15 c0 c1 c2 c3 c4 c5 c6 c7 c8 c9 c10 c11 c12 c13 c14 c15) (by omega) (by omega)
    by_cases h1 : k < 8
    · exact of_list (rfw_run1 p0 p1 p2 p3 p4 p5 p6 p7 p8 p9 p10 p11 p12 p13 p14 p15 c0 c1 c2 c3 c4 c5 c6 c7 c8 c9 c10 c11 c12 c13 c14 c15) (by omega) (by omega)
    by_cases h2 : k < 12
    · exact of_list (rfw_run2 p0 p1 p2 p3 p4 p5 p6 p7 p8 p9 p10 p11 p12 p13 p14 p15 c0 c1 c2 c3 c4 c5 c6 c7 c8 c9 c10 c11 c12 c13 c14 c15) (by omega) (by omega)
    · exact of_list (rfw_run3 p0 p1 p2 p3 p4 p5 p6 p7 p8 p9 p10 p11 p12 p13 p14 p15 c0 c1 c2 c3 c4 c5 c6 c7 c8 c9 c10 c11 c12 c13 c14 c15) (by omega) (by omega)
  exact WP.run progOk extSound rfC_sound codeOk67 (LoopsOk.names rfl) [2, 3, 4, 6, 7, 22] key (by simp [Holds])

noncomputable def rfN (P C : List Int) : Loops := { loop := sumL 6 ⟨rfF 0, rfH P C 0, 0⟩ (.exit 0) ⟨rfF 16, rfH P C 16, 0⟩ }

theorem rfw_fn (p0 p1 p2 p3 p4 p5 p6 p7 p8 p9 p10 p11 p12 p13 p14 p15 c0 c1 c2 c3 c4 c5 c6 c7 c8 c9 c10 c11 c12 c13 c14 c15 : Int) : (evFnL Try.prog ext 300 (nmPre (framePre noPre)) (nbC [] [(14, false), (18, false)] (frameC x7)) (rfN [p0, p1, p2, p3, p4, p5, p6, p7, p8, p9, p10, p11, p12, p13, p14, p15] [c0, c1, c2, c3, c4, c5, c6, c7, c8, c9, c10, c11, c12, c13, c14, c15]) [] 67 [.agg (ints [p0, p1, p2, p3, p4, p5, p6, p7, p8, p9, p10, p11, p12, p13, p14, p15]).toArray, .agg (ints [c0, c1, c2, c3, c4, c5, c6, c7, c8, c9, c10, c11, c12, c13, c14, c15]).toArray] []).map (fun r => (r.1.1, r.2)) =
    some (.tuple #[.agg (ints (fwdG raw46 ([p0, p1, p2, p3, p4, p5, p6, p7, p8, p9, p10, p11, p12, p13, p14, p15] ++ [c0, c1, c2, c3, c4, c5, c6, c7, c8, c9, c10, c11, c12, c13, c14, c15]))).toArray, .int .i64 0], [(cdec (rfF 0 = rfF 0), true), (cdec (rfH [p0, p1, p2, p3, p4, p5, p6, p7, p8, p9, p10, p11, p12, p13, p14, p15] [c0, c1, c2, c3, c4, c5, c6, c7, c8, c9, c10, c11, c12, c13, c14, c15] 0 = rfH [p0, p1, p2, p3, p4, p5, p6, p7, p8, p9, p10, p11, p12, p13, p14, p15] [c0, c1, c2, c3, c4, c5, c6, c7, c8, c9, c10, c11, c12, c13, c14, c15] 0), true), (cdec (0 = 0), true), (chkZ [c0, c1, c2, c3, c4, c5, c6, c7, c8, c9, c10, c11, c12, c13, c14, c15] != 0, false), (chkZ [p0, p1, p2, p3, p4, p5, p6, p7, p8, p9, p10, p11, p12, p13, p14, p15] != 0, false)]) := by kernel_rfl

theorem bad66a (p0 p1 p2 p3 p4 p5 p6 p7 p8 p9 p10 p11 p12 p13 p14 p15 c0 c1 c2 c3 c4 c5 c6 c7 c8 c9 c10 c11 c12 c13 c14 c15 : Int) : (evFnL Try.prog ext 300 (nmPre (framePre noPre)) (nbC [] [(16, true)] (frameC x7)) fwdL [] 66 [.agg (ints [p0, p1, p2, p3, p4, p5, p6, p7, p8, p9, p10, p11, p12, p13, p14, p15]).toArray, .agg (ints [c0, c1, c2, c3, c4, c5, c6, c7, c8, c9, c10, c11, c12, c13, c14, c15]).toArray] []).map (fun r => (r.1.1, r.2)) =
    some (.tuple #[.agg (ints (List.replicate 16 0)).toArray, .int .i64 1], [(chkZ [p0, p1, p2, p3, p4, p5, p6, p7, p8, p9, p10, p11, p12, p13, p14, p15] != 0, true)]) := by kernel_rfl
theorem bad66b (p0 p1 p2 p3 p4 p5 p6 p7 p8 p9 p10 p11 p12 p13 p14 p15 c0 c1 c2 c3 c4 c5 c6 c7 c8 c9 c10 c11 c12 c13 c14 c15 : Int) : (evFnL Try.prog ext 300 (nmPre (framePre noPre)) (nbC [] [(16, false), (20, true)] (frameC x7)) fwdL [] 66 [.agg (ints [p0, p1, p2, p3, p4, p5, p6, p7, p8, p9, p10, p11, p12, p13, p14, p15]).toArray, .agg (ints [c0, c1, c2, c3, c4, c5, c6, c7, c8, c9, c10, c11, c12, c13, c14, c15]).toArray] []).map (fun r => (r.1.1, r.2)) =
    some (.tuple #[.agg (ints (List.replicate 16 0)).toArray, .int .i64 1], [(chkZ [c0, c1, c2, c3, c4, c5, c6, c7, c8, c9, c10, c11, c12, c13, c14, c15] != 0, true), (chkZ [p0, p1, p2, p3, p4, p5, p6, p7, p8, p9, p10, p11, p12, p13, p14, p15] != 0, false)]) := by kernel_rfl
theorem bad67a (p0 p1 p2 p3 p4 p5 p6 p7 p8 p9 p10 p11 p12 p13 p14 p15 c0 c1 c2 c3 c4 c5 c6 c7 c8 c9 c10 c11 c12 c13 c14 c15 : Int) : (evFnL Try.prog ext 300 (nmPre (framePre noPre)) (nbC [] [(14, true)] (frameC x7)) noLoops [] 67 [.agg (ints [p0, p1, p2, p3, p4, p5, p6, p7, p8, p9, p10, p11, p12, p13, p14, p15]).toArray, .agg (ints [c0, c1, c2, c3, c4, c5, c6, c7, c8, c9, c10, c11, c12, c13, c14, c15]).toArray] []).map (fun r => (r.1.1, r.2)) =
    some (.tuple #[.agg (ints (List.replicate 16 0)).toArray, .int .i64 1], [(chkZ [p0, p1, p2, p3, p4, p5, p6, p7, p8, p9, p10, p11, p12, p13, p14, p15] != 0, true)]) := by kernel_rfl
theorem bad67b (p0 p1 p2 p3 p4 p5 p6 p7 p8 p9 p10 p11 p12 p13 p14 p15 c0 c1 c2 c3 c4 c5 c6 c7 c8 c9 c10 c11 c12 c13 c14 c15 : Int) : (evFnL Try.prog ext 300 (nmPre (framePre noPre)) (nbC [] [(14, false), (18, true)] (frameC x7)) noLoops [] 67 [.agg (ints [p0, p1, p2, p3, p4, p5, p6, p7, p8, p9, p10, p11, p12, p13, p14, p15]).toArray, .agg (ints [c0, c1, c2, c3, c4, c5, c6, c7, c8, c9, c10, c11, c12, c13, c14, c15]).toArray] []).map (fun r => (r.1.1, r.2)) =
    some (.tuple #[.agg (ints (List.replicate 16 0)).toArray, .int .i64 1], [(chkZ [c0, c1, c2, c3, c4, c5, c6, c7, c8, c9, c10, c11, c12, c13, c14, c15] != 0, true), (chkZ [p0, p1, p2, p3, p4, p5, p6, p7, p8, p9, p10, p11, p12, p13, p14, p15] != 0, false)]) := by kernel_rfl

theorem forwards_ok (f : FuncId) (hf : f = 66 ∨ f = 67) (P C : List Int) (hP : P.length = 16) (hC : C.length = 16) : CallOk Try.prog f [.agg (ints P).toArray, .agg (ints C).toArray] [] (.tuple #[.agg (ints (fwO P C)).toArray, .int .i64 (fwE P C)]) [] 0 := by
  obtain ⟨p0, p1, p2, p3, p4, p5, p6, p7, p8, p9, p10, p11, p12, p13, p14, p15, rfl⟩ : ∃ p0 p1 p2 p3 p4 p5 p6 p7 p8 p9 p10 p11 p12 p13 p14 p15, P = [p0, p1, p2, p3, p4, p5, p6, p7, p8, p9, p10, p11, p12, p13, p14, p15] := by match P, hP with | [p0, p1, p2, p3, p4, p5, p6, p7, p8, p9, p10, p11, p12, p13, p14, p15], _ => exact ⟨p0, p1, p2, p3, p4, p5, p6, p7, p8, p9, p10, p11, p12, p13, p14, p15, rfl⟩
  obtain ⟨c0, c1, c2, c3, c4, c5, c6, c7, c8, c9, c10, c11, c12, c13, c14, c15, rfl⟩ : ∃ c0 c1 c2 c3 c4 c5 c6 c7 c8 c9 c10 c11 c12 c13 c14 c15, C = [c0, c1, c2, c3, c4, c5, c6, c7, c8, c9, c10, c11, c12, c13, c14, c15] := by match C, hC with | [c0, c1, c2, c3, c4, c5, c6, c7, c8, c9, c10, c11, c12, c13, c14, c15], _ => exact ⟨c0, c1, c2, c3, c4, c5, c6, c7, c8, c9, c10, c11, c12, c13, c14, c15, rfl⟩
  unfold fwO fwE
  by_cases h1 : chkZ [p0, p1, p2, p3, p4, p5, p6, p7, p8, p9, p10, p11, p12, p13, p14, p15] = 0
  · by_cases h2 : chkZ [c0, c1, c2, c3, c4, c5, c6, c7, c8, c9, c10, c11, c12, c13, c14, c15] = 0
    · rw [if_pos ⟨h1, h2⟩, if_pos ⟨h1, h2⟩]
      rcases hf with rfl | rfl
      · rw [← fwdG_eq raw45_eq]
        exact pf_ok (nb_sound [] [(16, false), (20, false)] x7_sound) (LoopsOk.names rfl) (fwd_run p0 p1 p2 p3 p4 p5 p6 p7 p8 p9 p10 p11 p12 p13 p14 p15 c0 c1 c2 c3 c4 c5 c6 c7 c8 c9 c10 c11 c12 c13 c14 c15) (by simp [Holds, h1, h2]) rfl
      · rw [← fwdG_eq raw46_eq]
        refine pf_ok (nb_sound [] [(14, false), (18, false)] x7_sound) (LoopsOk.sum rfl ?_) (rfw_fn p0 p1 p2 p3 p4 p5 p6 p7 p8 p9 p10 p11 p12 p13 p14 p15 c0 c1 c2 c3 c4 c5 c6 c7 c8 c9 c10 c11 c12 c13 c14 c15) (by simp [Holds, cdec, h1, h2]) rfl
        intro b hb hid
        rw [loops67] at hb
        simp only [List.mem_cons, List.not_mem_nil, or_false] at hb
        rcases hb with rfl | rfl
        · exact rfw_loop p0 p1 p2 p3 p4 p5 p6 p7 p8 p9 p10 p11 p12 p13 p14 p15 c0 c1 c2 c3 c4 c5 c6 c7 c8 c9 c10 c11 c12 c13 c14 c15
        · rw [first67] at hid; simp at hid
    · rw [if_neg (fun h => h2 h.2), if_neg (fun h => h2 h.2)]
      rcases hf with rfl | rfl
      · exact pf_ok (nb_sound [] [(16, false), (20, true)] x7_sound) (LoopsOk.names rfl) (bad66b p0 p1 p2 p3 p4 p5 p6 p7 p8 p9 p10 p11 p12 p13 p14 p15 c0 c1 c2 c3 c4 c5 c6 c7 c8 c9 c10 c11 c12 c13 c14 c15) (by simp [Holds, h1, h2]) rfl
      · exact pf_ok (nb_sound [] [(14, false), (18, true)] x7_sound) noLoops_ok (bad67b p0 p1 p2 p3 p4 p5 p6 p7 p8 p9 p10 p11 p12 p13 p14 p15 c0 c1 c2 c3 c4 c5 c6 c7 c8 c9 c10 c11 c12 c13 c14 c15) (by simp [Holds, h1, h2]) rfl
  · rw [if_neg (fun h => h1 h.1), if_neg (fun h => h1 h.1)]
    rcases hf with rfl | rfl
    · exact pf_ok (nb_sound [] [(16, true)] x7_sound) (LoopsOk.names rfl) (bad66a p0 p1 p2 p3 p4 p5 p6 p7 p8 p9 p10 p11 p12 p13 p14 p15 c0 c1 c2 c3 c4 c5 c6 c7 c8 c9 c10 c11 c12 c13 c14 c15) (by simp [Holds, h1]) rfl
    · exact pf_ok (nb_sound [] [(14, true)] x7_sound) noLoops_ok (bad67a p0 p1 p2 p3 p4 p5 p6 p7 p8 p9 p10 p11 p12 p13 p14 p15 c0 c1 c2 c3 c4 c5 c6 c7 c8 c9 c10 c11 c12 c13 c14 c15) (by simp [Holds, h1]) rfl
end Go.Proofs.Ytfbjpenbpbpcaaa

