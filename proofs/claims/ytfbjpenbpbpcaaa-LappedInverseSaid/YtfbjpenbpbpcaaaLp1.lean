/-
  Chapter 07: functions that look at all of an array's numbers (lapped.Check, and the reference's).
-/
import Derived.Test.YtfbjpenbpbpcaaaTb9
namespace Go.Proofs.Ytfbjpenbpbpcaaa
open Go Den
set_option maxRecDepth 100000
set_option linter.unusedSimpArgs false
set_option linter.unusedVariables false

theorem first_bad (p : Int → Bool) : ∀ (xs : List Int), xs.all p = false → ∃ i, i < xs.length ∧ p (xs.getD i 0) = false ∧ ∀ j, j < i → p (xs.getD j 0) = true := by
  intro xs
  induction xs with
  | nil => intro h; simp at h
  | cons x xs ih =>
    intro h
    cases hx : p x with
    | false => exact ⟨0, by simp, by simpa using hx, fun j hj => by omega⟩
    | true =>
      rw [List.all_cons, hx, Bool.true_and] at h
      obtain ⟨i, h1, h2, h3⟩ := ih h
      refine ⟨i + 1, by simpa using h1, by simpa using h2, fun j hj => ?_⟩
      cases j with
      | zero => simpa using hx
      | succ j => simpa using h3 j (by omega)

theorem all_getD {p : Int → Bool} {xs : List Int} (h : xs.all p = true) {i : Nat} (hi : i < xs.length) : p (xs.getD i 0) = true := by
  rw [List.getD_eq_getElem?_getD, List.getElem?_eq_getElem hi]
  exact List.all_eq_true.1 h _ (List.getElem_mem hi)

def okP (x : Int) : Bool := decide (-32768 ≤ x) && decide (x ≤ 32767)
theorem sat16v (x : Int) : satZ x 16 = if x < -32768 then -32768 else if 32767 < x then 32767 else x := by
  have e : topZ 16 = 32767 := by decide
  unfold satZ withinZ
  rw [e]
  repeat' split
  all_goals omega
theorem sat16 (x : Int) : (satZ x 16 != x) = !okP x := by
  rw [sat16v]
  unfold okP
  by_cases h1 : x < -32768
  · have : ¬ -32768 ≤ x := by omega
    simp [h1, this]; omega
  · by_cases h2 : 32767 < x
    · have : ¬ x ≤ 32767 := by omega
      simp [h1, h2, this]; omega
    · have a : -32768 ≤ x := by omega
      have b : x ≤ 32767 := by omega
      simp [h1, h2, a, b]

/-! ### chk (68) -/
def chkF (a : Value) (i : Nat) : Slots := [(5, a), (6, .int .i64 i)]
theorem chk_code : codeOk (loopAt Try.prog 68 0) = true := by kernel_rfl
theorem chk_loops : loopsOf (bodyOf Try.prog 68) = [loopAt Try.prog 68 0] := by kernel_rfl
theorem chk_good (x0 x1 x2 x3 x4 x5 x6 x7 x8 x9 x10 x11 x12 x13 x14 x15 : Int) (H : Heap) (lo : Nat) : (List.range' 0 16).map (fun (i : Nat) => evL Try.prog ext (nmPre fx3Pre) (nbC [] [(12, false)] fx3) noLoops 300 14 (loopAt Try.prog 68 0) (chkF (.agg (ints [x0, x1, x2, x3, x4, x5, x6, x7, x8, x9, x10, x11, x12, x13, x14, x15]).toArray) i) H lo [] [5, 6]) =
  (List.range' 0 16).map fun (i : Nat) => some (.normal, chkF (.agg (ints [x0, x1, x2, x3, x4, x5, x6, x7, x8, x9, x10, x11, x12, x13, x14, x15]).toArray) (i + 1), H, lo, [(satZ ([x0, x1, x2, x3, x4, x5, x6, x7, x8, x9, x10, x11, x12, x13, x14, x15].getD i 0) 16 != ([x0, x1, x2, x3, x4, x5, x6, x7, x8, x9, x10, x11, x12, x13, x14, x15].getD i 0), false)]) := by kernel_rfl
theorem chk_bad0 (x0 x1 x2 x3 x4 x5 x6 x7 x8 x9 x10 x11 x12 x13 x14 x15 : Int) (H : Heap) (lo : Nat) : (List.range' 0 16).map (fun (i : Nat) => evL Try.prog ext (nmPre fx3Pre) (nbC [] [(12, true)] fx3) noLoops 300 14 (loopAt Try.prog 68 0) (chkF (.agg (ints [x0, x1, x2, x3, x4, x5, x6, x7, x8, x9, x10, x11, x12, x13, x14, x15]).toArray) i) H lo [] [2]) =
  (List.range' 0 16).map fun (i : Nat) => some (.ret, [(2, .int .i64 1)], H, lo, [(satZ ([x0, x1, x2, x3, x4, x5, x6, x7, x8, x9, x10, x11, x12, x13, x14, x15].getD i 0) 16 != ([x0, x1, x2, x3, x4, x5, x6, x7, x8, x9, x10, x11, x12, x13, x14, x15].getD i 0), true)]) := by kernel_rfl
theorem chk_end (x0 x1 x2 x3 x4 x5 x6 x7 x8 x9 x10 x11 x12 x13 x14 x15 : Int) (H : Heap) (lo : Nat) : evL Try.prog ext noPre noC noLoops 300 14 (loopAt Try.prog 68 0) (chkF (.agg (ints [x0, x1, x2, x3, x4, x5, x6, x7, x8, x9, x10, x11, x12, x13, x14, x15]).toArray) 16) H lo [] [] = some (.exit 0, [], H, lo, []) := by kernel_rfl
noncomputable def chkN (a : Value) (H : Heap) (lo : Nat) (x : Ex) (F : Slots) : Loops := { loop := sumL 2 ⟨chkF a 0, H, lo⟩ x ⟨F, H, lo⟩ }
theorem chk_fnt (x0 x1 x2 x3 x4 x5 x6 x7 x8 x9 x10 x11 x12 x13 x14 x15 : Int) : (evFnL Try.prog ext 300 noPre noC (chkN (.agg (ints [x0, x1, x2, x3, x4, x5, x6, x7, x8, x9, x10, x11, x12, x13, x14, x15]).toArray) [⟨true, none, ints [x0, x1, x2, x3, x4, x5, x6, x7, x8, x9, x10, x11, x12, x13, x14, x15]⟩] 0 (.exit 0) []) [] 68 [(.agg (ints [x0, x1, x2, x3, x4, x5, x6, x7, x8, x9, x10, x11, x12, x13, x14, x15]).toArray)] []).map (fun r => (r.1.1, r.2)) = some (.int .i64 0, [(cdec (chkF (.agg (ints [x0, x1, x2, x3, x4, x5, x6, x7, x8, x9, x10, x11, x12, x13, x14, x15]).toArray) 0 = chkF (.agg (ints [x0, x1, x2, x3, x4, x5, x6, x7, x8, x9, x10, x11, x12, x13, x14, x15]).toArray) 0), true), (cdec ([(⟨true, none, ints [x0, x1, x2, x3, x4, x5, x6, x7, x8, x9, x10, x11, x12, x13, x14, x15]⟩ : Blk)] = [⟨true, none, ints [x0, x1, x2, x3, x4, x5, x6, x7, x8, x9, x10, x11, x12, x13, x14, x15]⟩]), true), (cdec (0 = 0), true)]) := by kernel_rfl
theorem chk_fnf (x0 x1 x2 x3 x4 x5 x6 x7 x8 x9 x10 x11 x12 x13 x14 x15 : Int) : (evFnL Try.prog ext 300 noPre noC (chkN (.agg (ints [x0, x1, x2, x3, x4, x5, x6, x7, x8, x9, x10, x11, x12, x13, x14, x15]).toArray) [⟨true, none, ints [x0, x1, x2, x3, x4, x5, x6, x7, x8, x9, x10, x11, x12, x13, x14, x15]⟩] 0 .ret [(2, .int .i64 1)]) [] 68 [(.agg (ints [x0, x1, x2, x3, x4, x5, x6, x7, x8, x9, x10, x11, x12, x13, x14, x15]).toArray)] []).map (fun r => (r.1.1, r.2)) = some (.int .i64 1, [(cdec (chkF (.agg (ints [x0, x1, x2, x3, x4, x5, x6, x7, x8, x9, x10, x11, x12, x13, x14, x15]).toArray) 0 = chkF (.agg (ints [x0, x1, x2, x3, x4, x5, x6, x7, x8, x9, x10, x11, x12, x13, x14, x15]).toArray) 0), true), (cdec ([(⟨true, none, ints [x0, x1, x2, x3, x4, x5, x6, x7, x8, x9, x10, x11, x12, x13, x14, x15]⟩ : Blk)] = [⟨true, none, ints [x0, x1, x2, x3, x4, x5, x6, x7, x8, x9, x10, x11, x12, x13, x14, x15]⟩]), true), (cdec (0 = 0), true)]) := by kernel_rfl

theorem chk_ok (xs : List Int) (hm : xs.length = 16) : CallOk Try.prog 68 [.agg (ints xs).toArray] [] (bif xs.all (fun x => okP x) then .int .i64 0 else .int .i64 1) [] 0 := by
  obtain ⟨x0, x1, x2, x3, x4, x5, x6, x7, x8, x9, x10, x11, x12, x13, x14, x15, rfl⟩ : ∃ x0 x1 x2 x3 x4 x5 x6 x7 x8 x9 x10 x11 x12 x13 x14 x15, xs = [x0, x1, x2, x3, x4, x5, x6, x7, x8, x9, x10, x11, x12, x13, x14, x15] := by match xs, hm with | [x0, x1, x2, x3, x4, x5, x6, x7, x8, x9, x10, x11, x12, x13, x14, x15], _ => exact ⟨x0, x1, x2, x3, x4, x5, x6, x7, x8, x9, x10, x11, x12, x13, x14, x15, rfl⟩
  have hstep : ∀ i, i < 16 → (okP ([x0, x1, x2, x3, x4, x5, x6, x7, x8, x9, x10, x11, x12, x13, x14, x15].getD i 0)) = true → WP Try.prog 14 (loopAt Try.prog 68 0) ⟨chkF (.agg (ints [x0, x1, x2, x3, x4, x5, x6, x7, x8, x9, x10, x11, x12, x13, x14, x15]).toArray) i, [⟨true, none, ints [x0, x1, x2, x3, x4, x5, x6, x7, x8, x9, x10, x11, x12, x13, x14, x15]⟩], 0⟩ .normal ⟨chkF (.agg (ints [x0, x1, x2, x3, x4, x5, x6, x7, x8, x9, x10, x11, x12, x13, x14, x15]).toArray) (i + 1), [⟨true, none, ints [x0, x1, x2, x3, x4, x5, x6, x7, x8, x9, x10, x11, x12, x13, x14, x15]⟩], 0⟩ := by
    intro i hi hg
    refine WP.run progOk extSound (nb_sound [] [(12, false)] fx3_sound) chk_code noLoops_ok [5, 6] (of_list (chk_good x0 x1 x2 x3 x4 x5 x6 x7 x8 x9 x10 x11 x12 x13 x14 x15 _ _) (by omega) (by omega)) ?_
    revert hg
    generalize ([x0, x1, x2, x3, x4, x5, x6, x7, x8, x9, x10, x11, x12, x13, x14, x15].getD i 0) = y
    intro hg
    simp [Holds, sat16, hg]
  have hbad : ∀ i, i < 16 → (okP ([x0, x1, x2, x3, x4, x5, x6, x7, x8, x9, x10, x11, x12, x13, x14, x15].getD i 0)) = false → WP Try.prog 14 (loopAt Try.prog 68 0) ⟨chkF (.agg (ints [x0, x1, x2, x3, x4, x5, x6, x7, x8, x9, x10, x11, x12, x13, x14, x15]).toArray) i, [⟨true, none, ints [x0, x1, x2, x3, x4, x5, x6, x7, x8, x9, x10, x11, x12, x13, x14, x15]⟩], 0⟩ .ret ⟨[(2, .int .i64 1)], [⟨true, none, ints [x0, x1, x2, x3, x4, x5, x6, x7, x8, x9, x10, x11, x12, x13, x14, x15]⟩], 0⟩ := by
    intro i hi hg
    refine WP.run progOk extSound (nb_sound [] [(12, true)] fx3_sound) chk_code noLoops_ok [2] (of_list (chk_bad0 x0 x1 x2 x3 x4 x5 x6 x7 x8 x9 x10 x11 x12 x13 x14 x15 _ _) (by omega) (by omega)) ?_
    revert hg 
    generalize ([x0, x1, x2, x3, x4, x5, x6, x7, x8, x9, x10, x11, x12, x13, x14, x15].getD i 0) = y
    intro hg 
    simp [Holds, sat16, hg]
  have hend : WP Try.prog 14 (loopAt Try.prog 68 0) ⟨chkF (.agg (ints [x0, x1, x2, x3, x4, x5, x6, x7, x8, x9, x10, x11, x12, x13, x14, x15]).toArray) 16, [⟨true, none, ints [x0, x1, x2, x3, x4, x5, x6, x7, x8, x9, x10, x11, x12, x13, x14, x15]⟩], 0⟩ (.exit 0) ⟨[], [⟨true, none, ints [x0, x1, x2, x3, x4, x5, x6, x7, x8, x9, x10, x11, x12, x13, x14, x15]⟩], 0⟩ :=
    WP.run progOk extSound noC_sound chk_code noLoops_ok [] (chk_end x0 x1 x2 x3 x4 x5 x6 x7 x8 x9 x10 x11 x12 x13 x14 x15 _ _) (by simp [Holds])
  have hsum : ∀ x F, WP Try.prog 14 (.loop (loopAt Try.prog 68 0)) ⟨chkF (.agg (ints [x0, x1, x2, x3, x4, x5, x6, x7, x8, x9, x10, x11, x12, x13, x14, x15]).toArray) 0, [⟨true, none, ints [x0, x1, x2, x3, x4, x5, x6, x7, x8, x9, x10, x11, x12, x13, x14, x15]⟩], 0⟩ x ⟨F, [⟨true, none, ints [x0, x1, x2, x3, x4, x5, x6, x7, x8, x9, x10, x11, x12, x13, x14, x15]⟩], 0⟩ → LoopsOk Try.prog 14 (chkN (.agg (ints [x0, x1, x2, x3, x4, x5, x6, x7, x8, x9, x10, x11, x12, x13, x14, x15]).toArray) [⟨true, none, ints [x0, x1, x2, x3, x4, x5, x6, x7, x8, x9, x10, x11, x12, x13, x14, x15]⟩] 0 x F) (bodyOf Try.prog 68) := fun x F h => LoopsOk.sum rfl (by
    intro b hb _
    rw [chk_loops] at hb
    simp only [List.mem_singleton] at hb
    subst hb
    exact h)
  cases ha : [x0, x1, x2, x3, x4, x5, x6, x7, x8, x9, x10, x11, x12, x13, x14, x15].all (fun x => okP x) with
  | true =>
    have hl := WP.loop (fun i => ⟨chkF (.agg (ints [x0, x1, x2, x3, x4, x5, x6, x7, x8, x9, x10, x11, x12, x13, x14, x15]).toArray) i, [⟨true, none, ints [x0, x1, x2, x3, x4, x5, x6, x7, x8, x9, x10, x11, x12, x13, x14, x15]⟩], 0⟩) 16 (by simp) (fun i hi => hstep i hi (all_getD ha hi)) hend
    exact pf_ok noC_sound (hsum _ _ hl) (chk_fnt x0 x1 x2 x3 x4 x5 x6 x7 x8 x9 x10 x11 x12 x13 x14 x15) (by simp [Holds, cdec]) rfl
  | false =>
    obtain ⟨i, hi, hg, hj⟩ := first_bad _ _ ha
    have hi' : i < 16 := hi
    have hl := WP.loop (fun i => ⟨chkF (.agg (ints [x0, x1, x2, x3, x4, x5, x6, x7, x8, x9, x10, x11, x12, x13, x14, x15]).toArray) i, [⟨true, none, ints [x0, x1, x2, x3, x4, x5, x6, x7, x8, x9, x10, x11, x12, x13, x14, x15]⟩], 0⟩) i (by simp) (fun j hj' => hstep j (by omega) (hj j hj')) (hbad i hi' hg)
    exact pf_ok noC_sound (hsum _ _ hl) (chk_fnf x0 x1 x2 x3 x4 x5 x6 x7 x8 x9 x10 x11 x12 x13 x14 x15) (by simp [Holds, cdec]) rfl

/-! ### rchk (69) -/
def rchkF (a : Value) (i : Nat) : Slots := [(5, a), (6, .int .i64 i)]
theorem rchk_code : codeOk (loopAt Try.prog 69 0) = true := by kernel_rfl
theorem rchk_loops : loopsOf (bodyOf Try.prog 69) = [loopAt Try.prog 69 0] := by kernel_rfl
theorem rchk_good (x0 x1 x2 x3 x4 x5 x6 x7 x8 x9 x10 x11 x12 x13 x14 x15 : Int) (H : Heap) (lo : Nat) : (List.range' 0 16).map (fun (i : Nat) => evL Try.prog ext (nmPre noPre) (nbC [] [(10, false), (13, false)] noC) noLoops 300 16 (loopAt Try.prog 69 0) (rchkF (.agg (ints [x0, x1, x2, x3, x4, x5, x6, x7, x8, x9, x10, x11, x12, x13, x14, x15]).toArray) i) H lo [] [5, 6]) =
  (List.range' 0 16).map fun (i : Nat) => some (.normal, rchkF (.agg (ints [x0, x1, x2, x3, x4, x5, x6, x7, x8, x9, x10, x11, x12, x13, x14, x15]).toArray) (i + 1), H, lo, [(decide (([x0, x1, x2, x3, x4, x5, x6, x7, x8, x9, x10, x11, x12, x13, x14, x15].getD i 0) > 32767), false), (decide (([x0, x1, x2, x3, x4, x5, x6, x7, x8, x9, x10, x11, x12, x13, x14, x15].getD i 0) < -32768), false)]) := by kernel_rfl
theorem rchk_bad0 (x0 x1 x2 x3 x4 x5 x6 x7 x8 x9 x10 x11 x12 x13 x14 x15 : Int) (H : Heap) (lo : Nat) : (List.range' 0 16).map (fun (i : Nat) => evL Try.prog ext (nmPre noPre) (nbC [] [(10, true)] noC) noLoops 300 16 (loopAt Try.prog 69 0) (rchkF (.agg (ints [x0, x1, x2, x3, x4, x5, x6, x7, x8, x9, x10, x11, x12, x13, x14, x15]).toArray) i) H lo [] [2]) =
  (List.range' 0 16).map fun (i : Nat) => some (.ret, [(2, .int .i64 1)], H, lo, [(decide (([x0, x1, x2, x3, x4, x5, x6, x7, x8, x9, x10, x11, x12, x13, x14, x15].getD i 0) < -32768), true)]) := by kernel_rfl
theorem rchk_bad1 (x0 x1 x2 x3 x4 x5 x6 x7 x8 x9 x10 x11 x12 x13 x14 x15 : Int) (H : Heap) (lo : Nat) : (List.range' 0 16).map (fun (i : Nat) => evL Try.prog ext (nmPre noPre) (nbC [] [(10, false), (13, true)] noC) noLoops 300 16 (loopAt Try.prog 69 0) (rchkF (.agg (ints [x0, x1, x2, x3, x4, x5, x6, x7, x8, x9, x10, x11, x12, x13, x14, x15]).toArray) i) H lo [] [2]) =
  (List.range' 0 16).map fun (i : Nat) => some (.ret, [(2, .int .i64 1)], H, lo, [(decide (([x0, x1, x2, x3, x4, x5, x6, x7, x8, x9, x10, x11, x12, x13, x14, x15].getD i 0) > 32767), true), (decide (([x0, x1, x2, x3, x4, x5, x6, x7, x8, x9, x10, x11, x12, x13, x14, x15].getD i 0) < -32768), false)]) := by kernel_rfl
theorem rchk_end (x0 x1 x2 x3 x4 x5 x6 x7 x8 x9 x10 x11 x12 x13 x14 x15 : Int) (H : Heap) (lo : Nat) : evL Try.prog ext noPre noC noLoops 300 16 (loopAt Try.prog 69 0) (rchkF (.agg (ints [x0, x1, x2, x3, x4, x5, x6, x7, x8, x9, x10, x11, x12, x13, x14, x15]).toArray) 16) H lo [] [] = some (.exit 0, [], H, lo, []) := by kernel_rfl
noncomputable def rchkN (a : Value) (H : Heap) (lo : Nat) (x : Ex) (F : Slots) : Loops := { loop := sumL 2 ⟨rchkF a 0, H, lo⟩ x ⟨F, H, lo⟩ }
theorem rchk_fnt (x0 x1 x2 x3 x4 x5 x6 x7 x8 x9 x10 x11 x12 x13 x14 x15 : Int) : (evFnL Try.prog ext 300 noPre noC (rchkN (.agg (ints [x0, x1, x2, x3, x4, x5, x6, x7, x8, x9, x10, x11, x12, x13, x14, x15]).toArray) [⟨true, none, ints [x0, x1, x2, x3, x4, x5, x6, x7, x8, x9, x10, x11, x12, x13, x14, x15]⟩] 0 (.exit 0) []) [] 69 [(.agg (ints [x0, x1, x2, x3, x4, x5, x6, x7, x8, x9, x10, x11, x12, x13, x14, x15]).toArray)] []).map (fun r => (r.1.1, r.2)) = some (.int .i64 0, [(cdec (rchkF (.agg (ints [x0, x1, x2, x3, x4, x5, x6, x7, x8, x9, x10, x11, x12, x13, x14, x15]).toArray) 0 = rchkF (.agg (ints [x0, x1, x2, x3, x4, x5, x6, x7, x8, x9, x10, x11, x12, x13, x14, x15]).toArray) 0), true), (cdec ([(⟨true, none, ints [x0, x1, x2, x3, x4, x5, x6, x7, x8, x9, x10, x11, x12, x13, x14, x15]⟩ : Blk)] = [⟨true, none, ints [x0, x1, x2, x3, x4, x5, x6, x7, x8, x9, x10, x11, x12, x13, x14, x15]⟩]), true), (cdec (0 = 0), true)]) := by kernel_rfl
theorem rchk_fnf (x0 x1 x2 x3 x4 x5 x6 x7 x8 x9 x10 x11 x12 x13 x14 x15 : Int) : (evFnL Try.prog ext 300 noPre noC (rchkN (.agg (ints [x0, x1, x2, x3, x4, x5, x6, x7, x8, x9, x10, x11, x12, x13, x14, x15]).toArray) [⟨true, none, ints [x0, x1, x2, x3, x4, x5, x6, x7, x8, x9, x10, x11, x12, x13, x14, x15]⟩] 0 .ret [(2, .int .i64 1)]) [] 69 [(.agg (ints [x0, x1, x2, x3, x4, x5, x6, x7, x8, x9, x10, x11, x12, x13, x14, x15]).toArray)] []).map (fun r => (r.1.1, r.2)) = some (.int .i64 1, [(cdec (rchkF (.agg (ints [x0, x1, x2, x3, x4, x5, x6, x7, x8, x9, x10, x11, x12, x13, x14, x15]).toArray) 0 = rchkF (.agg (ints [x0, x1, x2, x3, x4, x5, x6, x7, x8, x9, x10, x11, x12, x13, x14, x15]).toArray) 0), true), (cdec ([(⟨true, none, ints [x0, x1, x2, x3, x4, x5, x6, x7, x8, x9, x10, x11, x12, x13, x14, x15]⟩ : Blk)] = [⟨true, none, ints [x0, x1, x2, x3, x4, x5, x6, x7, x8, x9, x10, x11, x12, x13, x14, x15]⟩]), true), (cdec (0 = 0), true)]) := by kernel_rfl

theorem rchk_ok (xs : List Int) (hm : xs.length = 16) : CallOk Try.prog 69 [.agg (ints xs).toArray] [] (bif xs.all (fun x => okP x) then .int .i64 0 else .int .i64 1) [] 0 := by
  obtain ⟨x0, x1, x2, x3, x4, x5, x6, x7, x8, x9, x10, x11, x12, x13, x14, x15, rfl⟩ : ∃ x0 x1 x2 x3 x4 x5 x6 x7 x8 x9 x10 x11 x12 x13 x14 x15, xs = [x0, x1, x2, x3, x4, x5, x6, x7, x8, x9, x10, x11, x12, x13, x14, x15] := by match xs, hm with | [x0, x1, x2, x3, x4, x5, x6, x7, x8, x9, x10, x11, x12, x13, x14, x15], _ => exact ⟨x0, x1, x2, x3, x4, x5, x6, x7, x8, x9, x10, x11, x12, x13, x14, x15, rfl⟩
  have hstep : ∀ i, i < 16 → (okP ([x0, x1, x2, x3, x4, x5, x6, x7, x8, x9, x10, x11, x12, x13, x14, x15].getD i 0)) = true → WP Try.prog 16 (loopAt Try.prog 69 0) ⟨rchkF (.agg (ints [x0, x1, x2, x3, x4, x5, x6, x7, x8, x9, x10, x11, x12, x13, x14, x15]).toArray) i, [⟨true, none, ints [x0, x1, x2, x3, x4, x5, x6, x7, x8, x9, x10, x11, x12, x13, x14, x15]⟩], 0⟩ .normal ⟨rchkF (.agg (ints [x0, x1, x2, x3, x4, x5, x6, x7, x8, x9, x10, x11, x12, x13, x14, x15]).toArray) (i + 1), [⟨true, none, ints [x0, x1, x2, x3, x4, x5, x6, x7, x8, x9, x10, x11, x12, x13, x14, x15]⟩], 0⟩ := by
    intro i hi hg
    refine WP.run progOk extSound (nb_sound [] [(10, false), (13, false)] noC_sound) rchk_code noLoops_ok [5, 6] (of_list (rchk_good x0 x1 x2 x3 x4 x5 x6 x7 x8 x9 x10 x11 x12 x13 x14 x15 _ _) (by omega) (by omega)) ?_
    revert hg
    generalize ([x0, x1, x2, x3, x4, x5, x6, x7, x8, x9, x10, x11, x12, x13, x14, x15].getD i 0) = y
    intro hg
    simp [okP] at hg
    simp [Holds]
    omega
  have hbad : ∀ i, i < 16 → (okP ([x0, x1, x2, x3, x4, x5, x6, x7, x8, x9, x10, x11, x12, x13, x14, x15].getD i 0)) = false → WP Try.prog 16 (loopAt Try.prog 69 0) ⟨rchkF (.agg (ints [x0, x1, x2, x3, x4, x5, x6, x7, x8, x9, x10, x11, x12, x13, x14, x15]).toArray) i, [⟨true, none, ints [x0, x1, x2, x3, x4, x5, x6, x7, x8, x9, x10, x11, x12, x13, x14, x15]⟩], 0⟩ .ret ⟨[(2, .int .i64 1)], [⟨true, none, ints [x0, x1, x2, x3, x4, x5, x6, x7, x8, x9, x10, x11, x12, x13, x14, x15]⟩], 0⟩ := by
    intro i hi hg
    by_cases hc0 : ([x0, x1, x2, x3, x4, x5, x6, x7, x8, x9, x10, x11, x12, x13, x14, x15].getD i 0) < -32768
    · refine WP.run progOk extSound (nb_sound [] [(10, true)] noC_sound) rchk_code noLoops_ok [2] (of_list (rchk_bad0 x0 x1 x2 x3 x4 x5 x6 x7 x8 x9 x10 x11 x12 x13 x14 x15 _ _) (by omega) (by omega)) ?_
      revert hc0
      generalize ([x0, x1, x2, x3, x4, x5, x6, x7, x8, x9, x10, x11, x12, x13, x14, x15].getD i 0) = y
      intro hc0
      simp [Holds, hc0]
    refine WP.run progOk extSound (nb_sound [] [(10, false), (13, true)] noC_sound) rchk_code noLoops_ok [2] (of_list (rchk_bad1 x0 x1 x2 x3 x4 x5 x6 x7 x8 x9 x10 x11 x12 x13 x14 x15 _ _) (by omega) (by omega)) ?_
    revert hg hc0
    generalize ([x0, x1, x2, x3, x4, x5, x6, x7, x8, x9, x10, x11, x12, x13, x14, x15].getD i 0) = y
    intro hg hc0
    simp [okP] at hg
    simp [Holds]
    omega
  have hend : WP Try.prog 16 (loopAt Try.prog 69 0) ⟨rchkF (.agg (ints [x0, x1, x2, x3, x4, x5, x6, x7, x8, x9, x10, x11, x12, x13, x14, x15]).toArray) 16, [⟨true, none, ints [x0, x1, x2, x3, x4, x5, x6, x7, x8, x9, x10, x11, x12, x13, x14, x15]⟩], 0⟩ (.exit 0) ⟨[], [⟨true, none, ints [x0, x1, x2, x3, x4, x5, x6, x7, x8, x9, x10, x11, x12, x13, x14, x15]⟩], 0⟩ :=
    WP.run progOk extSound noC_sound rchk_code noLoops_ok [] (rchk_end x0 x1 x2 x3 x4 x5 x6 x7 x8 x9 x10 x11 x12 x13 x14 x15 _ _) (by simp [Holds])
  have hsum : ∀ x F, WP Try.prog 16 (.loop (loopAt Try.prog 69 0)) ⟨rchkF (.agg (ints [x0, x1, x2, x3, x4, x5, x6, x7, x8, x9, x10, x11, x12, x13, x14, x15]).toArray) 0, [⟨true, none, ints [x0, x1, x2, x3, x4, x5, x6, x7, x8, x9, x10, x11, x12, x13, x14, x15]⟩], 0⟩ x ⟨F, [⟨true, none, ints [x0, x1, x2, x3, x4, x5, x6, x7, x8, x9, x10, x11, x12, x13, x14, x15]⟩], 0⟩ → LoopsOk Try.prog 16 (rchkN (.agg (ints [x0, x1, x2, x3, x4, x5, x6, x7, x8, x9, x10, x11, x12, x13, x14, x15]).toArray) [⟨true, none, ints [x0, x1, x2, x3, x4, x5, x6, x7, x8, x9, x10, x11, x12, x13, x14, x15]⟩] 0 x F) (bodyOf Try.prog 69) := fun x F h => LoopsOk.sum rfl (by
    intro b hb _
    rw [rchk_loops] at hb
    simp only [List.mem_singleton] at hb
    subst hb
    exact h)
  cases ha : [x0, x1, x2, x3, x4, x5, x6, x7, x8, x9, x10, x11, x12, x13, x14, x15].all (fun x => okP x) with
  | true =>
    have hl := WP.loop (fun i => ⟨rchkF (.agg (ints [x0, x1, x2, x3, x4, x5, x6, x7, x8, x9, x10, x11, x12, x13, x14, x15]).toArray) i, [⟨true, none, ints [x0, x1, x2, x3, x4, x5, x6, x7, x8, x9, x10, x11, x12, x13, x14, x15]⟩], 0⟩) 16 (by simp) (fun i hi => hstep i hi (all_getD ha hi)) hend
    exact pf_ok noC_sound (hsum _ _ hl) (rchk_fnt x0 x1 x2 x3 x4 x5 x6 x7 x8 x9 x10 x11 x12 x13 x14 x15) (by simp [Holds, cdec]) rfl
  | false =>
    obtain ⟨i, hi, hg, hj⟩ := first_bad _ _ ha
    have hi' : i < 16 := hi
    have hl := WP.loop (fun i => ⟨rchkF (.agg (ints [x0, x1, x2, x3, x4, x5, x6, x7, x8, x9, x10, x11, x12, x13, x14, x15]).toArray) i, [⟨true, none, ints [x0, x1, x2, x3, x4, x5, x6, x7, x8, x9, x10, x11, x12, x13, x14, x15]⟩], 0⟩) i (by simp) (fun j hj' => hstep j (by omega) (hj j hj')) (hbad i hi' hg)
    exact pf_ok noC_sound (hsum _ _ hl) (rchk_fnf x0 x1 x2 x3 x4 x5 x6 x7 x8 x9 x10 x11 x12 x13 x14 x15) (by simp [Holds, cdec]) rfl

end Go.Proofs.Ytfbjpenbpbpcaaa
