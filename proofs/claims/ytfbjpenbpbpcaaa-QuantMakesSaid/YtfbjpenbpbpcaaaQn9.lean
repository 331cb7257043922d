/-
  Chapter 09: Noise.
-/
import Derived.Test.YtfbjpenbpbpcaaaQn6
namespace Go.Proofs.Ytfbjpenbpbpcaaa
open Go Den
set_option maxRecDepth 100000
set_option linter.unusedSimpArgs false
set_option linter.unusedVariables false

def WU (n : Int) : Int := IntKind.wrap .u32 n
def nxt (s : Int) : Int := WU (WU (s * 1664525) + 1013904223)
def hiZ (s : Int) : Int := W (Int.fdiv s (2 ^ min (Int.toNat 16) (IntKind.bits .u32)))
def nzv (s p : Int) : Int := W (W (hiZ s - 32768) * p)
def hel (v : Int) : Int := mxG (-67108864) (mnG v 67108864)
def sdS (s : Int) : Nat → Int
  | 0 => s
  | i + 1 => nxt (sdS s i)
def nzX (s : Int) (l : List Int) : Nat → List Int
  | 0 => List.replicate 16 0
  | i + 1 => if l.getD (bnd i) 0 > 0 then (nzX s l i).set i (hel (roundZ (nzv (sdS s (i + 1)) (pkZ (l.getD (bnd i) 0))) 18)) else nzX s l i
theorem nzX_len (s : Int) (l : List Int) : ∀ i, (nzX s l i).length = 16 := by
  intro i
  induction i with
  | zero => simp [nzX]
  | succ i ih => simp only [nzX]; split <;> simp [ih]
theorem nzX_get (s : Int) (l : List Int) : ∀ i, i ≤ 16 → ∀ k, (nzX s l i).getD k 0 = if k < i then (if l.getD (bnd k) 0 > 0 then hel (roundZ (nzv (sdS s (k + 1)) (pkZ (l.getD (bnd k) 0))) 18) else 0) else 0 := by
  intro i
  induction i with
  | zero =>
    intro _ k
    simp only [nzX]
    rw [List.getD_eq_getElem?_getD, List.getElem?_replicate]
    split <;> simp
  | succ i ih =>
    intro hi k
    have ih := ih (by omega) k
    simp only [nzX]
    by_cases h : l.getD (bnd i) 0 > 0
    · rw [if_pos h, getD_set16 (nzX_len s l i) (by omega)]
      by_cases hk : k = i
      · subst hk; rw [if_pos rfl, if_pos (by omega), if_pos h]
      · rw [if_neg hk, ih]
        by_cases hlt : k < i
        · rw [if_pos hlt, if_pos (show k < i + 1 by omega)]
        · rw [if_neg hlt, if_neg (show ¬ k < i + 1 by omega)]
    · rw [if_neg h, ih]
      by_cases hk : k = i
      · subst hk; rw [if_neg (by omega), if_pos (by omega), if_neg h]
      · by_cases hlt : k < i
        · rw [if_pos hlt, if_pos (show k < i + 1 by omega)]
        · rw [if_neg hlt, if_neg (show ¬ k < i + 1 by omega)]
theorem sdS_eq (s : Int) : ∀ i, sdS s i = sdS s i := fun _ => rfl

def nzT : FuncId → List Value → Option Value := fun f args => match f, args with
  | 45, [.int .i64 v, .int .i64 k] => some (.int .i64 (roundZ v k))
  | _, _ => none
noncomputable def nzB : Oracle := orElse heldC o9
noncomputable abbrev nzC : Oracle := tellC nzT nzB
noncomputable abbrev nzP : Pre := tellPre nzT noPre
theorem nz_sound : Sound Try.prog (strict nzP nzC) := tell_sound _ (plain_sound (heldC_sound.or o9_plain))
def nzF (s : Int) (i : Nat) : Slots := [(0, .int .u32 s), (3, ptI 0), (4, ptI 1), (19, .int .i64 i)]
def nzH (l x : List Int) : Heap := [blkI l, blkI x]
theorem nz_t (l0 l1 l2 l3 l4 l5 b0 b1 b2 b3 b4 b5 b6 b7 b8 b9 b10 b11 b12 b13 b14 b15 s t h : Int) : (List.range' 0 16).map (fun (i : Nat) => evL Try.prog ext (nmPre nzP) (nbC [(24, t), (44, h)] [(40, true)] nzC) noLoops 300 54 (loopAt Try.prog 105 0) (nzF s i) (nzH [l0, l1, l2, l3, l4, l5] [b0, b1, b2, b3, b4, b5, b6, b7, b8, b9, b10, b11, b12, b13, b14, b15]) 0 [(5, true)] [0, 3, 4, 19]) =
  (List.range' 0 16).map fun (i : Nat) => some (.normal, nzF t (i + 1), nzH [l0, l1, l2, l3, l4, l5] ([b0, b1, b2, b3, b4, b5, b6, b7, b8, b9, b10, b11, b12, b13, b14, b15].set i (hel (roundZ (W (W (h - 32768) * pkZ ([l0, l1, l2, l3, l4, l5].getD (bnd i) 0))) 18))), 0, [(nzP 45 [.int .i64 (W (W (h - 32768) * pkZ ([l0, l1, l2, l3, l4, l5].getD (bnd i) 0))), .int .i64 18] [], true), (decide (hiZ t = h), true), (decide ([l0, l1, l2, l3, l4, l5].getD (bnd i) 0 > 0), true), (decide (nxt s = t), true)]) := by kernel_rfl
theorem nz_f (l0 l1 l2 l3 l4 l5 b0 b1 b2 b3 b4 b5 b6 b7 b8 b9 b10 b11 b12 b13 b14 b15 s t : Int) : (List.range' 0 16).map (fun (i : Nat) => evL Try.prog ext (nmPre nzP) (nbC [(24, t)] [(40, false)] nzC) noLoops 300 54 (loopAt Try.prog 105 0) (nzF s i) (nzH [l0, l1, l2, l3, l4, l5] [b0, b1, b2, b3, b4, b5, b6, b7, b8, b9, b10, b11, b12, b13, b14, b15]) 0 [] [0, 3, 4, 19]) =
  (List.range' 0 16).map fun (i : Nat) => some (.normal, nzF t (i + 1), nzH [l0, l1, l2, l3, l4, l5] [b0, b1, b2, b3, b4, b5, b6, b7, b8, b9, b10, b11, b12, b13, b14, b15], 0, [(decide ([l0, l1, l2, l3, l4, l5].getD (bnd i) 0 > 0), false), (decide (nxt s = t), true)]) := by kernel_rfl
theorem nz_e (l0 l1 l2 l3 l4 l5 b0 b1 b2 b3 b4 b5 b6 b7 b8 b9 b10 b11 b12 b13 b14 b15 s : Int) : evL Try.prog ext noPre noC noLoops 300 54 (loopAt Try.prog 105 0) (nzF s 16) (nzH [l0, l1, l2, l3, l4, l5] [b0, b1, b2, b3, b4, b5, b6, b7, b8, b9, b10, b11, b12, b13, b14, b15]) 0 [] [0, 4] = some (.exit 0, [(0, .int .u32 s), (4, ptI 1)], nzH [l0, l1, l2, l3, l4, l5] [b0, b1, b2, b3, b4, b5, b6, b7, b8, b9, b10, b11, b12, b13, b14, b15], 0, []) := by kernel_rfl
theorem nz_code : codeOk (loopAt Try.prog 105 0) = true := by kernel_rfl
theorem nz_loop (l0 l1 l2 l3 l4 l5 s : Int) : WP Try.prog 54 (.loop (loopAt Try.prog 105 0)) ⟨nzF s 0, nzH [l0, l1, l2, l3, l4, l5] (List.replicate 16 0), 0⟩ (.exit 0) ⟨[(0, .int .u32 (sdS s 16)), (4, ptI 1)], nzH [l0, l1, l2, l3, l4, l5] (nzX s [l0, l1, l2, l3, l4, l5] 16), 0⟩ := by
  refine WP.loop (fun i => ⟨nzF (sdS s i) i, nzH [l0, l1, l2, l3, l4, l5] (nzX s [l0, l1, l2, l3, l4, l5] i), 0⟩) 16 (by simp) (fun i hi => ?_) ?_
  · obtain ⟨B, hB⟩ : ∃ B, nzX s [l0, l1, l2, l3, l4, l5] i = B := ⟨_, rfl⟩
    have hl := nzX_len s [l0, l1, l2, l3, l4, l5] i
    show WP _ _ _ ⟨_, nzH _ (nzX _ _ i), _⟩ _ ⟨nzF (nxt (sdS s i)) (i + 1), nzH _ (nzX _ _ (i + 1)), _⟩
    simp only [nzX]
    rw [hB] at hl ⊢
    obtain ⟨b0, b1, b2, b3, b4, b5, b6, b7, b8, b9, b10, b11, b12, b13, b14, b15, rfl⟩ := six_len16 B hl
    by_cases h : [l0, l1, l2, l3, l4, l5].getD (bnd i) 0 > 0
    · rw [if_pos h]
      refine WP.run progOk extSound (nb_sound _ _ nz_sound) nz_code noLoops_ok _ (of_list (nz_t l0 l1 l2 l3 l4 l5 b0 b1 b2 b3 b4 b5 b6 b7 b8 b9 b10 b11 b12 b13 b14 b15 (sdS s i) (nxt (sdS s i)) (hiZ (nxt (sdS s i)))) (by omega) (by omega)) ?_
      simp only [Holds, List.mem_cons, List.not_mem_nil, or_false, forall_eq_or_imp, forall_eq]
      exact ⟨tell_ok rfl (round_ok _ _ (inI_wrap _) (by decide)), decide_eq_true trivial, decide_eq_true h, decide_eq_true trivial⟩
    · rw [if_neg h]
      refine WP.run progOk extSound (nb_sound _ _ nz_sound) nz_code noLoops_ok _ (of_list (nz_f l0 l1 l2 l3 l4 l5 b0 b1 b2 b3 b4 b5 b6 b7 b8 b9 b10 b11 b12 b13 b14 b15 (sdS s i) (nxt (sdS s i))) (by omega) (by omega)) ?_
      simp only [Holds, List.mem_cons, List.not_mem_nil, or_false, forall_eq_or_imp, forall_eq]
      exact ⟨decide_eq_false h, decide_eq_true trivial⟩
  · have hl := nzX_len s [l0, l1, l2, l3, l4, l5] 16
    revert hl
    generalize nzX s [l0, l1, l2, l3, l4, l5] 16 = B
    intro hl
    obtain ⟨b0, b1, b2, b3, b4, b5, b6, b7, b8, b9, b10, b11, b12, b13, b14, b15, rfl⟩ := six_len16 B hl
    exact WP.run progOk extSound noC_sound nz_code noLoops_ok _ (nz_e l0 l1 l2 l3 l4 l5 b0 b1 b2 b3 b4 b5 b6 b7 b8 b9 b10 b11 b12 b13 b14 b15 (sdS s 16)) (by simp [Holds])
noncomputable def nzN (s t : Int) (l B : List Int) : Loops := { loop := sumL 5 ⟨nzF s 0, nzH l (List.replicate 16 0), 0⟩ (.exit 0) ⟨[(0, .int .u32 t), (4, ptI 1)], nzH l B, 0⟩ }
theorem nz_run (l0 l1 l2 l3 l4 l5 b0 b1 b2 b3 b4 b5 b6 b7 b8 b9 b10 b11 b12 b13 b14 b15 s t : Int) : (evFnL Try.prog ext 300 (nmPre noPre) (nbC [] [(16, false)] o9) (nzN s t [l0, l1, l2, l3, l4, l5] [b0, b1, b2, b3, b4, b5, b6, b7, b8, b9, b10, b11, b12, b13, b14, b15]) [] 105 [.int .u32 s, .agg (ints [l0, l1, l2, l3, l4, l5]).toArray] []).map (fun r => (r.1.1, r.2)) =
  some (.tuple #[.agg (ints [b0, b1, b2, b3, b4, b5, b6, b7, b8, b9, b10, b11, b12, b13, b14, b15]).toArray, .int .u32 t, .int .i64 0], [(cdec (nzF s 0 = nzF s 0), true), (cdec (nzH [l0, l1, l2, l3, l4, l5] (List.replicate 16 0) = nzH [l0, l1, l2, l3, l4, l5] (List.replicate 16 0)), true), (cdec (0 = 0), true), (chk8 [l0, l1, l2, l3, l4, l5] != 0, false)]) := by kernel_rfl
theorem nz_bad (l0 l1 l2 l3 l4 l5 s : Int) : (evFnL Try.prog ext 300 (nmPre noPre) (nbC [] [(16, true)] o9) noLoops [] 105 [.int .u32 s, .agg (ints [l0, l1, l2, l3, l4, l5]).toArray] []).map (fun r => (r.1.1, r.2)) =
  some (.tuple #[.agg (ints (List.replicate 16 0)).toArray, .int .u32 0, .int .i64 (chk8 [l0, l1, l2, l3, l4, l5])], [(chk8 [l0, l1, l2, l3, l4, l5] != 0, true)]) := by kernel_rfl
def nzl (s : Int) (l : List Int) : List Int := if okL l = true then nzX s l 16 else List.replicate 16 0
def nzs (s : Int) (l : List Int) : Int := if okL l = true then sdS s 16 else 0
theorem nzl_len (s : Int) (l : List Int) : (nzl s l).length = 16 := by unfold nzl; split <;> simp [nzX_len]
theorem noise_ok (s : Int) (l : List Int) (hl : l.length = 6) : CallOk Try.prog 105 [.int .u32 s, .agg (ints l).toArray] [] (.tuple #[.agg (ints (nzl s l)).toArray, .int .u32 (nzs s l), .int .i64 (chk8 l)]) [] 0 := by
  unfold nzl nzs
  by_cases h : okL l = true
  · rw [if_pos h, if_pos h]
    have hc : chk8 l = 0 := by unfold chk8; rw [if_pos h]
    rw [hc]
    obtain ⟨l0, l1, l2, l3, l4, l5, rfl⟩ := six_ex l hl
    have hlp := nz_loop l0 l1 l2 l3 l4 l5 s
    have hb := nzX_len s [l0, l1, l2, l3, l4, l5] 16
    revert hlp hb
    generalize nzX s [l0, l1, l2, l3, l4, l5] 16 = B
    generalize sdS s 16 = t
    intro hlp hb
    obtain ⟨b0, b1, b2, b3, b4, b5, b6, b7, b8, b9, b10, b11, b12, b13, b14, b15, rfl⟩ := six_len16 B hb
    refine pf_ok (nb_sound _ _ o9_sound) ?_ (nz_run l0 l1 l2 l3 l4 l5 b0 b1 b2 b3 b4 b5 b6 b7 b8 b9 b10 b11 b12 b13 b14 b15 s t) (by simp only [Holds, List.mem_cons, List.not_mem_nil, or_false, forall_eq_or_imp, forall_eq]; exact ⟨cdec_iff.2 trivial, cdec_iff.2 trivial, cdec_iff.2 trivial, by rw [hc]; rfl⟩) rfl
    refine LoopsOk.sum rfl fun b hb _ => ?_
    rw [show loopsOf (bodyOf Try.prog 105) = [loopAt Try.prog 105 0] by kernel_rfl] at hb
    simp only [List.mem_singleton] at hb
    subst hb
    exact hlp
  · rw [if_neg h, if_neg h]
    have hc : chk8 l = 1 := by unfold chk8; rw [if_neg h]
    obtain ⟨l0, l1, l2, l3, l4, l5, rfl⟩ := six_ex l hl
    exact pf_ok (nb_sound _ _ o9_sound) noLoops_ok (nz_bad l0 l1 l2 l3 l4 l5 s) (by simp only [Holds, List.mem_singleton, forall_eq]; rw [hc]; rfl) rfl
end Go.Proofs.Ytfbjpenbpbpcaaa

