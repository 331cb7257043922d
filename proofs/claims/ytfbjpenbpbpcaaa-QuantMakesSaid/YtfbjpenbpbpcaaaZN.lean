/-
  Chapter 09: Peak, Most, Step, and the references'.
-/
import Derived.Test.YtfbjpenbpbpcaaaBn9
import Derived.Test.YtfbjpenbpbpcaaaArrW
namespace Go.Proofs.Ytfbjpenbpbpcaaa
open Go Den
set_option maxRecDepth 100000
set_option linter.unusedSimpArgs false
set_option linter.unusedVariables false

noncomputable def runC : Oracle := evAll Try.prog ext 300 4
theorem runC_plain : Sound Try.prog runC := evAll_sound progOk extSound 300 4
theorem of_runs {n : Nat} {f : FuncId} {args : List Value} {v : Value} (h : (evAll Try.prog ext 300 n f args []).map (·.1) = some v) (hv : pf 3 v = true) : CallOk Try.prog f args [] v [] 0 := by
  cases hr : evAll Try.prog ext 300 n f args [] with
  | none => rw [hr] at h; simp at h
  | some r =>
    obtain ⟨v', H', l⟩ := r
    rw [hr] at h
    simp at h
    subst h
    exact CallOk.drop (evAll_sound progOk extSound 300 n f args [] _ H' l hr) hv

/-! ### Peak -/
def pkN (n : Nat) : Int := (8 + n % 8 : Nat) * 2 ^ (n / 8) / 8 + 1
def pkZ (n : Int) : Int := if 0 ≤ n ∧ n ≤ 255 then pkN n.toNat else 0
def peZ (n : Int) : Int := if 0 ≤ n ∧ n ≤ 255 then 0 else 1
theorem pk_list : (List.range' 0 256).map (fun (n : Nat) => (evAll Try.prog ext 300 1 93 [.int .i64 (n : Int)] []).map (·.1)) = (List.range' 0 256).map fun (n : Nat) => some (.tuple #[.int .i64 (pkN n), .int .i64 0]) := by kernel_rfl
theorem rpk_list : (List.range' 0 256).map (fun (n : Nat) => (evAll Try.prog ext 300 1 94 [.int .i64 (n : Int)] []).map (·.1)) = (List.range' 0 256).map fun (n : Nat) => some (.tuple #[.int .i64 (pkN n), .int .i64 0]) := by kernel_rfl
theorem pk_lo (f : FuncId) (hf : f = 93 ∨ f = 94) (n : Int) : (evFnL Try.prog ext 300 (nmPre noPre) (nbC [] [(if f = 93 then 5 else 6, true)] noC) noLoops [] f [.int .i64 n] []).map (fun r => (r.1.1, r.2)) = some (.tuple #[.int .i64 0, .int .i64 1], [(decide (n < 0), true)]) := by
  rcases hf with rfl | rfl <;> kernel_rfl
theorem pk_hi (f : FuncId) (hf : f = 93 ∨ f = 94) (n : Int) : (evFnL Try.prog ext 300 (nmPre noPre) (nbC [] [(if f = 93 then 5 else 6, false), (if f = 93 then 8 else 9, true)] noC) noLoops [] f [.int .i64 n] []).map (fun r => (r.1.1, r.2)) = some (.tuple #[.int .i64 0, .int .i64 1], [(decide (n > 255), true), (decide (n < 0), false)]) := by
  rcases hf with rfl | rfl <;> kernel_rfl
theorem peak_ok (f : FuncId) (hf : f = 93 ∨ f = 94) (n : Int) : CallOk Try.prog f [.int .i64 n] [] (.tuple #[.int .i64 (pkZ n), .int .i64 (peZ n)]) [] 0 := by
  unfold pkZ peZ
  by_cases h : 0 ≤ n ∧ n ≤ 255
  · rw [if_pos h, if_pos h]
    obtain ⟨k, rfl⟩ : ∃ k : Nat, n = (k : Int) := ⟨n.toNat, by omega⟩
    rw [Int.toNat_natCast]
    rcases hf with rfl | rfl
    · exact of_runs (of_list pk_list (by omega) (by omega)) rfl
    · exact of_runs (of_list rpk_list (by omega) (by omega)) rfl
  · rw [if_neg h, if_neg h]
    by_cases h0 : n < 0
    · exact pf_ok (nb_sound _ _ noC_sound) noLoops_ok (pk_lo f hf n) (by simp only [Holds, List.mem_singleton, forall_eq]; exact decide_eq_true h0) rfl
    · exact pf_ok (nb_sound _ _ noC_sound) noLoops_ok (pk_hi f hf n) (by simp only [Holds, List.mem_cons, List.not_mem_nil, or_false, forall_eq_or_imp, forall_eq]; exact ⟨decide_eq_true (by omega), decide_eq_false h0⟩) rfl

/-! ### Most -/
def clW (w : Int) : Int := max 0 (min w 7)
def moN' (c : Nat) : Int := 2 ^ c - 1
def moZ (w : Int) : Int := moN' (clW w).toNat
theorem most_l (w : Int) : (List.range' 0 8).map (fun (c : Nat) => (evFnL Try.prog ext 300 (nmPre noPre) (nbC [(5, (c : Int))] [] noC) noLoops [] 97 [.int .i64 w] []).map (fun r => (r.1.1, r.2))) = (List.range' 0 8).map fun (c : Nat) => some (.int .i64 (moN' c), [(decide (mxG 0 (mnG w 7) = (c : Int)), true)]) := by kernel_rfl
theorem rmost_l (w : Int) : (List.range' 0 8).map (fun (c : Nat) => (evFnL Try.prog ext 300 (nmPre noPre) (nbC [(6, (c : Int))] [] noC) noLoops [] 98 [.int .i64 w] []).map (fun r => (r.1.1, r.2))) = (List.range' 0 8).map fun (c : Nat) => some (.int .i64 (moN' c), [(decide (mnG (mxG w 0) 7 = (c : Int)), true)]) := by kernel_rfl
theorem most_ok (f : FuncId) (hf : f = 97 ∨ f = 98) (w : Int) : CallOk Try.prog f [.int .i64 w] [] (.int .i64 (moZ w)) [] 0 := by
  have hc : (clW w).toNat < 8 := by unfold clW; omega
  rcases hf with rfl | rfl
  · exact pf_ok (nb_sound _ _ noC_sound) noLoops_ok (of_list (most_l w) (i := (clW w).toNat) (by omega) (by omega)) (by
      simp only [Holds, List.mem_singleton, forall_eq]
      refine decide_eq_true ?_
      rw [mxG_eq, mnG_eq]; unfold clW; omega) rfl
  · exact pf_ok (nb_sound _ _ noC_sound) noLoops_ok (of_list (rmost_l w) (i := (clW w).toNat) (by omega) (by omega)) (by
      simp only [Holds, List.mem_singleton, forall_eq]
      refine decide_eq_true ?_
      rw [mxG_eq, mnG_eq]; unfold clW; omega) rfl

/-! ### Step -/
def stT (p e m : Int) : FuncId → List Value → Option Value := fun f args => match f, args with
  | 93, [_] => some (.tuple #[.int .i64 p, .int .i64 e])
  | 94, [_] => some (.tuple #[.int .i64 p, .int .i64 e])
  | 97, [_] => some (.int .i64 m)
  | 98, [_] => some (.int .i64 m)
  | _, _ => none
noncomputable abbrev stC (p e m : Int) : Oracle := tellC (stT p e m) noC
noncomputable abbrev stP (p e m : Int) : Pre := tellPre (stT p e m) noPre
theorem st_sound (p e m : Int) : Sound Try.prog (strict (stP p e m) (stC p e m)) := tell_sound _ noC_sound
theorem st_l (l w p : Int) : (List.range' 1 7).map (fun (c : Nat) => (evFnL Try.prog ext 300 (nmPre (stP p 0 (moN' c))) (nbC [] [(17, false), (21, false)] (stC p 0 (moN' c))) noLoops [(0, true), (5, true)] 95 [.int .i64 l, .int .i64 w] []).map (fun r => (r.1.1, r.2))) =
  (List.range' 1 7).map fun (c : Nat) => some (.tuple #[.int .i64 (W (W ((W (p - 1)).tdiv (moN' c)) + 1)), .int .i64 0], [(stP p 0 (moN' c) 97 [.int .i64 w] [], true), (decide (w > 7), false), (decide (w < 1), false), (stP p 0 (moN' c) 93 [.int .i64 l] [], true)]) := by kernel_rfl
theorem rst_l (l w p : Int) : (List.range' 1 7).map (fun (c : Nat) => (evFnL Try.prog ext 300 (nmPre (stP p 0 (moN' c))) (nbC [] [(18, false), (22, false)] (stC p 0 (moN' c))) noLoops [(0, true), (5, true)] 96 [.int .i64 l, .int .i64 w] []).map (fun r => (r.1.1, r.2))) =
  (List.range' 1 7).map fun (c : Nat) => some (.tuple #[.int .i64 (W ((W (W (p + moN' c) - 1)).tdiv (moN' c))), .int .i64 0], [(stP p 0 (moN' c) 98 [.int .i64 w] [], true), (decide (w > 7), false), (decide (w < 1), false), (stP p 0 (moN' c) 94 [.int .i64 l] [], true)]) := by kernel_rfl
theorem st_e (l w : Int) (f : FuncId) (hf : f = 95 ∨ f = 96) : (evFnL Try.prog ext 300 (stP 0 1 0) (stC 0 1 0) noLoops [(0, true)] f [.int .i64 l, .int .i64 w] []).map (fun r => (r.1.1, r.2)) =
  some (.tuple #[.int .i64 0, .int .i64 1], [(stP 0 1 0 (if f = 95 then 93 else 94) [.int .i64 l] [], true)]) := by
  rcases hf with rfl | rfl <;> kernel_rfl
theorem st_lo (l w p : Int) (f : FuncId) (hf : f = 95 ∨ f = 96) : (evFnL Try.prog ext 300 (nmPre (stP p 0 0)) (nbC [] [(if f = 95 then 17 else 18, true)] (stC p 0 0)) noLoops [(0, true)] f [.int .i64 l, .int .i64 w] []).map (fun r => (r.1.1, r.2)) =
  some (.tuple #[.int .i64 0, .int .i64 1], [(decide (w < 1), true), (stP p 0 0 (if f = 95 then 93 else 94) [.int .i64 l] [], true)]) := by
  rcases hf with rfl | rfl <;> kernel_rfl
theorem st_hi (l w p : Int) (f : FuncId) (hf : f = 95 ∨ f = 96) : (evFnL Try.prog ext 300 (nmPre (stP p 0 0)) (nbC [] [(if f = 95 then 17 else 18, false), (if f = 95 then 21 else 22, true)] (stC p 0 0)) noLoops [(0, true)] f [.int .i64 l, .int .i64 w] []).map (fun r => (r.1.1, r.2)) =
  some (.tuple #[.int .i64 0, .int .i64 1], [(decide (w > 7), true), (decide (w < 1), false), (stP p 0 0 (if f = 95 then 93 else 94) [.int .i64 l] [], true)]) := by
  rcases hf with rfl | rfl <;> kernel_rfl
theorem pk_bound : ((List.range 256).all fun n => decide (2 ≤ pkN n) && decide (pkN n ≤ 4026531841)) = true := by kernel_rfl
theorem pkZ_in {l : Int} (h : 0 ≤ l ∧ l ≤ 255) : 2 ≤ pkZ l ∧ pkZ l ≤ 4026531841 := by
  unfold pkZ
  rw [if_pos h]
  have := List.all_eq_true.1 pk_bound l.toNat (by simp; omega)
  simpa using this
def stOk (l w : Int) : Prop := (0 ≤ l ∧ l ≤ 255) ∧ 1 ≤ w ∧ w ≤ 7
instance (l w : Int) : Decidable (stOk l w) := by unfold stOk; infer_instance
def stZ (l w : Int) : Int := if stOk l w then (pkZ l - 1) / moZ w + 1 else 0
def seZ (l w : Int) : Int := if stOk l w then 0 else 1
theorem step_ok (f : FuncId) (hf : f = 95 ∨ f = 96) (l w : Int) : CallOk Try.prog f [.int .i64 l, .int .i64 w] [] (.tuple #[.int .i64 (stZ l w), .int .i64 (seZ l w)]) [] 0 := by
  have hpk : CallOk Try.prog (if f = 95 then 93 else 94) [.int .i64 l] [] (.tuple #[.int .i64 (pkZ l), .int .i64 (peZ l)]) [] 0 := peak_ok _ (by rcases hf with rfl | rfl <;> simp) l
  unfold stZ seZ
  by_cases hl : 0 ≤ l ∧ l ≤ 255
  · have he : peZ l = 0 := by unfold peZ; rw [if_pos hl]
    have hp := pkZ_in hl
    rw [he] at hpk
    by_cases h1 : w < 1
    · rw [if_neg (fun h => by unfold stOk at h; omega), if_neg (fun h => by unfold stOk at h; omega)]
      refine pf_ok (nb_sound _ _ (st_sound _ _ _)) noLoops_ok (st_lo l w (pkZ l) f hf) ?_ rfl
      simp only [Holds, List.mem_cons, List.not_mem_nil, or_false, forall_eq_or_imp, forall_eq]
      exact ⟨decide_eq_true h1, by rcases hf with rfl | rfl <;> exact tell_ok rfl hpk⟩
    · by_cases h7 : w > 7
      · rw [if_neg (fun h => by unfold stOk at h; omega), if_neg (fun h => by unfold stOk at h; omega)]
        refine pf_ok (nb_sound _ _ (st_sound _ _ _)) noLoops_ok (st_hi l w (pkZ l) f hf) ?_ rfl
        simp only [Holds, List.mem_cons, List.not_mem_nil, or_false, forall_eq_or_imp, forall_eq]
        exact ⟨decide_eq_true h7, decide_eq_false h1, by rcases hf with rfl | rfl <;> exact tell_ok rfl hpk⟩
      · rw [if_pos (show stOk l w from ⟨hl, by omega, by omega⟩), if_pos (show stOk l w from ⟨hl, by omega, by omega⟩)]
        obtain ⟨c, hc1, hc7, rfl⟩ : ∃ c : Nat, 1 ≤ c ∧ c ≤ 7 ∧ w = (c : Int) := ⟨w.toNat, by omega, by omega, by omega⟩
        have hm : moZ (c : Int) = moN' c := by
          unfold moZ clW
          rw [show (max 0 (min (c : Int) 7)).toNat = c by omega]
        have hmv : moN' c = 1 ∨ moN' c = 3 ∨ moN' c = 7 ∨ moN' c = 15 ∨ moN' c = 31 ∨ moN' c = 63 ∨ moN' c = 127 := by
          rcases (show c = 1 ∨ c = 2 ∨ c = 3 ∨ c = 4 ∨ c = 5 ∨ c = 6 ∨ c = 7 by omega) with rfl | rfl | rfl | rfl | rfl | rfl | rfl <;> decide
        rw [hm]
        rcases hf with rfl | rfl
        · have hmo := most_ok 97 (.inl rfl) (c : Int)
          rw [hm] at hmo
          have e : W (W ((W (pkZ l - 1)).tdiv (moN' c)) + 1) = (pkZ l - 1) / moN' c + 1 := by
            rw [W_in (n := pkZ l - 1) (by omega) (by omega), Int.tdiv_eq_ediv_of_nonneg (by omega)]
            rcases hmv with h | h | h | h | h | h | h <;> rw [h] <;> rw [W_in (n := (pkZ l - 1) / _) (by omega) (by omega), W_in (by omega) (by omega)]
          rw [← e]
          refine pf_ok (nb_sound _ _ (st_sound _ _ _)) noLoops_ok (of_list (st_l l c (pkZ l)) (i := c) (by omega) (by omega)) ?_ rfl
          simp only [Holds, List.mem_cons, List.not_mem_nil, or_false, forall_eq_or_imp, forall_eq]
          exact ⟨tell_ok rfl hmo, decide_eq_false h7, decide_eq_false h1, tell_ok rfl hpk⟩
        · have hmo := most_ok 98 (.inr rfl) (c : Int)
          rw [hm] at hmo
          have e : W ((W (W (pkZ l + moN' c) - 1)).tdiv (moN' c)) = (pkZ l - 1) / moN' c + 1 := by
            rcases hmv with h | h | h | h | h | h | h <;> rw [h] <;> rw [W_in (n := pkZ l + _) (by omega) (by omega), W_in (n := pkZ l + _ - 1) (by omega) (by omega), Int.tdiv_eq_ediv_of_nonneg (by omega), W_in (by omega) (by omega)] <;> omega
          rw [← e]
          refine pf_ok (nb_sound _ _ (st_sound _ _ _)) noLoops_ok (of_list (rst_l l c (pkZ l)) (i := c) (by omega) (by omega)) ?_ rfl
          simp only [Holds, List.mem_cons, List.not_mem_nil, or_false, forall_eq_or_imp, forall_eq]
          exact ⟨tell_ok rfl hmo, decide_eq_false h7, decide_eq_false h1, tell_ok rfl hpk⟩
  · rw [if_neg (fun h => hl h.1), if_neg (fun h => hl h.1)]
    have he : peZ l = 1 := by unfold peZ; rw [if_neg hl]
    have hz : pkZ l = 0 := by unfold pkZ; rw [if_neg hl]
    rw [he, hz] at hpk
    refine pf_ok (st_sound _ _ _) noLoops_ok (st_e l w f hf) ?_ rfl
    simp only [Holds, List.mem_singleton, forall_eq]
    rcases hf with rfl | rfl <;> exact tell_ok rfl hpk
end Go.Proofs.Ytfbjpenbpbpcaaa

/-
  Chapter 09: scales and the reference's steps: the walks.
-/
namespace Go.Proofs.Ytfbjpenbpbpcaaa
open Go Den
set_option maxRecDepth 100000
set_option linter.unusedSimpArgs false
set_option linter.unusedVariables false

def x9c : Oracle := fun f args H => match H with
  | [] => match f, args with
    | 93, [.int .i64 n] => some (.tuple #[.int .i64 (pkZ n), .int .i64 (peZ n)], [], 0)
    | 94, [.int .i64 n] => some (.tuple #[.int .i64 (pkZ n), .int .i64 (peZ n)], [], 0)
    | 95, [.int .i64 l, .int .i64 w] => some (.tuple #[.int .i64 (stZ l w), .int .i64 (seZ l w)], [], 0)
    | 96, [.int .i64 l, .int .i64 w] => some (.tuple #[.int .i64 (stZ l w), .int .i64 (seZ l w)], [], 0)
    | 97, [.int .i64 w] => some (.int .i64 (moZ w), [], 0)
    | 98, [.int .i64 w] => some (.int .i64 (moZ w), [], 0)
    | _, _ => none
  | _ => none
theorem x9c_sound : Sound Try.prog x9c := by
  intro f args H v H' l h
  unfold x9c at h
  split at h
  · split at h
    all_goals first
      | (simp at h; done)
      | skip
    all_goals
      simp only [Option.some.injEq, Prod.mk.injEq] at h
      obtain ⟨rfl, rfl, rfl⟩ := h
    · exact peak_ok 93 (.inl rfl) _
    · exact peak_ok 94 (.inr rfl) _
    · exact step_ok 95 (.inl rfl) _ _
    · exact step_ok 96 (.inr rfl) _ _
    · exact most_ok 97 (.inl rfl) _
    · exact most_ok 98 (.inr rfl) _
  · simp at h
noncomputable def x9a : Oracle := orElse x9c ofC
theorem x9a_plain : Sound Try.prog x9a := x9c_sound.or ofC_sound
theorem x9a_sound : Sound Try.prog (strict noPre x9a) := plain_sound x9a_plain

def edg (b : Nat) : Nat := edgeL.getD b 0


/-- A number's band. -/
def bnd (k : Nat) : Nat := if k < 1 then 0 else if k < 2 then 1 else if k < 4 then 2 else if k < 6 then 3 else if k < 10 then 4 else 5
def oS (l A : List Int) (b : Nat) : List Int := (List.range 32).map fun i => if i / 2 < edg b then (if i % 2 = 0 then stZ (l.getD (bnd (i / 2)) 0) (A.getD (bnd (i / 2)) 0) else moZ (A.getD (bnd (i / 2)) 0)) else 0
def scF (A : List Int) (b : Nat) : Slots := [(1, ptI 0), (2, ptI 1), (3, ptI 2), (4, .int .i64 0), (18, .agg (ints A).toArray), (19, .int .i64 b)]
def scH (l A : List Int) (O : List Int) : Heap := [blkI l, blkI O, blkI A]
theorem sc_t (a b c d e g a0 a1 a2 a3 a4 a5 : Int) : (List.range' 0 6).map (fun (k : Nat) => evL Try.prog ext noPre x9a noLoops 300 59 (loopAt Try.prog 131 0) (scF [a0, a1, a2, a3, a4, a5] k) (scH [a, b, c, d, e, g] [a0, a1, a2, a3, a4, a5] (oS [a, b, c, d, e, g] [a0, a1, a2, a3, a4, a5] k)) 0 [(3, true)] [1, 2, 3, 4, 18, 19]) =
  (List.range' 0 6).map fun (k : Nat) => some (.normal, scF [a0, a1, a2, a3, a4, a5] (k + 1), scH [a, b, c, d, e, g] [a0, a1, a2, a3, a4, a5] (oS [a, b, c, d, e, g] [a0, a1, a2, a3, a4, a5] k), 0, [(bif (0 : Int) != 0 then true else [a0, a1, a2, a3, a4, a5].getD k 0 == 0, true)]) := by kernel_rfl
theorem sc_f (a b c d e g a0 a1 a2 a3 a4 a5 : Int) : (List.range' 0 6).map (fun (k : Nat) => evL Try.prog ext noPre x9a noLoops 300 59 (loopAt Try.prog 131 0) (scF [a0, a1, a2, a3, a4, a5] k) (scH [a, b, c, d, e, g] [a0, a1, a2, a3, a4, a5] (oS [a, b, c, d, e, g] [a0, a1, a2, a3, a4, a5] k)) 0 [(3, false)] [1, 2, 3, 4, 18, 19]) =
  (List.range' 0 6).map fun (k : Nat) => some (.normal, scF [a0, a1, a2, a3, a4, a5] (k + 1), scH [a, b, c, d, e, g] [a0, a1, a2, a3, a4, a5] (oS [a, b, c, d, e, g] [a0, a1, a2, a3, a4, a5] (k + 1)), 0, [(bif (0 : Int) != 0 then true else [a0, a1, a2, a3, a4, a5].getD k 0 == 0, false)]) := by kernel_rfl
def scE : Slots := [(2, ptI 1), (3, ptI 2), (4, .int .i64 0)]
theorem sc_e (a b c d e g a0 a1 a2 a3 a4 a5 : Int) : evL Try.prog ext noPre noC noLoops 300 59 (loopAt Try.prog 131 0) (scF [a0, a1, a2, a3, a4, a5] 6) (scH [a, b, c, d, e, g] [a0, a1, a2, a3, a4, a5] (oS [a, b, c, d, e, g] [a0, a1, a2, a3, a4, a5] 6)) 0 [] [2, 3, 4] = some (.exit 0, scE, scH [a, b, c, d, e, g] [a0, a1, a2, a3, a4, a5] (oS [a, b, c, d, e, g] [a0, a1, a2, a3, a4, a5] 6), 0, []) := by kernel_rfl
theorem sc_code : codeOk (loopAt Try.prog 131 0) = true := by kernel_rfl
theorem stZ_0 (l : Int) : stZ l 0 = 0 := by unfold stZ; rw [if_neg]; unfold stOk; omega
theorem moZ_0 : moZ 0 = 0 := by decide
theorem bnd_ok : ((List.range 6).all fun b => (List.range 32).all fun i => !(decide (edg b ≤ i / 2) && decide (i / 2 < edg (b + 1))) || (bnd (i / 2) == b)) = true := by kernel_rfl
theorem bnd_eq {b i : Nat} (hb : b < 6) (hi : i < 32) (h1 : edg b ≤ i / 2) (h2 : i / 2 < edg (b + 1)) : bnd (i / 2) = b := by
  have h := List.all_eq_true.1 (List.all_eq_true.1 bnd_ok b (by simpa using hb)) i (by simpa using hi)
  rw [decide_eq_true h1, decide_eq_true h2] at h
  simpa using h
theorem edg_mono {b : Nat} (hb : b < 6) : edg b < edg (b + 1) := by
  rcases (show b = 0 ∨ b = 1 ∨ b = 2 ∨ b = 3 ∨ b = 4 ∨ b = 5 by omega) with rfl | rfl | rfl | rfl | rfl | rfl <;> decide
theorem oS_skip {l A : List Int} {b : Nat} (hb : b < 6) (h : A.getD b 0 = 0) : oS l A (b + 1) = oS l A b := by
  unfold oS
  refine List.map_congr_left fun i hi => ?_
  have hi : i < 32 := by simpa using hi
  have hm := edg_mono hb
  by_cases h1 : i / 2 < edg b
  · rw [if_pos h1, if_pos (show i / 2 < edg (b + 1) by omega)]
  · rw [if_neg h1]
    by_cases h2 : i / 2 < edg (b + 1)
    · rw [if_pos h2, bnd_eq hb hi (by omega) h2, h, stZ_0, moZ_0]
      split <;> rfl
    · rw [if_neg h2]
theorem sc_loop (a b c d e g a0 a1 a2 a3 a4 a5 : Int) : WP Try.prog 59 (.loop (loopAt Try.prog 131 0)) ⟨scF [a0, a1, a2, a3, a4, a5] 0, scH [a, b, c, d, e, g] [a0, a1, a2, a3, a4, a5] (List.replicate 32 0), 0⟩ (.exit 0) ⟨scE, scH [a, b, c, d, e, g] [a0, a1, a2, a3, a4, a5] (oS [a, b, c, d, e, g] [a0, a1, a2, a3, a4, a5] 6), 0⟩ := by
  refine WP.loop (fun k => ⟨scF [a0, a1, a2, a3, a4, a5] k, scH [a, b, c, d, e, g] [a0, a1, a2, a3, a4, a5] (oS [a, b, c, d, e, g] [a0, a1, a2, a3, a4, a5] k), 0⟩) 6 (by simp) (fun k hk => ?_) (WP.run progOk extSound noC_sound sc_code noLoops_ok _ (sc_e a b c d e g a0 a1 a2 a3 a4 a5) (by simp [Holds]))
  by_cases h : [a0, a1, a2, a3, a4, a5].getD k 0 = 0
  · show WP _ _ _ _ _ ⟨_, scH _ _ (oS _ _ (k + 1)), _⟩
    rw [oS_skip hk h]
    exact WP.run progOk extSound x9a_sound sc_code noLoops_ok _ (of_list (sc_t a b c d e g a0 a1 a2 a3 a4 a5) (by omega) (by omega)) (by simp only [Holds, List.mem_singleton, forall_eq]; rw [h]; rfl)
  · refine WP.run progOk extSound x9a_sound sc_code noLoops_ok _ (of_list (sc_f a b c d e g a0 a1 a2 a3 a4 a5) (by omega) (by omega)) ?_
    simp only [Holds, List.mem_singleton, forall_eq]
    rw [beq_eq_false_iff_ne.2 h]; rfl

noncomputable def scN (a b c d e g a0 a1 a2 a3 a4 a5 : Int) : Loops := { loop := sumL 3 ⟨scF [a0, a1, a2, a3, a4, a5] 0, scH [a, b, c, d, e, g] [a0, a1, a2, a3, a4, a5] (List.replicate 32 0), 0⟩ (.exit 0) ⟨scE, scH [a, b, c, d, e, g] [a0, a1, a2, a3, a4, a5] (oS [a, b, c, d, e, g] [a0, a1, a2, a3, a4, a5] 6), 0⟩ }
def shT2 (A : List Int) (n : Int) : FuncId → List Value → Option Value := fun f args => match f, args with
  | 80, [_, _] => some (.tuple #[.agg (ints A).toArray, .int .i64 n])
  | 81, [_, _] => some (.tuple #[.agg (ints A).toArray, .int .i64 n])
  | _, _ => none
noncomputable abbrev s2C (A : List Int) (n : Int) : Oracle := tellC (shT2 A n) x9a
noncomputable abbrev s2P (A : List Int) (n : Int) : Pre := tellPre (shT2 A n) noPre
theorem s2_sound (A : List Int) (n : Int) : Sound Try.prog (strict (s2P A n) (s2C A n)) := tell_sound _ x9a_sound
theorem sc_run (a b c d e g a0 a1 a2 a3 a4 a5 : Int) : (evFnL Try.prog ext 300 (s2P [a0, a1, a2, a3, a4, a5] 0) (s2C [a0, a1, a2, a3, a4, a5] 0) (scN a b c d e g a0 a1 a2 a3 a4 a5) [(0, true)] 131 [.agg (ints [a, b, c, d, e, g]).toArray] []).map (fun r => (r.1.1, r.2)) =
  some (.tuple #[.agg (ints (oS [a, b, c, d, e, g] [a0, a1, a2, a3, a4, a5] 6)).toArray, .agg (ints [a0, a1, a2, a3, a4, a5]).toArray, .int .i64 0], [(cdec (scF [a0, a1, a2, a3, a4, a5] 0 = scF [a0, a1, a2, a3, a4, a5] 0), true), (cdec (scH [a, b, c, d, e, g] [a0, a1, a2, a3, a4, a5] (List.replicate 32 0) = scH [a, b, c, d, e, g] [a0, a1, a2, a3, a4, a5] (List.replicate 32 0)), true), (cdec (0 = 0), true), (s2P [a0, a1, a2, a3, a4, a5] 0 80 [.agg (ints [a, b, c, d, e, g]).toArray, .int .i64 120] [], true)]) := by kernel_rfl
theorem sc_bad (a b c d e g : Int) : (evFnL Try.prog ext 300 (s2P [0, 0, 0, 0, 0, 0] 1) (s2C [0, 0, 0, 0, 0, 0] 1) noLoops [(0, true)] 131 [.agg (ints [a, b, c, d, e, g]).toArray] []).map (fun r => (r.1.1, r.2)) =
  some (.tuple #[.agg (ints (List.replicate 32 0)).toArray, .agg (ints [0, 0, 0, 0, 0, 0]).toArray, .int .i64 1], [(s2P [0, 0, 0, 0, 0, 0] 1 80 [.agg (ints [a, b, c, d, e, g]).toArray, .int .i64 120] [], true)]) := by kernel_rfl
theorem oS_zero (l : List Int) : oS l zer6 6 = (List.replicate 32 0) := by
  have h : ∀ i, i < 32 → (if i / 2 < edg 6 then (if i % 2 = 0 then stZ (l.getD (bnd (i / 2)) 0) (zer6.getD (bnd (i / 2)) 0) else moZ (zer6.getD (bnd (i / 2)) 0)) else 0) = 0 := by
    intro i hi
    have hz : ∀ k, zer6.getD k 0 = 0 := by
      intro k
      match k with
      | 0 | 1 | 2 | 3 | 4 | 5 => rfl
      | k + 6 => simp [zer6]
    rw [hz, stZ_0, moZ_0]
    split
    · split <;> rfl
    · rfl
  unfold oS
  rw [List.map_congr_left (g := fun _ => (0 : Int)) fun i hi => h i (by simpa using hi)]
  rfl
theorem scales_ok (l : List Int) (hl : l.length = 6) : CallOk Try.prog 131 [.agg (ints l).toArray] [] (.tuple #[.agg (ints (oS l (shl l 120) 6)).toArray, .agg (ints (shl l 120)).toArray, .int .i64 (she l 120)]) [] 0 := by
  have hsh := share_c 80 (.inl rfl) l 120 hl
  unfold tup6 at hsh
  rw [L6_eq (shl_len l 120)] at hsh
  by_cases h : okL l = true
  · have he : she l 120 = 0 := by unfold she; rw [if_pos ⟨h, by omega⟩]
    rw [he] at hsh ⊢
    have hlen := shl_len l 120
    generalize shl l 120 = A at hsh hlen
    obtain ⟨a, b, c, d, e, g, rfl⟩ := six_ex l hl
    obtain ⟨a0, a1, a2, a3, a4, a5, rfl⟩ := six_ex A hlen
    refine pf_ok (s2_sound _ _) ?_ (sc_run a b c d e g a0 a1 a2 a3 a4 a5) ?_ rfl
    · refine LoopsOk.sum rfl fun b hb hi => ?_
      rw [show loopsOf (bodyOf Try.prog 131) = [loopAt Try.prog 131 0, loopAt Try.prog 131 1] by kernel_rfl] at hb
      simp only [List.mem_cons, List.not_mem_nil, or_false] at hb
      rcases hb with rfl | rfl
      · exact sc_loop a b c d e g a0 a1 a2 a3 a4 a5
      · rw [show firstId (loopAt Try.prog 131 1) = 9 by kernel_rfl] at hi; omega
    · simp only [Holds, List.mem_cons, List.not_mem_nil, or_false, forall_eq_or_imp, forall_eq]
      exact ⟨cdec_iff.2 trivial, cdec_iff.2 trivial, cdec_iff.2 trivial, tell_ok rfl hsh⟩
  · have he : she l 120 = 1 := by unfold she; rw [if_neg (fun hh => h hh.1)]
    have hs : shl l 120 = zer6 := by unfold shl; rw [if_neg (fun hh => h hh.1)]
    rw [he, hs] at hsh ⊢
    rw [oS_zero]
    obtain ⟨a, b, c, d, e, g, rfl⟩ := six_ex l hl
    exact pf_ok (s2_sound _ _) noLoops_ok (sc_bad a b c d e g) (by simp only [Holds, List.mem_singleton, forall_eq]; exact tell_ok rfl hsh) rfl

theorem mA_max9 {A : List Int} : ∀ (i : Nat), i < 6 → A.getD i 0 ≤ A.getD (mA A 6) 0 := by
  have key : ∀ n, ∀ i, i < n → A.getD i 0 ≤ A.getD (mA A n) 0 := by
    intro n
    induction n with
    | zero => intro i hi; omega
    | succ n ih =>
      intro i hi
      simp only [mA]
      split
      · rename_i h
        by_cases hin : i = n
        · subst hin; exact Int.le_refl _
        · exact Int.le_trans (ih i (by omega)) h
      · rename_i h
        by_cases hin : i = n
        · subst hin; omega
        · exact ih i (by omega)
  exact key 6
theorem decA_ok9 {A : List Int} {b : Int} (h : okA A) (hb : 0 ≤ b) (hc : costG A > b) : okA (decA A) ∧ ∀ i, i < 6 → (decA A).getD i 0 ≤ A.getD i 0 := by
  have hm := mA_lt A 6 (Nat.le_refl _)
  have hk := h.2 _ hm
  have hpos : 1 ≤ A.getD (mA A 6) 0 := by
    rw [costG_eq h] at hc
    have m0 := mA_max9 (A := A) 0 (by omega)
    have m1 := mA_max9 (A := A) 1 (by omega)
    have m2 := mA_max9 (A := A) 2 (by omega)
    have m3 := mA_max9 (A := A) 3 (by omega)
    have m4 := mA_max9 (A := A) 4 (by omega)
    have m5 := mA_max9 (A := A) 5 (by omega)
    unfold costC at hc
    omega
  have e : W (A.getD (mA A 6) 0 - 1) = A.getD (mA A 6) 0 - 1 := W_in (by omega) (by omega)
  have hg : ∀ i, (decA A).getD i 0 = if i = mA A 6 then A.getD (mA A 6) 0 - 1 else A.getD i 0 := fun i => by
    unfold decA
    rw [getD_set6 h.1 hm, e]
  refine ⟨⟨decA_len h.1, fun i hi => ?_⟩, fun i hi => ?_⟩
  · rw [hg]
    have := h.2 i hi
    split
    · omega
    · exact this
  · rw [hg]
    split
    · rename_i he; subst he; omega
    · exact Int.le_refl _
theorem refCut_le9 {b : Int} (hb : 0 ≤ b) : ∀ (n : Nat) (A : List Int), okA A → okA (refCut b n A) ∧ ∀ i, i < 6 → (refCut b n A).getD i 0 ≤ A.getD i 0 := by
  intro n
  induction n with
  | zero => intro A h; exact ⟨h, fun _ _ => Int.le_refl _⟩
  | succ n ih =>
    intro A h
    simp only [refCut]
    split
    · rename_i hc
      obtain ⟨h1, h2⟩ := decA_ok9 h hb hc
      obtain ⟨h3, h4⟩ := ih _ h1
      exact ⟨h3, fun i hi => Int.le_trans (h4 i hi) (h2 i hi)⟩
    · exact ⟨h, fun _ _ => Int.le_refl _⟩
theorem shl_ok {l : List Int} (hl : l.length = 6) {b : Int} (hb : 0 ≤ b) : okA (shl l b) := by
  unfold shl
  split
  · rename_i h
    unfold shareC
    exact (refCut_le9 h.2 42 _ (base_ok hl h.1)).1
  · exact okA6.2 (by omega)
end Go.Proofs.Ytfbjpenbpbpcaaa

/-
  Chapter 09: the example; the law QuantSteps as a call.
-/
namespace Go.Proofs.Ytfbjpenbpbpcaaa
open Go Den
set_option maxRecDepth 100000
set_option linter.unusedSimpArgs false
set_option linter.unusedVariables false

noncomputable def x89 : Oracle := orElse x8c x9a
theorem x89_plain : Sound Try.prog x89 := x8c_sound.or x9a_plain
theorem live9_ok : CallOk Try.prog 92 [] [] (.bool true) [] 0 := of_over x89_plain (n := 4) (by kernel_rfl) rfl
def lv9 : Oracle := fun f args H => match H, f, args with
  | [], 92, [] => some (.bool true, [], 0)
  | _, _, _ => none
theorem lv9_sound : Sound Try.prog lv9 := by
  intro f args H v H' l h
  unfold lv9 at h
  split at h
  · simp only [Option.some.injEq, Prod.mk.injEq] at h; obtain ⟨rfl, rfl, rfl⟩ := h
    exact live9_ok
  · simp at h
noncomputable def o9 : Oracle := orElse lv9 x89
theorem o9_plain : Sound Try.prog o9 := lv9_sound.or x89_plain
theorem o9_sound : Sound Try.prog (strict noPre o9) := plain_sound o9_plain

theorem qs_run (l w : Int) : (evFnL Try.prog ext 300 (nmPre noPre) (nbC [] (allT [43, 48, 53, 58, 65]) o9) noLoops [] 25 [.int .i64 l, .int .i64 w] []).map (fun r => (r.1.1, r.2)) =
  some (.bool true, [(moZ w == moZ w, true), (seZ l w == seZ l w, true), (stZ l w == stZ l w, true), (peZ l == peZ l, true), (pkZ l == pkZ l, true)]) := by kernel_rfl
theorem steps_call (l w : Int) : CallOk Try.prog 25 [.int .i64 l, .int .i64 w] [] (.bool true) [] 0 :=
  pf_ok (nb_sound _ _ o9_sound) noLoops_ok (qs_run l w) (by
    simp only [Holds, List.mem_cons, List.not_mem_nil, or_false, forall_eq_or_imp, forall_eq]
    exact ⟨beq_self_eq_true _, beq_self_eq_true _, beq_self_eq_true _, beq_self_eq_true _, beq_self_eq_true _⟩) rfl
end Go.Proofs.Ytfbjpenbpbpcaaa

