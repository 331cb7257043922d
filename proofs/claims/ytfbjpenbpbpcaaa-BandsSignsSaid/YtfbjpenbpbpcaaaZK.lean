/-
  Chapter 08: the reference's Share: the walk.
-/
import Derived.Test.YtfbjpenbpbpcaaaZJ
namespace Go.Proofs.Ytfbjpenbpbpcaaa
open Go Den
set_option maxRecDepth 100000
set_option linter.unusedSimpArgs false
set_option linter.unusedVariables false

/-! ### what bands would have -/
def rwantG (l m : Int) : Int := mnG (W ((W (W (l - m) + 7)).tdiv 8)) 7
def aR (l m : List Int) : Nat → List Int
  | 0 => [0, 0, 0, 0, 0, 0]
  | i + 1 => if l.getD i 0 > m.getD i 0 then (aR l m i).set i (rwantG (l.getD i 0) (m.getD i 0)) else aR l m i
def r1F (bud : Int) (i : Nat) : Slots := [(1, .int .i64 bud), (2, ptI 0), (4, ptI 1), (5, .int .i64 0), (6, ptI 2), (7, ptI 3), (25, .int .i64 i)]
def r1H (l m A : List Int) : Heap := [blkI l, blkI [0, 0, 0, 0, 0, 0], blkI A, blkI m]
theorem r1_t (a b c d e g m0 m1 m2 m3 m4 m5 a0 a1 a2 a3 a4 a5 bud : Int) : (List.range' 0 6).map (fun (i : Nat) => evL Try.prog ext noPre noC noLoops 300 70 (loopAt Try.prog 81 0) (r1F bud i) (r1H [a, b, c, d, e, g] [m0, m1, m2, m3, m4, m5] [a0, a1, a2, a3, a4, a5]) 0 [(1, true)] [1, 2, 4, 5, 6, 7, 25]) =
  (List.range' 0 6).map fun (i : Nat) => some (.normal, r1F bud (i + 1), r1H [a, b, c, d, e, g] [m0, m1, m2, m3, m4, m5] ([a0, a1, a2, a3, a4, a5].set i (rwantG ([a, b, c, d, e, g].getD i 0) ([m0, m1, m2, m3, m4, m5].getD i 0))), 0, [(decide (([a, b, c, d, e, g].getD i 0) > ([m0, m1, m2, m3, m4, m5].getD i 0)), true)]) := by kernel_rfl
theorem r1_f (a b c d e g m0 m1 m2 m3 m4 m5 a0 a1 a2 a3 a4 a5 bud : Int) : (List.range' 0 6).map (fun (i : Nat) => evL Try.prog ext noPre noC noLoops 300 70 (loopAt Try.prog 81 0) (r1F bud i) (r1H [a, b, c, d, e, g] [m0, m1, m2, m3, m4, m5] [a0, a1, a2, a3, a4, a5]) 0 [(1, false)] [1, 2, 4, 5, 6, 7, 25]) =
  (List.range' 0 6).map fun (i : Nat) => some (.normal, r1F bud (i + 1), r1H [a, b, c, d, e, g] [m0, m1, m2, m3, m4, m5] [a0, a1, a2, a3, a4, a5], 0, [(decide (([a, b, c, d, e, g].getD i 0) > ([m0, m1, m2, m3, m4, m5].getD i 0)), false)]) := by kernel_rfl
theorem r1_e (a b c d e g m0 m1 m2 m3 m4 m5 a0 a1 a2 a3 a4 a5 bud : Int) : evL Try.prog ext noPre noC noLoops 300 70 (loopAt Try.prog 81 0) (r1F bud 6) (r1H [a, b, c, d, e, g] [m0, m1, m2, m3, m4, m5] [a0, a1, a2, a3, a4, a5]) 0 [] [1, 4, 5, 6] = some (.exit 0, [(1, .int .i64 bud), (4, ptI 1), (5, .int .i64 0), (6, ptI 2)], r1H [a, b, c, d, e, g] [m0, m1, m2, m3, m4, m5] [a0, a1, a2, a3, a4, a5], 0, []) := by kernel_rfl
theorem r1_code : codeOk (loopAt Try.prog 81 0) = true := by kernel_rfl
theorem aR_len (l m : List Int) : ∀ i, (aR l m i).length = 6 := by
  intro i
  induction i with
  | zero => rfl
  | succ i ih => simp only [aR]; split <;> simp [ih]
theorem r1_loop (a b c d e g m0 m1 m2 m3 m4 m5 bud : Int) : WP Try.prog 70 (.loop (loopAt Try.prog 81 0)) ⟨r1F bud 0, r1H [a, b, c, d, e, g] [m0, m1, m2, m3, m4, m5] [0, 0, 0, 0, 0, 0], 0⟩ (.exit 0) ⟨[(1, .int .i64 bud), (4, ptI 1), (5, .int .i64 0), (6, ptI 2)], r1H [a, b, c, d, e, g] [m0, m1, m2, m3, m4, m5] (aR [a, b, c, d, e, g] [m0, m1, m2, m3, m4, m5] 6), 0⟩ := by
  refine WP.loop (fun i => ⟨r1F bud i, r1H [a, b, c, d, e, g] [m0, m1, m2, m3, m4, m5] (aR [a, b, c, d, e, g] [m0, m1, m2, m3, m4, m5] i), 0⟩) 6 (by simp) (fun i hi => ?_) ?_
  · obtain ⟨B, hB⟩ : ∃ B, aR [a, b, c, d, e, g] [m0, m1, m2, m3, m4, m5] i = B := ⟨_, rfl⟩
    have hl := aR_len [a, b, c, d, e, g] [m0, m1, m2, m3, m4, m5] i
    show WP _ _ _ ⟨_, r1H _ _ (aR _ _ i), _⟩ _ ⟨_, r1H _ _ (aR _ _ (i + 1)), _⟩
    simp only [aR]
    rw [hB] at hl ⊢
    obtain ⟨a0, a1, a2, a3, a4, a5, rfl⟩ := six_ex B hl
    by_cases h : ([a, b, c, d, e, g].getD i 0) > ([m0, m1, m2, m3, m4, m5].getD i 0)
    · rw [if_pos h]
      exact WP.run progOk extSound noC_sound r1_code noLoops_ok _ (of_list (r1_t a b c d e g m0 m1 m2 m3 m4 m5 a0 a1 a2 a3 a4 a5 bud) (by omega) (by omega)) (by simp only [Holds, List.mem_singleton, forall_eq]; exact decide_eq_true h)
    · rw [if_neg h]
      exact WP.run progOk extSound noC_sound r1_code noLoops_ok _ (of_list (r1_f a b c d e g m0 m1 m2 m3 m4 m5 a0 a1 a2 a3 a4 a5 bud) (by omega) (by omega)) (by simp only [Holds, List.mem_singleton, forall_eq]; exact decide_eq_false h)
  · have hl := aR_len [a, b, c, d, e, g] [m0, m1, m2, m3, m4, m5] 6
    revert hl
    generalize aR [a, b, c, d, e, g] [m0, m1, m2, m3, m4, m5] 6 = B
    intro hl
    obtain ⟨a0, a1, a2, a3, a4, a5, rfl⟩ := six_ex B hl
    exact WP.run progOk extSound noC_sound r1_code noLoops_ok _ (r1_e a b c d e g m0 m1 m2 m3 m4 m5 a0 a1 a2 a3 a4 a5 bud) (by simp [Holds])

/-! ### which has the most, the last one -/
def mA (A : List Int) : Nat → Nat
  | 0 => 0
  | i + 1 => if A.getD i 0 ≥ A.getD (mA A i) 0 then i else mA A i
theorem mA_lt (A : List Int) : ∀ i, i ≤ 6 → mA A i < 6 := by
  intro i
  induction i with
  | zero => intro _; simp [mA]
  | succ i ih => intro h; simp only [mA]; split
                 · omega
                 · exact ih (by omega)
def moF (bud : Int) (A : List Int) (i p : Nat) : Slots := [(1, .int .i64 bud), (4, ptI 1), (5, .int .i64 0), (6, ptI 2), (10, .int .i64 p), (52, .agg (ints A).toArray), (53, .int .i64 i)]
theorem mo_t (a b c d e g m0 m1 m2 m3 m4 m5 a0 a1 a2 a3 a4 a5 bud : Int) : (List.range' 0 36).map (fun (n : Nat) => evL Try.prog ext noPre noC noLoops 300 70 (loopAt Try.prog 81 2) (moF bud [a0, a1, a2, a3, a4, a5] (n / 6) (n % 6)) (r1H [a, b, c, d, e, g] [m0, m1, m2, m3, m4, m5] [a0, a1, a2, a3, a4, a5]) 0 [(1, true)] [1, 4, 5, 6, 10, 52, 53]) =
  (List.range' 0 36).map fun (n : Nat) => some (.normal, moF bud [a0, a1, a2, a3, a4, a5] (n / 6 + 1) (n / 6), r1H [a, b, c, d, e, g] [m0, m1, m2, m3, m4, m5] [a0, a1, a2, a3, a4, a5], 0, [(decide (([a0, a1, a2, a3, a4, a5].getD (n / 6) 0) ≥ ([a0, a1, a2, a3, a4, a5].getD (n % 6) 0)), true)]) := by kernel_rfl
theorem mo_f (a b c d e g m0 m1 m2 m3 m4 m5 a0 a1 a2 a3 a4 a5 bud : Int) : (List.range' 0 36).map (fun (n : Nat) => evL Try.prog ext noPre noC noLoops 300 70 (loopAt Try.prog 81 2) (moF bud [a0, a1, a2, a3, a4, a5] (n / 6) (n % 6)) (r1H [a, b, c, d, e, g] [m0, m1, m2, m3, m4, m5] [a0, a1, a2, a3, a4, a5]) 0 [(1, false)] [1, 4, 5, 6, 10, 52, 53]) =
  (List.range' 0 36).map fun (n : Nat) => some (.normal, moF bud [a0, a1, a2, a3, a4, a5] (n / 6 + 1) (n % 6), r1H [a, b, c, d, e, g] [m0, m1, m2, m3, m4, m5] [a0, a1, a2, a3, a4, a5], 0, [(decide (([a0, a1, a2, a3, a4, a5].getD (n / 6) 0) ≥ ([a0, a1, a2, a3, a4, a5].getD (n % 6) 0)), false)]) := by kernel_rfl
def moE (bud : Int) (p : Nat) : Slots := [(1, .int .i64 bud), (4, ptI 1), (5, .int .i64 0), (6, ptI 2), (10, .int .i64 p)]
theorem mo_e (a b c d e g m0 m1 m2 m3 m4 m5 a0 a1 a2 a3 a4 a5 bud : Int) : (List.range' 0 6).map (fun (p : Nat) => evL Try.prog ext noPre noC noLoops 300 70 (loopAt Try.prog 81 2) (moF bud [a0, a1, a2, a3, a4, a5] 6 p) (r1H [a, b, c, d, e, g] [m0, m1, m2, m3, m4, m5] [a0, a1, a2, a3, a4, a5]) 0 [] [1, 4, 5, 6, 10]) =
  (List.range' 0 6).map fun (p : Nat) => some (.exit 4, moE bud p, r1H [a, b, c, d, e, g] [m0, m1, m2, m3, m4, m5] [a0, a1, a2, a3, a4, a5], 0, []) := by kernel_rfl
theorem mo_code : codeOk (loopAt Try.prog 81 2) = true := by kernel_rfl
theorem mo_loop (a b c d e g m0 m1 m2 m3 m4 m5 a0 a1 a2 a3 a4 a5 bud : Int) : WP Try.prog 70 (.loop (loopAt Try.prog 81 2)) ⟨moF bud [a0, a1, a2, a3, a4, a5] 0 0, r1H [a, b, c, d, e, g] [m0, m1, m2, m3, m4, m5] [a0, a1, a2, a3, a4, a5], 0⟩ (.exit 4) ⟨moE bud (mA [a0, a1, a2, a3, a4, a5] 6), r1H [a, b, c, d, e, g] [m0, m1, m2, m3, m4, m5] [a0, a1, a2, a3, a4, a5], 0⟩ := by
  refine WP.loop (fun i => ⟨moF bud [a0, a1, a2, a3, a4, a5] i (mA [a0, a1, a2, a3, a4, a5] i), r1H [a, b, c, d, e, g] [m0, m1, m2, m3, m4, m5] [a0, a1, a2, a3, a4, a5], 0⟩) 6 (by simp) (fun i hi => ?_) ?_
  · have hp := mA_lt [a0, a1, a2, a3, a4, a5] i (by omega)
    show WP _ _ _ _ _ ⟨moF bud [a0, a1, a2, a3, a4, a5] (i + 1) (mA [a0, a1, a2, a3, a4, a5] (i + 1)), _, _⟩
    simp only [mA]
    generalize mA [a0, a1, a2, a3, a4, a5] i = p at hp
    have hq : (6 * i + p) / 6 = i := by omega
    have hm : (6 * i + p) % 6 = p := by omega
    have t1 := of_list (mo_t a b c d e g m0 m1 m2 m3 m4 m5 a0 a1 a2 a3 a4 a5 bud) (i := 6 * i + p) (by omega) (by omega)
    have t2 := of_list (mo_f a b c d e g m0 m1 m2 m3 m4 m5 a0 a1 a2 a3 a4 a5 bud) (i := 6 * i + p) (by omega) (by omega)
    rw [hq, hm] at t1 t2
    by_cases h : ([a0, a1, a2, a3, a4, a5].getD i 0) ≥ ([a0, a1, a2, a3, a4, a5].getD p 0)
    · rw [if_pos h]
      exact WP.run progOk extSound noC_sound mo_code noLoops_ok _ t1 (by simp only [Holds, List.mem_singleton, forall_eq]; exact decide_eq_true h)
    · rw [if_neg h]
      exact WP.run progOk extSound noC_sound mo_code noLoops_ok _ t2 (by simp only [Holds, List.mem_singleton, forall_eq]; exact decide_eq_false h)
  · exact WP.run progOk extSound noC_sound mo_code noLoops_ok _ (of_list (mo_e a b c d e g m0 m1 m2 m3 m4 m5 a0 a1 a2 a3 a4 a5 bud) (by omega) (mA_lt [a0, a1, a2, a3, a4, a5] 6 (by omega))) (by simp [Holds])

/-! ### while it costs too much -/
def roT : FuncId → List Value → Option Value := fun f args => match f, args with
  | 128, [.agg cs] => match intsOf .i64 cs.toList with
    | some xs => some (.int .i64 (costG xs))
    | none => none
  | _, _ => none
noncomputable abbrev roC : Oracle := tellC roT noC
noncomputable abbrev roP : Pre := tellPre roT noPre
theorem ro_sound : Sound Try.prog (strict roP roC) := tell_sound _ noC_sound
theorem ro_ok (a0 a1 a2 a3 a4 a5 : Int) : roP 128 [.agg (ints [a0, a1, a2, a3, a4, a5]).toArray] [] = true := tell_ok rfl (rcost_ok [a0, a1, a2, a3, a4, a5] rfl)
def rcF (bud : Int) : Slots := [(1, .int .i64 bud), (4, ptI 1), (5, .int .i64 0), (6, ptI 2)]
noncomputable def moN (a b c d e g m0 m1 m2 m3 m4 m5 bud : Int) (A : List Int) (p : Nat) : Loops := { loop := sumL 14 ⟨moF bud A 0 0, r1H [a, b, c, d, e, g] [m0, m1, m2, m3, m4, m5] A, 0⟩ (.exit 4) ⟨moE bud p, r1H [a, b, c, d, e, g] [m0, m1, m2, m3, m4, m5] A, 0⟩ }
theorem rc_go (a b c d e g m0 m1 m2 m3 m4 m5 a0 a1 a2 a3 a4 a5 bud : Int) : (List.range' 0 6).map (fun (p : Nat) => evL Try.prog ext roP roC (moN a b c d e g m0 m1 m2 m3 m4 m5 bud [a0, a1, a2, a3, a4, a5] p) 300 70 (loopAt Try.prog 81 1) (rcF bud) (r1H [a, b, c, d, e, g] [m0, m1, m2, m3, m4, m5] [a0, a1, a2, a3, a4, a5]) 0 [(0, true), (0, true)] [1, 4, 5, 6]) =
  (List.range' 0 6).map fun (p : Nat) => some (.normal, rcF bud, r1H [a, b, c, d, e, g] [m0, m1, m2, m3, m4, m5] ([a0, a1, a2, a3, a4, a5].set p (W ([a0, a1, a2, a3, a4, a5].getD p 0 - 1))), 0, [(cdec (moF bud [a0, a1, a2, a3, a4, a5] 0 0 = moF bud [a0, a1, a2, a3, a4, a5] 0 0), true), (cdec (r1H [a, b, c, d, e, g] [m0, m1, m2, m3, m4, m5] [a0, a1, a2, a3, a4, a5] = r1H [a, b, c, d, e, g] [m0, m1, m2, m3, m4, m5] [a0, a1, a2, a3, a4, a5]), true), (cdec (0 = 0), true), (decide (costG [a0, a1, a2, a3, a4, a5] > bud), true), (roP 128 [.agg (ints [a0, a1, a2, a3, a4, a5]).toArray] [], true)]) := by kernel_rfl
theorem rc_end (a b c d e g m0 m1 m2 m3 m4 m5 a0 a1 a2 a3 a4 a5 bud : Int) : evL Try.prog ext roP roC noLoops 300 70 (loopAt Try.prog 81 1) (rcF bud) (r1H [a, b, c, d, e, g] [m0, m1, m2, m3, m4, m5] [a0, a1, a2, a3, a4, a5]) 0 [(0, true), (0, false)] [4, 5, 6] =
  some (.exit 2, [(4, ptI 1), (5, .int .i64 0), (6, ptI 2)], r1H [a, b, c, d, e, g] [m0, m1, m2, m3, m4, m5] [a0, a1, a2, a3, a4, a5], 0, [(decide (costG [a0, a1, a2, a3, a4, a5] > bud), false), (roP 128 [.agg (ints [a0, a1, a2, a3, a4, a5]).toArray] [], true)]) := by kernel_rfl
theorem rc_code : codeOk (loopAt Try.prog 81 1) = true := by kernel_rfl
theorem rc_l : loopsOf (loopAt Try.prog 81 1) = [loopAt Try.prog 81 2] := by kernel_rfl
theorem moN_ok (a b c d e g m0 m1 m2 m3 m4 m5 a0 a1 a2 a3 a4 a5 bud : Int) : LoopsOk Try.prog 70 (moN a b c d e g m0 m1 m2 m3 m4 m5 bud [a0, a1, a2, a3, a4, a5] (mA [a0, a1, a2, a3, a4, a5] 6)) (loopAt Try.prog 81 1) := by
  refine LoopsOk.sum rfl fun b hb _ => ?_
  rw [rc_l] at hb
  simp only [List.mem_singleton] at hb
  subst hb
  exact mo_loop a b c d e g m0 m1 m2 m3 m4 m5 a0 a1 a2 a3 a4 a5 bud

def decA (A : List Int) : List Int := A.set (mA A 6) (W (A.getD (mA A 6) 0 - 1))
def refCut (bud : Int) : Nat → List Int → List Int
  | 0, A => A
  | n + 1, A => if costG A > bud then refCut bud n (decA A) else A
theorem decA_len {A : List Int} (h : A.length = 6) : (decA A).length = 6 := by simpa [decA] using h
theorem refCut_len {bud : Int} : ∀ (n : Nat) (A : List Int), A.length = 6 → (refCut bud n A).length = 6 := by
  intro n
  induction n with
  | zero => intro A h; exact h
  | succ n ih => intro A h; simp only [refCut]; split
                 · exact ih _ (decA_len h)
                 · exact h

/-- The loop, where so many rounds are enough. -/
theorem rc_loop (a b c d e g m0 m1 m2 m3 m4 m5 bud : Int) (n : Nat) (A : List Int) (hA : A.length = 6) (hn : ¬ costG (refCut bud n A) > bud) : WP Try.prog 70 (.loop (loopAt Try.prog 81 1)) ⟨rcF bud, r1H [a, b, c, d, e, g] [m0, m1, m2, m3, m4, m5] A, 0⟩ (.exit 2) ⟨[(4, ptI 1), (5, .int .i64 0), (6, ptI 2)], r1H [a, b, c, d, e, g] [m0, m1, m2, m3, m4, m5] (refCut bud n A), 0⟩ := by
  obtain ⟨res, hres⟩ : ∃ r, refCut bud n A = r := ⟨_, rfl⟩
  rw [hres] at hn ⊢
  refine WP.while (α := Nat × List Int) (fun t => ⟨rcF bud, r1H [a, b, c, d, e, g] [m0, m1, m2, m3, m4, m5] t.2, 0⟩) (fun t => t.2.length = 6 ∧ refCut bud t.1 t.2 = res) (fun t => t.1) (by simp) ?_ (n, A) ⟨hA, hres⟩
  rintro ⟨n, A⟩ ⟨hA, hres⟩
  dsimp only at hA hres ⊢
  obtain ⟨a0, a1, a2, a3, a4, a5, rfl⟩ := six_ex A hA
  by_cases hc : costG [a0, a1, a2, a3, a4, a5] > bud
  · cases n with
    | zero =>
      simp only [refCut] at hres
      rw [← hres] at hn
      exact (hn hc).elim
    | succ n =>
      simp only [refCut] at hres
      rw [if_pos hc] at hres
      exact .inr ⟨(n, decA [a0, a1, a2, a3, a4, a5]), ⟨decA_len hA, hres⟩, by simp, WP.run progOk extSound ro_sound rc_code (moN_ok a b c d e g m0 m1 m2 m3 m4 m5 a0 a1 a2 a3 a4 a5 bud) _ (of_list (rc_go a b c d e g m0 m1 m2 m3 m4 m5 a0 a1 a2 a3 a4 a5 bud) (by omega) (mA_lt [a0, a1, a2, a3, a4, a5] 6 (by omega))) (by simp [Holds, cdec, ro_ok]; exact hc)⟩
  · have e : res = [a0, a1, a2, a3, a4, a5] := by
      rw [← hres]
      cases n with
      | zero => rfl
      | succ n => simp only [refCut]; rw [if_neg hc]
    subst e
    exact .inl (WP.run progOk extSound ro_sound rc_code noLoops_ok _ (rc_end a b c d e g m0 m1 m2 m3 m4 m5 a0 a1 a2 a3 a4 a5 bud) (by simp [Holds, ro_ok]; omega))

/-! ### the function -/
noncomputable def rs1L (a b c d e g m0 m1 m2 m3 m4 m5 bud : Int) (A : List Int) : Nat → St → Option (Ex × St × Obs) := sumL 6 ⟨r1F bud 0, r1H [a, b, c, d, e, g] [m0, m1, m2, m3, m4, m5] [0, 0, 0, 0, 0, 0], 0⟩ (.exit 0) ⟨rcF bud, r1H [a, b, c, d, e, g] [m0, m1, m2, m3, m4, m5] A, 0⟩
noncomputable def rs2L (a b c d e g m0 m1 m2 m3 m4 m5 bud : Int) (A B : List Int) : Nat → St → Option (Ex × St × Obs) := sumL 11 ⟨rcF bud, r1H [a, b, c, d, e, g] [m0, m1, m2, m3, m4, m5] A, 0⟩ (.exit 2) ⟨[(4, ptI 1), (5, .int .i64 0), (6, ptI 2)], r1H [a, b, c, d, e, g] [m0, m1, m2, m3, m4, m5] B, 0⟩
noncomputable def rsN (a b c d e g m0 m1 m2 m3 m4 m5 bud : Int) (A B : List Int) : Loops := { loop := orL (rs1L a b c d e g m0 m1 m2 m3 m4 m5 bud A) (rs2L a b c d e g m0 m1 m2 m3 m4 m5 bud A B) }
def rsT (ms : List Int) (n : Int) : FuncId → List Value → Option Value := fun f args => match f, args with
  | 79, [_] => some (.tuple #[.agg (ints ms).toArray, .int .i64 n])
  | _, _ => none
noncomputable abbrev rsP (ms : List Int) (n : Int) : Pre := tellPre (rsT ms n) noPre
noncomputable abbrev rsC (ms : List Int) (n : Int) : Oracle := tellC (rsT ms n) noC
theorem rs_sound (ms : List Int) (n : Int) : Sound Try.prog (strict (rsP ms n) (rsC ms n)) := tell_sound _ noC_sound
theorem rs_run (a b c d e g m0 m1 m2 m3 m4 m5 a0 a1 a2 a3 a4 a5 r0 r1 r2 r3 r4 r5 bud : Int) : (evFnL Try.prog ext 300 (rsP [m0, m1, m2, m3, m4, m5] 0) (rsC [m0, m1, m2, m3, m4, m5] 0) (rsN a b c d e g m0 m1 m2 m3 m4 m5 bud [a0, a1, a2, a3, a4, a5] [r0, r1, r2, r3, r4, r5]) [(0, true), (2, false)] 81 [.agg (ints [a, b, c, d, e, g]).toArray, .int .i64 bud] []).map (fun r => (r.1.1, r.2)) =
  some (.tuple #[.agg (ints [r0, r1, r2, r3, r4, r5]).toArray, .int .i64 0], [(cdec (rcF bud = rcF bud), true), (cdec (r1H [a, b, c, d, e, g] [m0, m1, m2, m3, m4, m5] [a0, a1, a2, a3, a4, a5] = r1H [a, b, c, d, e, g] [m0, m1, m2, m3, m4, m5] [a0, a1, a2, a3, a4, a5]), true), (cdec (0 = 0), true),
    (cdec (r1F bud 0 = r1F bud 0), true), (cdec (r1H [a, b, c, d, e, g] [m0, m1, m2, m3, m4, m5] [0, 0, 0, 0, 0, 0] = r1H [a, b, c, d, e, g] [m0, m1, m2, m3, m4, m5] [0, 0, 0, 0, 0, 0]), true), (cdec (0 = 0), true), (decide (bud < 0), false), (rsP [m0, m1, m2, m3, m4, m5] 0 79 [.agg (ints [a, b, c, d, e, g]).toArray] [], true)]) := by kernel_rfl
theorem rs_neg (a b c d e g m0 m1 m2 m3 m4 m5 bud : Int) : (evFnL Try.prog ext 300 (rsP [m0, m1, m2, m3, m4, m5] 0) (rsC [m0, m1, m2, m3, m4, m5] 0) noLoops [(0, true), (2, true)] 81 [.agg (ints [a, b, c, d, e, g]).toArray, .int .i64 bud] []).map (fun r => (r.1.1, r.2)) =
  some ((.tuple #[.agg (ints (List.replicate 6 0)).toArray, .int .i64 1]), [(decide (bud < 0), true), (rsP [m0, m1, m2, m3, m4, m5] 0 79 [.agg (ints [a, b, c, d, e, g]).toArray] [], true)]) := by kernel_rfl
theorem rs_bad (a b c d e g bud : Int) : (evFnL Try.prog ext 300 (rsP [0, 0, 0, 0, 0, 0] 1) (rsC [0, 0, 0, 0, 0, 0] 1) noLoops [(0, true)] 81 [.agg (ints [a, b, c, d, e, g]).toArray, .int .i64 bud] []).map (fun r => (r.1.1, r.2)) =
  some ((.tuple #[.agg (ints (List.replicate 6 0)).toArray, .int .i64 1]), [(rsP [0, 0, 0, 0, 0, 0] 1 79 [.agg (ints [a, b, c, d, e, g]).toArray] [], true)]) := by kernel_rfl
theorem rs_l : loopsOf (bodyOf Try.prog 81) = [loopAt Try.prog 81 0, loopAt Try.prog 81 1, loopAt Try.prog 81 2] := by kernel_rfl
theorem rs_i0 : firstId (loopAt Try.prog 81 0) = 6 := by kernel_rfl
theorem rs_i1 : firstId (loopAt Try.prog 81 1) = 11 := by kernel_rfl
theorem rs_i2 : firstId (loopAt Try.prog 81 2) = 14 := by kernel_rfl

def rshareG (l : List Int) (bud : Int) : List Int := refCut bud 42 (aR l (maskC l) 6)
def rshareO (l : List Int) (bud : Int) : Value := if okL l = true ∧ 0 ≤ bud then .tuple #[.agg (ints (rshareG l bud)).toArray, .int .i64 0] else (.tuple #[.agg (ints (List.replicate 6 0)).toArray, .int .i64 1])

theorem rshare_ok (xs : List Int) (hm : xs.length = 6) (bud : Int) (hn : okL xs = true → 0 ≤ bud → ¬ costG (rshareG xs bud) > bud) : CallOk Try.prog 81 [.agg (ints xs).toArray, .int .i64 bud] [] (rshareO xs bud) [] 0 := by
  obtain ⟨a, b, c, d, e, g, rfl⟩ := six_ex xs hm
  have hmask := rmask_ok [a, b, c, d, e, g] rfl
  unfold maskO at hmask
  unfold rshareO
  by_cases h : okL [a, b, c, d, e, g] = true
  · rw [if_pos h] at hmask
    obtain ⟨m0, m1, m2, m3, m4, m5, hM⟩ : ∃ m0 m1 m2 m3 m4 m5, maskC [a, b, c, d, e, g] = [m0, m1, m2, m3, m4, m5] := ⟨_, _, _, _, _, _, rfl⟩
    rw [hM] at hmask
    have hT : rsP [m0, m1, m2, m3, m4, m5] 0 79 [.agg (ints [a, b, c, d, e, g]).toArray] [] = true := tell_ok rfl hmask
    by_cases hb : 0 ≤ bud
    · rw [if_pos ⟨h, hb⟩]
      have hn := hn h hb
      unfold rshareG at hn ⊢
      rw [hM] at hn ⊢
      have h1 := r1_loop a b c d e g m0 m1 m2 m3 m4 m5 bud
      have hlen := aR_len [a, b, c, d, e, g] [m0, m1, m2, m3, m4, m5] 6
      have h2 := rc_loop a b c d e g m0 m1 m2 m3 m4 m5 bud 42 (aR [a, b, c, d, e, g] [m0, m1, m2, m3, m4, m5] 6) hlen hn
      have hl2 := refCut_len (bud := bud) 42 (aR [a, b, c, d, e, g] [m0, m1, m2, m3, m4, m5] 6) hlen
      generalize refCut bud 42 (aR [a, b, c, d, e, g] [m0, m1, m2, m3, m4, m5] 6) = B at h2 hl2
      generalize aR [a, b, c, d, e, g] [m0, m1, m2, m3, m4, m5] 6 = A at h1 h2 hlen
      obtain ⟨r0, r1, r2, r3, r4, r5, rfl⟩ := six_ex B hl2
      obtain ⟨a0, a1, a2, a3, a4, a5, rfl⟩ := six_ex A hlen
      refine pf_ok (rs_sound [m0, m1, m2, m3, m4, m5] 0) ?_ (rs_run a b c d e g m0 m1 m2 m3 m4 m5 a0 a1 a2 a3 a4 a5 r0 r1 r2 r3 r4 r5 bud) (by simp [Holds, cdec, hT]; omega) rfl
      refine .flat (by kernel_rfl) fun b hb s x s' o hs ho => ?_
      rw [rs_l] at hb
      simp only [rsN, orL] at hs
      simp only [List.mem_cons, List.not_mem_nil, or_false] at hb
      split at hs
      · rename_i r hr
        injection hs with hs
        subst hs
        have hid := sumL_id hr
        rcases hb with rfl | rfl | rfl
        · exact sumL_ok h1 hr ho
        · rw [rs_i1] at hid; omega
        · rw [rs_i2] at hid; omega
      · have hid := sumL_id hs
        rcases hb with rfl | rfl | rfl
        · rw [rs_i0] at hid; omega
        · exact sumL_ok h2 hs ho
        · rw [rs_i2] at hid; omega
    · rw [if_neg (fun hh => hb hh.2)]
      exact pf_ok (rs_sound [m0, m1, m2, m3, m4, m5] 0) noLoops_ok (rs_neg a b c d e g m0 m1 m2 m3 m4 m5 bud) (by simp [Holds, hT]; omega) rfl
  · rw [if_neg h] at hmask
    rw [if_neg (fun hh => h hh.1)]
    exact pf_ok (rs_sound [0, 0, 0, 0, 0, 0] 1) noLoops_ok (rs_bad a b c d e g bud) (by simp only [Holds, List.mem_singleton, forall_eq]; exact tell_ok rfl hmask) rfl

end Go.Proofs.Ytfbjpenbpbpcaaa

/-
  Chapter 08: shares, as numbers: both ways of cutting are one; what they keep.
-/
namespace Go.Proofs.Ytfbjpenbpbpcaaa
open Go Den
set_option maxRecDepth 100000
set_option linter.unusedSimpArgs false
set_option linter.unusedVariables false

def sum6 (A : List Int) : Int := A.getD 0 0 + A.getD 1 0 + A.getD 2 0 + A.getD 3 0 + A.getD 4 0 + A.getD 5 0
def costC (A : List Int) : Int := A.getD 0 0 + A.getD 1 0 + 2 * A.getD 2 0 + 2 * A.getD 3 0 + 4 * A.getD 4 0 + 6 * A.getD 5 0
/-- Entries from 0 to 7. -/
def okA (A : List Int) : Prop := A.length = 6 ∧ ∀ i, i < 6 → 0 ≤ A.getD i 0 ∧ A.getD i 0 ≤ 7
theorem okA6 {a b c d e g : Int} : okA [a, b, c, d, e, g] ↔ (0 ≤ a ∧ a ≤ 7) ∧ (0 ≤ b ∧ b ≤ 7) ∧ (0 ≤ c ∧ c ≤ 7) ∧ (0 ≤ d ∧ d ≤ 7) ∧ (0 ≤ e ∧ e ≤ 7) ∧ (0 ≤ g ∧ g ≤ 7) := by
  constructor
  · rintro ⟨_, h⟩
    exact ⟨h 0 (by omega), h 1 (by omega), h 2 (by omega), h 3 (by omega), h 4 (by omega), h 5 (by omega)⟩
  · rintro ⟨h0, h1, h2, h3, h4, h5⟩
    refine ⟨rfl, fun i hi => ?_⟩
    match i, hi with
    | 0, _ => exact h0
    | 1, _ => exact h1
    | 2, _ => exact h2
    | 3, _ => exact h3
    | 4, _ => exact h4
    | 5, _ => exact h5
theorem costG_eq {A : List Int} (h : okA A) : costG A = costC A := by
  obtain ⟨a, b, c, d, e, g, rfl⟩ := six_ex A h.1
  obtain ⟨h0, h1, h2, h3, h4, h5⟩ := okA6.1 h
  unfold costG costC
  simp only [List.getD_cons_zero, List.getD_cons_succ]
  rw [W_in (n := a * 1) (by omega) (by omega), W_in (n := b * 1) (by omega) (by omega), W_in (n := c * 2) (by omega) (by omega), W_in (n := d * 2) (by omega) (by omega), W_in (n := e * 4) (by omega) (by omega), W_in (n := g * 6) (by omega) (by omega)]
  rw [W_in (n := 0 + a * 1) (by omega) (by omega), W_in (n := 0 + a * 1 + b * 1) (by omega) (by omega), W_in (n := 0 + a * 1 + b * 1 + c * 2) (by omega) (by omega), W_in (n := 0 + a * 1 + b * 1 + c * 2 + d * 2) (by omega) (by omega), W_in (n := 0 + a * 1 + b * 1 + c * 2 + d * 2 + e * 4) (by omega) (by omega), W_in (by omega) (by omega)]
  omega

theorem getD_set6 {A : List Int} (h : A.length = 6) {k i : Nat} (hk : k < 6) (v : Int) : (A.set k v).getD i 0 = if i = k then v else A.getD i 0 := by
  simp only [List.getD_eq_getElem?_getD, List.getElem?_set]
  by_cases hik : k = i
  · subst hik; simp [h, hk]
  · have : ¬ i = k := fun e => hik e.symm
    simp [hik, this]
theorem sum_set {A : List Int} (h : A.length = 6) {k : Nat} (hk : k < 6) (v : Int) : sum6 (A.set k v) = sum6 A - A.getD k 0 + v := by
  unfold sum6
  simp only [getD_set6 h hk]
  match k, hk with
  | 0, _ | 1, _ | 2, _ | 3, _ | 4, _ | 5, _ => simp only [Nat.reduceEqDiff, if_true, if_false]; omega

/-- Which has the most, the last one: told by what it is. -/
theorem mA_eq {A : List Int} {k : Nat} (h1 : ∀ i, i < k → A.getD i 0 ≤ A.getD k 0) (h2 : ∀ i, k < i → i < 6 → A.getD i 0 < A.getD k 0) (hk : k < 6) : mA A 6 = k := by
  have low : ∀ i, mA A i < i ∨ mA A i = 0 := by
    intro i
    induction i with
    | zero => right; rfl
    | succ i ih =>
      simp only [mA]
      split
      · left; omega
      · rcases ih with h | h
        · left; omega
        · right; exact h
  have key : ∀ i, k < i → i ≤ 6 → mA A i = k := by
    intro i
    induction i with
    | zero => intro h; omega
    | succ i ih =>
      intro hki hi6
      simp only [mA]
      by_cases hik : i = k
      · subst hik
        rw [if_pos]
        rcases low i with h | h
        · exact h1 _ h
        · rw [h]
          by_cases hz : i = 0
          · subst hz; exact Int.le_refl _
          · exact h1 0 (by omega)
      · rw [ih (by omega) (by omega), if_neg]
        have := h2 i (by omega) (by omega)
        omega
  exact key 6 hk (Nat.le_refl _)

/-- Those below k have no more than top, the others less. -/
def Iv (top : Int) (k : Nat) (A : List Int) : Prop := A.length = 6 ∧ ∀ i, i < 6 → 0 ≤ A.getD i 0 ∧ A.getD i 0 ≤ (if i < k then top else top - 1)
theorem Iv.okA {top : Int} {k : Nat} {A : List Int} (h : Iv top k A) (ht : top ≤ 7) : okA A := ⟨h.1, fun i hi => by
  have := h.2 i hi
  split at this <;> omega⟩

theorem cut_in {bud top : Int} (h1 : 1 ≤ top) (h7 : top ≤ 7) : ∀ (k : Nat), k ≤ 6 → ∀ (A : List Int) (n : Nat), Iv top k A → sum6 A ≤ n →
    ((cutIn bud top k A).1 = true → refCut bud n A = (cutIn bud top k A).2) ∧
    ((cutIn bud top k A).1 = false → ∃ n' : Nat, sum6 (cutIn bud top k A).2 ≤ n' ∧ refCut bud n A = refCut bud n' (cutIn bud top k A).2 ∧ Iv top 0 (cutIn bud top k A).2) := by
  intro k
  induction k with
  | zero =>
    intro _ A n hI hn
    exact ⟨fun h => by simp [cutIn] at h, fun _ => ⟨n, hn, rfl, hI⟩⟩
  | succ k ih =>
    intro hk A n hI hn
    simp only [cutIn]
    by_cases hc : costG A ≤ bud
    · rw [if_pos hc]
      refine ⟨fun _ => ?_, fun h => by simp at h⟩
      cases n with
      | zero => rfl
      | succ n => simp only [refCut]; rw [if_neg (by omega)]
    · rw [if_neg hc]
      by_cases ht : A.getD k 0 = top
      · have hmo : mA A 6 = k := mA_eq (fun i hi => by have := hI.2 i (by omega); rw [if_pos (by omega)] at this; omega) (fun i hi hi6 => by have := hI.2 i hi6; rw [if_neg (by omega)] at this; omega) (by omega)
        have hs : stepIn top k A = A.set k (top - 1) := by
          unfold stepIn
          rw [if_pos ht, ht, W_in (by omega) (by omega)]
        have hd : decA A = A.set k (top - 1) := by
          unfold decA
          rw [hmo, ht, W_in (by omega) (by omega)]
        have hsum := sum_set hI.1 (show k < 6 by omega) (top - 1)
        have hk0 := hI.2 k (by omega)
        have hpos : 1 ≤ n := by
          have h0 := hI.2 0 (by omega)
          have h1' := hI.2 1 (by omega)
          have h2' := hI.2 2 (by omega)
          have h3' := hI.2 3 (by omega)
          have h4' := hI.2 4 (by omega)
          have h5' := hI.2 5 (by omega)
          have hle : A.getD k 0 ≤ sum6 A := by
            unfold sum6
            match k, hk with
            | 0, _ => omega
            | 1, _ => omega
            | 2, _ => omega
            | 3, _ => omega
            | 4, _ => omega
            | 5, _ => omega
          omega
        obtain ⟨n, rfl⟩ : ∃ m, n = m + 1 := ⟨n - 1, by omega⟩
        have hI' : Iv top k (A.set k (top - 1)) := by
          refine ⟨by simpa using hI.1, fun i hi => ?_⟩
          rw [getD_set6 hI.1 (by omega)]
          have := hI.2 i hi
          by_cases hik : i = k
          · rw [if_pos hik, if_neg (by omega)]; omega
          · rw [if_neg hik]
            by_cases hlt : i < k
            · rw [if_pos hlt]; rw [if_pos (by omega)] at this; exact this
            · rw [if_neg hlt]; rw [if_neg (by omega)] at this; exact this
        have hr : refCut bud (n + 1) A = refCut bud n (A.set k (top - 1)) := by
          simp only [refCut]
          rw [if_pos (by omega), hd]
        rw [hs, hr]
        exact ih (by omega) _ n hI' (by rw [hsum]; omega)
      · have hs : stepIn top k A = A := by unfold stepIn; rw [if_neg ht]
        rw [hs]
        refine ih (by omega) A n ⟨hI.1, fun i hi => ?_⟩ hn
        have := hI.2 i hi
        by_cases hlt : i < k
        · rw [if_pos hlt]; rw [if_pos (by omega)] at this; exact this
        · rw [if_neg hlt]
          by_cases hik : i = k
          · subst hik; rw [if_pos (by omega)] at this; omega
          · rw [if_neg (by omega)] at this; exact this

theorem cut_out {bud : Int} (hb : 0 ≤ bud) : ∀ (j : Nat), j ≤ 7 → ∀ (A : List Int) (n : Nat), A.length = 6 → (∀ i, i < 6 → 0 ≤ A.getD i 0 ∧ A.getD i 0 ≤ j) → sum6 A ≤ n → refCut bud n A = (cutOut bud j A).1 ∧ ¬ costG (cutOut bud j A).1 > bud := by
  intro j
  induction j with
  | zero =>
    intro _ A n hl hA hn
    have hok : okA A := ⟨hl, fun i hi => by have := hA i hi; refine ⟨this.1, ?_⟩; have := this.2; omega⟩
    have hc : costG A = 0 := by
      rw [costG_eq hok]
      have h0 := hA 0 (by omega)
      have h1 := hA 1 (by omega)
      have h2 := hA 2 (by omega)
      have h3 := hA 3 (by omega)
      have h4 := hA 4 (by omega)
      have h5 := hA 5 (by omega)
      unfold costC
      omega
    refine ⟨?_, by simp only [cutOut]; omega⟩
    simp only [cutOut]
    cases n with
    | zero => rfl
    | succ n => simp only [refCut]; rw [if_neg (by omega)]
  | succ j ih =>
    intro hj A n hl hA hn
    have hI : Iv ((j + 1 : Nat) : Int) 6 A := ⟨hl, fun i hi => by rw [if_pos hi]; exact hA i hi⟩
    obtain ⟨g1, g2⟩ := cut_in (bud := bud) (top := ((j + 1 : Nat) : Int)) (by omega) (by omega) 6 (Nat.le_refl _) A n hI hn
    have hcost : ∀ (k : Nat) (B : List Int), (cutIn bud ((j + 1 : Nat) : Int) k B).1 = true → costG (cutIn bud ((j + 1 : Nat) : Int) k B).2 ≤ bud := by
      intro k
      induction k with
      | zero => intro B h; simp [cutIn] at h
      | succ k ihk =>
        intro B h
        simp only [cutIn] at h ⊢
        by_cases hc : costG B ≤ bud
        · rw [if_pos hc]; exact hc
        · rw [if_neg hc] at h ⊢; exact ihk _ h
    have hcost := hcost 6 A
    simp only [cutOut]
    generalize cutIn bud ((j + 1 : Nat) : Int) 6 A = r at g1 g2 hcost
    obtain ⟨t, B⟩ := r
    cases t with
    | true => exact ⟨g1 rfl, by have := hcost rfl; dsimp only at this ⊢; omega⟩
    | false =>
      obtain ⟨n', k1, k2, k3⟩ := g2 rfl
      dsimp only at k1 k2 k3 ⊢
      obtain ⟨q1, q2⟩ := ih (by omega) B n' k3.1 (fun i hi => by have := k3.2 i hi; rw [if_neg (by omega)] at this; omega) k1
      exact ⟨k2.trans q1, q2⟩

/-! ### what bands would have -/
def wantC (l m : Int) : Int := if l ≤ m then 0 else min ((l - m + 7) / 8) 7
def baseC (l m : List Int) : List Int := [wantC (l.getD 0 0) (m.getD 0 0), wantC (l.getD 1 0) (m.getD 1 0), wantC (l.getD 2 0) (m.getD 2 0), wantC (l.getD 3 0) (m.getD 3 0), wantC (l.getD 4 0) (m.getD 4 0), wantC (l.getD 5 0) (m.getD 5 0)]
theorem wantC_in {l m : Int} (hl : l ≤ 255) (hm : 0 ≤ m) : 0 ≤ wantC l m ∧ wantC l m ≤ 7 := by
  unfold wantC; split <;> omega
theorem wantZ_eq {l m : Int} (hl : 0 ≤ l ∧ l ≤ 255) (hm : 0 ≤ m ∧ m ≤ 255) : wantZ l m = wantC l m := by
  unfold wantZ wantC
  by_cases h : l ≤ m
  · rw [if_pos h, if_pos h]
  · rw [if_neg h, if_neg h]
    unfold wantG
    rw [W_in (n := l - m) (by omega) (by omega), W_in (n := l - m + 8) (by omega) (by omega), W_in (n := l - m + 8 - 1) (by omega) (by omega), Int.tdiv_eq_ediv_of_nonneg (by omega), W_in (by omega) (by omega), mnG_eq, mxG_eq]
    omega
theorem rwant_eq {l m : Int} (hl : 0 ≤ l ∧ l ≤ 255) (hm : 0 ≤ m ∧ m ≤ 255) (h : l > m) : rwantG l m = wantC l m := by
  unfold wantC rwantG
  rw [if_neg (by omega), W_in (n := l - m) (by omega) (by omega), W_in (n := l - m + 7) (by omega) (by omega), Int.tdiv_eq_ediv_of_nonneg (by omega), W_in (by omega) (by omega), mnG_eq]
theorem aS_eq {l m : List Int} (hl : ∀ i, i < 6 → 0 ≤ l.getD i 0 ∧ l.getD i 0 ≤ 255) (hm : ∀ i, i < 6 → 0 ≤ m.getD i 0 ∧ m.getD i 0 ≤ 255) : aS l m 6 = baseC l m := by
  simp only [aS, baseC, List.set_cons_zero, List.set_cons_succ]
  rw [wantZ_eq (hl 0 (by omega)) (hm 0 (by omega)), wantZ_eq (hl 1 (by omega)) (hm 1 (by omega)), wantZ_eq (hl 2 (by omega)) (hm 2 (by omega)), wantZ_eq (hl 3 (by omega)) (hm 3 (by omega)), wantZ_eq (hl 4 (by omega)) (hm 4 (by omega)), wantZ_eq (hl 5 (by omega)) (hm 5 (by omega))]
theorem aR_step {l m : List Int} (hl : ∀ i, i < 6 → 0 ≤ l.getD i 0 ∧ l.getD i 0 ≤ 255) (hm : ∀ i, i < 6 → 0 ≤ m.getD i 0 ∧ m.getD i 0 ≤ 255) : ∀ i, i ≤ 6 → ∀ k, (aR l m i).getD k 0 = if k < i then wantC (l.getD k 0) (m.getD k 0) else 0 := by
  intro i
  induction i with
  | zero =>
    intro _ k
    simp only [aR]
    match k with
    | 0 | 1 | 2 | 3 | 4 | 5 => rfl
    | k + 6 => simp
  | succ i ih =>
    intro hi k
    have ih := ih (by omega) k
    simp only [aR]
    by_cases h : l.getD i 0 > m.getD i 0
    · rw [if_pos h, getD_set6 (aR_len l m i) (by omega), rwant_eq (hl i (by omega)) (hm i (by omega)) h]
      by_cases hk : k = i
      · subst hk; rw [if_pos rfl, if_pos (by omega)]
      · rw [if_neg hk, ih]
        by_cases hlt : k < i
        · rw [if_pos hlt, if_pos (by omega)]
        · rw [if_neg hlt, if_neg (by omega)]
    · rw [if_neg h, ih]
      by_cases hk : k = i
      · subst hk
        rw [if_neg (by omega), if_pos (by omega)]
        unfold wantC
        rw [if_pos (by omega)]
      · by_cases hlt : k < i
        · rw [if_pos hlt, if_pos (by omega)]
        · rw [if_neg hlt, if_neg (by omega)]
theorem ext6 {A B : List Int} (hA : A.length = 6) (hB : B.length = 6) (h : ∀ i, i < 6 → A.getD i 0 = B.getD i 0) : A = B := by
  obtain ⟨a0, a1, a2, a3, a4, a5, rfl⟩ := six_ex A hA
  obtain ⟨b0, b1, b2, b3, b4, b5, rfl⟩ := six_ex B hB
  have h0 := h 0 (by omega)
  have h1 := h 1 (by omega)
  have h2 := h 2 (by omega)
  have h3 := h 3 (by omega)
  have h4 := h 4 (by omega)
  have h5 := h 5 (by omega)
  simp at h0 h1 h2 h3 h4 h5
  simp [h0, h1, h2, h3, h4, h5]
theorem aR_eq {l m : List Int} (hl : ∀ i, i < 6 → 0 ≤ l.getD i 0 ∧ l.getD i 0 ≤ 255) (hm : ∀ i, i < 6 → 0 ≤ m.getD i 0 ∧ m.getD i 0 ≤ 255) : aR l m 6 = baseC l m := by
  refine ext6 (aR_len l m 6) rfl fun i hi => ?_
  rw [aR_step hl hm 6 (by omega), if_pos hi]
  match i, hi with
  | 0, _ | 1, _ | 2, _ | 3, _ | 4, _ | 5, _ => rfl

theorem okL_get {l : List Int} (hm : l.length = 6) (h : okL l = true) : ∀ i, i < 6 → 0 ≤ l.getD i 0 ∧ l.getD i 0 ≤ 255 := by
  intro i hi
  rw [List.getD_eq_getElem?_getD, List.getElem?_eq_getElem (by omega)]
  exact okV_iff.1 (List.all_eq_true.1 h _ (List.getElem_mem _))
theorem mask_get {l : List Int} (hm : l.length = 6) (h : okL l = true) : ∀ i, i < 6 → 0 ≤ (maskC l).getD i 0 ∧ (maskC l).getD i 0 ≤ 255 := by
  obtain ⟨a, b, c, d, e, g, rfl⟩ := six_ex l hm
  obtain ⟨ha, hb, hc, hd, he, hg⟩ := okL6 h
  intro i hi
  unfold maskC
  match i, hi with
  | 0, _ | 1, _ | 2, _ | 3, _ | 4, _ | 5, _ =>
    simp only [List.getD_cons_zero, List.getD_cons_succ]
    omega

/-- What a share is. -/
def shareC (l : List Int) (bud : Int) : List Int := refCut bud 42 (baseC l (maskC l))
theorem base_ok {l : List Int} (hm : l.length = 6) (h : okL l = true) : okA (baseC l (maskC l)) := by
  refine ⟨rfl, fun i hi => ?_⟩
  have h1 := okL_get hm h i hi
  have h2 := mask_get hm h i hi
  have := wantC_in (l := l.getD i 0) (m := (maskC l).getD i 0) h1.2 h2.1
  match i, hi with
  | 0, _ | 1, _ | 2, _ | 3, _ | 4, _ | 5, _ => exact this
theorem sum_le {A : List Int} (h : okA A) : sum6 A ≤ 42 := by
  have h0 := h.2 0 (by omega)
  have h1 := h.2 1 (by omega)
  have h2 := h.2 2 (by omega)
  have h3 := h.2 3 (by omega)
  have h4 := h.2 4 (by omega)
  have h5 := h.2 5 (by omega)
  unfold sum6
  omega
theorem share_eqs {l : List Int} (hm : l.length = 6) (h : okL l = true) {bud : Int} (hb : 0 ≤ bud) : shareG l bud = shareC l bud ∧ rshareG l bud = shareC l bud ∧ ¬ costG (shareC l bud) > bud := by
  have hbase := base_ok hm h
  obtain ⟨q1, q2⟩ := cut_out hb 7 (Nat.le_refl _) (baseC l (maskC l)) 42 rfl (fun i hi => hbase.2 i hi) (sum_le hbase)
  unfold shareG rshareG shareC
  rw [aS_eq (okL_get hm h) (mask_get hm h), aR_eq (okL_get hm h) (mask_get hm h), q1]
  exact ⟨rfl, rfl, q2⟩

def shO (l : List Int) (bud : Int) : Value := if okL l = true ∧ 0 ≤ bud then .tuple #[.agg (ints (shareC l bud)).toArray, .int .i64 0] else .tuple #[.agg (ints (List.replicate 6 0)).toArray, .int .i64 1]
theorem shares_ok (f : FuncId) (hf : f = 80 ∨ f = 81) (l : List Int) (hm : l.length = 6) (bud : Int) : CallOk Try.prog f [.agg (ints l).toArray, .int .i64 bud] [] (shO l bud) [] 0 := by
  rcases hf with rfl | rfl
  · have h := share_ok l hm bud
    unfold shareO at h
    unfold shO
    by_cases hc : okL l = true ∧ 0 ≤ bud
    · rw [if_pos hc] at h ⊢
      rw [(share_eqs hm hc.1 hc.2).1] at h
      exact h
    · rw [if_neg hc] at h ⊢
      exact h
  · have h := rshare_ok l hm bud (fun h1 h2 => by rw [(share_eqs hm h1 h2).2.1]; exact (share_eqs hm h1 h2).2.2)
    unfold rshareO at h
    unfold shO
    by_cases hc : okL l = true ∧ 0 ≤ bud
    · rw [if_pos hc] at h ⊢
      rw [(share_eqs hm hc.1 hc.2).2.1] at h
      exact h
    · rw [if_neg hc] at h ⊢
      exact h

end Go.Proofs.Ytfbjpenbpbpcaaa

