/-
  Chapter 08: bands.Measure, the walk.
-/
import Derived.Test.YtfbjpenbpbpcaaaZK
import Derived.Test.YtfbjpenbpbpcaaaZG
import Derived.Test.YtfbjpenbpbpcaaaZI
namespace Go.Proofs.Ytfbjpenbpbpcaaa
open Go Den
set_option maxRecDepth 100000
set_option linter.unusedSimpArgs false
set_option linter.unusedVariables false

def edgeL : List Nat := [0, 1, 2, 4, 6, 10, 16]
/-- A band's numbers, and nothing behind. -/
def bandL (xs : List Int) (j : Nat) : List Int := ((xs.drop (edgeL.getD j 0)).take (edgeL.getD (j + 1) 0 - edgeL.getD j 0)) ++ List.replicate (16 - (edgeL.getD (j + 1) 0 - edgeL.getD j 0)) 0
def lvG (p : Int) : Int := mnG (W (W ((logZ p).tdiv 2) + 1)) 255
def msT : FuncId → List Value → Option Value := fun f args => match f, args with
  | 70, [.agg cs] => match intsOf .i64 cs.toList with
    | some xs => some (.int .u64 (enZ xs))
    | none => none
  | 74, [.agg cs] => match intsOf .i64 cs.toList with
    | some xs => some (.bool (xs.all (inB 67108864)))
    | none => none
  | 59, [.int .u64 n] => some (.int .i64 (logZ n))
  | 60, [.int .u64 n] => some (.int .i64 (logZ n))
  | _, _ => none
noncomputable abbrev msC : Oracle := tellC msT (evFn Try.prog ext 300 noC)
noncomputable abbrev msP : Pre := tellPre msT noPre
theorem evn_sound : Sound Try.prog (strict noPre (evFn Try.prog ext 300 noC)) := plain_sound (evFn_sound progOk extSound (C := noC) (fun f args H v H' l h => by simp [noC] at h) 300)
theorem ms_sound : Sound Try.prog (strict msP msC) := tell_sound _ evn_sound

def m1F (i : Nat) : Slots := [(1, ptI 0), (2, ptI 1), (3, .int .i64 0), (5, ptI 3), (19, .int .i64 i)]
def m1G (xs : List Int) : Nat → Heap
  | 0 => []
  | i + 1 => m1G xs i ++ [blkI (bandL xs i)]
def m1H (xs l : List Int) (i : Nat) : Heap := [blkI xs, blkI l, blkI (List.replicate 16 0), blkI [0, 1, 2, 4, 6, 10, 16]] ++ m1G xs i
theorem m1_t (x0 x1 x2 x3 x4 x5 x6 x7 x8 x9 x10 x11 x12 x13 x14 x15 a b c d e g : Int) : (List.range' 0 6).map (fun (i : Nat) => evL Try.prog ext msP msC noLoops 300 45 (loopAt Try.prog 76 0) (m1F i) (m1H [x0, x1, x2, x3, x4, x5, x6, x7, x8, x9, x10, x11, x12, x13, x14, x15] [a, b, c, d, e, g] i) 0 [(1, true), (0, true), (0, true)] [1, 2, 3, 5, 19]) =
  (List.range' 0 6).map fun (i : Nat) => some (.normal, m1F (i + 1), m1H [x0, x1, x2, x3, x4, x5, x6, x7, x8, x9, x10, x11, x12, x13, x14, x15] ([a, b, c, d, e, g].set i (lvG (enZ (bandL [x0, x1, x2, x3, x4, x5, x6, x7, x8, x9, x10, x11, x12, x13, x14, x15] i)))) (i + 1), 0, [(msP 59 [.int .u64 (enZ (bandL [x0, x1, x2, x3, x4, x5, x6, x7, x8, x9, x10, x11, x12, x13, x14, x15] i))] [], true), (decide (enZ (bandL [x0, x1, x2, x3, x4, x5, x6, x7, x8, x9, x10, x11, x12, x13, x14, x15] i) > 0), true), (msP 70 [.agg (ints (bandL [x0, x1, x2, x3, x4, x5, x6, x7, x8, x9, x10, x11, x12, x13, x14, x15] i)).toArray] [], true)]) := by kernel_rfl
theorem m1_f (x0 x1 x2 x3 x4 x5 x6 x7 x8 x9 x10 x11 x12 x13 x14 x15 a b c d e g : Int) : (List.range' 0 6).map (fun (i : Nat) => evL Try.prog ext msP msC noLoops 300 45 (loopAt Try.prog 76 0) (m1F i) (m1H [x0, x1, x2, x3, x4, x5, x6, x7, x8, x9, x10, x11, x12, x13, x14, x15] [a, b, c, d, e, g] i) 0 [(1, true), (0, false)] [1, 2, 3, 5, 19]) =
  (List.range' 0 6).map fun (i : Nat) => some (.normal, m1F (i + 1), m1H [x0, x1, x2, x3, x4, x5, x6, x7, x8, x9, x10, x11, x12, x13, x14, x15] [a, b, c, d, e, g] (i + 1), 0, [(decide (enZ (bandL [x0, x1, x2, x3, x4, x5, x6, x7, x8, x9, x10, x11, x12, x13, x14, x15] i) > 0), false), (msP 70 [.agg (ints (bandL [x0, x1, x2, x3, x4, x5, x6, x7, x8, x9, x10, x11, x12, x13, x14, x15] i)).toArray] [], true)]) := by kernel_rfl
theorem m1_e (x0 x1 x2 x3 x4 x5 x6 x7 x8 x9 x10 x11 x12 x13 x14 x15 a b c d e g : Int) : evL Try.prog ext noPre noC noLoops 300 45 (loopAt Try.prog 76 0) (m1F 6) (m1H [x0, x1, x2, x3, x4, x5, x6, x7, x8, x9, x10, x11, x12, x13, x14, x15] [a, b, c, d, e, g] 6) 0 [] [2, 3] = some (.exit 0, [(2, ptI 1), (3, .int .i64 0)], m1H [x0, x1, x2, x3, x4, x5, x6, x7, x8, x9, x10, x11, x12, x13, x14, x15] [a, b, c, d, e, g] 6, 0, []) := by kernel_rfl
theorem m1_code : codeOk (loopAt Try.prog 76 0) = true := by kernel_rfl

/-- Levels, by the bands' powers. -/
def lS (P : Nat → Int) : Nat → List Int
  | 0 => [0, 0, 0, 0, 0, 0]
  | i + 1 => if P i > 0 then (lS P i).set i (lvG (P i)) else lS P i
theorem lS_len (P : Nat → Int) : ∀ i, (lS P i).length = 6 := by
  intro i
  induction i with
  | zero => rfl
  | succ i ih => simp only [lS]; split <;> simp [ih]
theorem lS_congr {P Q : Nat → Int} : ∀ i, i ≤ 6 → (∀ j, j < 6 → P j = Q j) → lS P i = lS Q i := by
  intro i
  induction i with
  | zero => intros; rfl
  | succ i ih => intro hi h; simp only [lS]; rw [ih (by omega) h, h i (by omega)]
theorem sumQ_u (xs : List Int) : 0 ≤ sumQ xs ∧ sumQ xs ≤ 18446744073709551615 := by
  have key : ∀ (xs : List Int) (n : Int), 0 ≤ n ∧ n ≤ 18446744073709551615 → 0 ≤ xs.foldl (fun n v => IntKind.wrap IntKind.u64 (n + IntKind.wrap IntKind.u64 (IntKind.wrap IntKind.i64 (v * v)))) n ∧ xs.foldl (fun n v => IntKind.wrap IntKind.u64 (n + IntKind.wrap IntKind.u64 (IntKind.wrap IntKind.i64 (v * v)))) n ≤ 18446744073709551615 := by
    intro xs
    induction xs with
    | nil => intro n h; exact h
    | cons x xs ih =>
      intro n h
      simp only [List.foldl_cons]
      refine ih _ ?_
      generalize n + IntKind.wrap IntKind.u64 (IntKind.wrap IntKind.i64 (x * x)) = z
      unfold IntKind.wrap
      simp [IntKind.bits, IntKind.signed]
      omega
  exact key xs 0 (by omega)
theorem enZ_u (xs : List Int) : 0 ≤ enZ xs ∧ enZ xs ≤ 18446744073709551615 := by
  unfold enZ
  cases xs.all (inB 67108864) with
  | true => exact sumQ_u xs
  | false => simp
theorem bandL_len {xs : List Int} (hm : xs.length = 16) : ∀ j, j < 6 → (bandL xs j).length = 16 := by
  intro j hj
  unfold bandL
  match j, hj with
  | 0, _ | 1, _ | 2, _ | 3, _ | 4, _ | 5, _ => simp [edgeL, hm]
theorem ms70 {xs : List Int} (hm : xs.length = 16) : msP 70 [.agg (ints xs).toArray] [] = true := by
  refine tell_ok (v := .int .u64 (enZ xs)) ?_ (energy_ok 70 (.inl rfl) xs hm)
  unfold msT
  simp only
  have : intsOf .i64 (ints xs).toArray.toList = some xs := by
    show intsOf .i64 (ints xs) = some xs
    clear hm
    induction xs with
    | nil => rfl
    | cons x xs ih =>
      show intsOf .i64 (.int .i64 x :: ints xs) = _
      simp only [intsOf, eqK, ih]
  rw [this]
theorem ms59 {n : Int} (h0 : 0 ≤ n) (h1 : n ≤ 18446744073709551615) : msP 59 [.int .u64 n] [] = true := tell_ok rfl (log_ok n h0 (by omega))
theorem ms60 {n : Int} (h0 : 0 ≤ n) (h1 : n ≤ 18446744073709551615) : msP 60 [.int .u64 n] [] = true := tell_ok rfl (ref_log_ok n h0 (by omega))

theorem six_len16 (xs : List Int) (hm : xs.length = 16) : ∃ x0 x1 x2 x3 x4 x5 x6 x7 x8 x9 x10 x11 x12 x13 x14 x15, xs = [x0, x1, x2, x3, x4, x5, x6, x7, x8, x9, x10, x11, x12, x13, x14, x15] := by
  match xs, hm with
  | [x0, x1, x2, x3, x4, x5, x6, x7, x8, x9, x10, x11, x12, x13, x14, x15], _ => exact ⟨x0, x1, x2, x3, x4, x5, x6, x7, x8, x9, x10, x11, x12, x13, x14, x15, rfl⟩

theorem m1_loop (x0 x1 x2 x3 x4 x5 x6 x7 x8 x9 x10 x11 x12 x13 x14 x15 : Int) : WP Try.prog 45 (.loop (loopAt Try.prog 76 0)) ⟨m1F 0, m1H [x0, x1, x2, x3, x4, x5, x6, x7, x8, x9, x10, x11, x12, x13, x14, x15] [0, 0, 0, 0, 0, 0] 0, 0⟩ (.exit 0) ⟨[(2, ptI 1), (3, .int .i64 0)], m1H [x0, x1, x2, x3, x4, x5, x6, x7, x8, x9, x10, x11, x12, x13, x14, x15] (lS (fun j => enZ (bandL [x0, x1, x2, x3, x4, x5, x6, x7, x8, x9, x10, x11, x12, x13, x14, x15] j)) 6) 6, 0⟩ := by
  refine WP.loop (fun i => ⟨m1F i, m1H [x0, x1, x2, x3, x4, x5, x6, x7, x8, x9, x10, x11, x12, x13, x14, x15] (lS (fun j => enZ (bandL [x0, x1, x2, x3, x4, x5, x6, x7, x8, x9, x10, x11, x12, x13, x14, x15] j)) i) i, 0⟩) 6 (by simp) (fun i hi => ?_) ?_
  · obtain ⟨B, hB⟩ : ∃ B, lS (fun j => enZ (bandL [x0, x1, x2, x3, x4, x5, x6, x7, x8, x9, x10, x11, x12, x13, x14, x15] j)) i = B := ⟨_, rfl⟩
    have hl := lS_len (fun j => enZ (bandL [x0, x1, x2, x3, x4, x5, x6, x7, x8, x9, x10, x11, x12, x13, x14, x15] j)) i
    show WP _ _ _ ⟨_, m1H _ (lS _ i) _, _⟩ _ ⟨_, m1H _ (lS _ (i + 1)) _, _⟩
    simp only [lS]
    rw [hB] at hl ⊢
    obtain ⟨a, b, c, d, e, g, rfl⟩ := six_ex B hl
    have h70 : msP 70 [.agg (ints (bandL [x0, x1, x2, x3, x4, x5, x6, x7, x8, x9, x10, x11, x12, x13, x14, x15] i)).toArray] [] = true := ms70 (bandL_len rfl i (by omega))
    have h59 : msP 59 [.int .u64 (enZ (bandL [x0, x1, x2, x3, x4, x5, x6, x7, x8, x9, x10, x11, x12, x13, x14, x15] i))] [] = true := ms59 (enZ_u _).1 (enZ_u _).2
    by_cases h : enZ (bandL [x0, x1, x2, x3, x4, x5, x6, x7, x8, x9, x10, x11, x12, x13, x14, x15] i) > 0
    · rw [if_pos h]
      exact WP.run progOk extSound ms_sound m1_code noLoops_ok _ (of_list (m1_t x0 x1 x2 x3 x4 x5 x6 x7 x8 x9 x10 x11 x12 x13 x14 x15 a b c d e g) (by omega) (by omega)) (by simp only [Holds, List.mem_cons, List.not_mem_nil, or_false, forall_eq_or_imp, forall_eq]; exact ⟨h59, decide_eq_true h, h70⟩)
    · rw [if_neg h]
      exact WP.run progOk extSound ms_sound m1_code noLoops_ok _ (of_list (m1_f x0 x1 x2 x3 x4 x5 x6 x7 x8 x9 x10 x11 x12 x13 x14 x15 a b c d e g) (by omega) (by omega)) (by simp only [Holds, List.mem_cons, List.not_mem_nil, or_false, forall_eq_or_imp, forall_eq]; exact ⟨decide_eq_false h, h70⟩)
  · have hl := lS_len (fun j => enZ (bandL [x0, x1, x2, x3, x4, x5, x6, x7, x8, x9, x10, x11, x12, x13, x14, x15] j)) 6
    revert hl
    generalize lS (fun j => enZ (bandL [x0, x1, x2, x3, x4, x5, x6, x7, x8, x9, x10, x11, x12, x13, x14, x15] j)) 6 = B
    intro hl
    obtain ⟨a, b, c, d, e, g, rfl⟩ := six_ex B hl
    exact WP.run progOk extSound noC_sound m1_code noLoops_ok _ (m1_e x0 x1 x2 x3 x4 x5 x6 x7 x8 x9 x10 x11 x12 x13 x14 x15 a b c d e g) (by simp [Holds])

/-! ### the reference's -/
def bpart (xs : List Int) (j : Nat) : List Int := (xs.drop (edgeL.getD j 0)).take (edgeL.getD (j + 1) 0 - edgeL.getD j 0)
def rm1F (i : Nat) : Slots := [(1, ptI 0), (2, ptI 1), (3, .int .i64 0), (4, ptI 2), (12, .int .i64 i)]
def rm1H (xs l : List Int) : Heap := [blkI xs, blkI [0, 0, 0, 0, 0, 0], blkI l]
def rmO (i : Nat) (t : Bool) : Path := [(4 + 2 * (edgeL.getD (i + 1) 0 - edgeL.getD i 0), t), (0, true)]
theorem rm1_t (x0 x1 x2 x3 x4 x5 x6 x7 x8 x9 x10 x11 x12 x13 x14 x15 a b c d e g : Int) : (List.range' 0 6).map (fun (i : Nat) => evL Try.prog ext msP msC noLoops 300 45 (loopAt Try.prog 77 0) (rm1F i) (rm1H [x0, x1, x2, x3, x4, x5, x6, x7, x8, x9, x10, x11, x12, x13, x14, x15] [a, b, c, d, e, g]) 0 (rmO i true) [1, 2, 3, 4, 12]) =
  (List.range' 0 6).map fun (i : Nat) => some (.normal, rm1F (i + 1), rm1H [x0, x1, x2, x3, x4, x5, x6, x7, x8, x9, x10, x11, x12, x13, x14, x15] ([a, b, c, d, e, g].set i (lvG (sumQ (bpart [x0, x1, x2, x3, x4, x5, x6, x7, x8, x9, x10, x11, x12, x13, x14, x15] i)))), 0, [(msP 60 [.int .u64 (sumQ (bpart [x0, x1, x2, x3, x4, x5, x6, x7, x8, x9, x10, x11, x12, x13, x14, x15] i))] [], true), (decide (sumQ (bpart [x0, x1, x2, x3, x4, x5, x6, x7, x8, x9, x10, x11, x12, x13, x14, x15] i) > 0), true)]) := by kernel_rfl
theorem rm1_f (x0 x1 x2 x3 x4 x5 x6 x7 x8 x9 x10 x11 x12 x13 x14 x15 a b c d e g : Int) : (List.range' 0 6).map (fun (i : Nat) => evL Try.prog ext msP msC noLoops 300 45 (loopAt Try.prog 77 0) (rm1F i) (rm1H [x0, x1, x2, x3, x4, x5, x6, x7, x8, x9, x10, x11, x12, x13, x14, x15] [a, b, c, d, e, g]) 0 [(4 + 2 * (edgeL.getD (i + 1) 0 - edgeL.getD i 0), false)] [1, 2, 3, 4, 12]) =
  (List.range' 0 6).map fun (i : Nat) => some (.normal, rm1F (i + 1), rm1H [x0, x1, x2, x3, x4, x5, x6, x7, x8, x9, x10, x11, x12, x13, x14, x15] [a, b, c, d, e, g], 0, [(decide (sumQ (bpart [x0, x1, x2, x3, x4, x5, x6, x7, x8, x9, x10, x11, x12, x13, x14, x15] i) > 0), false)]) := by kernel_rfl
theorem rm1_e (x0 x1 x2 x3 x4 x5 x6 x7 x8 x9 x10 x11 x12 x13 x14 x15 a b c d e g : Int) : evL Try.prog ext noPre noC noLoops 300 45 (loopAt Try.prog 77 0) (rm1F 6) (rm1H [x0, x1, x2, x3, x4, x5, x6, x7, x8, x9, x10, x11, x12, x13, x14, x15] [a, b, c, d, e, g]) 0 [] [2, 3, 4] = some (.exit 0, [(2, ptI 1), (3, .int .i64 0), (4, ptI 2)], rm1H [x0, x1, x2, x3, x4, x5, x6, x7, x8, x9, x10, x11, x12, x13, x14, x15] [a, b, c, d, e, g], 0, []) := by kernel_rfl
theorem rm1_code : codeOk (loopAt Try.prog 77 0) = true := by kernel_rfl
theorem rm1_loop (x0 x1 x2 x3 x4 x5 x6 x7 x8 x9 x10 x11 x12 x13 x14 x15 : Int) : WP Try.prog 45 (.loop (loopAt Try.prog 77 0)) ⟨rm1F 0, rm1H [x0, x1, x2, x3, x4, x5, x6, x7, x8, x9, x10, x11, x12, x13, x14, x15] [0, 0, 0, 0, 0, 0], 0⟩ (.exit 0) ⟨[(2, ptI 1), (3, .int .i64 0), (4, ptI 2)], rm1H [x0, x1, x2, x3, x4, x5, x6, x7, x8, x9, x10, x11, x12, x13, x14, x15] (lS (fun j => sumQ (bpart [x0, x1, x2, x3, x4, x5, x6, x7, x8, x9, x10, x11, x12, x13, x14, x15] j)) 6), 0⟩ := by
  refine WP.loop (fun i => ⟨rm1F i, rm1H [x0, x1, x2, x3, x4, x5, x6, x7, x8, x9, x10, x11, x12, x13, x14, x15] (lS (fun j => sumQ (bpart [x0, x1, x2, x3, x4, x5, x6, x7, x8, x9, x10, x11, x12, x13, x14, x15] j)) i), 0⟩) 6 (by simp) (fun i hi => ?_) ?_
  · obtain ⟨B, hB⟩ : ∃ B, lS (fun j => sumQ (bpart [x0, x1, x2, x3, x4, x5, x6, x7, x8, x9, x10, x11, x12, x13, x14, x15] j)) i = B := ⟨_, rfl⟩
    have hl := lS_len (fun j => sumQ (bpart [x0, x1, x2, x3, x4, x5, x6, x7, x8, x9, x10, x11, x12, x13, x14, x15] j)) i
    show WP _ _ _ ⟨_, rm1H _ (lS _ i), _⟩ _ ⟨_, rm1H _ (lS _ (i + 1)), _⟩
    simp only [lS]
    rw [hB] at hl ⊢
    obtain ⟨a, b, c, d, e, g, rfl⟩ := six_ex B hl
    have h60 : msP 60 [.int .u64 (sumQ (bpart [x0, x1, x2, x3, x4, x5, x6, x7, x8, x9, x10, x11, x12, x13, x14, x15] i))] [] = true := ms60 (sumQ_u _).1 (sumQ_u _).2
    by_cases h : sumQ (bpart [x0, x1, x2, x3, x4, x5, x6, x7, x8, x9, x10, x11, x12, x13, x14, x15] i) > 0
    · rw [if_pos h]
      exact WP.run progOk extSound ms_sound rm1_code noLoops_ok _ (of_list (rm1_t x0 x1 x2 x3 x4 x5 x6 x7 x8 x9 x10 x11 x12 x13 x14 x15 a b c d e g) (by omega) (by omega)) (by simp only [Holds, List.mem_cons, List.not_mem_nil, or_false, forall_eq_or_imp, forall_eq]; exact ⟨h60, decide_eq_true h⟩)
    · rw [if_neg h]
      exact WP.run progOk extSound ms_sound rm1_code noLoops_ok _ (of_list (rm1_f x0 x1 x2 x3 x4 x5 x6 x7 x8 x9 x10 x11 x12 x13 x14 x15 a b c d e g) (by omega) (by omega)) (by simp only [Holds, List.mem_cons, List.not_mem_nil, or_false, forall_eq_or_imp, forall_eq]; exact decide_eq_false h)
  · have hl := lS_len (fun j => sumQ (bpart [x0, x1, x2, x3, x4, x5, x6, x7, x8, x9, x10, x11, x12, x13, x14, x15] j)) 6
    revert hl
    generalize lS (fun j => sumQ (bpart [x0, x1, x2, x3, x4, x5, x6, x7, x8, x9, x10, x11, x12, x13, x14, x15] j)) 6 = B
    intro hl
    obtain ⟨a, b, c, d, e, g, rfl⟩ := six_ex B hl
    exact WP.run progOk extSound noC_sound rm1_code noLoops_ok _ (rm1_e x0 x1 x2 x3 x4 x5 x6 x7 x8 x9 x10 x11 x12 x13 x14 x15 a b c d e g) (by simp [Holds])
end Go.Proofs.Ytfbjpenbpbpcaaa

/-
  Chapter 08: bands.Measure and the reference's, as functions.
-/
namespace Go.Proofs.Ytfbjpenbpbpcaaa
open Go Den
set_option maxRecDepth 100000
set_option linter.unusedSimpArgs false
set_option linter.unusedVariables false

/-! ### powers, as numbers -/
def sq (xs : List Int) : Int := (xs.map fun v => v * v).sum
theorem sq_in {v : Int} (h : inB 67108864 v = true) : 0 ≤ v * v ∧ v * v ≤ 4503599627370496 := by
  have h2 : -67108864 ≤ v ∧ v ≤ 67108864 := by
    unfold inB at h
    rw [show IntKind.wrap IntKind.i64 (0 - 67108864) = -67108864 by decide] at h
    simpa using h
  have h3 : v.natAbs ≤ 67108864 := by omega
  have h4 := Nat.mul_le_mul h3 h3
  have h5 : v * v = ((v.natAbs * v.natAbs : Nat) : Int) := by rw [Int.natCast_mul]; exact (Int.natAbs_mul_self).symm
  rw [h5]
  omega
theorem sq_fold : ∀ (xs : List Int) (n : Int), xs.all (inB 67108864) = true → 0 ≤ n → n + xs.length * 4503599627370496 ≤ 9223372036854775807 →
    xs.foldl (fun n v => IntKind.wrap IntKind.u64 (n + IntKind.wrap IntKind.u64 (IntKind.wrap IntKind.i64 (v * v)))) n = n + sq xs ∧ 0 ≤ sq xs ∧ sq xs ≤ xs.length * 4503599627370496 := by
  intro xs
  induction xs with
  | nil => intro n _ _ _; simp [sq]
  | cons x xs ih =>
    intro n h h0 h1
    simp only [List.all_cons, Bool.and_eq_true] at h
    have hx := sq_in h.1
    simp only [List.length_cons] at h1
    have e1 : IntKind.wrap IntKind.i64 (x * x) = x * x := W_in (by omega) (by omega)
    have e2 : ∀ m : Int, 0 ≤ m → m ≤ 9223372036854775807 → IntKind.wrap IntKind.u64 m = m := by
      intro m hm0 hm1
      unfold IntKind.wrap
      simp [IntKind.bits, IntKind.signed]
      omega
    simp only [List.foldl_cons]
    rw [e1, e2 (x * x) hx.1 (by omega), e2 (n + x * x) (by omega) (by omega)]
    obtain ⟨g1, g2, g3⟩ := ih (n + x * x) h.2 (by omega) (by omega)
    rw [g1]
    have e3 : sq (x :: xs) = x * x + sq xs := by simp [sq]
    rw [e3]
    simp only [List.length_cons]
    refine ⟨by omega, by omega, by omega⟩
theorem sumQ_sq {xs : List Int} (h : xs.all (inB 67108864) = true) (hm : xs.length ≤ 16) : sumQ xs = sq xs ∧ 0 ≤ sq xs ∧ sq xs ≤ 16 * 4503599627370496 := by
  obtain ⟨g1, g2, g3⟩ := sq_fold xs 0 h (Int.le_refl 0) (by omega)
  refine ⟨?_, g2, by omega⟩
  unfold sumQ
  rw [g1]
  omega
theorem sq_zero : ∀ (xs : List Int), sq xs = 0 → xs = List.replicate xs.length 0 := by
  have nn : ∀ (v : Int), 0 ≤ v * v := fun v => by
    have h5 : v * v = ((v.natAbs * v.natAbs : Nat) : Int) := by rw [Int.natCast_mul]; exact (Int.natAbs_mul_self).symm
    rw [h5]; omega
  have nns : ∀ (xs : List Int), 0 ≤ sq xs := by
    intro xs
    induction xs with
    | nil => simp [sq]
    | cons x xs ih =>
      have e3 : sq (x :: xs) = x * x + sq xs := by simp [sq]
      have := nn x
      omega
  intro xs
  induction xs with
  | nil => intro _; rfl
  | cons x xs ih =>
    intro h
    have e3 : sq (x :: xs) = x * x + sq xs := by simp [sq]
    have h1 := nn x
    have h2 := nns xs
    have hx : x * x = 0 := by omega
    have hx0 : x = 0 := by
      rcases Int.mul_eq_zero.1 hx with h | h <;> exact h
    rw [hx0, List.length_cons, List.replicate_succ]
    rw [← ih (by omega)]
theorem sq_app (xs : List Int) (k : Nat) : sq (xs ++ List.replicate k 0) = sq xs := by
  unfold sq
  rw [List.map_append, List.sum_append]
  have : ((List.replicate k (0 : Int)).map fun v => v * v).sum = 0 := by
    induction k with
    | zero => rfl
    | succ k ih => simp [List.replicate_succ] at ih ⊢
  omega
theorem bpart_all {xs : List Int} (h : xs.all (inB 67108864) = true) (j : Nat) : (bpart xs j).all (inB 67108864) = true := by
  rw [List.all_eq_true] at h ⊢
  exact fun v hv => h v (List.mem_of_mem_drop (List.mem_of_mem_take hv))
theorem bpart_len (xs : List Int) (j : Nat) (hj : j < 6) : (bpart xs j).length ≤ 6 := by
  unfold bpart
  match j, hj with
  | 0, _ | 1, _ | 2, _ | 3, _ | 4, _ | 5, _ => simp [edgeL]; omega
theorem pow_eq {xs : List Int} (h : xs.all (inB 67108864) = true) (hm : xs.length = 16) (j : Nat) (hj : j < 6) : enZ (bandL xs j) = sumQ (bpart xs j) := by
  have hb : bandL xs j = bpart xs j ++ List.replicate (16 - (edgeL.getD (j + 1) 0 - edgeL.getD j 0)) 0 := rfl
  have ha : (bandL xs j).all (inB 67108864) = true := by
    rw [hb, List.all_append, bpart_all h j, Bool.true_and, List.all_eq_true]
    intro v hv
    rw [List.eq_of_mem_replicate hv]
    rfl
  unfold enZ
  rw [ha, cond_true, (sumQ_sq ha (by rw [bandL_len hm j hj]; omega)).1, (sumQ_sq (bpart_all h j) (by have := bpart_len xs j hj; omega)).1, hb, sq_app]

/-- A frame's levels. -/
def lvC (xs : List Int) : List Int := lS (fun j => sumQ (bpart xs j)) 6
theorem lvC_len (xs : List Int) : (lvC xs).length = 6 := lS_len _ 6
def mlO (xs : List Int) : Value := if xs.all (inB 67108864) = true then .tuple #[.agg (ints (lvC xs)).toArray, .int .i64 0] else (.tuple #[.agg (ints (List.replicate 6 0)).toArray, .int .i64 1])

/-! ### the functions -/
noncomputable def mlN (x0 x1 x2 x3 x4 x5 x6 x7 x8 x9 x10 x11 x12 x13 x14 x15 a b c d e g : Int) : Loops := { loop := sumL 6 ⟨m1F 0, m1H [x0, x1, x2, x3, x4, x5, x6, x7, x8, x9, x10, x11, x12, x13, x14, x15] [0, 0, 0, 0, 0, 0] 0, 0⟩ (.exit 0) ⟨[(2, ptI 1), (3, .int .i64 0)], m1H [x0, x1, x2, x3, x4, x5, x6, x7, x8, x9, x10, x11, x12, x13, x14, x15] [a, b, c, d, e, g] 6, 0⟩ }
noncomputable def rmlN (x0 x1 x2 x3 x4 x5 x6 x7 x8 x9 x10 x11 x12 x13 x14 x15 a b c d e g : Int) : Loops := { loop := sumL 5 ⟨rm1F 0, rm1H [x0, x1, x2, x3, x4, x5, x6, x7, x8, x9, x10, x11, x12, x13, x14, x15] [0, 0, 0, 0, 0, 0], 0⟩ (.exit 0) ⟨[(2, ptI 1), (3, .int .i64 0), (4, ptI 2)], rm1H [x0, x1, x2, x3, x4, x5, x6, x7, x8, x9, x10, x11, x12, x13, x14, x15] [a, b, c, d, e, g], 0⟩ }
theorem ml_bad (x0 x1 x2 x3 x4 x5 x6 x7 x8 x9 x10 x11 x12 x13 x14 x15 : Int) : (evFnL Try.prog ext 300 (nmPre msP) (nbC [] [(11, true)] msC) noLoops [(2, true), (1, true)] 76 [.agg (ints [x0, x1, x2, x3, x4, x5, x6, x7, x8, x9, x10, x11, x12, x13, x14, x15]).toArray] []).map (fun r => (r.1.1, r.2)) =
  some ((.tuple #[.agg (ints (List.replicate 6 0)).toArray, .int .i64 1]), [(enZ [x0, x1, x2, x3, x4, x5, x6, x7, x8, x9, x10, x11, x12, x13, x14, x15] == 0, true), (msP 70 [.agg (ints [x0, x1, x2, x3, x4, x5, x6, x7, x8, x9, x10, x11, x12, x13, x14, x15]).toArray] [], true), (!decide ([x0, x1, x2, x3, x4, x5, x6, x7, x8, x9, x10, x11, x12, x13, x14, x15] = (List.replicate 16 0)), true)]) := by kernel_rfl
theorem ml_good (x0 x1 x2 x3 x4 x5 x6 x7 x8 x9 x10 x11 x12 x13 x14 x15 a b c d e g : Int) : (evFnL Try.prog ext 300 (nmPre msP) (nbC [] [(11, true)] msC) (mlN x0 x1 x2 x3 x4 x5 x6 x7 x8 x9 x10 x11 x12 x13 x14 x15 a b c d e g) [(2, true), (1, false)] 76 [.agg (ints [x0, x1, x2, x3, x4, x5, x6, x7, x8, x9, x10, x11, x12, x13, x14, x15]).toArray] []).map (fun r => (r.1.1, r.2)) =
  some (.tuple #[.agg (ints [a, b, c, d, e, g]).toArray, .int .i64 0], [(cdec (m1F 0 = m1F 0), true), (cdec (m1H [x0, x1, x2, x3, x4, x5, x6, x7, x8, x9, x10, x11, x12, x13, x14, x15] [0, 0, 0, 0, 0, 0] 0 = m1H [x0, x1, x2, x3, x4, x5, x6, x7, x8, x9, x10, x11, x12, x13, x14, x15] [0, 0, 0, 0, 0, 0] 0), true), (cdec (0 = 0), true), (enZ [x0, x1, x2, x3, x4, x5, x6, x7, x8, x9, x10, x11, x12, x13, x14, x15] == 0, false), (msP 70 [.agg (ints [x0, x1, x2, x3, x4, x5, x6, x7, x8, x9, x10, x11, x12, x13, x14, x15]).toArray] [], true), (!decide ([x0, x1, x2, x3, x4, x5, x6, x7, x8, x9, x10, x11, x12, x13, x14, x15] = (List.replicate 16 0)), true)]) := by kernel_rfl
theorem ml_zero (x0 x1 x2 x3 x4 x5 x6 x7 x8 x9 x10 x11 x12 x13 x14 x15 a b c d e g : Int) : (evFnL Try.prog ext 300 (nmPre msP) (nbC [] [(11, false)] msC) (mlN x0 x1 x2 x3 x4 x5 x6 x7 x8 x9 x10 x11 x12 x13 x14 x15 a b c d e g) [] 76 [.agg (ints [x0, x1, x2, x3, x4, x5, x6, x7, x8, x9, x10, x11, x12, x13, x14, x15]).toArray] []).map (fun r => (r.1.1, r.2)) =
  some (.tuple #[.agg (ints [a, b, c, d, e, g]).toArray, .int .i64 0], [(cdec (m1F 0 = m1F 0), true), (cdec (m1H [x0, x1, x2, x3, x4, x5, x6, x7, x8, x9, x10, x11, x12, x13, x14, x15] [0, 0, 0, 0, 0, 0] 0 = m1H [x0, x1, x2, x3, x4, x5, x6, x7, x8, x9, x10, x11, x12, x13, x14, x15] [0, 0, 0, 0, 0, 0] 0), true), (cdec (0 = 0), true), (!decide ([x0, x1, x2, x3, x4, x5, x6, x7, x8, x9, x10, x11, x12, x13, x14, x15] = (List.replicate 16 0)), false)]) := by kernel_rfl
theorem rml_bad (x0 x1 x2 x3 x4 x5 x6 x7 x8 x9 x10 x11 x12 x13 x14 x15 : Int) : (evFnL Try.prog ext 300 msP msC noLoops [(0, true), (0, true)] 77 [.agg (ints [x0, x1, x2, x3, x4, x5, x6, x7, x8, x9, x10, x11, x12, x13, x14, x15]).toArray] []).map (fun r => (r.1.1, r.2)) =
  some ((.tuple #[.agg (ints (List.replicate 6 0)).toArray, .int .i64 1]), [(!([x0, x1, x2, x3, x4, x5, x6, x7, x8, x9, x10, x11, x12, x13, x14, x15].all (inB 67108864)), true), (msP 74 [.agg (ints [x0, x1, x2, x3, x4, x5, x6, x7, x8, x9, x10, x11, x12, x13, x14, x15]).toArray] [], true)]) := by kernel_rfl
theorem rml_good (x0 x1 x2 x3 x4 x5 x6 x7 x8 x9 x10 x11 x12 x13 x14 x15 a b c d e g : Int) : (evFnL Try.prog ext 300 msP msC (rmlN x0 x1 x2 x3 x4 x5 x6 x7 x8 x9 x10 x11 x12 x13 x14 x15 a b c d e g) [(0, true), (0, false)] 77 [.agg (ints [x0, x1, x2, x3, x4, x5, x6, x7, x8, x9, x10, x11, x12, x13, x14, x15]).toArray] []).map (fun r => (r.1.1, r.2)) =
  some (.tuple #[.agg (ints [a, b, c, d, e, g]).toArray, .int .i64 0], [(cdec (rm1F 0 = rm1F 0), true), (cdec (rm1H [x0, x1, x2, x3, x4, x5, x6, x7, x8, x9, x10, x11, x12, x13, x14, x15] [0, 0, 0, 0, 0, 0] = rm1H [x0, x1, x2, x3, x4, x5, x6, x7, x8, x9, x10, x11, x12, x13, x14, x15] [0, 0, 0, 0, 0, 0]), true), (cdec (0 = 0), true), (!([x0, x1, x2, x3, x4, x5, x6, x7, x8, x9, x10, x11, x12, x13, x14, x15].all (inB 67108864)), false), (msP 74 [.agg (ints [x0, x1, x2, x3, x4, x5, x6, x7, x8, x9, x10, x11, x12, x13, x14, x15]).toArray] [], true)]) := by kernel_rfl

theorem may_ok (xs : List Int) (hm : xs.length = 16) : CallOk Try.prog 74 [.agg (ints xs).toArray] [] (.bool (xs.all (inB 67108864))) [] 0 := by
  have hk := msp_ok xs hm
  have e : (fun x => inB 67108864 x) = inB 67108864 := rfl
  rw [e] at hk
  cases hc : xs.all (inB 67108864) with
  | true => rw [hc] at hk; exact hk
  | false => rw [hc] at hk; exact hk
theorem ml_loops (x0 x1 x2 x3 x4 x5 x6 x7 x8 x9 x10 x11 x12 x13 x14 x15 a b c d e g : Int) (h : lS (fun j => enZ (bandL [x0, x1, x2, x3, x4, x5, x6, x7, x8, x9, x10, x11, x12, x13, x14, x15] j)) 6 = [a, b, c, d, e, g]) : LoopsOk Try.prog 45 (mlN x0 x1 x2 x3 x4 x5 x6 x7 x8 x9 x10 x11 x12 x13 x14 x15 a b c d e g) (bodyOf Try.prog 76) := by
  refine LoopsOk.sum rfl fun b hb _ => ?_
  rw [show loopsOf (bodyOf Try.prog 76) = [loopAt Try.prog 76 0] by kernel_rfl] at hb
  simp only [List.mem_singleton] at hb
  subst hb
  have := m1_loop x0 x1 x2 x3 x4 x5 x6 x7 x8 x9 x10 x11 x12 x13 x14 x15
  rw [h] at this
  exact this
theorem rml_loops (x0 x1 x2 x3 x4 x5 x6 x7 x8 x9 x10 x11 x12 x13 x14 x15 a b c d e g : Int) (h : lS (fun j => sumQ (bpart [x0, x1, x2, x3, x4, x5, x6, x7, x8, x9, x10, x11, x12, x13, x14, x15] j)) 6 = [a, b, c, d, e, g]) : LoopsOk Try.prog 45 (rmlN x0 x1 x2 x3 x4 x5 x6 x7 x8 x9 x10 x11 x12 x13 x14 x15 a b c d e g) (bodyOf Try.prog 77) := by
  refine LoopsOk.sum rfl fun b hb hi => ?_
  rw [show loopsOf (bodyOf Try.prog 77) = [loopAt Try.prog 77 0, loopAt Try.prog 77 1] by kernel_rfl] at hb
  simp only [List.mem_cons, List.not_mem_nil, or_false] at hb
  rcases hb with rfl | rfl
  · have := rm1_loop x0 x1 x2 x3 x4 x5 x6 x7 x8 x9 x10 x11 x12 x13 x14 x15
    rw [h] at this
    exact this
  · rw [show firstId (loopAt Try.prog 77 1) = 9 by kernel_rfl] at hi
    omega

theorem measure_ok (xs : List Int) (hm : xs.length = 16) : CallOk Try.prog 76 [.agg (ints xs).toArray] [] (mlO xs) [] 0 := by
  have h70 : msP 70 [.agg (ints xs).toArray] [] = true := ms70 hm
  have hpow : xs.all (inB 67108864) = true → lS (fun j => enZ (bandL xs j)) 6 = lvC xs := fun h => lS_congr 6 (Nat.le_refl _) fun j hj => pow_eq h hm j hj
  have hz : xs = (List.replicate 16 0) → xs.all (inB 67108864) = true := fun h => by rw [h]; rfl
  have hen : xs.all (inB 67108864) = true → xs ≠ (List.replicate 16 0) → enZ xs ≠ 0 := fun h hne h0 => by
    unfold enZ at h0
    rw [h, cond_true, (sumQ_sq h (by omega)).1] at h0
    have := sq_zero xs h0
    rw [hm] at this
    exact hne this
  have hen2 : xs.all (inB 67108864) = false → enZ xs = 0 := fun h => by unfold enZ; rw [h]; rfl
  have hlen := lvC_len xs
  unfold mlO
  obtain ⟨x0, x1, x2, x3, x4, x5, x6, x7, x8, x9, x10, x11, x12, x13, x14, x15, rfl⟩ : ∃ x0 x1 x2 x3 x4 x5 x6 x7 x8 x9 x10 x11 x12 x13 x14 x15, xs = [x0, x1, x2, x3, x4, x5, x6, x7, x8, x9, x10, x11, x12, x13, x14, x15] := six_len16 xs hm
  by_cases ha : [x0, x1, x2, x3, x4, x5, x6, x7, x8, x9, x10, x11, x12, x13, x14, x15].all (inB 67108864) = true
  · rw [if_pos ha]
    have hp := hpow ha
    revert hp
    generalize lvC [x0, x1, x2, x3, x4, x5, x6, x7, x8, x9, x10, x11, x12, x13, x14, x15] = B at hlen
    intro hp
    obtain ⟨a, b, c, d, e, g, rfl⟩ := six_ex B hlen
    by_cases h0 : [x0, x1, x2, x3, x4, x5, x6, x7, x8, x9, x10, x11, x12, x13, x14, x15] = (List.replicate 16 0)
    · exact pf_ok (nb_sound [] [(11, false)] ms_sound) (ml_loops x0 x1 x2 x3 x4 x5 x6 x7 x8 x9 x10 x11 x12 x13 x14 x15 a b c d e g hp) (ml_zero x0 x1 x2 x3 x4 x5 x6 x7 x8 x9 x10 x11 x12 x13 x14 x15 a b c d e g) (by simp only [Holds, List.mem_cons, List.not_mem_nil, or_false, forall_eq_or_imp, forall_eq]; exact ⟨cdec_iff.2 trivial, cdec_iff.2 trivial, cdec_iff.2 trivial, by rw [decide_eq_true h0]; rfl⟩) rfl
    · exact pf_ok (nb_sound [] [(11, true)] ms_sound) (ml_loops x0 x1 x2 x3 x4 x5 x6 x7 x8 x9 x10 x11 x12 x13 x14 x15 a b c d e g hp) (ml_good x0 x1 x2 x3 x4 x5 x6 x7 x8 x9 x10 x11 x12 x13 x14 x15 a b c d e g) (by simp only [Holds, List.mem_cons, List.not_mem_nil, or_false, forall_eq_or_imp, forall_eq]; exact ⟨cdec_iff.2 trivial, cdec_iff.2 trivial, cdec_iff.2 trivial, by simpa using hen ha h0, h70, by rw [decide_eq_false h0]; rfl⟩) rfl
  · rw [if_neg ha]
    have ha' : [x0, x1, x2, x3, x4, x5, x6, x7, x8, x9, x10, x11, x12, x13, x14, x15].all (inB 67108864) = false := by simpa using ha
    have h0 : ¬ [x0, x1, x2, x3, x4, x5, x6, x7, x8, x9, x10, x11, x12, x13, x14, x15] = (List.replicate 16 0) := fun h => ha (hz h)
    exact pf_ok (nb_sound [] [(11, true)] ms_sound) noLoops_ok (ml_bad x0 x1 x2 x3 x4 x5 x6 x7 x8 x9 x10 x11 x12 x13 x14 x15) (by simp only [Holds, List.mem_cons, List.not_mem_nil, or_false, forall_eq_or_imp, forall_eq]; exact ⟨by rw [hen2 ha']; rfl, h70, by rw [decide_eq_false h0]; rfl⟩) rfl
theorem rmeasure_ok (xs : List Int) (hm : xs.length = 16) : CallOk Try.prog 77 [.agg (ints xs).toArray] [] (mlO xs) [] 0 := by
  have hmay := may_ok xs hm
  have hlen := lvC_len xs
  have hdef : lS (fun j => sumQ (bpart xs j)) 6 = lvC xs := rfl
  unfold mlO
  obtain ⟨x0, x1, x2, x3, x4, x5, x6, x7, x8, x9, x10, x11, x12, x13, x14, x15, rfl⟩ : ∃ x0 x1 x2 x3 x4 x5 x6 x7 x8 x9 x10 x11 x12 x13 x14 x15, xs = [x0, x1, x2, x3, x4, x5, x6, x7, x8, x9, x10, x11, x12, x13, x14, x15] := six_len16 xs hm
  have h74 : msP 74 [.agg (ints [x0, x1, x2, x3, x4, x5, x6, x7, x8, x9, x10, x11, x12, x13, x14, x15]).toArray] [] = true := tell_ok rfl hmay
  by_cases ha : [x0, x1, x2, x3, x4, x5, x6, x7, x8, x9, x10, x11, x12, x13, x14, x15].all (inB 67108864) = true
  · rw [if_pos ha]
    revert hdef
    generalize lvC [x0, x1, x2, x3, x4, x5, x6, x7, x8, x9, x10, x11, x12, x13, x14, x15] = B at hlen
    intro hdef
    obtain ⟨a, b, c, d, e, g, rfl⟩ := six_ex B hlen
    exact pf_ok ms_sound (rml_loops x0 x1 x2 x3 x4 x5 x6 x7 x8 x9 x10 x11 x12 x13 x14 x15 a b c d e g hdef) (rml_good x0 x1 x2 x3 x4 x5 x6 x7 x8 x9 x10 x11 x12 x13 x14 x15 a b c d e g) (by simp only [Holds, List.mem_cons, List.not_mem_nil, or_false, forall_eq_or_imp, forall_eq]; exact ⟨cdec_iff.2 trivial, cdec_iff.2 trivial, cdec_iff.2 trivial, by rw [ha]; rfl, h74⟩) rfl
  · rw [if_neg ha]
    have ha' : [x0, x1, x2, x3, x4, x5, x6, x7, x8, x9, x10, x11, x12, x13, x14, x15].all (inB 67108864) = false := by simpa using ha
    exact pf_ok ms_sound noLoops_ok (rml_bad x0 x1 x2 x3 x4 x5 x6 x7 x8 x9 x10 x11 x12 x13 x14 x15) (by simp only [Holds, List.mem_cons, List.not_mem_nil, or_false, forall_eq_or_imp, forall_eq]; exact ⟨by rw [ha']; rfl, h74⟩) rfl

end Go.Proofs.Ytfbjpenbpbpcaaa

/-
  Chapter 08: all contracts, joined.
-/
namespace Go.Proofs.Ytfbjpenbpbpcaaa
open Go Den
set_option maxRecDepth 100000
set_option linter.unusedSimpArgs false
set_option linter.unusedVariables false

/-- A row of six, place by place. -/
def L6 (A : List Int) : List Int := [A.getD 0 0, A.getD 1 0, A.getD 2 0, A.getD 3 0, A.getD 4 0, A.getD 5 0]
theorem L6_eq {A : List Int} (h : A.length = 6) : L6 A = A := by
  obtain ⟨a, b, c, d, e, g, rfl⟩ := six_ex A h
  rfl
def tup6 (A : List Int) (e : Int) : Value := .tuple #[.agg (ints (L6 A)).toArray, .int .i64 e]
def zer6 : List Int := [0, 0, 0, 0, 0, 0]
def may16 (xs : List Int) : Bool := xs.all (inB 67108864)
def lvl (xs : List Int) : List Int := if may16 xs = true then lvC xs else zer6
def lve (xs : List Int) : Int := if may16 xs = true then 0 else 1
def mkl (l : List Int) : List Int := if okL l = true then maskC l else zer6
def mke (l : List Int) : Int := if okL l = true then 0 else 1
def shl (l : List Int) (b : Int) : List Int := if okL l = true ∧ 0 ≤ b then shareC l b else zer6
def she (l : List Int) (b : Int) : Int := if okL l = true ∧ 0 ≤ b then 0 else 1
theorem maskC_len {l : List Int} (h : l.length = 6) : (maskC l).length = 6 := by
  obtain ⟨a, b, c, d, e, g, rfl⟩ := six_ex l h
  rfl
theorem shareC_len (l : List Int) (b : Int) : (shareC l b).length = 6 := refCut_len 42 _ rfl
theorem lvl_len (xs : List Int) : (lvl xs).length = 6 := by unfold lvl; split <;> simp [lvC_len, zer6]
theorem mkl_len {l : List Int} (h : l.length = 6) : (mkl l).length = 6 := by unfold mkl; split <;> simp [maskC_len h, zer6]
theorem shl_len (l : List Int) (b : Int) : (shl l b).length = 6 := by unfold shl; split <;> simp [shareC_len, zer6]
theorem measure_c (f : FuncId) (hf : f = 76 ∨ f = 77) (xs : List Int) (hm : xs.length = 16) : CallOk Try.prog f [.agg (ints xs).toArray] [] (tup6 (lvl xs) (lve xs)) [] 0 := by
  have h : CallOk Try.prog f [.agg (ints xs).toArray] [] (mlO xs) [] 0 := by
    rcases hf with rfl | rfl
    · exact measure_ok xs hm
    · exact rmeasure_ok xs hm
  unfold tup6
  rw [L6_eq (lvl_len xs)]
  unfold mlO at h
  unfold lvl lve may16
  split at h
  · rename_i hc; rw [if_pos hc, if_pos hc]; exact h
  · rename_i hc; rw [if_neg hc, if_neg hc]; exact h
theorem mask_c (f : FuncId) (hf : f = 78 ∨ f = 79) (l : List Int) (hm : l.length = 6) : CallOk Try.prog f [.agg (ints l).toArray] [] (tup6 (mkl l) (mke l)) [] 0 := by
  have h : CallOk Try.prog f [.agg (ints l).toArray] [] (maskO l) [] 0 := by
    rcases hf with rfl | rfl
    · exact mask_ok l hm
    · exact rmask_ok l hm
  unfold tup6
  rw [L6_eq (mkl_len hm)]
  unfold maskO at h
  unfold mkl mke
  split at h
  · rename_i hc; rw [if_pos hc, if_pos hc]; exact h
  · rename_i hc; rw [if_neg hc, if_neg hc]; exact h
theorem share_c (f : FuncId) (hf : f = 80 ∨ f = 81) (l : List Int) (b : Int) (hm : l.length = 6) : CallOk Try.prog f [.agg (ints l).toArray, .int .i64 b] [] (tup6 (shl l b) (she l b)) [] 0 := by
  have h := shares_ok f hf l hm b
  unfold tup6
  rw [L6_eq (shl_len l b)]
  unfold shO at h
  unfold shl she
  split at h
  · rename_i hc; rw [if_pos hc, if_pos hc]; exact h
  · rename_i hc; rw [if_neg hc, if_neg hc]; exact h

def x8c : Oracle := fun f args H => match H with
  | [] => match f, args with
    | 74, [.agg cs] => aggF 16 (fun xs => .bool (may16 xs)) cs
    | 76, [.agg cs] => aggF 16 (fun xs => tup6 (lvl xs) (lve xs)) cs
    | 77, [.agg cs] => aggF 16 (fun xs => tup6 (lvl xs) (lve xs)) cs
    | 78, [.agg cs] => aggF 6 (fun l => tup6 (mkl l) (mke l)) cs
    | 79, [.agg cs] => aggF 6 (fun l => tup6 (mkl l) (mke l)) cs
    | 82, [.agg cs] => aggF 6 (fun l => .int .i64 (chk8 l)) cs
    | 99, [.agg cs] => aggF 6 (fun l => .int .i64 (chk8 l)) cs
    | 83, [.agg cs] => aggF 6 (fun l => .int .i64 (costG l)) cs
    | 128, [.agg cs] => aggF 6 (fun l => .int .i64 (costG l)) cs
    | 80, [.agg cs, .int .i64 b] => match intsI cs.toList with
      | some l => match Nat.beq l.length 6 with
        | true => some (tup6 (shl l b) (she l b), [], 0)
        | false => none
      | none => none
    | 81, [.agg cs, .int .i64 b] => match intsI cs.toList with
      | some l => match Nat.beq l.length 6 with
        | true => some (tup6 (shl l b) (she l b), [], 0)
        | false => none
      | none => none
    | _, _ => none
  | _ => none
theorem share_c2 (f : FuncId) (hf : f = 80 ∨ f = 81) {cs : Array Value} {l : List Int} {b : Int} (h : intsI cs.toList = some l) (hm : Nat.beq l.length 6 = true) : CallOk Try.prog f [.agg cs, .int .i64 b] [] (tup6 (shl l b) (she l b)) [] 0 := by
  have e1 : cs = (ints l).toArray := by rw [← intsI_eq _ _ h]
  rw [e1]
  exact share_c f hf l b (Nat.eq_of_beq_eq_true hm)
theorem x8c_sound : Sound Try.prog x8c := by
  intro f args H v H' l h
  unfold x8c at h
  split at h
  · split at h
    · exact aggF_ok h fun xs hm => may_ok xs hm
    · exact aggF_ok h fun xs hm => measure_c 76 (.inl rfl) xs hm
    · exact aggF_ok h fun xs hm => measure_c 77 (.inr rfl) xs hm
    · exact aggF_ok h fun xs hm => mask_c 78 (.inl rfl) xs hm
    · exact aggF_ok h fun xs hm => mask_c 79 (.inr rfl) xs hm
    · exact aggF_ok h fun xs hm => check_ok xs hm
    · exact aggF_ok h fun xs hm => rcheck_ok xs hm
    · exact aggF_ok h fun xs hm => cost_ok xs hm
    · exact aggF_ok h fun xs hm => rcost_ok xs hm
    · split at h
      · rename_i hi
        split at h
        · rename_i hb
          simp only [Option.some.injEq, Prod.mk.injEq] at h; obtain ⟨rfl, rfl, rfl⟩ := h
          exact share_c2 80 (.inl rfl) hi hb
        · simp at h
      · simp at h
    · split at h
      · rename_i hi
        split at h
        · rename_i hb
          simp only [Option.some.injEq, Prod.mk.injEq] at h; obtain ⟨rfl, rfl, rfl⟩ := h
          exact share_c2 81 (.inr rfl) hi hb
        · simp at h
      · simp at h
    · simp at h
  · simp at h

/-- Of and Edge, and what they call, are run. -/
noncomputable def ofC : Oracle := fun f args H => match Nat.beq f 84 || (Nat.beq f 85 || (Nat.beq f 133 || (Nat.beq f 125 || Nat.beq f 126))) with
  | true => evAll Try.prog ext 300 3 f args H
  | false => none
theorem ofC_sound : Sound Try.prog ofC := by
  intro f args H v H' l h
  unfold ofC at h
  split at h
  · exact evAll_sound progOk extSound 300 3 f args H v H' l h
  · simp at h
noncomputable def x8a : Oracle := orElse x8c ofC
theorem x8a_sound : Sound Try.prog x8a := x8c_sound.or ofC_sound

def z16 : List Int := [0, 0, 0, 0, 0, 0, 0, 0, 0, 0, 0, 0, 0, 0, 0, 0]
theorem lv_zero : tup6 (lvl z16) (lve z16) = .tuple #[.agg (ints [0, 0, 0, 0, 0, 0]).toArray, .int .i64 0] := by kernel_rfl
theorem lv_one : tup6 (lvl [0, 1048576, 0, 0, 0, 0, 0, 0, 0, 0, 0, 0, 0, 0, 0, 0]) (lve [0, 1048576, 0, 0, 0, 0, 0, 0, 0, 0, 0, 0, 0, 0, 0, 0]) = .tuple #[.agg (ints [0, 161, 0, 0, 0, 0]).toArray, .int .i64 0] := by kernel_rfl
theorem sh_one : tup6 (shl [0, 161, 0, 0, 0, 0] 100) (she [0, 161, 0, 0, 0, 0] 100) = .tuple #[.agg (ints [0, 7, 0, 0, 0, 0]).toArray, .int .i64 0] := by kernel_rfl
theorem live8_ok : CallOk Try.prog 75 [] [] (.bool true) [] 0 := of_over x8a_sound (n := 1) (by kernel_rfl) rfl
end Go.Proofs.Ytfbjpenbpbpcaaa

