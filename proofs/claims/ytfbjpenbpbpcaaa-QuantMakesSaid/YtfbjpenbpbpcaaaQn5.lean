/-
  Chapter 09: Small, May and Great: the walks.
-/
import Derived.Test.YtfbjpenbpbpcaaaZN
namespace Go.Proofs.Ytfbjpenbpbpcaaa
open Go Den
set_option maxRecDepth 100000
set_option linter.unusedSimpArgs false
set_option linter.unusedVariables false

def L32 (O : List Int) : List Int := (List.range 32).map fun i => O.getD i 0
def L16 (O : List Int) : List Int := (List.range 16).map fun i => O.getD i 0
theorem getD_ext {A B : List Int} (hl : A.length = B.length) (h : ∀ i, i < A.length → A.getD i 0 = B.getD i 0) : A = B := by
  refine List.ext_getElem hl fun i h1 h2 => ?_
  have := h i h1
  rw [List.getD_eq_getElem?_getD, List.getD_eq_getElem?_getD, List.getElem?_eq_getElem h1, List.getElem?_eq_getElem h2] at this
  exact this
theorem range_get {f : Nat → Int} {n i : Nat} (h : i < n) : ((List.range n).map f).getD i 0 = f i := by
  rw [List.getD_eq_getElem?_getD, List.getElem?_map, List.getElem?_range h]
  rfl
theorem L32_eq {O : List Int} (h : O.length = 32) : L32 O = O := getD_ext (by simp [L32, h]) fun i hi => range_get (by simpa [L32] using hi)
theorem L16_eq {O : List Int} (h : O.length = 16) : L16 O = O := getD_ext (by simp [L16, h]) fun i hi => range_get (by simpa [L16] using hi)

noncomputable def heldC : Oracle := fun f args H => match Nat.beq f 132 with
  | true => evFn Try.prog ext 300 (fun _ _ _ => none) f args H
  | false => none
theorem heldC_sound : Sound Try.prog heldC := by
  intro f args H v H' l h
  unfold heldC at h
  split at h
  · exact evFn_sound progOk extSound (fun f args H v H' l h => by simp at h) 300 f args H v H' l h
  · simp at h
def qT (b : Bool) (O A lv : List Int) (e le : Int) : FuncId → List Value → Option Value := fun f args => match f, args with
  | 131, [_] => some (.tuple #[.agg (ints (L32 O)).toArray, .agg (ints (L6 A)).toArray, .int .i64 e])
  | 104, [_, _] => some (.bool b)
  | 76, [_] => some (.tuple #[.agg (ints (L6 lv)).toArray, .int .i64 le])
  | 43, [.int .i64 x, .int .i64 y] => some (.tuple #[.int .i64 (divQ x y), .int .i64 (divE y)])
  | _, _ => none
noncomputable abbrev qC (b : Bool) (O A lv : List Int) (e le : Int) : Oracle := tellC (qT b O A lv e le) heldC
noncomputable abbrev qP (b : Bool) (O A lv : List Int) (e le : Int) : Pre := tellPre (qT b O A lv e le) noPre
theorem q_sound (b : Bool) (O A lv : List Int) (e le : Int) : Sound Try.prog (strict (qP b O A lv e le) (qC b O A lv e le)) := tell_sound _ (plain_sound heldC_sound)

/-! ### May -/
def clipL (q O : List Int) : List Int := (List.range 16).map fun n => mxG (W (0 - O.getD (2 * n + 1) 0)) (mnG (q.getD n 0) (O.getD (2 * n + 1) 0))
theorem may_run (q0 q1 q2 q3 q4 q5 q6 q7 q8 q9 q10 q11 q12 q13 q14 q15 a b c d e g : Int) (O A : List Int) : (evFnL Try.prog ext 300 (qP true O A [] 0 0) (qC true O A [] 0 0) noLoops [(0, true)] 104 [.agg (ints [q0, q1, q2, q3, q4, q5, q6, q7, q8, q9, q10, q11, q12, q13, q14, q15]).toArray, .agg (ints [a, b, c, d, e, g]).toArray] []).map (fun r => (r.1.1, r.2)) =
  some (.bool (decide (clipL [q0, q1, q2, q3, q4, q5, q6, q7, q8, q9, q10, q11, q12, q13, q14, q15] O = [q0, q1, q2, q3, q4, q5, q6, q7, q8, q9, q10, q11, q12, q13, q14, q15])), [(qP true O A [] 0 0 131 [.agg (ints [a, b, c, d, e, g]).toArray] [], true)]) := by kernel_rfl
theorem may_bad (q0 q1 q2 q3 q4 q5 q6 q7 q8 q9 q10 q11 q12 q13 q14 q15 a b c d e g : Int) (O A : List Int) : (evFnL Try.prog ext 300 (qP true O A [] 1 0) (qC true O A [] 1 0) noLoops [(0, true)] 104 [.agg (ints [q0, q1, q2, q3, q4, q5, q6, q7, q8, q9, q10, q11, q12, q13, q14, q15]).toArray, .agg (ints [a, b, c, d, e, g]).toArray] []).map (fun r => (r.1.1, r.2)) =
  some (.bool false, [(qP true O A [] 1 0 131 [.agg (ints [a, b, c, d, e, g]).toArray] [], true)]) := by kernel_rfl

/-! ### Great -/
def greatL (q O : List Int) : List Int := (List.range 16).map fun n => mxG (-67108864) (mnG (W (q.getD n 0 * O.getD (2 * n) 0)) 67108864)
theorem gr_run (q0 q1 q2 q3 q4 q5 q6 q7 q8 q9 q10 q11 q12 q13 q14 q15 a b c d e g : Int) (O A : List Int) : (evFnL Try.prog ext 300 (qP true O A [] 0 0) (qC true O A [] 0 0) noLoops [(0, true), (1, true)] 102 [.agg (ints [q0, q1, q2, q3, q4, q5, q6, q7, q8, q9, q10, q11, q12, q13, q14, q15]).toArray, .agg (ints [a, b, c, d, e, g]).toArray] []).map (fun r => (r.1.1, r.2)) =
  some (.tuple #[.agg (ints (greatL [q0, q1, q2, q3, q4, q5, q6, q7, q8, q9, q10, q11, q12, q13, q14, q15] O)).toArray, .int .i64 0], [(qP true O A [] 0 0 131 [.agg (ints [a, b, c, d, e, g]).toArray] [], true), (qP true O A [] 0 0 104 [.agg (ints [q0, q1, q2, q3, q4, q5, q6, q7, q8, q9, q10, q11, q12, q13, q14, q15]).toArray, .agg (ints [a, b, c, d, e, g]).toArray] [], true)]) := by kernel_rfl
theorem gr_bad (q0 q1 q2 q3 q4 q5 q6 q7 q8 q9 q10 q11 q12 q13 q14 q15 a b c d e g : Int) (O A : List Int) : (evFnL Try.prog ext 300 (qP false O A [] 0 0) (qC false O A [] 0 0) noLoops [(0, true)] 102 [.agg (ints [q0, q1, q2, q3, q4, q5, q6, q7, q8, q9, q10, q11, q12, q13, q14, q15]).toArray, .agg (ints [a, b, c, d, e, g]).toArray] []).map (fun r => (r.1.1, r.2)) =
  some (.tuple #[.agg (ints (List.replicate 16 0)).toArray, .int .i64 1], [(qP false O A [] 0 0 104 [.agg (ints [q0, q1, q2, q3, q4, q5, q6, q7, q8, q9, q10, q11, q12, q13, q14, q15]).toArray, .agg (ints [a, b, c, d, e, g]).toArray] [], true)]) := by kernel_rfl

/-! ### Small -/
def clD (xs O : List Int) (n : Nat) : Int := mxG (W (0 - O.getD (2 * n + 1) 0)) (mnG (divQ (xs.getD n 0) (O.getD (2 * n) 0)) (O.getD (2 * n + 1) 0))
def smF (xs : List Int) (i : Nat) : Slots := [(4, ptI 2), (5, ptI 3), (6, .int .i64 0), (7, ptI 4), (33, .agg (ints xs).toArray), (34, .int .i64 i)]
def smH (xs l q A O lv : List Int) : Heap := [blkI xs, blkI l, blkI q, blkI (L6 A), blkI (L32 O), blkI (L6 lv)]
theorem sm_t (x0 x1 x2 x3 x4 x5 x6 x7 x8 x9 x10 x11 x12 x13 x14 x15 q0 q1 q2 q3 q4 q5 q6 q7 q8 q9 q10 q11 q12 q13 q14 q15 a b c d e g : Int) (O A lv : List Int) : (List.range' 0 16).map (fun (i : Nat) => evL Try.prog ext (nmPre noPre) (nbC [] [(42, true)] noC) noLoops 300 74 (loopAt Try.prog 103 0) (smF [x0, x1, x2, x3, x4, x5, x6, x7, x8, x9, x10, x11, x12, x13, x14, x15] i) (smH [x0, x1, x2, x3, x4, x5, x6, x7, x8, x9, x10, x11, x12, x13, x14, x15] [a, b, c, d, e, g] [q0, q1, q2, q3, q4, q5, q6, q7, q8, q9, q10, q11, q12, q13, q14, q15] A O lv) 0 [] [4, 5, 6, 7, 33, 34]) =
  (List.range' 0 16).map fun (i : Nat) => some (.normal, smF [x0, x1, x2, x3, x4, x5, x6, x7, x8, x9, x10, x11, x12, x13, x14, x15] (i + 1), smH [x0, x1, x2, x3, x4, x5, x6, x7, x8, x9, x10, x11, x12, x13, x14, x15] [a, b, c, d, e, g] [q0, q1, q2, q3, q4, q5, q6, q7, q8, q9, q10, q11, q12, q13, q14, q15] A O lv, 0, [(O.getD (2 * i) 0 == 0, true)]) := by kernel_rfl
theorem sm_f (x0 x1 x2 x3 x4 x5 x6 x7 x8 x9 x10 x11 x12 x13 x14 x15 q0 q1 q2 q3 q4 q5 q6 q7 q8 q9 q10 q11 q12 q13 q14 q15 a b c d e g : Int) (O A lv : List Int) : (List.range' 0 16).map (fun (i : Nat) => evL Try.prog ext (nmPre (qP true O A lv 0 0)) (nbC [] [(42, false), (53, false)] (qC true O A lv 0 0)) noLoops 300 74 (loopAt Try.prog 103 0) (smF [x0, x1, x2, x3, x4, x5, x6, x7, x8, x9, x10, x11, x12, x13, x14, x15] i) (smH [x0, x1, x2, x3, x4, x5, x6, x7, x8, x9, x10, x11, x12, x13, x14, x15] [a, b, c, d, e, g] [q0, q1, q2, q3, q4, q5, q6, q7, q8, q9, q10, q11, q12, q13, q14, q15] A O lv) 0 [(2, true)] [4, 5, 6, 7, 33, 34]) =
  (List.range' 0 16).map fun (i : Nat) => some (.normal, smF [x0, x1, x2, x3, x4, x5, x6, x7, x8, x9, x10, x11, x12, x13, x14, x15] (i + 1), smH [x0, x1, x2, x3, x4, x5, x6, x7, x8, x9, x10, x11, x12, x13, x14, x15] [a, b, c, d, e, g] ([q0, q1, q2, q3, q4, q5, q6, q7, q8, q9, q10, q11, q12, q13, q14, q15].set i (clD [x0, x1, x2, x3, x4, x5, x6, x7, x8, x9, x10, x11, x12, x13, x14, x15] O i)) A O lv, 0, [(divE (O.getD (2 * i) 0) != 0, false), (qP true O A lv 0 0 43 [.int .i64 ([x0, x1, x2, x3, x4, x5, x6, x7, x8, x9, x10, x11, x12, x13, x14, x15].getD i 0), .int .i64 (O.getD (2 * i) 0)] [], true), (O.getD (2 * i) 0 == 0, false)]) := by kernel_rfl
def smE : Slots := [(4, ptI 2), (5, ptI 3), (6, .int .i64 0)]
theorem sm_e (x0 x1 x2 x3 x4 x5 x6 x7 x8 x9 x10 x11 x12 x13 x14 x15 q0 q1 q2 q3 q4 q5 q6 q7 q8 q9 q10 q11 q12 q13 q14 q15 a b c d e g : Int) (O A lv : List Int) : evL Try.prog ext noPre noC noLoops 300 74 (loopAt Try.prog 103 0) (smF [x0, x1, x2, x3, x4, x5, x6, x7, x8, x9, x10, x11, x12, x13, x14, x15] 16) (smH [x0, x1, x2, x3, x4, x5, x6, x7, x8, x9, x10, x11, x12, x13, x14, x15] [a, b, c, d, e, g] [q0, q1, q2, q3, q4, q5, q6, q7, q8, q9, q10, q11, q12, q13, q14, q15] A O lv) 0 [] [4, 5, 6] = some (.exit 0, smE, smH [x0, x1, x2, x3, x4, x5, x6, x7, x8, x9, x10, x11, x12, x13, x14, x15] [a, b, c, d, e, g] [q0, q1, q2, q3, q4, q5, q6, q7, q8, q9, q10, q11, q12, q13, q14, q15] A O lv, 0, []) := by kernel_rfl
theorem sm_code : codeOk (loopAt Try.prog 103 0) = true := by kernel_rfl
end Go.Proofs.Ytfbjpenbpbpcaaa

