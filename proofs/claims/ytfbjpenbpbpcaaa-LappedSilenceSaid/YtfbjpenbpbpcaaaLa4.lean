/-
  Chapter 07: a round of lapped.Back, and of the reference's.
-/
import Derived.Test.YtfbjpenbpbpcaaaLa3
import Derived.Test.YtfbjpenbpbpcaaaGc
namespace Go.Proofs.Ytfbjpenbpbpcaaa
open Go Den
set_option maxRecDepth 100000
set_option linter.unusedSimpArgs false
set_option linter.unusedVariables false

def T16 (g : Nat → Int) : List Int := (List.range 16).map g
def T32 (g : Nat → Int) : List Int := (List.range 32).map g
/-- The frame's numbers of the i-th element of a row of such. -/
def specX (CS : List Value) (i : Nat) : List Int := T16 fun j => intAt CS (0 + Int.toNat (i : Int) * 16 + j)

/-- Inverse and Lap, by functions. -/
def bkX (ivo : Nat → List Int → Int) (ive : List Int → Int) (lpp lpn : Nat → List Int → List Int → Int) (lpe : List Int → List Int → Int) : Oracle := fun f args H => match H with
  | [] => match Nat.beq f 72 || Nat.beq f 73, Nat.beq f 86 || Nat.beq f 87, args with
    | true, _, [.agg cs] => match intsI cs.toList with
      | some xs => match Nat.beq xs.length 16 with
        | true => some (.tuple #[.agg (ints (T32 fun i => ivo i xs)).toArray, .int .i64 (ive xs)], [], 0)
        | false => none
      | none => none
    | _, true, [.agg cs, .agg ds] => match intsI cs.toList, intsI ds.toList with
      | some xs, some ys => match Nat.beq xs.length 16 && Nat.beq ys.length 32 with
        | true => some (lapV (T16 fun i => lpp i xs ys) (T16 fun i => lpn i xs ys) (lpe xs ys), [], 0)
        | false => none
      | _, _ => none
    | _, _, _ => none
  | _ => none

section
variable (ivo : Nat → List Int → Int) (ive : List Int → Int) (lpp lpn : Nat → List Int → List Int → Int) (lpe : List Int → List Int → Int)
def wX (CS : List Value) (i : Nat) : List Int := T32 fun k => ivo k (specX CS i)
def pX (tg : Nat → Int) (CS : List Value) (i : Nat) : List Int := T16 fun k => lpp k (T16 tg) (wX ivo CS i)
def nX (tg : Nat → Int) (CS : List Value) (i : Nat) : List Int := T16 fun k => lpn k (T16 tg) (wX ivo CS i)
def eX (tg : Nat → Int) (CS : List Value) (i : Nat) : Int := lpe (T16 tg) (wX ivo CS i)

theorem bk88_gs (n c i : Nat) (ow : Bool) (gr : Option Nat) (CS : List Value) (PS : List Value) (tg : Nat → Int) : evL Try.prog ext (symPre [13, 17, 39] noPre) (bkX ivo ive lpp lpn lpe) noLoops 300 44 (loopAt Try.prog 88 0)
    [(2, lpt 1), (5, lpt 2), (7, (.slice (some ⟨3, 0, none⟩) (i + 1) 0)), (13, .slice (some ⟨0, 0, none⟩) n c), (14, .int .i64 n), (15, .int .i64 (((i + 1) : Nat) : Int))] [⟨ow, gr, CS⟩, lbk (T16 tg), lbk zr16, ⟨true, some 16, PS⟩] 1 [(0, true), (0, true), (0, true), (1, true), (1, false), (0, true)] [2, 5, 7, 13, 14, 15] =
  some (.normal, [(2, lpt 1), (5, lpt 2), (7, .slice (some ⟨8, 0, none⟩) (i + 1 + 1) 0), (13, .slice (some ⟨0, 0, none⟩) n c), (14, .int .i64 n), (15, .int .i64 (IntKind.wrap IntKind.i64 ((((i + 1) : Nat) : Int) + 1)))],
    [⟨ow, gr, CS⟩, lbk (nX ivo lpn tg CS (i + 1)), lbk zr16, ⟨false, none, []⟩, lbk (specX CS (i + 1)), lbk (wX ivo CS (i + 1)), lbk (pX ivo lpp tg CS (i + 1)), lbk (pX ivo lpp tg CS (i + 1)), ⟨true, some 16, PS ++ ints (pX ivo lpp tg CS (i + 1))⟩], 1, [(decide (16 = 16 ∧ 0 < 16 ∧ 0 + 16 ≤ 16 ∧ (i + 1 + 1) * 128 ≤ 140737488355328 ∧ i + 1 + 1 ≤ 9223372036854775807 ∧ 16 = 16 ∧ 0 < i + 1 ∧ true = true ∧ PS.length = (i + 1) * 16), true), (eX ivo lpe tg CS (i + 1) != 0, false), (ive (specX CS (i + 1)) == 0, true), (Nat.beq 16 16 && (Nat.blt 0 16 && (List.range 16).all fun j => isIntAt .i64 CS (0 + Int.toNat (((i + 1) : Nat) : Int) * 16 + j)), true), (decide (0 ≤ (((i + 1) : Nat) : Int) ∧ (((i + 1) : Nat) : Int) < n), true), (decide ((((i + 1) : Nat) : Int) < n), true)]) := by kernel_rfl
theorem bk88_gi (n c i : Nat) (ow : Bool) (gr : Option Nat) (CS : List Value) (PS : List Value) (tg : Nat → Int) : evL Try.prog ext (symPre [13, 17, 39] noPre) (bkX ivo ive lpp lpn lpe) noLoops 300 44 (loopAt Try.prog 88 0)
    [(2, lpt 1), (5, lpt 2), (7, (.slice (some ⟨3, 0, none⟩) (i + 1) 0)), (13, .slice (some ⟨0, 0, none⟩) n c), (14, .int .i64 n), (15, .int .i64 (((i + 1) : Nat) : Int))] [⟨ow, gr, CS⟩, lbk (T16 tg), lbk zr16, ⟨true, some 16, PS⟩] 1 [(0, true), (0, true), (0, true), (1, false), (0, true)] [4, 5, 6] =
  some (.ret, [(4, .slice none 0 0), (5, lpt 2), (6, .int .i64 (ive (specX CS (i + 1))))], [⟨ow, gr, CS⟩, lbk (T16 tg), lbk zr16, ⟨true, some 16, PS⟩, lbk (specX CS (i + 1)), lbk (wX ivo CS (i + 1)), lbk zr16], 1, [(ive (specX CS (i + 1)) != 0, true), (ive (specX CS (i + 1)) == 0, false), (Nat.beq 16 16 && (Nat.blt 0 16 && (List.range 16).all fun j => isIntAt .i64 CS (0 + Int.toNat (((i + 1) : Nat) : Int) * 16 + j)), true), (decide (0 ≤ (((i + 1) : Nat) : Int) ∧ (((i + 1) : Nat) : Int) < n), true), (decide ((((i + 1) : Nat) : Int) < n), true)]) := by kernel_rfl
theorem bk88_gl (n c i : Nat) (ow : Bool) (gr : Option Nat) (CS : List Value) (PS : List Value) (tg : Nat → Int) : evL Try.prog ext (symPre [13, 17, 39] noPre) (bkX ivo ive lpp lpn lpe) noLoops 300 44 (loopAt Try.prog 88 0)
    [(2, lpt 1), (5, lpt 2), (7, (.slice (some ⟨3, 0, none⟩) (i + 1) 0)), (13, .slice (some ⟨0, 0, none⟩) n c), (14, .int .i64 n), (15, .int .i64 (((i + 1) : Nat) : Int))] [⟨ow, gr, CS⟩, lbk (T16 tg), lbk zr16, ⟨true, some 16, PS⟩] 1 [(0, true), (0, true), (0, true), (1, true), (1, true)] [4, 5, 6] =
  some (.ret, [(4, .slice none 0 0), (5, lpt 2), (6, .int .i64 (eX ivo lpe tg CS (i + 1)))], [⟨ow, gr, CS⟩, lbk (nX ivo lpn tg CS (i + 1)), lbk zr16, ⟨true, some 16, PS⟩, lbk (specX CS (i + 1)), lbk (wX ivo CS (i + 1)), lbk (pX ivo lpp tg CS (i + 1))], 1, [(eX ivo lpe tg CS (i + 1) != 0, true), (ive (specX CS (i + 1)) == 0, true), (Nat.beq 16 16 && (Nat.blt 0 16 && (List.range 16).all fun j => isIntAt .i64 CS (0 + Int.toNat (((i + 1) : Nat) : Int) * 16 + j)), true), (decide (0 ≤ (((i + 1) : Nat) : Int) ∧ (((i + 1) : Nat) : Int) < n), true), (decide ((((i + 1) : Nat) : Int) < n), true)]) := by kernel_rfl

theorem bk88_ns (n c : Nat) (ow : Bool) (gr : Option Nat) (CS : List Value) (tg : Nat → Int) : evL Try.prog ext (symPre [13, 17, 39] noPre) (bkX ivo ive lpp lpn lpe) noLoops 300 44 (loopAt Try.prog 88 0)
    [(2, lpt 1), (5, lpt 2), (7, (.slice none 0 0)), (13, .slice (some ⟨0, 0, none⟩) n c), (14, .int .i64 n), (15, .int .i64 ((0 : Nat) : Int))] [⟨ow, gr, CS⟩, lbk (T16 tg), lbk zr16] 1 [(0, true), (0, true), (0, true), (1, true), (1, false)] [2, 5, 7, 13, 14, 15] =
  some (.normal, [(2, lpt 1), (5, lpt 2), (7, .slice (some ⟨7, 0, none⟩) 1 0), (13, .slice (some ⟨0, 0, none⟩) n c), (14, .int .i64 n), (15, .int .i64 (IntKind.wrap IntKind.i64 (((0 : Nat) : Int) + 1)))],
    [⟨ow, gr, CS⟩, lbk (nX ivo lpn tg CS 0), lbk zr16, lbk (specX CS 0), lbk (wX ivo CS 0), lbk (pX ivo lpp tg CS 0), lbk (pX ivo lpp tg CS 0), ⟨true, some 16, ints (pX ivo lpp tg CS 0)⟩], 1, [(eX ivo lpe tg CS 0 != 0, false), (ive (specX CS 0) == 0, true), (Nat.beq 16 16 && (Nat.blt 0 16 && (List.range 16).all fun j => isIntAt .i64 CS (0 + Int.toNat ((0 : Nat) : Int) * 16 + j)), true), (decide (0 ≤ ((0 : Nat) : Int) ∧ ((0 : Nat) : Int) < n), true), (decide (((0 : Nat) : Int) < n), true)]) := by kernel_rfl
theorem bk88_ni (n c : Nat) (ow : Bool) (gr : Option Nat) (CS : List Value) (tg : Nat → Int) : evL Try.prog ext (symPre [13, 17, 39] noPre) (bkX ivo ive lpp lpn lpe) noLoops 300 44 (loopAt Try.prog 88 0)
    [(2, lpt 1), (5, lpt 2), (7, (.slice none 0 0)), (13, .slice (some ⟨0, 0, none⟩) n c), (14, .int .i64 n), (15, .int .i64 ((0 : Nat) : Int))] [⟨ow, gr, CS⟩, lbk (T16 tg), lbk zr16] 1 [(0, true), (0, true), (0, true), (1, false), (0, true)] [4, 5, 6] =
  some (.ret, [(4, .slice none 0 0), (5, lpt 2), (6, .int .i64 (ive (specX CS 0)))], [⟨ow, gr, CS⟩, lbk (T16 tg), lbk zr16, lbk (specX CS 0), lbk (wX ivo CS 0), lbk zr16], 1, [(ive (specX CS 0) != 0, true), (ive (specX CS 0) == 0, false), (Nat.beq 16 16 && (Nat.blt 0 16 && (List.range 16).all fun j => isIntAt .i64 CS (0 + Int.toNat ((0 : Nat) : Int) * 16 + j)), true), (decide (0 ≤ ((0 : Nat) : Int) ∧ ((0 : Nat) : Int) < n), true), (decide (((0 : Nat) : Int) < n), true)]) := by kernel_rfl
theorem bk88_nl (n c : Nat) (ow : Bool) (gr : Option Nat) (CS : List Value) (tg : Nat → Int) : evL Try.prog ext (symPre [13, 17, 39] noPre) (bkX ivo ive lpp lpn lpe) noLoops 300 44 (loopAt Try.prog 88 0)
    [(2, lpt 1), (5, lpt 2), (7, (.slice none 0 0)), (13, .slice (some ⟨0, 0, none⟩) n c), (14, .int .i64 n), (15, .int .i64 ((0 : Nat) : Int))] [⟨ow, gr, CS⟩, lbk (T16 tg), lbk zr16] 1 [(0, true), (0, true), (0, true), (1, true), (1, true)] [4, 5, 6] =
  some (.ret, [(4, .slice none 0 0), (5, lpt 2), (6, .int .i64 (eX ivo lpe tg CS 0))], [⟨ow, gr, CS⟩, lbk (nX ivo lpn tg CS 0), lbk zr16, lbk (specX CS 0), lbk (wX ivo CS 0), lbk (pX ivo lpp tg CS 0)], 1, [(eX ivo lpe tg CS 0 != 0, true), (ive (specX CS 0) == 0, true), (Nat.beq 16 16 && (Nat.blt 0 16 && (List.range 16).all fun j => isIntAt .i64 CS (0 + Int.toNat ((0 : Nat) : Int) * 16 + j)), true), (decide (0 ≤ ((0 : Nat) : Int) ∧ ((0 : Nat) : Int) < n), true), (decide (((0 : Nat) : Int) < n), true)]) := by kernel_rfl

theorem bk89_gs (n c i : Nat) (ow : Bool) (gr : Option Nat) (CS : List Value) (PS : List Value) (tg : Nat → Int) : evL Try.prog ext (symPre [14, 18, 42] noPre) (bkX ivo ive lpp lpn lpe) noLoops 300 48 (loopAt Try.prog 89 0)
    [(2, lpt 1), (5, lpt 2), (7, (.slice (some ⟨3, 0, none⟩) (i + 1) 0)), (14, .slice (some ⟨0, 0, none⟩) n c), (15, .int .i64 n), (16, .int .i64 (((i + 1) : Nat) : Int))] [⟨ow, gr, CS⟩, lbk (T16 tg), lbk zr16, ⟨true, some 16, PS⟩] 1 [(0, true), (0, true), (0, true), (1, false), (1, false), (0, true)] [2, 5, 7, 14, 15, 16] =
  some (.normal, [(2, lpt 1), (5, lpt 2), (7, .slice (some ⟨9, 0, none⟩) (i + 1 + 1) 0), (14, .slice (some ⟨0, 0, none⟩) n c), (15, .int .i64 n), (16, .int .i64 (IntKind.wrap IntKind.i64 ((((i + 1) : Nat) : Int) + 1)))],
    [⟨ow, gr, CS⟩, lbk (nX ivo lpn tg CS (i + 1)), lbk zr16, ⟨false, none, []⟩, lbk (specX CS (i + 1)), lbk (wX ivo CS (i + 1)), lbk (pX ivo lpp tg CS (i + 1)), lbk (nX ivo lpn tg CS (i + 1)), lbk (pX ivo lpp tg CS (i + 1)), ⟨true, some 16, PS ++ ints (pX ivo lpp tg CS (i + 1))⟩], 1, [(decide (16 = 16 ∧ 0 < 16 ∧ 0 + 16 ≤ 16 ∧ (i + 1 + 1) * 128 ≤ 140737488355328 ∧ i + 1 + 1 ≤ 9223372036854775807 ∧ 16 = 16 ∧ 0 < i + 1 ∧ true = true ∧ PS.length = (i + 1) * 16), true), (eX ivo lpe tg CS (i + 1) != 0, false), (ive (specX CS (i + 1)) != 0, false), (Nat.beq 16 16 && (Nat.blt 0 16 && (List.range 16).all fun j => isIntAt .i64 CS (0 + Int.toNat (((i + 1) : Nat) : Int) * 16 + j)), true), (decide (0 ≤ (((i + 1) : Nat) : Int) ∧ (((i + 1) : Nat) : Int) < n), true), (decide ((((i + 1) : Nat) : Int) < n), true)]) := by kernel_rfl
theorem bk89_gi (n c i : Nat) (ow : Bool) (gr : Option Nat) (CS : List Value) (PS : List Value) (tg : Nat → Int) : evL Try.prog ext (symPre [14, 18, 42] noPre) (bkX ivo ive lpp lpn lpe) noLoops 300 48 (loopAt Try.prog 89 0)
    [(2, lpt 1), (5, lpt 2), (7, (.slice (some ⟨3, 0, none⟩) (i + 1) 0)), (14, .slice (some ⟨0, 0, none⟩) n c), (15, .int .i64 n), (16, .int .i64 (((i + 1) : Nat) : Int))] [⟨ow, gr, CS⟩, lbk (T16 tg), lbk zr16, ⟨true, some 16, PS⟩] 1 [(0, true), (0, true), (0, true), (1, true)] [4, 5, 6] =
  some (.ret, [(4, .slice none 0 0), (5, lpt 2), (6, .int .i64 (ive (specX CS (i + 1))))], [⟨ow, gr, CS⟩, lbk (T16 tg), lbk zr16, ⟨true, some 16, PS⟩, lbk (specX CS (i + 1)), lbk (wX ivo CS (i + 1))], 1, [(ive (specX CS (i + 1)) != 0, true), (Nat.beq 16 16 && (Nat.blt 0 16 && (List.range 16).all fun j => isIntAt .i64 CS (0 + Int.toNat (((i + 1) : Nat) : Int) * 16 + j)), true), (decide (0 ≤ (((i + 1) : Nat) : Int) ∧ (((i + 1) : Nat) : Int) < n), true), (decide ((((i + 1) : Nat) : Int) < n), true)]) := by kernel_rfl
theorem bk89_gl (n c i : Nat) (ow : Bool) (gr : Option Nat) (CS : List Value) (PS : List Value) (tg : Nat → Int) : evL Try.prog ext (symPre [14, 18, 42] noPre) (bkX ivo ive lpp lpn lpe) noLoops 300 48 (loopAt Try.prog 89 0)
    [(2, lpt 1), (5, lpt 2), (7, (.slice (some ⟨3, 0, none⟩) (i + 1) 0)), (14, .slice (some ⟨0, 0, none⟩) n c), (15, .int .i64 n), (16, .int .i64 (((i + 1) : Nat) : Int))] [⟨ow, gr, CS⟩, lbk (T16 tg), lbk zr16, ⟨true, some 16, PS⟩] 1 [(0, true), (0, true), (0, true), (1, false), (1, true)] [4, 5, 6] =
  some (.ret, [(4, .slice none 0 0), (5, lpt 2), (6, .int .i64 (eX ivo lpe tg CS (i + 1)))], [⟨ow, gr, CS⟩, lbk (T16 tg), lbk zr16, ⟨true, some 16, PS⟩, lbk (specX CS (i + 1)), lbk (wX ivo CS (i + 1)), lbk (pX ivo lpp tg CS (i + 1)), lbk (nX ivo lpn tg CS (i + 1))], 1, [(eX ivo lpe tg CS (i + 1) != 0, true), (ive (specX CS (i + 1)) != 0, false), (Nat.beq 16 16 && (Nat.blt 0 16 && (List.range 16).all fun j => isIntAt .i64 CS (0 + Int.toNat (((i + 1) : Nat) : Int) * 16 + j)), true), (decide (0 ≤ (((i + 1) : Nat) : Int) ∧ (((i + 1) : Nat) : Int) < n), true), (decide ((((i + 1) : Nat) : Int) < n), true)]) := by kernel_rfl

theorem bk89_ns (n c : Nat) (ow : Bool) (gr : Option Nat) (CS : List Value) (tg : Nat → Int) : evL Try.prog ext (symPre [14, 18, 42] noPre) (bkX ivo ive lpp lpn lpe) noLoops 300 48 (loopAt Try.prog 89 0)
    [(2, lpt 1), (5, lpt 2), (7, (.slice none 0 0)), (14, .slice (some ⟨0, 0, none⟩) n c), (15, .int .i64 n), (16, .int .i64 ((0 : Nat) : Int))] [⟨ow, gr, CS⟩, lbk (T16 tg), lbk zr16] 1 [(0, true), (0, true), (0, true), (1, false), (1, false)] [2, 5, 7, 14, 15, 16] =
  some (.normal, [(2, lpt 1), (5, lpt 2), (7, .slice (some ⟨8, 0, none⟩) 1 0), (14, .slice (some ⟨0, 0, none⟩) n c), (15, .int .i64 n), (16, .int .i64 (IntKind.wrap IntKind.i64 (((0 : Nat) : Int) + 1)))],
    [⟨ow, gr, CS⟩, lbk (nX ivo lpn tg CS 0), lbk zr16, lbk (specX CS 0), lbk (wX ivo CS 0), lbk (pX ivo lpp tg CS 0), lbk (nX ivo lpn tg CS 0), lbk (pX ivo lpp tg CS 0), ⟨true, some 16, ints (pX ivo lpp tg CS 0)⟩], 1, [(eX ivo lpe tg CS 0 != 0, false), (ive (specX CS 0) != 0, false), (Nat.beq 16 16 && (Nat.blt 0 16 && (List.range 16).all fun j => isIntAt .i64 CS (0 + Int.toNat ((0 : Nat) : Int) * 16 + j)), true), (decide (0 ≤ ((0 : Nat) : Int) ∧ ((0 : Nat) : Int) < n), true), (decide (((0 : Nat) : Int) < n), true)]) := by kernel_rfl
theorem bk89_ni (n c : Nat) (ow : Bool) (gr : Option Nat) (CS : List Value) (tg : Nat → Int) : evL Try.prog ext (symPre [14, 18, 42] noPre) (bkX ivo ive lpp lpn lpe) noLoops 300 48 (loopAt Try.prog 89 0)
    [(2, lpt 1), (5, lpt 2), (7, (.slice none 0 0)), (14, .slice (some ⟨0, 0, none⟩) n c), (15, .int .i64 n), (16, .int .i64 ((0 : Nat) : Int))] [⟨ow, gr, CS⟩, lbk (T16 tg), lbk zr16] 1 [(0, true), (0, true), (0, true), (1, true)] [4, 5, 6] =
  some (.ret, [(4, .slice none 0 0), (5, lpt 2), (6, .int .i64 (ive (specX CS 0)))], [⟨ow, gr, CS⟩, lbk (T16 tg), lbk zr16, lbk (specX CS 0), lbk (wX ivo CS 0)], 1, [(ive (specX CS 0) != 0, true), (Nat.beq 16 16 && (Nat.blt 0 16 && (List.range 16).all fun j => isIntAt .i64 CS (0 + Int.toNat ((0 : Nat) : Int) * 16 + j)), true), (decide (0 ≤ ((0 : Nat) : Int) ∧ ((0 : Nat) : Int) < n), true), (decide (((0 : Nat) : Int) < n), true)]) := by kernel_rfl
theorem bk89_nl (n c : Nat) (ow : Bool) (gr : Option Nat) (CS : List Value) (tg : Nat → Int) : evL Try.prog ext (symPre [14, 18, 42] noPre) (bkX ivo ive lpp lpn lpe) noLoops 300 48 (loopAt Try.prog 89 0)
    [(2, lpt 1), (5, lpt 2), (7, (.slice none 0 0)), (14, .slice (some ⟨0, 0, none⟩) n c), (15, .int .i64 n), (16, .int .i64 ((0 : Nat) : Int))] [⟨ow, gr, CS⟩, lbk (T16 tg), lbk zr16] 1 [(0, true), (0, true), (0, true), (1, false), (1, true)] [4, 5, 6] =
  some (.ret, [(4, .slice none 0 0), (5, lpt 2), (6, .int .i64 (eX ivo lpe tg CS 0))], [⟨ow, gr, CS⟩, lbk (T16 tg), lbk zr16, lbk (specX CS 0), lbk (wX ivo CS 0), lbk (pX ivo lpp tg CS 0), lbk (nX ivo lpn tg CS 0)], 1, [(eX ivo lpe tg CS 0 != 0, true), (ive (specX CS 0) != 0, false), (Nat.beq 16 16 && (Nat.blt 0 16 && (List.range 16).all fun j => isIntAt .i64 CS (0 + Int.toNat ((0 : Nat) : Int) * 16 + j)), true), (decide (0 ≤ ((0 : Nat) : Int) ∧ ((0 : Nat) : Int) < n), true), (decide (((0 : Nat) : Int) < n), true)]) := by kernel_rfl

end
end Go.Proofs.Ytfbjpenbpbpcaaa

