/-
  Chapter 07: lapped.Inverse, round by round.
-/
import Derived.Test.YtfbjpenbpbpcaaaZG
namespace Go.Proofs.Ytfbjpenbpbpcaaa
open Go Den
set_option maxRecDepth 100000
set_option linter.unusedSimpArgs false
set_option linter.unusedVariables false

def colL (n : Nat) : List Int := rowsL.map fun r => r.getD n 0
def outK (xs : List Int) (k : Nat) : List Int := (List.range 32).map fun n => dotW (xs.take k) (colL n)
def invG (rd : Int → Int → Int) (xs : List Int) : List Int := (List.range 32).map fun n => rd (IntKind.wrap IntKind.i64 (rd (dotW xs (colL n)) 20 * winL.getD n 0)) 27

def invL : Loops := { keys := fun id F => match id with
  | 10 => [1, 2, 4, 5, 23, 24, 28, 29, 30]
  | 16 => [2, 4, 47]
  | _ => keysOf F }
def ivF (k : Nat) : Slots := [(1, .pointer (some ⟨0, 0, none⟩)), (2, .pointer (some ⟨1, 0, none⟩)), (4, .pointer (some ⟨18, 0, none⟩)), (23, .agg (slL 2).toArray), (24, .int .i64 k)]
def ivH (xs : List Int) (k : Nat) : Heap := ⟨true, none, ints xs⟩ :: ⟨true, none, ints (outK xs k)⟩ :: (rowBlks ++ [⟨true, none, ints winL ++ slL 2⟩])
def x7i : Oracle := frameC (orElse bdO (orElse msO (orElse x7a rdO)))
theorem x7i_all : Sound Try.prog x7i := unframe (bdO_sound.or (msO_sound.or (x7a_sound.or rdO_sound)))
theorem x7i_sound : Sound Try.prog (strict noPre x7i) := plain_sound x7i_all

theorem inv_run0 (x0 x1 x2 x3 x4 x5 x6 x7 x8 x9 x10 x11 x12 x13 x14 x15 : Int) : (List.range' 0 4).map (fun (k : Nat) => evL Try.prog ext noPre x7i invL 300 64 (loopAt Try.prog 72 0) (ivF k) (ivH [x0, x1, x2, x3, x4, x5, x6, x7, x8, x9, x10, x11, x12, x13, x14, x15] k) 0 [] [1, 2, 4, 23, 24]) =
    (List.range' 0 4).map fun (k : Nat) => some (.normal, ivF (k + 1), ivH [x0, x1, x2, x3, x4, x5, x6, x7, x8, x9, x10, x11, x12, x13, x14, x15] (k + 1), 0, []) := by kernel_rfl

theorem inv_run1 (x0 x1 x2 x3 x4 x5 x6 x7 x8 x9 x10 x11 x12 x13 x14 x15 : Int) : (List.range' 4 4).map (fun (k : Nat) => evL Try.prog ext noPre x7i invL 300 64 (loopAt Try.prog 72 0) (ivF k) (ivH [x0, x1, x2, x3, x4, x5, x6, x7, x8, x9, x10, x11, x12, x13, x14, x15] k) 0 [] [1, 2, 4, 23, 24]) =
    (List.range' 4 4).map fun (k : Nat) => some (.normal, ivF (k + 1), ivH [x0, x1, x2, x3, x4, x5, x6, x7, x8, x9, x10, x11, x12, x13, x14, x15] (k + 1), 0, []) := by kernel_rfl

theorem inv_run2 (x0 x1 x2 x3 x4 x5 x6 x7 x8 x9 x10 x11 x12 x13 x14 x15 : Int) : (List.range' 8 4).map (fun (k : Nat) => evL Try.prog ext noPre x7i invL 300 64 (loopAt Try.prog 72 0) (ivF k) (ivH [x0, x1, x2, x3, x4, x5, x6, x7, x8, x9, x10, x11, x12, x13, x14, x15] k) 0 [] [1, 2, 4, 23, 24]) =
    (List.range' 8 4).map fun (k : Nat) => some (.normal, ivF (k + 1), ivH [x0, x1, x2, x3, x4, x5, x6, x7, x8, x9, x10, x11, x12, x13, x14, x15] (k + 1), 0, []) := by kernel_rfl

theorem inv_run3 (x0 x1 x2 x3 x4 x5 x6 x7 x8 x9 x10 x11 x12 x13 x14 x15 : Int) : (List.range' 12 4).map (fun (k : Nat) => evL Try.prog ext noPre x7i invL 300 64 (loopAt Try.prog 72 0) (ivF k) (ivH [x0, x1, x2, x3, x4, x5, x6, x7, x8, x9, x10, x11, x12, x13, x14, x15] k) 0 [] [1, 2, 4, 23, 24]) =
    (List.range' 12 4).map fun (k : Nat) => some (.normal, ivF (k + 1), ivH [x0, x1, x2, x3, x4, x5, x6, x7, x8, x9, x10, x11, x12, x13, x14, x15] (k + 1), 0, []) := by kernel_rfl

end Go.Proofs.Ytfbjpenbpbpcaaa

