/-
  Chapter 07: the reference's Inverse, round by round.
-/
import Derived.Test.YtfbjpenbpbpcaaaLp10
namespace Go.Proofs.Ytfbjpenbpbpcaaa
open Go Den
set_option maxRecDepth 100000
set_option linter.unusedSimpArgs false
set_option linter.unusedVariables false

def rivL : Loops := { keys := fun id F => match id with
  | 10 => [1, 2, 4, 5, 6, 7, 14, 17]
  | _ => keysOf F }
def rvF (k : Nat) : Slots := [(1, .pointer (some ⟨0, 0, none⟩)), (2, .pointer (some ⟨1, 0, none⟩)), (4, .pointer (some ⟨2, 0, none⟩)), (5, .pointer (some ⟨3, 0, none⟩)), (14, .int .i64 k)]
def rvH (xs : List Int) (k : Nat) : Heap := [⟨true, none, ints xs⟩, ⟨true, none, ints (List.replicate 32 0)⟩, ⟨true, none, ints ((invG raw46 xs).take k ++ List.replicate (32 - k) 0)⟩, ⟨true, none, ints (cosL ++ sinL)⟩]
noncomputable def rvC : Oracle := orElse x7i (over x7i 1)

theorem riv_run0 (x0 x1 x2 x3 x4 x5 x6 x7 x8 x9 x10 x11 x12 x13 x14 x15 : Int) : (List.range' 0 4).map (fun (k : Nat) => evL Try.prog ext noPre rvC rivL 300 42 (loopAt Try.prog 73 0) (rvF k) (rvH [x0, x1, x2, x3, x4, x5, x6, x7, x8, x9, x10, x11, x12, x13, x14, x15] k) 0 [] [1, 2, 4, 5, 14]) =
    (List.range' 0 4).map fun (k : Nat) => some (.normal, rvF (k + 1), rvH [x0, x1, x2, x3, x4, x5, x6, x7, x8, x9, x10, x11, x12, x13, x14, x15] (k + 1), 0, []) := by kernel_rfl

theorem riv_run1 (x0 x1 x2 x3 x4 x5 x6 x7 x8 x9 x10 x11 x12 x13 x14 x15 : Int) : (List.range' 4 4).map (fun (k : Nat) => evL Try.prog ext noPre rvC rivL 300 42 (loopAt Try.prog 73 0) (rvF k) (rvH [x0, x1, x2, x3, x4, x5, x6, x7, x8, x9, x10, x11, x12, x13, x14, x15] k) 0 [] [1, 2, 4, 5, 14]) =
    (List.range' 4 4).map fun (k : Nat) => some (.normal, rvF (k + 1), rvH [x0, x1, x2, x3, x4, x5, x6, x7, x8, x9, x10, x11, x12, x13, x14, x15] (k + 1), 0, []) := by kernel_rfl

theorem riv_run2 (x0 x1 x2 x3 x4 x5 x6 x7 x8 x9 x10 x11 x12 x13 x14 x15 : Int) : (List.range' 8 4).map (fun (k : Nat) => evL Try.prog ext noPre rvC rivL 300 42 (loopAt Try.prog 73 0) (rvF k) (rvH [x0, x1, x2, x3, x4, x5, x6, x7, x8, x9, x10, x11, x12, x13, x14, x15] k) 0 [] [1, 2, 4, 5, 14]) =
    (List.range' 8 4).map fun (k : Nat) => some (.normal, rvF (k + 1), rvH [x0, x1, x2, x3, x4, x5, x6, x7, x8, x9, x10, x11, x12, x13, x14, x15] (k + 1), 0, []) := by kernel_rfl

theorem riv_run3 (x0 x1 x2 x3 x4 x5 x6 x7 x8 x9 x10 x11 x12 x13 x14 x15 : Int) : (List.range' 12 4).map (fun (k : Nat) => evL Try.prog ext noPre rvC rivL 300 42 (loopAt Try.prog 73 0) (rvF k) (rvH [x0, x1, x2, x3, x4, x5, x6, x7, x8, x9, x10, x11, x12, x13, x14, x15] k) 0 [] [1, 2, 4, 5, 14]) =
    (List.range' 12 4).map fun (k : Nat) => some (.normal, rvF (k + 1), rvH [x0, x1, x2, x3, x4, x5, x6, x7, x8, x9, x10, x11, x12, x13, x14, x15] (k + 1), 0, []) := by kernel_rfl

theorem riv_run4 (x0 x1 x2 x3 x4 x5 x6 x7 x8 x9 x10 x11 x12 x13 x14 x15 : Int) : (List.range' 16 4).map (fun (k : Nat) => evL Try.prog ext noPre rvC rivL 300 42 (loopAt Try.prog 73 0) (rvF k) (rvH [x0, x1, x2, x3, x4, x5, x6, x7, x8, x9, x10, x11, x12, x13, x14, x15] k) 0 [] [1, 2, 4, 5, 14]) =
    (List.range' 16 4).map fun (k : Nat) => some (.normal, rvF (k + 1), rvH [x0, x1, x2, x3, x4, x5, x6, x7, x8, x9, x10, x11, x12, x13, x14, x15] (k + 1), 0, []) := by kernel_rfl

theorem riv_run5 (x0 x1 x2 x3 x4 x5 x6 x7 x8 x9 x10 x11 x12 x13 x14 x15 : Int) : (List.range' 20 4).map (fun (k : Nat) => evL Try.prog ext noPre rvC rivL 300 42 (loopAt Try.prog 73 0) (rvF k) (rvH [x0, x1, x2, x3, x4, x5, x6, x7, x8, x9, x10, x11, x12, x13, x14, x15] k) 0 [] [1, 2, 4, 5, 14]) =
    (List.range' 20 4).map fun (k : Nat) => some (.normal, rvF (k + 1), rvH [x0, x1, x2, x3, x4, x5, x6, x7, x8, x9, x10, x11, x12, x13, x14, x15] (k + 1), 0, []) := by kernel_rfl

theorem riv_run6 (x0 x1 x2 x3 x4 x5 x6 x7 x8 x9 x10 x11 x12 x13 x14 x15 : Int) : (List.range' 24 4).map (fun (k : Nat) => evL Try.prog ext noPre rvC rivL 300 42 (loopAt Try.prog 73 0) (rvF k) (rvH [x0, x1, x2, x3, x4, x5, x6, x7, x8, x9, x10, x11, x12, x13, x14, x15] k) 0 [] [1, 2, 4, 5, 14]) =
    (List.range' 24 4).map fun (k : Nat) => some (.normal, rvF (k + 1), rvH [x0, x1, x2, x3, x4, x5, x6, x7, x8, x9, x10, x11, x12, x13, x14, x15] (k + 1), 0, []) := by kernel_rfl

theorem riv_run7 (x0 x1 x2 x3 x4 x5 x6 x7 x8 x9 x10 x11 x12 x13 x14 x15 : Int) : (List.range' 28 4).map (fun (k : Nat) => evL Try.prog ext noPre rvC rivL 300 42 (loopAt Try.prog 73 0) (rvF k) (rvH [x0, x1, x2, x3, x4, x5, x6, x7, x8, x9, x10, x11, x12, x13, x14, x15] k) 0 [] [1, 2, 4, 5, 14]) =
    (List.range' 28 4).map fun (k : Nat) => some (.normal, rvF (k + 1), rvH [x0, x1, x2, x3, x4, x5, x6, x7, x8, x9, x10, x11, x12, x13, x14, x15] (k + 1), 0, []) := by kernel_rfl

end Go.Proofs.Ytfbjpenbpbpcaaa

