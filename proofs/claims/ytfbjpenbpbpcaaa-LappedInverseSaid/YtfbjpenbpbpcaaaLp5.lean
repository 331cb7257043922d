/-
  Chapter 07: the reference's Forward, round by round.
-/
import Derived.Test.YtfbjpenbpbpcaaaLp3
namespace Go.Proofs.Ytfbjpenbpbpcaaa
open Go Den
set_option maxRecDepth 100000
set_option linter.unusedSimpArgs false
set_option linter.unusedVariables false

def rfwL : Loops := { keys := fun id F => match id with
  | 10 => [2, 3, 4, 6, 7, 8, 9, 22, 25]
  | _ => keysOf F }
def rfF (k : Nat) : Slots := [(2, .pointer (some ⟨0, 0, none⟩)), (3, .pointer (some ⟨1, 0, none⟩)), (4, .pointer (some ⟨2, 0, none⟩)), (6, .pointer (some ⟨3, 0, none⟩)), (7, .pointer (some ⟨4, 0, none⟩)), (22, .int .i64 k)]
def rfH (P C : List Int) (k : Nat) : Heap := [⟨true, none, ints P⟩, ⟨true, none, ints C⟩, ⟨true, none, ints (List.replicate 16 0)⟩, ⟨true, none, ints ((fwdG raw46 (P ++ C)).take k ++ List.replicate (16 - k) 0)⟩, ⟨true, none, ints (cosL ++ sinL)⟩]
noncomputable def rfC : Oracle := orElse (frameC x7) (over (frameC x7) 1)

theorem rfw_run0 (p0 p1 p2 p3 p4 p5 p6 p7 p8 p9 p10 p11 p12 p13 p14 p15 c0 c1 c2 c3 c4 c5 c6 c7 c8 c9 c10 c11 c12 c13 c14 c15 : Int) : (List.range' 0 4).map (fun (k : Nat) => evL Try.prog ext noPre rfC rfwL 300 57 (loopAt Try.prog 67 0) (rfF k) (rfH [p0, p1, p2, p3, p4, p5, p6, p7, p8, p9, p10, p11, p12, p13, p14, p15] [c0, c1, c2, c3, c4, c5, c6, c7, c8, c9, c10, c11, c12, c13, c14, c15] k) 0 [] [2, 3, 4, 6, 7, 22]) =
    (List.range' 0 4).map fun (k : Nat) => some (.normal, rfF (k + 1), rfH [p0, p1, p2, p3, p4, p5, p6, p7, p8, p9, p10, p11, p12, p13, p14, p15] [c0, c1, c2, c3, c4, c5, c6, c7, c8, c9, c10, c11, c12, c13, c14, c15] (k + 1), 0, []) := by kernel_rfl

theorem rfw_run1 (p0 p1 p2 p3 p4 p5 p6 p7 p8 p9 p10 p11 p12 p13 p14 p15 c0 c1 c2 c3 c4 c5 c6 c7 c8 c9 c10 c11 c12 c13 c14 c15 : Int) : (List.range' 4 4).map (fun (k : Nat) => evL Try.prog ext noPre rfC rfwL 300 57 (loopAt Try.prog 67 0) (rfF k) (rfH [p0, p1, p2, p3, p4, p5, p6, p7, p8, p9, p10, p11, p12, p13, p14, p15] [c0, c1, c2, c3, c4, c5, c6, c7, c8, c9, c10, c11, c12, c13, c14, c15] k) 0 [] [2, 3, 4, 6, 7, 22]) =
    (List.range' 4 4).map fun (k : Nat) => some (.normal, rfF (k + 1), rfH [p0, p1, p2, p3, p4, p5, p6, p7, p8, p9, p10, p11, p12, p13, p14, p15] [c0, c1, c2, c3, c4, c5, c6, c7, c8, c9, c10, c11, c12, c13, c14, c15] (k + 1), 0, []) := by kernel_rfl

theorem rfw_run2 (p0 p1 p2 p3 p4 p5 p6 p7 p8 p9 p10 p11 p12 p13 p14 p15 c0 c1 c2 c3 c4 c5 c6 c7 c8 c9 c10 c11 c12 c13 c14 c15 : Int) : (List.range' 8 4).map (fun (k : Nat) => evL Try.prog ext noPre rfC rfwL 300 57 (loopAt Try.prog 67 0) (rfF k) (rfH [p0, p1, p2, p3, p4, p5, p6, p7, p8, p9, p10, p11, p12, p13, p14, p15] [c0, c1, c2, c3, c4, c5, c6, c7, c8, c9, c10, c11, c12, c13, c14, c15] k) 0 [] [2, 3, 4, 6, 7, 22]) =
    (List.range' 8 4).map fun (k : Nat) => some (.normal, rfF (k + 1), rfH [p0, p1, p2, p3, p4, p5, p6, p7, p8, p9, p10, p11, p12, p13, p14, p15] [c0, c1, c2, c3, c4, c5, c6, c7, c8, c9, c10, c11, c12, c13, c14, c15] (k + 1), 0, []) := by kernel_rfl

theorem rfw_run3 (p0 p1 p2 p3 p4 p5 p6 p7 p8 p9 p10 p11 p12 p13 p14 p15 c0 c1 c2 c3 c4 c5 c6 c7 c8 c9 c10 c11 c12 c13 c14 c15 : Int) : (List.range' 12 4).map (fun (k : Nat) => evL Try.prog ext noPre rfC rfwL 300 57 (loopAt Try.prog 67 0) (rfF k) (rfH [p0, p1, p2, p3, p4, p5, p6, p7, p8, p9, p10, p11, p12, p13, p14, p15] [c0, c1, c2, c3, c4, c5, c6, c7, c8, c9, c10, c11, c12, c13, c14, c15] k) 0 [] [2, 3, 4, 6, 7, 22]) =
    (List.range' 12 4).map fun (k : Nat) => some (.normal, rfF (k + 1), rfH [p0, p1, p2, p3, p4, p5, p6, p7, p8, p9, p10, p11, p12, p13, p14, p15] [c0, c1, c2, c3, c4, c5, c6, c7, c8, c9, c10, c11, c12, c13, c14, c15] (k + 1), 0, []) := by kernel_rfl

end Go.Proofs.Ytfbjpenbpbpcaaa
