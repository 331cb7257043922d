/-
  A verified evaluator: what is asked of the closure of slices.Backward: a call of yield for each place of the row, the last first.
-/
import Derived.RangeFuncSeq
import Derived.Test.YtfbjpenbpbpcaaaZA
namespace Go.Proofs.Ytfbjpenbpbpcaaa.Den
open Go

/-- The closures of slices.Backward in this program. -/
def isBk (f : FuncId) : Bool := Nat.beq f 139

/-- J k: k places have not come. -/
structure BackOk (P : Program) (f : FuncId) : Prop where
  enters : ∀ (args : Array Value) (w : World), (callFunc f args).run P w = .ok (.enter f args) w
  calls : ∀ (l br bo b off len cap : Nat) (J : Nat → World → Prop) (Jx : World → Prop) (W : World), len ≤ cap → len ≤ 4294967296 →
    W.cell? ⟨br, bo, none⟩ = some (.slice (some ⟨b, off, none⟩) len cap) →
    (∀ k W, k < len → J (k + 1) W → W.cell? ⟨br, bo, none⟩ = some (.slice (some ⟨b, off, none⟩) len cap) ∧ ∃ v : Int, W.cell? ⟨b, off + k, none⟩ = some (.int .i64 v) ∧
      YieldAt Fence.wide 0 P l #[.int .i64 (k : Nat), .int .i64 v] W fun e W' => (e = .returned (.bool true) ∧ J k W') ∨ (e = .returned (.bool false) ∧ Jx W')) →
    J len W → CallsIn Fence.wide 0 P f #[.func (.yield l) #[] #[], .pointer (some ⟨br, bo, none⟩)] W fun e W' => (∃ v, e = .returned v) ∧ (J 0 W' ∨ Jx W')

end Go.Proofs.Ytfbjpenbpbpcaaa.Den

