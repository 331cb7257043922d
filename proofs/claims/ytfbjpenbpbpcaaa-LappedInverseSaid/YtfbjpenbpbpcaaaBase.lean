/-
  The evaluator over this seat's program: what is asked of the program, once; the functions without a body.
-/
import Derived.Test.YtfbjpenbpbpcaaaDen14
import Derived.Test.YtfbjpenbpbpcaaaProg
import Derived.KernelRfl
namespace Go.Proofs.Ytfbjpenbpbpcaaa
open Go Den

set_option maxRecDepth 100000

theorem codes : (Try.prog.funcs.toList.all fun f => match f.body with | some c => codeOk c && !(f.name == "runtime.NumGoroutine") | none => true) = true := by kernel_rfl

theorem progOk : ProgOk Try.prog where
  mixed := by kernel_rfl
  code f fn c hf hb := by
    have h := List.all_eq_true.1 codes fn (by
      have : fn ∈ Try.prog.funcs := Array.mem_of_getElem? hf
      simpa using this)
    rw [hb] at h
    simpa using h

/-- math/bits.Add64 with no carry coming in. -/
def ext : Ext := fun f args => match f, args with
  | 138, [.int _ x, .int _ y, .int _ c] => if c = 0 then some (.tuple #[.int .u64 (Int.ofNat ((x.toNat + y.toNat + 0) % Extern.MathBitsCarry.m64)), .int .u64 (Int.ofNat ((x.toNat + y.toNat + 0) / Extern.MathBitsCarry.m64))]) else none
  | _, _ => none

theorem add64_run (k l m : IntKind) (x y : Int) (w : World) : (callFunc 138 #[.int k x, .int l y, .int m 0]).run Try.prog w =
    .ok (.value (.tuple #[.int .u64 (Int.ofNat ((x.toNat + y.toNat + 0) % Extern.MathBitsCarry.m64)), .int .u64 (Int.ofNat ((x.toNat + y.toNat + 0) / Extern.MathBitsCarry.m64))])) w := by kernel_rfl

theorem extSound : XSound Try.prog ext := by
  intro f args v h
  unfold ext at h
  split at h
  · split at h
    · rename_i hc
      subst hc
      injection h with h
      subst h
      exact ⟨rfl, fun w => add64_run _ _ _ _ _ w⟩
    · simp at h
  · simp at h

/-- The evaluator, for this program. -/
noncomputable def run (n : Nat) : Oracle := evAll Try.prog ext 300 n

theorem run_sound (n : Nat) : Sound Try.prog (run n) := evAll_sound progOk extSound 300 n

end Go.Proofs.Ytfbjpenbpbpcaaa
