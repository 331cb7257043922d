/-
  The evaluator over this seat's program: what is asked of the program, once; the functions without a body.
-/
import Derived.Test.YtpgmabpaiijipaaGreatDoorProg
import Derived.KernelRfl
import Derived.Test.YtpgmabpaiijipaaGreatDoorZ04
import Derived.Test.YtpgmabpaiijipaaGreatDoorBk
namespace Go.Proofs.YtpgmabpaiijipaaGreatDoor
open Go Den
set_option maxRecDepth 100000
theorem codes : ((List.range Tryz.prog.funcs.size).all fun i => match Tryz.prog.funcs[i]? with
    | some f => match f.body with
      | some c => (isOdd i || codeOk c) && !(f.name == "runtime.NumGoroutine")
      | none => true
    | none => true) = true := by kernel_rfl
theorem progOk : ProgOk Tryz.prog where
  mixed := by kernel_rfl
  code f fn c hf hb := by
    have h := List.all_eq_true.1 codes f (by
      have := (Array.getElem?_eq_some_iff.1 hf).1
      simpa using this)
    rw [hf] at h
    simp only [hb] at h
    simp only [Bool.and_eq_true, Bool.or_eq_true, Bool.not_eq_true'] at h
    exact ⟨fun ho => by rcases h.1 with h1 | h1
                        · rw [ho] at h1; cases h1
                        · exact h1, h.2⟩
  back := backOk
def ext : Ext := fun f args => match f, args with
  | 131, [.int _ x, .int _ y, .int _ c] => if c = 0 then some (.tuple #[.int .u64 (Int.ofNat ((x.toNat + y.toNat + 0) % Extern.MathBitsCarry.m64)), .int .u64 (Int.ofNat ((x.toNat + y.toNat + 0) / Extern.MathBitsCarry.m64))]) else none
  | _, _ => none
theorem add64_run (k l m : IntKind) (x y : Int) (w : World) : (callFunc 131 #[.int k x, .int l y, .int m 0]).run Tryz.prog w =
    .ok (.value (.tuple #[.int .u64 (Int.ofNat ((x.toNat + y.toNat + 0) % Extern.MathBitsCarry.m64)), .int .u64 (Int.ofNat ((x.toNat + y.toNat + 0) / Extern.MathBitsCarry.m64))])) w := by kernel_rfl
theorem extSound : XSound Tryz.prog ext := by
  intro f args v h
  unfold ext at h
  split at h
  · split at h
    · rename_i hc
      subst hc
      injection h with h
      subst h
      exact ⟨rfl, fun w => add64_run _ _ _ _ _ w⟩
    · simp at h
  · simp at h
noncomputable def run (n : Nat) : Oracle := evAll Tryz.prog ext 300 n
theorem run_sound (n : Nat) : Sound Tryz.prog (run n) := evAll_sound progOk extSound 300 n
end Go.Proofs.YtpgmabpaiijipaaGreatDoor
