/-
  The square of a number of several words: the inner loop whole (fixed.square).
-/
import Derived.Test.YtfbjpenbpbpcaaaSq1
namespace Go.Proofs.Ytfbjpenbpbpcaaa
open Go Den
set_option maxRecDepth 100000
set_option linter.unusedSimpArgs false
set_option linter.unusedVariables false

theorem in_end (Hp : Heap) (hHp : Hp.length ≤ 2) (b0 : Bool) (h1 h2 : Option Nat) (lo m i : Nat) (a c : Int) (xs zs : List Int) :
    WP Try.prog 77 (loopAt Try.prog 116 1) ⟨inF Hp.length m i m a c, Hp ++ [⟨b0, h1, xs.map (.int .u64)⟩, ⟨true, h2, zs.map (.int .u64)⟩], lo⟩ (.exit 2)
      ⟨inF Hp.length m i m a c, Hp ++ [⟨b0, h1, xs.map (.int .u64)⟩, ⟨true, h2, zs.map (.int .u64)⟩], lo⟩ := by
  have key : ∀ j, j = Hp.length → WP Try.prog 77 (loopAt Try.prog 116 1) ⟨inF j m i m a c, Hp ++ [⟨b0, h1, xs.map (.int .u64)⟩, ⟨true, h2, zs.map (.int .u64)⟩], lo⟩ (.exit 2)
      ⟨inF j m i m a c, Hp ++ [⟨b0, h1, xs.map (.int .u64)⟩, ⟨true, h2, zs.map (.int .u64)⟩], lo⟩ := by
    intro j hj
    rcases Hp with _ | ⟨p, _ | ⟨q, _ | ⟨r, Hp⟩⟩⟩
    case cons.cons.cons => simp at hHp
    all_goals
      exact WP.run (P := Try.prog) (X := ext) (pre := sqPre) (C := sqC) (L := noLoops) (N := 300) (nt := 77) progOk extSound sqC_sound codeOk116 noLoops_ok (os := [(0, false)]) [0, 3, 4, 5, 6, 16, 17, 18, 23, 24, 25]
        (ob := [(decide ((m : Int) < m), false)]) (by kernel_rfl) (by simp [Holds])
  exact key _ rfl

theorem in_loop (Hp : Heap) (hHp : Hp.length ≤ 2) (b0 : Bool) (h1 h2 : Option Nat) (lo m i : Nat) (a : Int) (xs zs : List Int) (ha : isU a = true) (hx : inD DD xs) (hz : inD DD zs)
    (hm : xs.length = m) (hzl : zs.length = 2 * m) (hi : i < m) (hm2 : m ≤ 1000) (hlo : lo ≤ Hp.length + 1) :
    WP Try.prog 77 (.loop (loopAt Try.prog 116 1)) ⟨inF Hp.length m i 0 a 0, Hp ++ [⟨b0, h1, xs.map (.int .u64)⟩, ⟨true, h2, zs.map (.int .u64)⟩], lo⟩ (.exit 2)
      ⟨inF Hp.length m i m a (rowS DD a xs i zs m).2, Hp ++ [⟨b0, h1, xs.map (.int .u64)⟩, ⟨true, h2, (rowS DD a xs i zs m).1.map (.int .u64)⟩], lo⟩ := by
  have hA := isU_iff.1 ha
  have inv := rowS_inv DD a xs i zs (by decide) ⟨hA.1, by simp only [DD]; omega⟩ hx hz (by omega)
  exact WP.loop (P := Try.prog) (nt := 77) (b := loopAt Try.prog 116 1)
    (fun k => ⟨inF Hp.length m i k a (rowS DD a xs i zs k).2, Hp ++ [⟨b0, h1, xs.map (.int .u64)⟩, ⟨true, h2, (rowS DD a xs i zs k).1.map (.int .u64)⟩], lo⟩) m (x := .exit 2) (by simp)
    (fun k hk => by
      obtain ⟨i1, i2, i3, i4, i5⟩ := inv k (by omega)
      exact in_step Hp hHp b0 h1 h2 lo m i k a _ xs _ ha hx i2 i3 hm (by omega) hi hk hm2 hlo)
    (in_end Hp hHp b0 h1 h2 lo m i a _ xs _)

end Go.Proofs.Ytfbjpenbpbpcaaa
