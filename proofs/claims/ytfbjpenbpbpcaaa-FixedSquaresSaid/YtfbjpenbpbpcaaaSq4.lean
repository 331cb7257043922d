/-
  The square of a number of several words: the outer loop whole (fixed.square).
-/
import Derived.Test.YtfbjpenbpbpcaaaSq3
namespace Go.Proofs.Ytfbjpenbpbpcaaa
open Go Den
set_option maxRecDepth 100000
set_option linter.unusedSimpArgs false
set_option linter.unusedVariables false

theorem out_loop (Hp : Heap) (hHp : Hp.length ≤ 2) (b0 : Bool) (h1 h2 : Option Nat) (lo m : Nat) (xs zs : List Int) (hx : inD DD xs) (hz : ∀ j, zs.getD j 0 = 0) (hv : valD DD zs = 0)
    (hm : xs.length = m) (hzl : zs.length = 2 * m) (hm2 : m ≤ 1000) (hlo : lo ≤ Hp.length + 1) :
    WP Try.prog 77 (.loop (loopAt Try.prog 116 0)) ⟨outF Hp.length m 0, Hp ++ [⟨b0, h1, xs.map (.int .u64)⟩, ⟨true, h2, zs.map (.int .u64)⟩], lo⟩ (.exit 0)
      ⟨outF Hp.length m m, Hp ++ [⟨b0, h1, xs.map (.int .u64)⟩, ⟨true, h2, (sqS DD xs zs m).map (.int .u64)⟩], lo⟩ := by
  have inv := sqS_inv DD xs zs (by decide) hx hz (by omega) hv
  refine WP.loop (P := Try.prog) (nt := 77) (b := loopAt Try.prog 116 0)
    (fun i => ⟨outF Hp.length m i, Hp ++ [⟨b0, h1, xs.map (.int .u64)⟩, ⟨true, h2, (sqS DD xs zs i).map (.int .u64)⟩], lo⟩) m (x := .exit 0) (by simp)
    (fun i hi => by
      obtain ⟨i1, i2, i3, i4⟩ := inv i (by omega)
      exact out_step Hp hHp b0 h1 h2 lo m i xs _ hx i2 hm (by omega) hi hm2 hlo (fun j hj => i3 j (by omega))) ?_
  have hrun : evL Try.prog ext sqPre sqC noLoops 300 77 (loopAt Try.prog 116 0) (outF Hp.length m m) (Hp ++ [⟨b0, h1, xs.map (.int .u64)⟩, ⟨true, h2, (sqS DD xs zs m).map (.int .u64)⟩]) lo [(0, false)] [0, 3, 16, 17, 18]
      = some (.exit 0, outF Hp.length m m, Hp ++ [⟨b0, h1, xs.map (.int .u64)⟩, ⟨true, h2, (sqS DD xs zs m).map (.int .u64)⟩], lo, [(decide ((m : Int) < m), false)]) := by
    generalize sqS DD xs zs m = ws
    rcases Hp with _ | ⟨p, _ | ⟨q, _ | ⟨r, Hp⟩⟩⟩
    case cons.cons.cons => simp at hHp
    all_goals kernel_rfl
  exact WP.run (P := Try.prog) (X := ext) (pre := sqPre) (C := sqC) (N := 300) (nt := 77) progOk extSound sqC_sound codeOk116o noLoops_ok [0, 3, 16, 17, 18] hrun (by simp [Holds])

noncomputable def sqN (S0 S1 : St) : Loops := { loop := sumL 3 S0 (.exit 0) S1 }
theorem loops116f : loopsOf (bodyOf Try.prog 116) = [loopAt Try.prog 116 0, loopAt Try.prog 116 1] := by kernel_rfl
theorem first116 : firstId (loopAt Try.prog 116 1) = 7 := by kernel_rfl

theorem square_ok (Hp : Heap) (hHp : Hp.length ≤ 2) (b0 : Bool) (h1 : Option Nat) (m : Nat) (xs : List Int) (hm4 : m = 1 ∨ m = 2 ∨ m = 4) (hx : inD DD xs) (hm : xs.length = m) :
    CallOk Try.prog 116 [.slice (some ⟨Hp.length, 0, none⟩) m m] (Hp ++ [⟨b0, h1, xs.map (.int .u64)⟩]) (.slice (some ⟨Hp.length + 1, 0, none⟩) (2 * m) (2 * m))
      (Hp ++ [⟨b0, h1, xs.map (.int .u64)⟩, ⟨true, none, (digs DD (valD DD xs * valD DD xs) (2 * m)).map (.int .u64)⟩]) (Hp.length + 1) := by
  have hz : ∀ n j, (List.replicate n (0 : Int)).getD j 0 = 0 := by
    intro n j
    simp only [List.getD_eq_getElem?_getD, List.getElem?_replicate]
    split <;> rfl
  have hv : ∀ n, valD DD (List.replicate n 0) = 0 := by
    intro n
    induction n with
    | zero => rfl
    | succ n ih => simp [List.replicate_succ, valD, ih]
  have hl := out_loop Hp hHp b0 h1 none (Hp.length + 1) m xs (List.replicate (2 * m) 0) hx (hz _) (hv _) hm (by simp) (by omega) (Nat.le_refl _)
  rw [show sqS DD xs (List.replicate (2 * m) 0) m = digs DD (valD DD xs * valD DD xs) (2 * m) by rw [← hm]; exact square_eq DD xs (by decide) hx] at hl
  generalize digs DD (valD DD xs * valD DD xs) (2 * m) = ds at *
  have hsum : LoopsOk Try.prog 77 (sqN ⟨outF Hp.length m 0, Hp ++ [⟨b0, h1, xs.map (.int .u64)⟩, ⟨true, none, (List.replicate (2 * m) 0).map (.int .u64)⟩], Hp.length + 1⟩ ⟨outF Hp.length m m, Hp ++ [⟨b0, h1, xs.map (.int .u64)⟩, ⟨true, none, ds.map (.int .u64)⟩], Hp.length + 1⟩) (bodyOf Try.prog 116) := LoopsOk.sum rfl (by
    intro b hb hid
    rw [loops116f] at hb
    simp only [List.mem_cons, List.not_mem_nil, or_false] at hb
    rcases hb with rfl | rfl
    · exact hl
    · rw [first116] at hid; simp at hid)
  have hrun : evFnL Try.prog ext 300 sqPre sqC (sqN ⟨outF Hp.length m 0, Hp ++ [⟨b0, h1, xs.map (.int .u64)⟩, ⟨true, none, (List.replicate (2 * m) 0).map (.int .u64)⟩], Hp.length + 1⟩ ⟨outF Hp.length m m, Hp ++ [⟨b0, h1, xs.map (.int .u64)⟩, ⟨true, none, ds.map (.int .u64)⟩], Hp.length + 1⟩) [] 116 [.slice (some ⟨Hp.length, 0, none⟩) m m] (Hp ++ [⟨b0, h1, xs.map (.int .u64)⟩])
      = some ((.slice (some ⟨Hp.length + 1, 0, none⟩) (2 * m) (2 * m), Hp ++ [⟨b0, h1, xs.map (.int .u64)⟩, ⟨true, none, ds.map (.int .u64)⟩], Hp.length + 1),
        [(cdec (outF Hp.length m 0 = outF Hp.length m 0), true), (cdec (Hp ++ [⟨b0, h1, xs.map (.int .u64)⟩, ⟨true, none, (List.replicate (2 * m) 0).map (.int .u64)⟩] = Hp ++ [⟨b0, h1, xs.map (.int .u64)⟩, ⟨true, none, (List.replicate (2 * m) 0).map (.int .u64)⟩]), true), (cdec (Hp.length + 1 = Hp.length + 1), true)]) := by
    clear hsum hl hm
    rcases hm4 with rfl | rfl | rfl <;> rcases Hp with _ | ⟨p, _ | ⟨q, _ | ⟨r, Hp⟩⟩⟩
    case inl.cons.cons.cons => simp at hHp
    case inr.inl.cons.cons.cons => simp at hHp
    case inr.inr.cons.cons.cons => simp at hHp
    all_goals kernel_rfl
  exact fnL_ok progOk extSound sqC_sound hsum hrun (by simp [Holds, cdec])

end Go.Proofs.Ytfbjpenbpbpcaaa
