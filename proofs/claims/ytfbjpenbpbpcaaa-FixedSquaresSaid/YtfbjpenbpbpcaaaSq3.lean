/-
  The square of a number of several words: the outer loop (fixed.square).
-/
import Derived.Test.YtfbjpenbpbpcaaaSq2
namespace Go.Proofs.Ytfbjpenbpbpcaaa
open Go Den
set_option maxRecDepth 100000
set_option linter.unusedSimpArgs false
set_option linter.unusedVariables false

def outF (j m i : Nat) : Slots := [(0, .slice (some ⟨j, 0, none⟩) m m), (3, .slice (some ⟨j + 1, 0, none⟩) (2 * m) (2 * m)), (16, .slice (some ⟨j, 0, none⟩) m m), (17, .int .i64 m), (18, .int .i64 i)]

noncomputable def outN (a : Int) (S0 S1 : St) : Loops := { loop := sumL 7 S0 (.exit 2) S1, renF := fun id => match id with
  | 5 => [(5, a)]
  | _ => [] }

theorem codeOk116o : codeOk (loopAt Try.prog 116 0) = true := by kernel_rfl
theorem loops116o : loopsOf (loopAt Try.prog 116 0) = [loopAt Try.prog 116 1] := by kernel_rfl

theorem out_step (Hp : Heap) (hHp : Hp.length ≤ 2) (b0 : Bool) (h1 h2 : Option Nat) (lo m i : Nat) (xs zs : List Int) (hx : inD DD xs) (hz : inD DD zs)
    (hm : xs.length = m) (hzl : zs.length = 2 * m) (hi : i < m) (hm2 : m ≤ 1000) (hlo : lo ≤ Hp.length + 1) (hz0 : ∀ j, i + m ≤ j → zs.getD j 0 = 0) :
    WP Try.prog 77 (loopAt Try.prog 116 0) ⟨outF Hp.length m i, Hp ++ [⟨b0, h1, xs.map (.int .u64)⟩, ⟨true, h2, zs.map (.int .u64)⟩], lo⟩ .normal
      ⟨outF Hp.length m (i + 1), Hp ++ [⟨b0, h1, xs.map (.int .u64)⟩, ⟨true, h2, (rowD DD (xs.getD i 0) xs i zs).map (.int .u64)⟩], lo⟩ := by
  have hb := hx i
  have ha : isU (xs.getD i 0) = true := isU_iff.2 (by simp only [DD] at hb; omega)
  obtain ⟨r1, r2, r3, r4, r5⟩ := rowS_inv DD (xs.getD i 0) xs i zs (by decide) hb hx hz (by omega) m (by omega)
  have hin := in_loop Hp hHp b0 h1 h2 lo m i (xs.getD i 0) xs zs ha hx hz hm hzl hi hm2 hlo
  have e0 : (rowS DD (xs.getD i 0) xs i zs m).1.getD (i + m) 0 = 0 := by rw [r4 _ (by omega)]; exact hz0 _ (Nat.le_refl _)
  have hrow : rowD DD (xs.getD i 0) xs i zs = (rowS DD (xs.getD i 0) xs i zs m).1.set (i + m) (0 + (rowS DD (xs.getD i 0) xs i zs m).2) := by unfold rowD; rw [hm, e0]
  rw [hrow]
  generalize hA : xs.getD i 0 = a at *
  generalize hS : rowS DD a xs i zs m = r at *
  obtain ⟨ws, c⟩ := r
  simp only at r1 r2 r3 e0 hin ⊢
  simp only [DD] at r3
  have wi : IntKind.i64.wrap ((i : Int) + m) = ((i + m : Nat) : Int) := by rw [wrap_in (inI_iff.2 (by omega))]; omega
  have wk : IntKind.i64.wrap ((i : Int) + 1) = ((i + 1 : Nat) : Int) := by rw [wrap_in (inI_iff.2 (by omega))]; omega
  have g1 : intAt (xs.map (Value.int .u64)) (0 + Int.toNat (i : Int)) = a := by rw [intAt_map, Nat.zero_add, Int.toNat_natCast, hA]
  have g2 : isIntAt .u64 (xs.map (Value.int .u64)) (0 + Int.toNat (i : Int)) = true := isIntAt_map _ _ (by omega)
  have g3 : intAt (ws.map (Value.int .u64)) (0 + Int.toNat ((i + m : Nat) : Int)) = 0 := by rw [intAt_map, Nat.zero_add, Int.toNat_natCast, e0]
  have g4 : isIntAt .u64 (ws.map (Value.int .u64)) (0 + Int.toNat ((i + m : Nat) : Int)) = true := isIntAt_map _ _ (by omega)
  have hsum : LoopsOk Try.prog 77 (outN a ⟨inF Hp.length m i 0 a 0, Hp ++ [⟨b0, h1, xs.map (.int .u64)⟩, ⟨true, h2, zs.map (.int .u64)⟩], lo⟩ ⟨inF Hp.length m i m a c, Hp ++ [⟨b0, h1, xs.map (.int .u64)⟩, ⟨true, h2, ws.map (.int .u64)⟩], lo⟩) (loopAt Try.prog 116 0) := LoopsOk.sum rfl (by
    intro b hb _
    rw [loops116o] at hb
    simp only [List.mem_singleton] at hb
    subst hb
    exact hin)
  have hrun : evL Try.prog ext sqPre sqC (outN a ⟨inF Hp.length m i 0 a 0, Hp ++ [⟨b0, h1, xs.map (.int .u64)⟩, ⟨true, h2, zs.map (.int .u64)⟩], lo⟩ ⟨inF Hp.length m i m a c, Hp ++ [⟨b0, h1, xs.map (.int .u64)⟩, ⟨true, h2, ws.map (.int .u64)⟩], lo⟩) 300 77 (loopAt Try.prog 116 0) (outF Hp.length m i) (Hp ++ [⟨b0, h1, xs.map (.int .u64)⟩, ⟨true, h2, zs.map (.int .u64)⟩]) lo [(0, true), (0, true), (0, true), (0, true), (0, true), (0, true), (0, true)] [0, 3, 16, 17, 18]
      = some (.normal, [(0, .slice (some ⟨Hp.length, 0, none⟩) m m), (3, .slice (some ⟨Hp.length + 1, 0, none⟩) (2 * m) (2 * m)), (16, .slice (some ⟨Hp.length, 0, none⟩) m m), (17, .int .i64 m), (18, .int .i64 (IntKind.i64.wrap ((i : Int) + 1)))],
        Hp ++ [⟨b0, h1, xs.map (.int .u64)⟩, ⟨true, h2, splice (ws.map (.int .u64)) (0 + Int.toNat (IntKind.i64.wrap ((i : Int) + m))) [.int .u64 (IntKind.u64.wrap (intAt (ws.map (Value.int .u64)) (0 + Int.toNat (IntKind.i64.wrap ((i : Int) + m))) + c))]⟩], min lo (Hp.length + 1),
        [(true && decide (0 + Int.toNat (IntKind.i64.wrap ((i : Int) + m)) + 1 ≤ (ws.map (Value.int .u64)).length), true),
          (decide (0 ≤ IntKind.i64.wrap ((i : Int) + m) ∧ IntKind.i64.wrap ((i : Int) + m) < ((2 * m : Nat) : Int)), true),
          (isIntAt .u64 (ws.map (Value.int .u64)) (0 + Int.toNat (IntKind.i64.wrap ((i : Int) + m))), true),
          (decide (0 ≤ IntKind.i64.wrap ((i : Int) + m) ∧ IntKind.i64.wrap ((i : Int) + m) < ((2 * m : Nat) : Int)), true),
          (cdec (inF Hp.length m i 0 a 0 = inF Hp.length m i 0 a 0), true),
          (cdec (Hp ++ [⟨b0, h1, xs.map (.int .u64)⟩, ⟨true, h2, zs.map (.int .u64)⟩] = Hp ++ [⟨b0, h1, xs.map (.int .u64)⟩, ⟨true, h2, zs.map (.int .u64)⟩]), true), (cdec (lo = lo), true),
          (decide (intAt (xs.map (Value.int .u64)) (0 + Int.toNat (i : Int)) = a), true),
          (isIntAt .u64 (xs.map (Value.int .u64)) (0 + Int.toNat (i : Int)), true),
          (decide (0 ≤ (i : Int) ∧ (i : Int) < m), true), (decide ((i : Int) < m), true)]) := by
    rcases Hp with _ | ⟨p, _ | ⟨q, _ | ⟨r, Hp⟩⟩⟩
    case cons.cons.cons => simp at hHp
    all_goals kernel_rfl
  have h := WP.run (P := Try.prog) (X := ext) (pre := sqPre) (C := sqC) (N := 300) (nt := 77) progOk extSound sqC_sound codeOk116o hsum [0, 3, 16, 17, 18] hrun (by
    rw [wi, g1, g2, g4]
    simp [Holds, cdec]
    omega)
  rw [wi, wk, g3, Int.zero_add, Nat.zero_add, Int.toNat_natCast, wrapU_in (by omega) (by omega), splice_map _ _ _ _ (by omega), Nat.min_eq_left hlo] at h
  rw [Int.zero_add]
  exact h

end Go.Proofs.Ytfbjpenbpbpcaaa
