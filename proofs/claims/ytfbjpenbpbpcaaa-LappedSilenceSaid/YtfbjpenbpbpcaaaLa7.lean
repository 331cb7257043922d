/-
  Chapter 07: SamePcms of two rows that are the same.
-/
import Derived.Test.YtfbjpenbpbpcaaaLa6
namespace Go.Proofs.Ytfbjpenbpbpcaaa
open Go Den
set_option maxRecDepth 100000
set_option linter.unusedSimpArgs false
set_option linter.unusedVariables false

section
variable (B0 B1 B2 B3 B4 B5 B6 B8 B10 : Blk)
def smH (PL : List Int) : Heap := [B0, B1, B2, B3, B4, B5, B6, ⟨true, some 16, ints PL⟩, B8, ⟨true, some 16, ints PL⟩, B10]
def smF (n i : Nat) : Slots := [(0, .slice (some ⟨7, 0, none⟩) n 0), (1, .slice (some ⟨9, 0, none⟩) n 0), (12, .int .i64 n), (13, .int .i64 i)]
theorem codeOk90 : codeOk (loopAt Try.prog 90 0) = true := by kernel_rfl
theorem loops90 : loopsOf (bodyOf Try.prog 90) = [loopAt Try.prog 90 0] := by kernel_rfl
theorem nt90 : ntOf Try.prog 90 2 = 26 := by kernel_rfl
theorem sm_sound : Sound Try.prog (strict (nmPre (symPre [16, 18, 20, 22] noPre)) (nbC [] [(24, false)] noC)) := nb_sound _ _ (sym_sound _ noC_sound)

theorem sm_run (n i : Nat) (PS : List Value) : evL Try.prog ext (nmPre (symPre [16, 18, 20, 22] noPre)) (nbC [] [(24, false)] noC) noLoops 300 26 (loopAt Try.prog 90 0) (smF n i) [B0, B1, B2, B3, B4, B5, B6, ⟨true, some 16, PS⟩, B8, ⟨true, some 16, PS⟩, B10] 11 [(0, true), (0, true), (0, true), (0, true), (0, true)] [0, 1, 12, 13] =
  some (.normal, [(0, .slice (some ⟨7, 0, none⟩) n 0), (1, .slice (some ⟨9, 0, none⟩) n 0), (12, .int .i64 n), (13, .int .i64 (IntKind.wrap IntKind.i64 ((i : Int) + 1)))], [B0, B1, B2, B3, B4, B5, B6, ⟨true, some 16, PS⟩, B8, ⟨true, some 16, PS⟩, B10], 11,
    [(!decide (specX PS i = specX PS i), false), ((Nat.beq 16 16 && (Nat.blt 0 16 && (List.range 16).all fun j => isIntAt .i64 PS (0 + Int.toNat (i : Int) * 16 + j))), true), (decide (0 ≤ (i : Int) ∧ (i : Int) < n), true),
      ((Nat.beq 16 16 && (Nat.blt 0 16 && (List.range 16).all fun j => isIntAt .i64 PS (0 + Int.toNat (i : Int) * 16 + j))), true), (decide (0 ≤ (i : Int) ∧ (i : Int) < n), true), (decide ((i : Int) < n), true)]) := by kernel_rfl

theorem sm_step (PL : List Int) (n i : Nat) (hi : i < n) (hL : PL.length = n * 16) (hn : n ≤ 1000) :
    WP Try.prog 26 (loopAt Try.prog 90 0) ⟨smF n i, smH B0 B1 B2 B3 B4 B5 B6 B8 B10 PL, 11⟩ .normal ⟨smF n (i + 1), smH B0 B1 B2 B3 B4 B5 B6 B8 B10 PL, 11⟩ := by
  have h := WP.run (P := Try.prog) (nt := 26) progOk extSound sm_sound codeOk90 noLoops_ok [0, 1, 12, 13] (sm_run B0 B1 B2 B3 B4 B5 B6 B8 B10 n i (ints PL)) (by
    rw [spec_ints PL hi hL]
    simp [Holds]
    omega)
  rw [show IntKind.wrap IntKind.i64 ((i : Int) + 1) = ((i + 1 : Nat) : Int) by rw [wrap_in (inI_iff.2 (by omega))]; omega] at h
  exact h

theorem sm_loop (PL : List Int) (n : Nat) (hL : PL.length = n * 16) (hn : n ≤ 1000) :
    WP Try.prog 26 (.loop (loopAt Try.prog 90 0)) ⟨smF n 0, smH B0 B1 B2 B3 B4 B5 B6 B8 B10 PL, 11⟩ (.exit 0) ⟨[], smH B0 B1 B2 B3 B4 B5 B6 B8 B10 PL, 11⟩ :=
  WP.loop (fun i => ⟨smF n i, smH B0 B1 B2 B3 B4 B5 B6 B8 B10 PL, 11⟩) n (by simp) (fun i hi => sm_step B0 B1 B2 B3 B4 B5 B6 B8 B10 PL n i hi hL hn)
    (WP.run (P := Try.prog) (X := ext) (pre := noPre) (C := noC) (L := noLoops) (N := 300) (nt := 26) progOk extSound noC_sound codeOk90 noLoops_ok (os := [(0, false)]) [] (ob := [(decide ((n : Int) < n), false)]) (by kernel_rfl) (by simp [Holds]))

noncomputable def smN (PL : List Int) (n : Nat) : Loops := { loop := sumL 4 ⟨smF n 0, smH B0 B1 B2 B3 B4 B5 B6 B8 B10 PL, 11⟩ (.exit 0) ⟨[], smH B0 B1 B2 B3 B4 B5 B6 B8 B10 PL, 11⟩ }
theorem sm_fn (PL : List Int) (n : Nat) : evFnL Try.prog ext 300 noPre noC (smN B0 B1 B2 B3 B4 B5 B6 B8 B10 PL n) [(0, false)] 90 [.slice (some ⟨7, 0, none⟩) n 0, .slice (some ⟨9, 0, none⟩) n 0] (smH B0 B1 B2 B3 B4 B5 B6 B8 B10 PL) =
  some ((.bool true, smH B0 B1 B2 B3 B4 B5 B6 B8 B10 PL, 11), [(cdec (smF n 0 = smF n 0), true), (cdec (smH B0 B1 B2 B3 B4 B5 B6 B8 B10 PL = smH B0 B1 B2 B3 B4 B5 B6 B8 B10 PL), true), (cdec (11 = 11), true), ((n : Int) != n, false)]) := by kernel_rfl

theorem same_ok (PL : List Int) (n : Nat) (hL : PL.length = n * 16) (hn : n ≤ 1000) :
    CallOk Try.prog 90 [.slice (some ⟨7, 0, none⟩) n 0, .slice (some ⟨9, 0, none⟩) n 0] (smH B0 B1 B2 B3 B4 B5 B6 B8 B10 PL) (.bool true) (smH B0 B1 B2 B3 B4 B5 B6 B8 B10 PL) 11 :=
  fnL_ok progOk extSound noC_sound (show LoopsOk _ (ntOf _ _ 2) _ _ by
    rw [nt90]
    exact LoopsOk.sum rfl (fun b hb _ => by
      rw [loops90] at hb
      simp only [List.mem_singleton] at hb
      subst hb
      exact sm_loop B0 B1 B2 B3 B4 B5 B6 B8 B10 PL n hL hn)) (sm_fn B0 B1 B2 B3 B4 B5 B6 B8 B10 PL n) (by
    simp only [Holds, List.mem_cons, List.not_mem_nil, or_false, forall_eq_or_imp, forall_eq, cdec_iff]
    simp)
end
theorem same_none : CallOk Try.prog 90 [.slice none 0 0, .slice none 0 0] [] (.bool true) [] 0 :=
  pf_ok (N := 300) (L := noLoops) (os := []) (ob := []) noC_sound noLoops_ok (by kernel_rfl) (by simp [Holds]) rfl

end Go.Proofs.Ytfbjpenbpbpcaaa

