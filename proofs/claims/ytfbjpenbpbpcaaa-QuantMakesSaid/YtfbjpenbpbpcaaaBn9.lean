/-
  Chapter 08: the law BandsShares as a call.
-/
import Derived.Test.YtfbjpenbpbpcaaaZL
import Derived.Test.YtfbjpenbpbpcaaaArrW
namespace Go.Proofs.Ytfbjpenbpbpcaaa
open Go Den
set_option maxRecDepth 100000
set_option linter.unusedSimpArgs false
set_option linter.unusedVariables false

/-- live is told. -/
def lvT : Oracle := fun f args H => match H, f, args with
  | [], 75, [] => some (.bool true, [], 0)
  | _, _, _ => none
theorem lvT_sound : Sound Try.prog lvT := by
  intro f args H v H' l h
  unfold lvT at h
  split at h
  · simp only [Option.some.injEq, Prod.mk.injEq] at h; obtain ⟨rfl, rfl, rfl⟩ := h
    exact live8_ok
  · simp at h
noncomputable def o8 : Oracle := orElse lvT x8a
theorem o8_plain : Sound Try.prog o8 := lvT_sound.or x8a_sound
theorem o8_sound : Sound Try.prog (strict noPre o8) := plain_sound o8_plain

theorem bs_run (x0 x1 x2 x3 x4 x5 x6 x7 x8 x9 x10 x11 x12 x13 x14 x15 a b c d e g bud : Int) : (evFnL Try.prog ext 300 (nmPre noPre) (nbC [] (allT [75, 80, 85, 90, 95, 100, 105, 110]) o8) noLoops [] 18 [.agg (ints [x0, x1, x2, x3, x4, x5, x6, x7, x8, x9, x10, x11, x12, x13, x14, x15]).toArray, .agg (ints [a, b, c, d, e, g]).toArray, .int .i64 bud] []).map (fun r => (r.1.1, r.2)) =
  some (.bool true, [(she (L6 (lvl [x0, x1, x2, x3, x4, x5, x6, x7, x8, x9, x10, x11, x12, x13, x14, x15])) bud == she (L6 (lvl [x0, x1, x2, x3, x4, x5, x6, x7, x8, x9, x10, x11, x12, x13, x14, x15])) bud, true), (decide (L6 (shl (L6 (lvl [x0, x1, x2, x3, x4, x5, x6, x7, x8, x9, x10, x11, x12, x13, x14, x15])) bud) = L6 (shl (L6 (lvl [x0, x1, x2, x3, x4, x5, x6, x7, x8, x9, x10, x11, x12, x13, x14, x15])) bud)), true), (she [a, b, c, d, e, g] bud == she [a, b, c, d, e, g] bud, true), (decide (L6 (shl [a, b, c, d, e, g] bud) = L6 (shl [a, b, c, d, e, g] bud)), true), (mke [a, b, c, d, e, g] == mke [a, b, c, d, e, g], true), (decide (L6 (mkl [a, b, c, d, e, g]) = L6 (mkl [a, b, c, d, e, g])), true), (lve [x0, x1, x2, x3, x4, x5, x6, x7, x8, x9, x10, x11, x12, x13, x14, x15] == lve [x0, x1, x2, x3, x4, x5, x6, x7, x8, x9, x10, x11, x12, x13, x14, x15], true), (decide (L6 (lvl [x0, x1, x2, x3, x4, x5, x6, x7, x8, x9, x10, x11, x12, x13, x14, x15]) = L6 (lvl [x0, x1, x2, x3, x4, x5, x6, x7, x8, x9, x10, x11, x12, x13, x14, x15])), true)]) := by kernel_rfl
theorem shares_call (xs : List Int) (hx : xs.length = 16) (l : List Int) (hl : l.length = 6) (bud : Int) : CallOk Try.prog 18 [.agg (ints xs).toArray, .agg (ints l).toArray, .int .i64 bud] [] (.bool true) [] 0 := by
  obtain ⟨x0, x1, x2, x3, x4, x5, x6, x7, x8, x9, x10, x11, x12, x13, x14, x15, rfl⟩ := six_len16 xs hx
  obtain ⟨a, b, c, d, e, g, rfl⟩ := six_ex l hl
  exact pf_ok (nb_sound [] (allT [75, 80, 85, 90, 95, 100, 105, 110]) o8_sound) noLoops_ok (bs_run x0 x1 x2 x3 x4 x5 x6 x7 x8 x9 x10 x11 x12 x13 x14 x15 a b c d e g bud) (by
    simp only [Holds, List.mem_cons, List.not_mem_nil, or_false, forall_eq_or_imp, forall_eq]
    exact ⟨beq_self_eq_true _, decide_eq_true trivial, beq_self_eq_true _, decide_eq_true trivial, beq_self_eq_true _, decide_eq_true trivial, beq_self_eq_true _, decide_eq_true trivial⟩) rfl
end Go.Proofs.Ytfbjpenbpbpcaaa

