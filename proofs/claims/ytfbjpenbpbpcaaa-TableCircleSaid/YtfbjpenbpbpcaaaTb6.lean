/-
  Chapter 06: the law TableCircle as a call.
-/
import Derived.Test.YtfbjpenbpbpcaaaTb5
namespace Go.Proofs.Ytfbjpenbpbpcaaa
open Go Den
set_option maxRecDepth 100000
set_option linter.unusedSimpArgs false
set_option linter.unusedVariables false

def offZ (a b : Int) : Int := IntKind.wrap IntKind.i64 (IntKind.wrap IntKind.i64 (IntKind.wrap IntKind.i64 (a * a) + IntKind.wrap IntKind.i64 (b * b)) - 281474976710656)
theorem circ_all : (List.range 128).all (fun r => !(decide (offZ (cosZ (r : Int)) (sinZ (r : Int)) < -134217728)) && !(decide (offZ (cosZ (r : Int)) (sinZ (r : Int)) > 134217728))) = true := by kernel_rfl
theorem win_all : (List.range 16).all (fun r => decide (offZ (wnZ (r : Int)) (wnZ ((r : Int) + 16)) ≥ -134217728) && (decide (offZ (wnZ (r : Int)) (wnZ ((r : Int) + 16)) ≤ 134217728) && (weZ ((r : Int) + 16) == 0 && weZ (r : Int) == 0))) = true := by kernel_rfl

theorem rem16 (m : Int) : Int.tmod (IntKind.wrap IntKind.i64 (Int.tmod m 16 + 16)) 16 = m % 16 := by
  have h1 := tmod_lit m 16
  rw [wrap_in (inI_iff.2 (by omega))]
  have h2 := tmod_lit (m.tmod 16 + 16) 16
  omega

theorem circle_call (m n : Int) : CallOk Try.prog 4 [.int .i64 m, .int .i64 n] [] (.bool true) [] 0 := by
  refine pf_ok (N := 300) (L := noLoops) (os := []) (ob := [(decide (offZ (wnZ (n % 16)) (wnZ (IntKind.wrap IntKind.i64 (n % 16 + 16))) ≥ -134217728), true),
      (decide (offZ (wnZ (n % 16)) (wnZ (IntKind.wrap IntKind.i64 (n % 16 + 16))) ≤ 134217728), true),
      (weZ (IntKind.wrap IntKind.i64 (n % 16 + 16)) == 0, true), (weZ (n % 16) == 0, true),
      (decide (Int.tmod (IntKind.wrap IntKind.i64 (Int.tmod n 16 + 16)) 16 = n % 16), true),
      (cosZ (IntKind.wrap IntKind.i64 (Int.tmod m 1099511627776 + 128)) != cosZ m, false),
      (decide (offZ (cosZ m) (sinZ m) < -134217728), false), (decide (offZ (cosZ m) (sinZ m) > 134217728), false)])
    (nb_sound [(56, n % 16)] (allT [79, 83, 87, 91] ++ [(29, false), (32, false), (40, false)]) x6c_sound) noLoops_ok (by kernel_rfl) ?_ rfl
  have hM := tmod_lt m
  have ht := tmod_lit m 1099511627776
  rw [rem16, wrap_in (n := n % 16 + 16) (inI_iff.2 (by omega)), wrap_in (n := Int.tmod m 1099511627776 + 128) (inI_iff.2 (by omega))]
  have hc := List.all_eq_true.1 circ_all (m % 128).toNat (List.mem_range.2 (by omega))
  have hw := List.all_eq_true.1 win_all (n % 16).toNat (List.mem_range.2 (by omega))
  rw [show (((m % 128).toNat : Nat) : Int) = m % 128 by omega, ← cosZ_mod (m := m) (r := m % 128) (by omega), ← sinZ_mod (m := m) (r := m % 128) (by omega)] at hc
  rw [show (((n % 16).toNat : Nat) : Int) = n % 16 by omega] at hw
  have hq : cosZ (Int.tmod m 1099511627776 + 128) = cosZ m := cosZ_mod (by omega)
  simp only [Bool.and_eq_true, Bool.not_eq_true'] at hc hw
  simp only [Holds, List.mem_cons, List.not_mem_nil, or_false, forall_eq_or_imp, forall_eq, hq, bne_self_eq_false, decide_true]
  exact ⟨hw.1, hw.2.1, hw.2.2.1, hw.2.2.2, trivial, trivial, hc.1, hc.2⟩
end Go.Proofs.Ytfbjpenbpbpcaaa
