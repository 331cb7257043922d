/-
  Chapter 06: the laws TableTurns, TableOpposite, TableCircle as calls.
-/
import Derived.Test.YtfbjpenbpbpcaaaNm
namespace Go.Proofs.Ytfbjpenbpbpcaaa
open Go Den
set_option maxRecDepth 100000
set_option linter.unusedSimpArgs false
set_option linter.unusedVariables false

theorem turns_call (i m : Int) : CallOk Try.prog 5 [.int .i64 i, .int .i64 m] [] (.bool true) [] 0 :=
  pf_ok (N := 300) (L := noLoops) (os := []) (ob := [(sinZ m == sinZ m, true), (cosZ m == cosZ m, true), (ptY m == ptY m, true), (ptX m == ptX m, true),
      (heZ i == heZ i, true), (hyZ i == hyZ i, true), (hxZ i == hxZ i, true)]) (nb_sound [] (allT [45, 50, 55, 60, 65, 72, 79]) t6p_sound) noLoops_ok (by kernel_rfl) (by simp [Holds]) rfl

def t6c : Oracle := fun f args H => match H with
  | [] => match f, args with
    | 32, [.int .i64 a, .int .i64 b, .int .i64 y] => some (.bool (nearB a b y), [], 0)
    | 35, [.int .i64 n] => some (.tuple #[.int .i64 (wnZ n), .int .i64 (weZ n)], [], 0)
    | 50, [.int .i64 n] => some (.tuple #[.int .i64 (wnZ n), .int .i64 (weZ n)], [], 0)
    | _, _ => none
  | _ => none
theorem t6c_sound : Sound Try.prog t6c := by
  intro f args H v H' l h
  unfold t6c at h
  split at h
  · split at h
    all_goals first | (simp at h; done) | (simp only [Option.some.injEq, Prod.mk.injEq] at h; obtain ⟨rfl, rfl, rfl⟩ := h)
    · exact near_ok _ _ _
    · exact window_ok _
    · exact ref_window_ok _
  · simp at h
def x6c : Oracle := orElse t6c (orElse l6O t6b)
theorem x6c_sound : Sound Try.prog (strict noPre x6c) := plain_sound (t6c_sound.or (l6O_sound.or t6b_sound))

theorem cosZ_mod {m r : Int} (h : m % 128 = r % 128) : cosZ m = cosZ r := by unfold cosZ ptX; rw [h]
theorem sinZ_mod {m r : Int} (h : m % 128 = r % 128) : sinZ m = sinZ r := by unfold sinZ ptY; rw [h]

def oppB (r : Int) : Bool := nearB (cosZ (r - 32)) (sinZ r) 4 && (nearB (sinZ (0 - r)) (IntKind.wrap IntKind.i64 (0 - sinZ r)) 4 && (nearB (cosZ (0 - r)) (cosZ r) 4 && (nearB (sinZ (r + 64)) (IntKind.wrap IntKind.i64 (0 - sinZ r)) 1 && nearB (cosZ (r + 64)) (IntKind.wrap IntKind.i64 (0 - cosZ r)) 1)))
theorem opp_all : (List.range 128).all (fun r => oppB (r : Int)) = true := by kernel_rfl
theorem oppB_ok (m : Int) : oppB m = true := by
  have h := List.all_eq_true.1 opp_all (m % 128).toNat (List.mem_range.2 (by omega))
  have e : (((m % 128).toNat : Nat) : Int) = m % 128 := by omega
  rw [e] at h
  have e1 : cosZ (m - 32) = cosZ (m % 128 - 32) := cosZ_mod (by omega)
  have e2 : sinZ (0 - m) = sinZ (0 - m % 128) := sinZ_mod (by omega)
  have e3 : cosZ (0 - m) = cosZ (0 - m % 128) := cosZ_mod (by omega)
  have e4 : sinZ (m + 64) = sinZ (m % 128 + 64) := sinZ_mod (by omega)
  have e5 : cosZ (m + 64) = cosZ (m % 128 + 64) := cosZ_mod (by omega)
  have e6 : sinZ m = sinZ (m % 128) := sinZ_mod (by omega)
  have e7 : cosZ m = cosZ (m % 128) := cosZ_mod (by omega)
  unfold oppB at h ⊢
  rw [e1, e2, e3, e4, e5, e6, e7]
  exact h

theorem tmod_lt (m : Int) : -1099511627776 < m.tmod 1099511627776 ∧ m.tmod 1099511627776 < 1099511627776 := by
  have := tmod_lit m 1099511627776
  omega

theorem opp_call (m : Int) : CallOk Try.prog 3 [.int .i64 m] [] (.bool true) [] 0 := by
  refine pf_ok (N := 300) (L := noLoops) (os := []) (ob := [(nearB (cosZ (IntKind.wrap IntKind.i64 (Int.tmod m 1099511627776 - 32))) (sinZ (Int.tmod m 1099511627776)) 4, true),
      (nearB (sinZ (IntKind.wrap IntKind.i64 (0 - Int.tmod m 1099511627776))) (IntKind.wrap IntKind.i64 (0 - sinZ (Int.tmod m 1099511627776))) 4, true),
      (nearB (cosZ (IntKind.wrap IntKind.i64 (0 - Int.tmod m 1099511627776))) (cosZ (Int.tmod m 1099511627776)) 4, true),
      (nearB (sinZ (IntKind.wrap IntKind.i64 (Int.tmod m 1099511627776 + 64))) (IntKind.wrap IntKind.i64 (0 - sinZ (Int.tmod m 1099511627776))) 1, true),
      (nearB (cosZ (IntKind.wrap IntKind.i64 (Int.tmod m 1099511627776 + 64))) (IntKind.wrap IntKind.i64 (0 - cosZ (Int.tmod m 1099511627776))) 1, true)])
    (nb_sound [] (allT [24, 33, 41, 50, 58]) x6c_sound) noLoops_ok (by kernel_rfl) ?_ rfl
  have h := tmod_lt m
  have hb := oppB_ok (Int.tmod m 1099511627776)
  generalize Int.tmod m 1099511627776 = M at *
  rw [wrap_in (n := M - 32) (inI_iff.2 (by omega)), wrap_in (n := 0 - M) (inI_iff.2 (by omega)), wrap_in (n := M + 64) (inI_iff.2 (by omega))]
  simp only [oppB, Bool.and_eq_true] at hb
  simp only [Holds, List.mem_cons, List.not_mem_nil, or_false, forall_eq_or_imp, forall_eq]
  exact ⟨hb.1, hb.2.1, hb.2.2.1, hb.2.2.2.1, hb.2.2.2.2⟩

end Go.Proofs.Ytfbjpenbpbpcaaa
