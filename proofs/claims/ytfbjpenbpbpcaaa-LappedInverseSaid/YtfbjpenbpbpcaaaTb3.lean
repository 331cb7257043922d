/-
  Chapter 06: the contracts of Turn, Cos, Sin, Half, and the reference's.
-/
import Derived.Test.YtfbjpenbpbpcaaaTb2
namespace Go.Proofs.Ytfbjpenbpbpcaaa
open Go Den
set_option maxRecDepth 100000
set_option linter.unusedSimpArgs false
set_option linter.unusedVariables false

theorem pt_all : (List.range 256).all (fun i => decide (-1073741824 ≤ ptZ.getD i 0) && decide (ptZ.getD i 0 ≤ 1073741824)) = true := by kernel_rfl
theorem pt_le (i : Nat) (h : i < 256) : -1073741824 ≤ ptZ.getD i 0 ∧ ptZ.getD i 0 ≤ 1073741824 := by
  have := List.all_eq_true.1 pt_all i (List.mem_range.2 h)
  simpa using this
theorem ptX_le (m : Int) : -1073741824 ≤ ptX m ∧ ptX m ≤ 1073741824 := pt_le _ (by omega)
theorem ptY_le (m : Int) : -1073741824 ≤ ptY m ∧ ptY m ≤ 1073741824 := pt_le _ (by omega)
theorem ptX_in (m : Int) : inI (ptX m) = true := by have := ptX_le m; exact inI_iff.2 (by omega)
theorem ptY_in (m : Int) : inI (ptY m) = true := by have := ptY_le m; exact inI_iff.2 (by omega)
theorem in6 : inI 6 = true := rfl

theorem turn_ok (m : Int) : CallOk Try.prog 38 [.int .i64 m] [] (.tuple #[.int .i64 (ptX m), .int .i64 (ptY m)]) [] 0 :=
  pf_ok (N := 300) (L := noLoops) (os := []) (ob := []) x6a_sound noLoops_ok (by kernel_rfl) (by simp [Holds]) rfl
theorem cos_ok (m : Int) : CallOk Try.prog 33 [.int .i64 m] [] (.int .i64 (cosZ m)) [] 0 :=
  pf_ok (N := 300) (L := noLoops) (os := [(1, true)]) (ob := [(fx3Pre 45 [.int .i64 (ptX m), .int .i64 6] [], true)]) x6a_sound noLoops_ok (by kernel_rfl) (by simp [Holds, fx3Pre, ptX_in, in6]) rfl
theorem sin_ok (m : Int) : CallOk Try.prog 34 [.int .i64 m] [] (.int .i64 (sinZ m)) [] 0 :=
  pf_ok (N := 300) (L := noLoops) (os := [(1, true)]) (ob := [(fx3Pre 45 [.int .i64 (ptY m), .int .i64 6] [], true)]) x6a_sound noLoops_ok (by kernel_rfl) (by simp [Holds, fx3Pre, ptY_in, in6]) rfl
theorem ref_cos_ok (m : Int) : CallOk Try.prog 40 [.int .i64 m] [] (.int .i64 (cosZ m)) [] 0 :=
  pf_ok (N := 300) (L := noLoops) (os := [(1, true)]) (ob := [(fx3Pre 46 [.int .i64 (ptX m), .int .i64 6] [], true)]) x6a_sound noLoops_ok (by kernel_rfl) (by simp [Holds, fx3Pre, ptX_in, in6]) rfl
theorem ref_sin_ok (m : Int) : CallOk Try.prog 41 [.int .i64 m] [] (.int .i64 (sinZ m)) [] 0 :=
  pf_ok (N := 300) (L := noLoops) (os := [(1, true)]) (ob := [(fx3Pre 46 [.int .i64 (ptY m), .int .i64 6] [], true)]) x6a_sound noLoops_ok (by kernel_rfl) (by simp [Holds, fx3Pre, ptY_in, in6]) rfl

def hxZ (i : Int) : Int := if 1 ≤ i ∧ i ≤ 7 then hvZ.getD (2 * i.toNat) 0 else 0
def hyZ (i : Int) : Int := if 1 ≤ i ∧ i ≤ 7 then hvZ.getD (2 * i.toNat + 1) 0 else 0
def heZ (i : Int) : Int := if 1 ≤ i ∧ i ≤ 7 then 0 else 1

theorem half_list : (List.range' 1 7).map (fun (i : Nat) => (evFnL Try.prog ext 300 noPre (orElse hvO hfO) noLoops [] 36 [.int .i64 (i : Int)] []).map (fun r => (r.1.1, r.2))) =
  (List.range' 1 7).map (fun (i : Nat) => some (.tuple #[.int .i64 (hvZ.getD (2 * i) 0), .int .i64 (hvZ.getD (2 * i + 1) 0), .int .i64 0], [])) := by kernel_rfl
theorem ref_half_list : (List.range' 1 7).map (fun (i : Nat) => (evFnL Try.prog ext 300 noPre (orElse hvO hfO) noLoops [] 37 [.int .i64 (i : Int)] []).map (fun r => (r.1.1, r.2))) =
  (List.range' 1 7).map (fun (i : Nat) => some (.tuple #[.int .i64 (hvZ.getD (2 * i) 0), .int .i64 (hvZ.getD (2 * i + 1) 0), .int .i64 0], [])) := by kernel_rfl

theorem x6a0 : Sound Try.prog (strict noPre (orElse hvO hfO)) := plain_sound (hvO_sound.or hfO_sound)

theorem halfs_ok (f : FuncId) (hf : f = 36 ∨ f = 37) (i : Int) : CallOk Try.prog f [.int .i64 i] [] (.tuple #[.int .i64 (hxZ i), .int .i64 (hyZ i), .int .i64 (heZ i)]) [] 0 := by
  by_cases h : 1 ≤ i ∧ i ≤ 7
  · unfold hxZ hyZ heZ
    rw [if_pos h, if_pos h, if_pos h]
    have e : ((i.toNat : Nat) : Int) = i := by omega
    rcases hf with rfl | rfl
    · have hr := of_list half_list (i := i.toNat) (by omega) (by omega)
      rw [e] at hr
      exact pf_ok x6a0 noLoops_ok hr (by simp [Holds]) rfl
    · have hr := of_list ref_half_list (i := i.toNat) (by omega) (by omega)
      rw [e] at hr
      exact pf_ok x6a0 noLoops_ok hr (by simp [Holds]) rfl
  · unfold hxZ hyZ heZ
    rw [if_neg h, if_neg h, if_neg h]
    by_cases h1 : i < 1
    · rcases hf with rfl | rfl
      all_goals exact pf_ok (N := 300) (L := noLoops) (os := [(0, false), (0, false), (0, true)]) (ob := [(decide (i < 1), true), (decide (i < 1) == false, false), (decide (i < 1) == false, false)]) x6a_sound noLoops_ok (by kernel_rfl) (by simp [Holds]; omega) rfl
    · rcases hf with rfl | rfl
      all_goals exact pf_ok (N := 300) (L := noLoops) (os := [(0, true), (0, true), (0, true)]) (ob := [(bif decide (i < 1) then true else decide (i > 7), true), (decide (i < 1) == false, true), (decide (i < 1) == false, true)]) x6a_sound noLoops_ok (by kernel_rfl) (by simp [Holds]; omega) rfl
end Go.Proofs.Ytfbjpenbpbpcaaa
