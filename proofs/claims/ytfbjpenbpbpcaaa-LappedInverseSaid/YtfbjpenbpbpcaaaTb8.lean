/-
  Chapter 06: the contract of Row.
-/
import Derived.Test.YtfbjpenbpbpcaaaTb7
namespace Go.Proofs.Ytfbjpenbpbpcaaa
open Go Den
set_option maxRecDepth 100000
set_option linter.unusedSimpArgs false
set_option linter.unusedVariables false

def rowZ (k : Int) : List Int := (List.range 32).map fun (n : Nat) => cosZ ((2 * (n : Int) + 17) * (2 * k + 1))

noncomputable def rowC : Oracle := orElse arC (over c3 1)
theorem rowC_sound : Sound Try.prog (strict noPre rowC) := plain_sound (arC_sound.or (over_sound fx3_sound 1))
theorem row_runs0 : (List.range' 0 4).map (fun (k : Nat) => evFnL Try.prog ext 300 noPre rowC noLoops [] 53 [.int .i64 (k : Int)] []) =
  (List.range' 0 4).map fun (k : Nat) => some ((.tuple #[.slice (some ⟨1, 0, none⟩) 32 32, .int .i64 0], [⟨true, none, ints ptZ⟩, ⟨true, none, ints (rowZ (k : Int))⟩], 0), []) := by kernel_rfl
theorem row_runs1 : (List.range' 4 4).map (fun (k : Nat) => evFnL Try.prog ext 300 noPre rowC noLoops [] 53 [.int .i64 (k : Int)] []) =
  (List.range' 4 4).map fun (k : Nat) => some ((.tuple #[.slice (some ⟨1, 0, none⟩) 32 32, .int .i64 0], [⟨true, none, ints ptZ⟩, ⟨true, none, ints (rowZ (k : Int))⟩], 0), []) := by kernel_rfl
theorem row_runs2 : (List.range' 8 4).map (fun (k : Nat) => evFnL Try.prog ext 300 noPre rowC noLoops [] 53 [.int .i64 (k : Int)] []) =
  (List.range' 8 4).map fun (k : Nat) => some ((.tuple #[.slice (some ⟨1, 0, none⟩) 32 32, .int .i64 0], [⟨true, none, ints ptZ⟩, ⟨true, none, ints (rowZ (k : Int))⟩], 0), []) := by kernel_rfl
theorem row_runs3 : (List.range' 12 4).map (fun (k : Nat) => evFnL Try.prog ext 300 noPre rowC noLoops [] 53 [.int .i64 (k : Int)] []) =
  (List.range' 12 4).map fun (k : Nat) => some ((.tuple #[.slice (some ⟨1, 0, none⟩) 32 32, .int .i64 0], [⟨true, none, ints ptZ⟩, ⟨true, none, ints (rowZ (k : Int))⟩], 0), []) := by kernel_rfl

theorem row_ok (k : Int) (h : 0 ≤ k ∧ k ≤ 15) : CallOk Try.prog 53 [.int .i64 k] [] (.tuple #[.slice (some ⟨0, 0, none⟩) 32 32, .int .i64 0]) [⟨true, none, ints (rowZ k)⟩] 0 := by
  have hr : evFnL Try.prog ext 300 noPre rowC noLoops [] 53 [.int .i64 k] [] = some ((.tuple #[.slice (some ⟨1, 0, none⟩) 32 32, .int .i64 0], [⟨true, none, ints ptZ⟩, ⟨true, none, ints (rowZ k)⟩], 0), []) := by
    rw [show k = ((k.toNat : Nat) : Int) by omega]
    have hk : k.toNat < 16 := by omega
    generalize k.toNat = r at *
    by_cases h0 : r < 4
    · exact of_list row_runs0 (by omega) (by omega)
    by_cases h1 : r < 8
    · exact of_list row_runs1 (by omega) (by omega)
    by_cases h2 : r < 12
    · exact of_list row_runs2 (by omega) (by omega)
    · exact of_list row_runs3 (by omega) (by omega)
  have hc := fnL_ok progOk extSound rowC_sound noLoops_ok hr (by simp [Holds])
  exact hc.gc [1] rfl (by kernel_rfl) (by kernel_rfl) (by kernel_rfl)

theorem row_none (k : Int) (h : ¬ (0 ≤ k ∧ k ≤ 15)) : CallOk Try.prog 53 [.int .i64 k] [] (.tuple #[.slice none 0 0, .int .i64 1]) [] 0 := by
  by_cases h1 : k < 0
  · exact pf_ok (N := 300) (L := noLoops) (os := [(0, false), (0, false), (0, true)]) (ob := [(decide (k < 0), true), (decide (k < 0) == false, false), (decide (k < 0) == false, false)]) rowC_sound noLoops_ok (by kernel_rfl) (by simp [Holds]; omega) rfl
  · exact pf_ok (N := 300) (L := noLoops) (os := [(0, true), (0, true), (0, true)]) (ob := [(bif decide (k < 0) then true else decide (k ≥ 16), true), (decide (k < 0) == false, true), (decide (k < 0) == false, true)]) rowC_sound noLoops_ok (by kernel_rfl) (by simp [Holds]; omega) rfl

end Go.Proofs.Ytfbjpenbpbpcaaa
