/-
  Chapter 06: the reference's Row; Equal of rows; the law TableFrames as a call.
-/
import Derived.Test.YtfbjpenbpbpcaaaZE
import Derived.Test.YtfbjpenbpbpcaaaTl
namespace Go.Proofs.Ytfbjpenbpbpcaaa
open Go Den
set_option maxRecDepth 100000
set_option linter.unusedSimpArgs false
set_option linter.unusedVariables false

theorem rrow_runs0 : (List.range' 0 8).map (fun (k : Nat) => (evFnL Try.prog ext 300 t6dPre t6d noLoops [] 54 [.int .i64 (k : Int)] []).map fun r => (r.1.1, r.1.2.1.length, r.1.2.1[63]?, r.2)) =
  (List.range' 0 8).map fun (k : Nat) => some (.tuple #[.slice (some ⟨63, 0, none⟩) 32 0, .int .i64 0], 64, some ⟨true, some 1, ints (rowZ (k : Int))⟩, []) := by kernel_rfl
theorem rrow_runs1 : (List.range' 8 8).map (fun (k : Nat) => (evFnL Try.prog ext 300 t6dPre t6d noLoops [] 54 [.int .i64 (k : Int)] []).map fun r => (r.1.1, r.1.2.1.length, r.1.2.1[63]?, r.2)) =
  (List.range' 8 8).map fun (k : Nat) => some (.tuple #[.slice (some ⟨63, 0, none⟩) 32 0, .int .i64 0], 64, some ⟨true, some 1, ints (rowZ (k : Int))⟩, []) := by kernel_rfl

theorem rrow_ok (k : Int) (h : 0 ≤ k ∧ k ≤ 15) : CallOk Try.prog 54 [.int .i64 k] [] (.tuple #[.slice (some ⟨0, 0, none⟩) 32 0, .int .i64 0]) [⟨true, some 1, ints (rowZ k)⟩] 0 := by
  have hr : (evFnL Try.prog ext 300 t6dPre t6d noLoops [] 54 [.int .i64 k] []).map (fun r => (r.1.1, r.1.2.1.length, r.1.2.1[63]?, r.2)) = some (.tuple #[.slice (some ⟨63, 0, none⟩) 32 0, .int .i64 0], 64, some ⟨true, some 1, ints (rowZ k)⟩, []) := by
    rw [show k = ((k.toNat : Nat) : Int) by omega]
    have hk : k.toNat < 16 := by omega
    generalize k.toNat = r at *
    by_cases h0 : r < 8
    · exact of_list rrow_runs0 (by omega) (by omega)
    · exact of_list rrow_runs1 (by omega) (by omega)
  cases hrun : evFnL Try.prog ext 300 t6dPre t6d noLoops [] 54 [.int .i64 k] [] with
  | none => rw [hrun] at hr; simp at hr
  | some r =>
    obtain ⟨⟨v, H', l⟩, ob⟩ := r
    rw [hrun] at hr
    simp only [Option.map_some, Option.some.injEq, Prod.mk.injEq] at hr
    obtain ⟨rfl, h2, h3, rfl⟩ := hr
    have hc := fnL_ok progOk extSound t6d_sound noLoops_ok hrun (by simp [Holds])
    have hren : mapAll (ren (selN [63]) 3) (ints (rowZ k)) = some (ints (rowZ k)) := by kernel_rfl
    exact hc.gc [63] rfl (by rw [h2]; rfl) (by kernel_rfl) (by simp only [blks, mapAll, h3, renB, hren, Option.map_some])

theorem rrow_none (k : Int) (h : ¬ (0 ≤ k ∧ k ≤ 15)) : CallOk Try.prog 54 [.int .i64 k] [] (.tuple #[.slice none 0 0, .int .i64 1]) [] 0 := by
  by_cases h1 : k < 0
  · exact pf_ok (N := 300) (L := noLoops) (os := [(0, false), (0, false), (0, true)]) (ob := [(decide (k < 0), true), (decide (k < 0) == false, false), (decide (k < 0) == false, false)]) t6d_sound noLoops_ok (by kernel_rfl) (by simp [Holds]; omega) rfl
  · exact pf_ok (N := 300) (L := noLoops) (os := [(0, true), (0, true), (0, true)]) (ob := [(bif decide (k < 0) then true else decide (k > 15), true), (decide (k < 0) == false, true), (decide (k < 0) == false, true)]) t6d_sound noLoops_ok (by kernel_rfl) (by simp [Holds]; omega) rfl

theorem equal_runs : (List.range' 0 16).map (fun (k : Nat) => evFnL Try.prog ext 300 noPre noC noLoops [] 55 [.slice (some ⟨0, 0, none⟩) 32 32, .slice (some ⟨1, 0, none⟩) 32 0] [⟨true, none, ints (rowZ (k : Int))⟩, ⟨true, some 1, ints (rowZ (k : Int))⟩]) =
  (List.range' 0 16).map fun (k : Nat) => some ((.bool true, [⟨true, none, ints (rowZ (k : Int))⟩, ⟨true, some 1, ints (rowZ (k : Int))⟩], 2), []) := by kernel_rfl

theorem equal_ok (k : Int) (h : 0 ≤ k ∧ k ≤ 15) : CallOk Try.prog 55 [.slice (some ⟨0, 0, none⟩) 32 32, .slice (some ⟨1, 0, none⟩) 32 0] [⟨true, none, ints (rowZ k)⟩, ⟨true, some 1, ints (rowZ k)⟩] (.bool true) [⟨true, none, ints (rowZ k)⟩, ⟨true, some 1, ints (rowZ k)⟩] 2 := by
  rw [show k = ((k.toNat : Nat) : Int) by omega]
  exact fnL_ok progOk extSound noC_sound noLoops_ok (of_list equal_runs (by omega) (by omega)) (by simp [Holds])

theorem equal_none : CallOk Try.prog 55 [.slice none 0 0, .slice none 0 0] [] (.bool true) [] 0 :=
  pf_ok (N := 300) (L := noLoops) (os := []) (ob := []) noC_sound noLoops_ok (by kernel_rfl) (by simp [Holds]) rfl

/-- The contracts that the law leans on, for one number. -/
def tfT (k : Int) : Tale := fun f args H => match f, args, H with
  | 53, [.int .i64 _], [] => some (.tuple #[.slice (some ⟨0, 0, none⟩) 32 32, .int .i64 0], [⟨true, none, ints (rowZ k)⟩], 0)
  | 54, [.int .i64 _], [] => some (.tuple #[.slice (some ⟨0, 0, none⟩) 32 0, .int .i64 0], [⟨true, some 1, ints (rowZ k)⟩], 0)
  | 55, _, H => some (.bool true, H, 2)
  | _, _, _ => none
def tfN : Tale := fun f args H => match f, args, H with
  | 53, [.int .i64 _], [] => some (.tuple #[.slice none 0 0, .int .i64 1], [], 0)
  | 54, [.int .i64 _], [] => some (.tuple #[.slice none 0 0, .int .i64 1], [], 0)
  | 55, _, [] => some (.bool true, [], 0)
  | _, _, _ => none

end Go.Proofs.Ytfbjpenbpbpcaaa

