/-
  Names for bools; joined runs.
-/
import Derived.Test.YtfbjpenbpbpcaaaTb4
namespace Go.Proofs.Ytfbjpenbpbpcaaa
open Go Den
set_option maxRecDepth 100000
set_option linter.unusedSimpArgs false
set_option linter.unusedVariables false

def nbAt (t : Int) : List (Nat × Bool) → Option Bool
  | [] => none
  | (u, y) :: l => match decide ((u : Int) = t) with
    | true => some y
    | false => nbAt t l
/-- Names of slots: numbers, and bools. -/
def nbC (l : List (Nat × Int)) (bs : List (Nat × Bool)) (C : Oracle) : Oracle := fun f args H => match Nat.beq f 1000001 with
  | true => match args with
    | [.int _ t] => match nbAt t bs with
      | some y => some (.bool y, [], 0)
      | none => match nmAt t l with
        | some y => some (.int .i64 y, [], 0)
        | none => none
    | _ => none
  | false => C f args H
theorem nb_sound {pre : Pre} {C : Oracle} (l : List (Nat × Int)) (bs : List (Nat × Bool)) (h : Sound Try.prog (strict pre C)) : Sound Try.prog (strict (nmPre pre) (nbC l bs C)) := by
  intro f args H v H' n hc
  unfold strict at hc
  split at hc
  · rename_i hp
    unfold nmPre at hp
    unfold nbC at hc
    split at hp
    · simp at hp
    · rename_i hf
      rw [hf] at hc
      exact h f args H v H' n (by unfold strict; rw [hp]; exact hc)
  · simp at hc

def allT (l : List Nat) : List (Nat × Bool) := l.map fun t => (t, true)

def nearB (a b y : Int) : Bool := bif decide (IntKind.wrap IntKind.i64 (a - b) ≤ y) then decide (IntKind.wrap IntKind.i64 (b - a) ≤ y) else false

def weZ (n : Int) : Int := if 0 ≤ n ∧ n ≤ 31 then 0 else 1
def wnZ (n : Int) : Int := if 0 ≤ n ∧ n ≤ 31 then sinZ (2 * n + 1) else 0
def knZ (n k : Int) : Int := if (0 ≤ n ∧ n ≤ 31) ∧ 0 ≤ k ∧ k ≤ 15 then cosZ ((2 * n + 17) * (2 * k + 1)) else 0
def keZ (n k : Int) : Int := if (0 ≤ n ∧ n ≤ 31) ∧ 0 ≤ k ∧ k ≤ 15 then 0 else 1

theorem window_ok (n : Int) : CallOk Try.prog 35 [.int .i64 n] [] (.tuple #[.int .i64 (wnZ n), .int .i64 (weZ n)]) [] 0 := by
  by_cases h : 0 ≤ n ∧ n ≤ 31
  · have e : IntKind.wrap IntKind.i64 (IntKind.wrap IntKind.i64 (2 * n) + 1) = 2 * n + 1 := by rw [wrap_in (n := 2 * n) (inI_iff.2 (by omega)), wrap_in (inI_iff.2 (by omega))]
    unfold wnZ weZ
    rw [if_pos h, if_pos h, ← e]
    exact pf_ok (N := 300) (L := noLoops) (os := [(0, true), (0, true), (0, false)]) (ob := [(bif decide (n < 0) then true else decide (n ≥ 32), false), (decide (n < 0) == false, true), (decide (n < 0) == false, true)]) t6p_sound noLoops_ok (by kernel_rfl) (by simp [Holds]; omega) rfl
  · unfold wnZ weZ
    rw [if_neg h, if_neg h]
    by_cases h1 : n < 0
    · exact pf_ok (N := 300) (L := noLoops) (os := [(0, false), (0, false), (0, true)]) (ob := [(decide (n < 0), true), (decide (n < 0) == false, false), (decide (n < 0) == false, false)]) t6p_sound noLoops_ok (by kernel_rfl) (by simp [Holds]; omega) rfl
    · exact pf_ok (N := 300) (L := noLoops) (os := [(0, true), (0, true), (0, true)]) (ob := [(bif decide (n < 0) then true else decide (n ≥ 32), true), (decide (n < 0) == false, true), (decide (n < 0) == false, true)]) t6p_sound noLoops_ok (by kernel_rfl) (by simp [Holds]; omega) rfl

theorem ref_window_ok (n : Int) : CallOk Try.prog 50 [.int .i64 n] [] (.tuple #[.int .i64 (wnZ n), .int .i64 (weZ n)]) [] 0 := by
  by_cases h : 0 ≤ n ∧ n ≤ 31
  · have e : IntKind.wrap IntKind.i64 (IntKind.wrap IntKind.i64 (2 * n) + 1) = 2 * n + 1 := by rw [wrap_in (n := 2 * n) (inI_iff.2 (by omega)), wrap_in (inI_iff.2 (by omega))]
    unfold wnZ weZ
    rw [if_pos h, if_pos h, ← e]
    exact pf_ok (N := 300) (L := noLoops) (os := [(0, true), (0, true), (0, false)]) (ob := [(bif decide (n < 0) then true else decide (n > 31), false), (decide (n < 0) == false, true), (decide (n < 0) == false, true)]) t6p_sound noLoops_ok (by kernel_rfl) (by simp [Holds]; omega) rfl
  · unfold wnZ weZ
    rw [if_neg h, if_neg h]
    by_cases h1 : n < 0
    · exact pf_ok (N := 300) (L := noLoops) (os := [(0, false), (0, false), (0, true)]) (ob := [(decide (n < 0), true), (decide (n < 0) == false, false), (decide (n < 0) == false, false)]) t6p_sound noLoops_ok (by kernel_rfl) (by simp [Holds]; omega) rfl
    · exact pf_ok (N := 300) (L := noLoops) (os := [(0, true), (0, true), (0, true)]) (ob := [(bif decide (n < 0) then true else decide (n > 31), true), (decide (n < 0) == false, true), (decide (n < 0) == false, true)]) t6p_sound noLoops_ok (by kernel_rfl) (by simp [Holds]; omega) rfl

theorem near_ok (a b y : Int) : CallOk Try.prog 32 [.int .i64 a, .int .i64 b, .int .i64 y] [] (.bool (nearB a b y)) [] 0 := by
  unfold nearB
  by_cases h : IntKind.wrap IntKind.i64 (a - b) ≤ y
  · exact pf_ok (N := 300) (L := noLoops) (os := [(0, true), (0, true), (0, true), (0, true), (0, true)]) (ob := [(decide (IntKind.wrap IntKind.i64 (a - b) ≤ y) == true, true), (decide (IntKind.wrap IntKind.i64 (a - b) ≤ y) == true, true), (decide (IntKind.wrap IntKind.i64 (a - b) ≤ y) == true, true), (decide (IntKind.wrap IntKind.i64 (a - b) ≤ y) == true, true), (decide (IntKind.wrap IntKind.i64 (a - b) ≤ y) == true, true)]) noC_sound noLoops_ok (by kernel_rfl) (by simp [Holds, h]) rfl
  · have hh := pf_ok (N := 300) (L := noLoops) (os := [(0, false), (0, false), (0, false), (0, false), (0, false), (0, false)]) (ob := [(decide (IntKind.wrap IntKind.i64 (a - b) ≤ y), false), (decide (IntKind.wrap IntKind.i64 (a - b) ≤ y) == true, false), (decide (IntKind.wrap IntKind.i64 (a - b) ≤ y) == true, false), (decide (IntKind.wrap IntKind.i64 (a - b) ≤ y) == true, false), (decide (IntKind.wrap IntKind.i64 (a - b) ≤ y) == true, false), (decide (IntKind.wrap IntKind.i64 (a - b) ≤ y) == true, false)]) (f := 32) (args := [.int .i64 a, .int .i64 b, .int .i64 y]) (v := .bool false) noC_sound noLoops_ok (by kernel_rfl) (by simp [Holds, h]) rfl
    simp only [h, decide_false, cond_false]
    exact hh
end Go.Proofs.Ytfbjpenbpbpcaaa
