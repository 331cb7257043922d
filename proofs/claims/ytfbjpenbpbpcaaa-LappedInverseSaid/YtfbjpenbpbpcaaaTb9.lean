/-
  Chapter 06: the law TableRows as a call.
-/
import Derived.Test.YtfbjpenbpbpcaaaTb8
namespace Go.Proofs.Ytfbjpenbpbpcaaa
open Go Den
set_option maxRecDepth 100000
set_option linter.unusedSimpArgs false
set_option linter.unusedVariables false

/-- Places that are not computed, by the slots of their first operands. -/
def symPre (ks : List Nat) (pre : Pre) : Pre := fun f args H => (match Nat.beq f 1000000 with
  | true => match args with
    | [.int _ t] => !(ks.any fun u => decide ((u : Int) = t))
    | _ => true
  | false => true) && pre f args H
theorem sym_sound {pre : Pre} {C : Oracle} (ks : List Nat) (h : Sound Try.prog (strict pre C)) : Sound Try.prog (strict (symPre ks pre) C) := by
  intro f args H v H' n hc
  unfold strict at hc
  split at hc
  · rename_i hp
    unfold symPre at hp
    simp only [Bool.and_eq_true] at hp
    exact h f args H v H' n (by unfold strict; rw [hp.2]; exact hc)
  · simp at hc

def t6d : Oracle := fun f args H => match H with
  | [] => match f, args with
    | 51, [.int .i64 n, .int .i64 k] => some (.tuple #[.int .i64 (knZ n k), .int .i64 (keZ n k)], [], 0)
    | 52, [.int .i64 n, .int .i64 k] => some (.tuple #[.int .i64 (knZ n k), .int .i64 (keZ n k)], [], 0)
    | 53, [.int .i64 k] => some (.tuple #[.slice (some ⟨0, 0, none⟩) 32 32, .int .i64 0], [⟨true, none, ints (rowZ k)⟩], 0)
    | _, _ => none
  | _ => none
def t6dPre : Pre := fun f args H => match f, args with
  | 53, [.int .i64 k] => decide (0 ≤ k ∧ k ≤ 15)
  | _, _ => true
theorem t6d_sound : Sound Try.prog (strict t6dPre t6d) := by
  refine Sound.strict fun f args H v H' l hp h => ?_
  unfold t6d at h
  split at h
  · split at h
    all_goals first | (simp at h; done) | (simp only [Option.some.injEq, Prod.mk.injEq] at h; obtain ⟨rfl, rfl, rfl⟩ := h)
    · exact kernel_ok _ _
    · exact ref_kernel_ok _ _
    · exact row_ok _ (by simpa [t6dPre] using hp)
  · simp at h
def x6d : Oracle := orElse x6c t6d
theorem x6d_sound : Sound Try.prog (strict (framePre t6dPre) (frameC x6d)) := frame_sound (strict_or (t6c_sound.or (l6O_sound.or t6b_sound)) t6d_sound)

theorem rem32 (m : Int) : Int.tmod (IntKind.wrap IntKind.i64 (Int.tmod m 32 + 32)) 32 = m % 32 := by
  have h1 := tmod_lit m 32
  rw [wrap_in (inI_iff.2 (by omega))]
  have h2 := tmod_lit (m.tmod 32 + 32) 32
  omega
theorem rem16' (m : Int) : Int.tmod (IntKind.wrap IntKind.i64 (Int.tmod m 16 + 16)) 16 = m % 16 := by
  have h1 := tmod_lit m 16
  rw [wrap_in (inI_iff.2 (by omega))]
  have h2 := tmod_lit (m.tmod 16 + 16) 16
  omega

theorem wn_all : (List.range 32).all (fun r => decide (wnZ (r : Int) > 0)) = true := by kernel_rfl

theorem rows_call (n k : Int) : CallOk Try.prog 9 [.int .i64 n, .int .i64 k] [] (.bool true) [] 0 := by
  have hN : 0 ≤ n % 32 ∧ n % 32 < 32 := by omega
  have hK : 0 ≤ k % 16 ∧ k % 16 < 16 := by omega
  have eN := rem32 n
  have eK := rem16' k
  generalize n % 32 = N at *
  generalize k % 16 = K at *
  refine pf_ok (N := 300) (L := noLoops) (os := [(6, true), (13, true), (1, true)]) (ob := [(decide (wnZ N > 0), true), (wnZ N == sinZ (IntKind.wrap IntKind.i64 (IntKind.wrap IntKind.i64 (2 * N) + 1)), true),
      (knZ N K == cosZ (IntKind.wrap IntKind.i64 (IntKind.wrap IntKind.i64 (IntKind.wrap IntKind.i64 (2 * N) + 17) * IntKind.wrap IntKind.i64 (IntKind.wrap IntKind.i64 (2 * K) + 1))), true),
      (intAt (ints (rowZ K)) (0 + N.toNat) == knZ N K, true), (isIntAt .i64 (ints (rowZ K)) (0 + N.toNat), true), (decide (0 ≤ N ∧ N < ((32 : Nat) : Int)), true),
      (weZ N != 0, false), (keZ N K != 0, false), ((0 : Int) != 0, false), (decide (0 ≤ K ∧ K ≤ 15), true),
      (decide (Int.tmod (IntKind.wrap IntKind.i64 (Int.tmod k 16 + 16)) 16 = K), true), (decide (Int.tmod (IntKind.wrap IntKind.i64 (Int.tmod n 32 + 32)) 32 = N), true)])
    (sym_sound [56, 58] (nb_sound [(18, N), (22, K)] (allT [61, 73, 81, 85] ++ [(40, false), (43, false), (47, false)]) x6d_sound)) noLoops_ok (by kernel_rfl) ?_ rfl
  have hin : (0 ≤ N ∧ N ≤ 31) ∧ 0 ≤ K ∧ K ≤ 15 := by omega
  have hlen : N.toNat < (rowZ K).length := by simp [rowZ]; omega
  have g0 : (rowZ K).getD N.toNat 0 = knZ N K := by
    have hr : N.toNat < 32 := by omega
    simp only [rowZ, List.getD_eq_getElem?_getD, List.getElem?_map, List.getElem?_range hr, Option.map_some, Option.getD_some]
    unfold knZ
    rw [if_pos hin, show ((N.toNat : Nat) : Int) = N by omega]
  have g1 : intAt (ints (rowZ K)) (0 + N.toNat) = knZ N K := by
    unfold intAt ints
    rw [Nat.zero_add, List.getElem?_map]
    rw [List.getD_eq_getElem?_getD] at g0
    rw [List.getElem?_eq_getElem hlen] at g0 ⊢
    simpa using g0
  have g2 : isIntAt .i64 (ints (rowZ K)) (0 + N.toNat) = true := by
    unfold isIntAt ints
    rw [Nat.zero_add, List.getElem?_map, List.getElem?_eq_getElem hlen]
    rfl
  have hw := List.all_eq_true.1 wn_all N.toNat (List.mem_range.2 (by omega))
  rw [show ((N.toNat : Nat) : Int) = N by omega] at hw
  have e1 : IntKind.wrap IntKind.i64 (IntKind.wrap IntKind.i64 (2 * N) + 1) = 2 * N + 1 := by rw [wrap_in (n := 2 * N) (inI_iff.2 (by omega)), wrap_in (inI_iff.2 (by omega))]
  have e2 : IntKind.wrap IntKind.i64 (IntKind.wrap IntKind.i64 (IntKind.wrap IntKind.i64 (2 * N) + 17) * IntKind.wrap IntKind.i64 (IntKind.wrap IntKind.i64 (2 * K) + 1)) = (2 * N + 17) * (2 * K + 1) := by
    rw [wrap_in (n := 2 * N) (inI_iff.2 (by omega)), wrap_in (n := 2 * N + 17) (inI_iff.2 (by omega)), wrap_in (n := 2 * K) (inI_iff.2 (by omega)), wrap_in (n := 2 * K + 1) (inI_iff.2 (by omega)), wrap_in (kn_in hin)]
  have w1 : wnZ N = sinZ (2 * N + 1) := by unfold wnZ; rw [if_pos hin.1]
  have w2 : knZ N K = cosZ ((2 * N + 17) * (2 * K + 1)) := by unfold knZ; rw [if_pos hin]
  have w3 : weZ N = 0 := by unfold weZ; rw [if_pos hin.1]
  have w4 : keZ N K = 0 := by unfold keZ; rw [if_pos hin]
  rw [eN, eK, g1, g2, e1, e2, w3, w4, hw, w2, w1]
  simp [Holds]
  omega
end Go.Proofs.Ytfbjpenbpbpcaaa
