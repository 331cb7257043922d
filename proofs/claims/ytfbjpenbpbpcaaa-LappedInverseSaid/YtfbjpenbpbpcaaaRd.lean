/-
  Round, and the reference's, by few whole numbers of bits: what they come to for any number, with nothing asked.
-/
import Derived.Test.YtfbjpenbpbpcaaaTb9
namespace Go.Proofs.Ytfbjpenbpbpcaaa
open Go Den
set_option maxRecDepth 100000
set_option linter.unusedSimpArgs false
set_option linter.unusedVariables false

def bitsL : List Nat := [6, 8, 16, 18, 20, 27, 28, 30]
def inL (b : Int) : Bool := bitsL.any fun n => decide ((n : Int) = b)

def raw45 (v b : Int) : Int := IntKind.wrap IntKind.i64 (Int.fdiv v (2 ^ min (Int.toNat b) (IntKind.bits IntKind.i64)) + IntKind.wrap IntKind.i64 ((BitVec.ofInt (IntKind.bits IntKind.i64) (Int.fdiv v (2 ^ min (Int.toNat (IntKind.wrap IntKind.i64 (b - 1))) (IntKind.bits IntKind.i64))) &&& BitVec.ofInt (IntKind.bits IntKind.i64) 1).toNat : Int))

theorem raw45_run (v : Int) : (bitsL.map fun (b : Nat) => (evFnL Try.prog ext 300 noPre noC noLoops [] 45 [.int .i64 v, .int .i64 (b : Int)] []).map (fun r => (r.1.1, r.2))) = bitsL.map fun (b : Nat) => some (.int .i64 (raw45 v b), []) := by kernel_rfl

theorem of_map {α : Type} {f g : Nat → α} : ∀ {l : List Nat}, l.map f = l.map g → ∀ i ∈ l, f i = g i := by
  intro l
  induction l with
  | nil => intro _ i hi; simp at hi
  | cons x l ih =>
    intro h i hi
    simp only [List.map_cons, List.cons.injEq] at h
    rcases List.mem_cons.1 hi with rfl | hi
    · exact h.1
    · exact ih h.2 i hi

theorem inL_get {b : Int} (h : inL b = true) : ∃ n ∈ bitsL, (n : Int) = b := by
  unfold inL at h
  obtain ⟨n, hn, h2⟩ := List.any_eq_true.1 h
  exact ⟨n, hn, by simpa using h2⟩

theorem raw45_ok (v b : Int) (h : inL b = true) : CallOk Try.prog 45 [.int .i64 v, .int .i64 b] [] (.int .i64 (raw45 v b)) [] 0 := by
  obtain ⟨n, hn, rfl⟩ := inL_get h
  exact pf_ok noC_sound noLoops_ok (of_map (raw45_run v) n hn) (by simp [Holds]) rfl

def downZ (v b : Int) : Int := Int.fdiv v (2 ^ min (Int.toNat (IntKind.wrap IntKind.u64 b)) (IntKind.bits IntKind.i64))
def tst46 (v b : Int) : Prop := IntKind.wrap IntKind.i64 (v - IntKind.wrap IntKind.i64 (downZ v b * 2 ^ min (Int.toNat (IntKind.wrap IntKind.u64 b)) (IntKind.bits IntKind.i64))) ≥ IntKind.wrap IntKind.i64 (1 * 2 ^ min (Int.toNat (IntKind.wrap IntKind.u64 (IntKind.wrap IntKind.i64 (b - 1)))) (IntKind.bits IntKind.i64))
instance (v b : Int) : Decidable (tst46 v b) := by unfold tst46; infer_instance
def raw46 (v b : Int) : Int := if tst46 v b then IntKind.wrap IntKind.i64 (downZ v b + 1) else downZ v b

theorem raw46_t (v : Int) : (bitsL.map fun (b : Nat) => (evFnL Try.prog ext 300 noPre noC noLoops [(5, true)] 46 [.int .i64 v, .int .i64 (b : Int)] []).map (fun r => (r.1.1, r.2))) = bitsL.map fun (b : Nat) => some (.int .i64 (IntKind.wrap IntKind.i64 (downZ v b + 1)), [(decide (tst46 v b), true)]) := by kernel_rfl
theorem raw46_f (v : Int) : (bitsL.map fun (b : Nat) => (evFnL Try.prog ext 300 noPre noC noLoops [(5, false)] 46 [.int .i64 v, .int .i64 (b : Int)] []).map (fun r => (r.1.1, r.2))) = bitsL.map fun (b : Nat) => some (.int .i64 (downZ v b), [(decide (tst46 v b), false)]) := by kernel_rfl

theorem raw46_ok (v b : Int) (h : inL b = true) : CallOk Try.prog 46 [.int .i64 v, .int .i64 b] [] (.int .i64 (raw46 v b)) [] 0 := by
  obtain ⟨n, hn, rfl⟩ := inL_get h
  unfold raw46
  by_cases ht : tst46 v n
  · rw [if_pos ht]
    exact pf_ok noC_sound noLoops_ok (of_map (raw46_t v) n hn) (by simp [Holds, ht]) rfl
  · rw [if_neg ht]
    exact pf_ok noC_sound noLoops_ok (of_map (raw46_f v) n hn) (by simp [Holds, ht]) rfl

theorem raw45_eq (v b : Int) (hv : inI v = true) (h : inL b = true) : raw45 v b = roundZ v b := by
  obtain ⟨m, hm, rfl⟩ := inL_get h
  have hm2 : 6 ≤ m ∧ m ≤ 30 := by simp [bitsL] at hm; omega
  obtain ⟨n, rfl⟩ : ∃ n, m = n + 1 := ⟨m - 1, by omega⟩
  have hv' := inI_iff.1 hv
  have e1 : ((n + 1 : Nat) : Int) - 1 = n := by omega
  have hw : IntKind.i64.wrap (n : Int) = n := wrap_in (inI_iff.2 (by omega))
  have t1 : min (Int.toNat ((n + 1 : Nat) : Int)) (IntKind.bits IntKind.i64) = n + 1 := by rw [bits64]; omega
  have t2 : min (Int.toNat (n : Int)) (IntKind.bits IntKind.i64) = n := by rw [bits64]; omega
  unfold raw45 roundZ
  rw [if_neg (by omega), if_neg (by omega), e1, hw, t1, t2, and_one, show Int.toNat ((n + 1 : Nat) : Int) = n + 1 by omega, Nat.add_sub_cancel, ← half_up]
  have hq : inI (v.fdiv (2 ^ n) % 2) = true := inI_iff.2 (by omega)
  rw [wrap_in hq]
  refine wrap_in ?_
  have p0 := pow_pos n
  have p1 := pow_pos (n + 1)
  rw [Int.fdiv_eq_ediv_of_nonneg _ (Int.le_of_lt p1)]
  have a1 : -9223372036854775808 / 2 ≤ v / 2 ^ (n + 1) ∧ v / 2 ^ (n + 1) ≤ 9223372036854775807 / 2 := by
    rw [show (2 : Int) ^ (n + 1) = 2 * 2 ^ n by rw [Int.pow_succ]; omega, ← Int.ediv_ediv_of_nonneg (by decide)]
    have q1 : v / 2 / 2 ^ n ≤ 9223372036854775807 / 2 := by
      refine Int.ediv_le_of_le_mul p0 ?_
      have : (9223372036854775807 / 2 : Int) * 1 ≤ 9223372036854775807 / 2 * 2 ^ n := Int.mul_le_mul_of_nonneg_left (by omega) (by decide)
      omega
    have q2 : -9223372036854775808 / 2 ≤ v / 2 / 2 ^ n := by
      refine Int.le_ediv_of_mul_le p0 ?_
      have : (9223372036854775808 / 2 : Int) * 1 ≤ 9223372036854775808 / 2 * 2 ^ n := Int.mul_le_mul_of_nonneg_left (by omega) (by decide)
      omega
    exact ⟨q2, q1⟩
  exact inI_iff.2 (by omega)

theorem raw46_eq (v b : Int) (hv : inI v = true) (h : inL b = true) : raw46 v b = roundZ v b := by
  obtain ⟨m, hm, rfl⟩ := inL_get h
  have hm2 : 6 ≤ m ∧ m ≤ 30 := by simp [bitsL] at hm; omega
  obtain ⟨n, rfl⟩ : ∃ n, m = n + 1 := ⟨m - 1, by omega⟩
  have hv' := inI_iff.1 hv
  have e1 : ((n + 1 : Nat) : Int) - 1 = n := by omega
  have hw : IntKind.i64.wrap (n : Int) = n := wrap_in (inI_iff.2 (by omega))
  have hu : IntKind.u64.wrap ((n + 1 : Nat) : Int) = ((n + 1 : Nat) : Int) := wrapU_in (by omega) (by omega)
  have hu0 : IntKind.u64.wrap (n : Int) = (n : Int) := wrapU_in (by omega) (by omega)
  have t1 : min (Int.toNat ((n + 1 : Nat) : Int)) (IntKind.bits IntKind.i64) = n + 1 := by rw [bits64]; omega
  have t2 : min (Int.toNat (n : Int)) (IntKind.bits IntKind.i64) = n := by rw [bits64]; omega
  have t3 : Int.toNat ((n + 1 : Nat) : Int) = n + 1 := by omega
  have p0 := pow_pos n
  have p1 := pow_pos (n + 1)
  have q0 := pow_le62 (n := n) (by omega)
  have q1 := pow_le62 (n := n + 1) (by omega)
  have f1 : v.fdiv (2 ^ (n + 1)) = v / 2 ^ (n + 1) := Int.fdiv_eq_ediv_of_nonneg _ (Int.le_of_lt p1)
  have hm0 := mult_in (n := n + 1) hv (by omega)
  have hmw : IntKind.i64.wrap (v.fdiv (2 ^ (n + 1)) * 2 ^ (n + 1)) = v.fdiv (2 ^ (n + 1)) * 2 ^ (n + 1) := by rw [f1]; exact wrap_in hm0
  have hd : inI (v - v.fdiv (2 ^ (n + 1)) * 2 ^ (n + 1)) = true := by
    rw [f1]
    have a1 := Int.mul_ediv_add_emod v (2 ^ (n + 1))
    have a2 := Int.emod_nonneg v (Int.ne_of_gt p1)
    have a3 := Int.emod_lt_of_pos v p1
    rw [Int.mul_comm] at a1
    exact inI_iff.2 (by omega)
  have hw1 := wrap_in hd
  have hw2 : IntKind.i64.wrap (2 ^ n) = 2 ^ n := wrap_in (inI_iff.2 (by omega))
  have hq : inI (v.fdiv (2 ^ (n + 1)) + 1) = true := by
    rw [f1]
    have a1 : -9223372036854775808 / 2 ≤ v / 2 ^ (n + 1) ∧ v / 2 ^ (n + 1) ≤ 9223372036854775807 / 2 := by
      rw [show (2 : Int) ^ (n + 1) = 2 * 2 ^ n by rw [Int.pow_succ]; omega, ← Int.ediv_ediv_of_nonneg (by decide)]
      have q1 : v / 2 / 2 ^ n ≤ 9223372036854775807 / 2 := by
        refine Int.ediv_le_of_le_mul p0 ?_
        have : (9223372036854775807 / 2 : Int) * 1 ≤ 9223372036854775807 / 2 * 2 ^ n := Int.mul_le_mul_of_nonneg_left (by omega) (by decide)
        omega
      have q2 : -9223372036854775808 / 2 ≤ v / 2 / 2 ^ n := by
        refine Int.le_ediv_of_mul_le p0 ?_
        have : (9223372036854775808 / 2 : Int) * 1 ≤ 9223372036854775808 / 2 * 2 ^ n := Int.mul_le_mul_of_nonneg_left (by omega) (by decide)
        omega
      exact ⟨q2, q1⟩
    exact inI_iff.2 (by omega)
  have ed : downZ v ((n + 1 : Nat) : Int) = v.fdiv (2 ^ (n + 1)) := by unfold downZ; rw [hu, t1]
  have et : tst46 v ((n + 1 : Nat) : Int) ↔ v - v.fdiv (2 ^ (n + 1)) * 2 ^ (n + 1) ≥ 2 ^ n := by
    unfold tst46
    rw [ed, hu, t1, e1, hw, hu0, t2, hmw, hw1, Int.one_mul, hw2]
  have er : roundZ v ((n + 1 : Nat) : Int) = (v + 2 ^ n) / 2 ^ (n + 1) := by unfold roundZ; rw [if_neg (by omega), if_neg (by omega), t3, Nat.add_sub_cancel]
  rw [er, half_ref]
  unfold raw46
  rw [ed]
  by_cases hc : v - v.fdiv (2 ^ (n + 1)) * 2 ^ (n + 1) ≥ 2 ^ n
  · rw [if_pos (et.2 hc), if_pos hc, wrap_in hq]
  · rw [if_neg (fun h => hc (et.1 h)), if_neg hc]

def rdO : Oracle := fun f args H => match H with
  | [] => match f, args with
    | 45, [.int .i64 v, .int .i64 b] => match inL b with
      | true => some (.int .i64 (raw45 v b), [], 0)
      | false => none
    | 46, [.int .i64 v, .int .i64 b] => match inL b with
      | true => some (.int .i64 (raw46 v b), [], 0)
      | false => none
    | _, _ => none
  | _ => none
theorem rdO_sound : Sound Try.prog rdO := by
  intro f args H v H' l h
  unfold rdO at h
  split at h
  · split at h
    · split at h
      · simp only [Option.some.injEq, Prod.mk.injEq] at h; obtain ⟨rfl, rfl, rfl⟩ := h
        exact raw45_ok _ _ (by assumption)
      · simp at h
    · split at h
      · simp only [Option.some.injEq, Prod.mk.injEq] at h; obtain ⟨rfl, rfl, rfl⟩ := h
        exact raw46_ok _ _ (by assumption)
      · simp at h
    · simp at h
  · simp at h

end Go.Proofs.Ytfbjpenbpbpcaaa
