/-
  Chapter 05: the references' Sat and Sqrt, and Heron's way.
-/
import Derived.Test.YtfbjpenbpbpcaaaFx5
namespace Go.Proofs.Ytfbjpenbpbpcaaa
open Go Den
set_option maxRecDepth 100000
set_option linter.unusedSimpArgs false

theorem clamp62 (b : Int) : (if 62 < if 1 > b then 1 else b then 62 else if 1 > b then 1 else b) = withinZ b 1 62 := by
  unfold withinZ
  repeat' split
  all_goals omega

theorem ref_sat_ok (v b : Int) : CallOk Try.prog 63 [.int .i64 v, .int .i64 b] [] (.int .i64 (satZ v b)) [] 0 := by
  have hb := bits_le b
  have w1 : IntKind.i64.wrap (withinZ b 1 62 - 1) = withinZ b 1 62 - 1 := wrap_in (inI_iff.2 (by omega))
  have ht := top_le b
  have e1 : Int.toNat (withinZ b 1 62 - 1) = (withinZ b 1 62).toNat - 1 := by omega
  have e2 : (2 : Int) ^ ((withinZ b 1 62).toNat - 1) = topZ b + 1 := by unfold topZ; omega
  have h := fnL_ok (N := 300) (pre := fx1Pre) (C := fx1) (L := satLoop) (f := 63) (args := [.int .i64 v, .int .i64 b]) (H := []) (os := [])
    (v := .int .i64 (if IntKind.wrap IntKind.i64 (IntKind.wrap IntKind.i64 (0 - -2 ^ Int.toNat (IntKind.wrap IntKind.i64 ((if 62 < if 1 > b then 1 else b then 62 else if 1 > b then 1 else b) - 1))) - 1) < if -2 ^ Int.toNat (IntKind.wrap IntKind.i64 ((if 62 < if 1 > b then 1 else b then 62 else if 1 > b then 1 else b) - 1)) > v then -2 ^ Int.toNat (IntKind.wrap IntKind.i64 ((if 62 < if 1 > b then 1 else b then 62 else if 1 > b then 1 else b) - 1)) else v then IntKind.wrap IntKind.i64 (IntKind.wrap IntKind.i64 (0 - -2 ^ Int.toNat (IntKind.wrap IntKind.i64 ((if 62 < if 1 > b then 1 else b then 62 else if 1 > b then 1 else b) - 1))) - 1) else if -2 ^ Int.toNat (IntKind.wrap IntKind.i64 ((if 62 < if 1 > b then 1 else b then 62 else if 1 > b then 1 else b) - 1)) > v then -2 ^ Int.toNat (IntKind.wrap IntKind.i64 ((if 62 < if 1 > b then 1 else b then 62 else if 1 > b then 1 else b) - 1)) else v))
    (H' := []) (l := 0) (ob := [(decide ((-1 : Int) = -1), true), (decide ((0 : Int) = 0), true), (decide (0 ≤ IntKind.wrap IntKind.i64 ((if 62 < if 1 > b then 1 else b then 62 else if 1 > b then 1 else b) - 1)), true), (decide (IntKind.wrap IntKind.i64 ((if 62 < if 1 > b then 1 else b then 62 else if 1 > b then 1 else b) - 1) ≤ 61), true)])
    progOk extSound fx1_sound satLoop_ok (by kernel_rfl) (by rw [clamp62, w1]; simp [Holds]; omega)
  rw [clamp62, w1, e1, e2, wrap_in (n := 0 - -(topZ b + 1)) (inI_iff.2 (by omega)), show 0 - -(topZ b + 1) - 1 = topZ b by omega, wrap_in (n := topZ b) (inI_iff.2 (by omega))] at h
  have e3 : (if topZ b < if -(topZ b + 1) > v then -(topZ b + 1) else v then topZ b else if -(topZ b + 1) > v then -(topZ b + 1) else v) = satZ v b := by
    unfold satZ withinZ
    repeat' split
    all_goals omega
  rw [e3] at h
  exact h

theorem ref_root_ok (n : Int) (h0 : 0 ≤ n) (h1 : n ≤ 18446744073709551615) : CallOk Try.prog 58 [.int .u64 n] [] (.int .u64 (rootZ n)) [] 0 :=
  fnL_ok (N := 300) (pre := noPre) (C := noC) (L := rootLoop) (f := 58) (args := [.int .u64 n]) (H := []) (os := [])
    (v := .int .u64 (rootZ n)) (H' := []) (l := 0) (ob := [(decide ((0 : Int) = 0), true), (decide ((31 : Int) = 31), true), (decide (0 ≤ n), true), (decide (n ≤ 18446744073709551615), true)]) progOk extSound noC_sound rootLoop_ok (by kernel_rfl) (by simp [Holds]; omega)

/-! Heron's way. -/
theorem heron_ge {n r : Int} (h0 : 0 ≤ n) (h1 : n ≤ 18446744073709551615) (hr : 0 < r) : rootZ n ≤ (r + n / r) / 2 := by
  obtain ⟨b0, b1, b2, _⟩ := root_spec n h0 h1
  -- if it were less, r + n/r + 1 ≤ 2 s, so r * (2 s - r) > n, against (s - r)^2
  refine Int.not_lt.1 fun hlt => ?_
  have hk : r + n / r + 1 ≤ 2 * rootZ n := by omega
  have c1 := Int.lt_mul_ediv_self_add (x := n) (k := r) hr
  have c2 : r * (n / r + 1) ≤ r * (2 * rootZ n - r) := Int.mul_le_mul_of_nonneg_left (by omega) (by omega)
  have c3 : 0 ≤ (rootZ n - r) * (rootZ n - r) := by
    rcases Int.le_total 0 (rootZ n - r) with h | h
    · exact Int.mul_nonneg h h
    · exact Int.mul_nonneg_of_nonpos_of_nonpos h h
  simp only [Int.mul_sub, Int.sub_mul, Int.mul_add, Int.mul_one] at c2 c3
  have c4 : r * (2 * rootZ n) = 2 * (r * rootZ n) := Int.mul_left_comm ..
  have c5 : rootZ n * r = r * rootZ n := Int.mul_comm ..
  rw [c4] at c2
  rw [c5] at c3
  omega

theorem heron_lt {n r : Int} (h0 : 0 ≤ n) (h1 : n ≤ 18446744073709551615) (hr : rootZ n < r) : (r + n / r) / 2 < r := by
  obtain ⟨b0, b1, b2, _⟩ := root_spec n h0 h1
  have c0 : (rootZ n + 1) * (rootZ n + 1) ≤ r * r := Int.mul_le_mul (by omega) (by omega) (by omega) (by omega)
  have c1 : n / r < r := Int.ediv_lt_of_lt_mul (by omega) (by omega)
  omega

theorem heron_eq {n : Int} (h0 : 0 < n) (h1 : n ≤ 18446744073709551615) : rootZ n ≤ (rootZ n + n / rootZ n) / 2 := by
  obtain ⟨b0, b1, b2, _⟩ := root_spec n (by omega) h1
  have : 0 < rootZ n := by
    refine Int.not_le.1 fun h => ?_
    have : rootZ n = 0 := by omega
    rw [this] at b2
    omega
  exact heron_ge (by omega) h1 this

theorem codeOk57 : codeOk (loopAt Try.prog 57 0) = true := by kernel_rfl

def heronLoop : Loops := { loop := fun id s => match id with
  | 4 => match at? 0 s.F, at? 3 s.F with
    | some (.int .u64 n), some (.int .u64 r) => some (.ret, ⟨[(2, .int .u64 (rootZ n))], s.H, s.lo⟩, [(decide (rootZ n ≤ r), true), (decide (r ≤ 4294967296), true), (decide (0 < n), true), (decide (n ≤ 18446744073709551615), true)])
    | _, _ => none
  | _ => none }

theorem heronLoop_ok : LoopsOk Try.prog 23 heronLoop (bodyOf Try.prog 57) := by
  refine LoopsOk.one (b := loopAt Try.prog 57 0) (by kernel_rfl) fun s x s' o h hh => ?_
  rw [show firstId (loopAt Try.prog 57 0) = 4 by kernel_rfl] at h
  simp only [heronLoop] at h
  split at h
  case h_2 => simp at h
  rename_i n r h0 h3
  simp only [Option.some.injEq, Prod.mk.injEq] at h
  obtain ⟨rfl, rfl, rfl⟩ := h
  simp [Holds] at hh
  obtain ⟨hr0, hr1, hn0, hn1⟩ := hh
  have hs := root_spec n (by omega) hn1
  have hpos : 0 < rootZ n := by
    refine Int.not_le.1 fun h => ?_
    have h2 : rootZ n = 0 := by omega
    rw [h2] at hs
    omega
  have hw := WP.while (P := Try.prog) (nt := 23) (b := loopAt Try.prog 57 0) (fun r : Int => ⟨[(0, .int .u64 n), (3, .int .u64 r)], s.H, s.lo⟩) (fun r => rootZ n ≤ r ∧ r ≤ 4294967296) (fun r => r.toNat)
    (x := .ret) (s' := ⟨[(0, .int .u64 n), (2, .int .u64 (rootZ n)), (3, .int .u64 (rootZ n))], s.H, s.lo⟩) (by simp) (fun r hr => by
      have hq0 : 0 ≤ n / r := Int.ediv_nonneg (by omega) (by omega)
      have e1 : n.tdiv r = n / r := Int.tdiv_eq_ediv_of_nonneg (by omega)
      have hq1 : n / r ≤ n := by
        have h1 : r * (n / r) ≤ n := Int.mul_ediv_self_le (by omega)
        have h2 : 1 * (n / r) ≤ r * (n / r) := Int.mul_le_mul_of_nonneg_right (by omega) hq0
        omega
      have hge := heron_ge (n := n) (r := r) (by omega) hn1 (by omega)
      have hq2 : r + n / r ≤ 18446744073709551615 := by
        -- r * (n / r) ≤ n and both at least 1 or so: the sum is at most n + 1, or r is less than 2^33 and the quotient small
        by_cases h1 : r = 1
        · subst h1
          have := hs.2.2.2
          have hs1 : rootZ n = 1 := by omega
          rw [hs1] at hs
          rw [Int.ediv_one]
          omega
        · have h2 : 2 * (n / r) ≤ r * (n / r) := Int.mul_le_mul_of_nonneg_right (by omega) hq0
          have h3 : r * (n / r) ≤ n := Int.mul_ediv_self_le (by omega)
          omega
      have e2 : (r + n / r).tdiv 2 = (r + n / r) / 2 := Int.tdiv_eq_ediv_of_nonneg (by omega)
      have e3 : IntKind.wrap IntKind.u64 (Int.tdiv (IntKind.wrap IntKind.u64 (r + IntKind.wrap IntKind.u64 (Int.tdiv n r))) 2) = (r + n / r) / 2 := by
        rw [e1, wrapU_in (n := n / r) hq0 (by omega), wrapU_in (n := r + n / r) (by omega) hq2, e2, wrapU_in (by omega) (by omega)]
      by_cases ht : rootZ n < r
      · have hlt := heron_lt (n := n) (by omega) hn1 ht
        refine .inr ⟨(r + n / r) / 2, ⟨hge, by omega⟩, by omega, ?_⟩
        have h := WP.run (P := Try.prog) (X := ext) (pre := noPre) (C := noC) (L := noLoops) (N := 300) (nt := 23) progOk extSound noC_sound codeOk57 noLoops_ok (F := [(0, .int .u64 n), (3, .int .u64 r)]) (H := s.H) (lo := s.lo) (os := [(0, false), (1, false)]) [0, 3]
          (x := .normal) (F' := [(0, .int .u64 n), (3, .int .u64 (IntKind.wrap IntKind.u64 (Int.tdiv (IntKind.wrap IntKind.u64 (r + IntKind.wrap IntKind.u64 (Int.tdiv n r))) 2)))]) (H' := s.H) (lo' := s.lo)
          (ob := [(decide (IntKind.wrap IntKind.u64 (Int.tdiv (IntKind.wrap IntKind.u64 (r + IntKind.wrap IntKind.u64 (Int.tdiv n r))) 2) ≥ r), false), (decide (r = 0), false)]) (by kernel_rfl) (by rw [e3]; simp [Holds]; omega)
        rw [e3] at h
        exact h
      · have hrs : r = rootZ n := by omega
        subst hrs
        have hge2 := heron_eq hn0 hn1
        exact .inl (WP.run (P := Try.prog) (X := ext) (pre := noPre) (C := noC) (L := noLoops) (N := 300) (nt := 23) progOk extSound noC_sound codeOk57 noLoops_ok (F := [(0, .int .u64 n), (3, .int .u64 (rootZ n))]) (H := s.H) (lo := s.lo) (os := [(0, false), (1, true)]) [0, 2, 3]
          (x := .ret) (ob := [(decide (IntKind.wrap IntKind.u64 (Int.tdiv (IntKind.wrap IntKind.u64 (rootZ n + IntKind.wrap IntKind.u64 (Int.tdiv n (rootZ n)))) 2) ≥ rootZ n), true), (decide (rootZ n = 0), false)]) (by kernel_rfl) (by rw [e3]; simp [Holds]; omega))) r ⟨hr0, hr1⟩
  refine WP.weaken hw (Sub.of_list ?_) (Sub.of_list (by simp [at?, Nat.beq]))
  simp [h0, h3]

end Go.Proofs.Ytfbjpenbpbpcaaa
