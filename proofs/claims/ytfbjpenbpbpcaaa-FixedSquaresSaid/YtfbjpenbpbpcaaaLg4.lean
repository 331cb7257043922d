/-
  Chapter 05's logarithm: fixed.Log.
-/
import Derived.Test.YtfbjpenbpbpcaaaLg3
import Derived.Test.YtfbjpenbpbpcaaaTb0
namespace Go.Proofs.Ytfbjpenbpbpcaaa
open Go Den
set_option maxRecDepth 100000
set_option linter.unusedSimpArgs false
set_option linter.unusedVariables false

theorem digs_succ (D V : Int) (hD : 0 < D) (k : Nat) : digs D V (k + 1) = V % D :: digs D (V / D) k := by
  unfold digs
  rw [List.range_succ_eq_map, List.map_cons, List.map_map]
  simp only [Int.pow_zero, Int.ediv_one]
  congr 1
  apply List.map_congr_left
  intro j _
  simp only [Function.comp]
  rw [Int.pow_succ, Int.mul_comm (D ^ j) D, ← Int.ediv_ediv_of_nonneg (Int.le_of_lt hD)]

theorem valD_digs (D : Int) (hD : 0 < D) : ∀ (k : Nat) (V : Int), 0 ≤ V → V < D ^ k → valD D (digs D V k) = V := by
  intro k
  induction k with
  | zero => intro V h0 h1; simp at h1; have : V = 0 := by omega
            subst this; rfl
  | succ k ih =>
    intro V h0 h1
    rw [digs_succ D V hD]
    simp only [valD]
    have h2 : V / D < D ^ k := by
      refine Int.ediv_lt_of_lt_mul hD ?_
      rw [Int.pow_succ] at h1
      exact h1
    rw [ih (V / D) (Int.ediv_nonneg h0 (Int.le_of_lt hD)) h2]
    have := Int.emod_add_mul_ediv V D
    omega

/-- How long a number is, by its highest digit. -/
theorem lenZ_digs (s : Nat) (V : Int) (h0 : 0 ≤ V) (i : Nat) : ∀ (k : Nat), V < (2 ^ s) ^ (i + 1 + k) → (∀ j, i < j → j < i + 1 + k → V / (2 ^ s) ^ j % (2 ^ s) = 0) → 0 < V / (2 ^ s) ^ i % (2 ^ s) →
    lenZ V = ((s * i : Nat) : Int) + lenZ (V / (2 ^ s) ^ i % (2 ^ s)) := by
  intro k
  have p : (0 : Int) < 2 ^ s := pow_pos s
  induction k with
  | zero =>
    intro h1 _ h2
    have pi : (0 : Int) < (2 ^ s) ^ i := Int.pow_pos p
    have h3 : V / (2 ^ s) ^ i < 2 ^ s := by
      refine Int.ediv_lt_of_lt_mul pi ?_
      rw [Nat.add_zero, Int.pow_succ] at h1
      rw [Int.mul_comm]; exact h1
    have h4 : V / (2 ^ s) ^ i % 2 ^ s = V / (2 ^ s) ^ i := Int.emod_eq_of_lt (Int.ediv_nonneg h0 (Int.le_of_lt pi)) h3
    rw [h4] at h2 ⊢
    rw [← Int.pow_mul] at h2 ⊢
    exact lenZ_div h2
  | succ k ih =>
    intro h1 hz h2
    refine ih ?_ (fun j hj hk => hz j hj (by omega)) h2
    have pk : (0 : Int) < (2 ^ s) ^ (i + 1 + k) := Int.pow_pos p
    have h3 := hz (i + 1 + k) (by omega) (by omega)
    have h4 : V / (2 ^ s) ^ (i + 1 + k) < 2 ^ s := by
      refine Int.ediv_lt_of_lt_mul pk ?_
      rw [show i + 1 + (k + 1) = (i + 1 + k) + 1 by omega, Int.pow_succ] at h1
      rw [Int.mul_comm]; exact h1
    rw [Int.emod_eq_of_lt (Int.ediv_nonneg h0 (Int.le_of_lt pk)) h4] at h3
    have h5 := Int.mul_ediv_add_emod V ((2 ^ s) ^ (i + 1 + k))
    have h6 := Int.emod_lt_of_pos V pk
    rw [h3] at h5
    omega

def lg1 (D n : Int) (k : Nat) : List Int := digs D (n * n) k
def sq1 (D : Int) (xs : List Int) (k : Nat) : List Int := digs D (valD D xs * valD D xs) k

theorem sq_sq {n m : Int} {B C : Int} (h0 : 0 ≤ n) (h1 : n < B) (hB : B * B = C) : 0 ≤ n * n ∧ n * n < C := by
  refine ⟨Int.mul_nonneg h0 h0, ?_⟩
  rw [← hB]
  have : n * n ≤ n * B := Int.mul_le_mul_of_nonneg_left (by omega) h0
  have : n * B < B * B := Int.mul_lt_mul_of_pos_right h1 (by omega)
  omega

def logZ (n : Int) : Int := if n = 0 then 0 else lenZ (n ^ 8) - 1

theorem pow8_lt {n : Int} (h0 : 0 ≤ n) (h1 : n ≤ 18446744073709551615) : 0 ≤ n ^ 8 ∧ n ^ 8 < DD ^ 8 := by
  have a1 := sq_sq (m := n) (B := DD) (C := DD ^ 2) h0 (by simp only [DD]; omega) (by decide)
  have a2 := sq_sq (m := n) (B := DD ^ 2) (C := DD ^ 4) a1.1 a1.2 (by decide)
  have a3 := sq_sq (m := n) (B := DD ^ 4) (C := DD ^ 8) a2.1 a2.2 (by decide)
  have e : n ^ 8 = n * n * (n * n) * (n * n * (n * n)) := by grind
  rw [e]
  exact a3

/-- The digits of the eighth power. -/
theorem sq3_eq {n : Int} (h0 : 0 ≤ n) (h1 : n ≤ 18446744073709551615) : sq1 DD (sq1 DD (sq1 DD [n] 2) 4) 8 = digs DD (n ^ 8) 8 := by
  have a1 := sq_sq (m := n) (B := DD) (C := DD ^ 2) h0 (by simp only [DD]; omega) (by decide)
  have a2 := sq_sq (m := n) (B := DD ^ 2) (C := DD ^ 4) a1.1 a1.2 (by decide)
  have e0 : valD DD [n] = n := by simp [valD]
  have e1 : valD DD (sq1 DD [n] 2) = n * n := by unfold sq1; rw [e0]; exact valD_digs DD (by decide) 2 _ a1.1 a1.2
  have e2 : valD DD (sq1 DD (sq1 DD [n] 2) 4) = n * n * (n * n) := by
    show valD DD (digs DD (valD DD (sq1 DD [n] 2) * valD DD (sq1 DD [n] 2)) 4) = _
    rw [e1]; exact valD_digs DD (by decide) 4 _ a2.1 a2.2
  have e : n ^ 8 = n * n * (n * n) * (n * n * (n * n)) := by grind
  show digs DD (valD DD (sq1 DD (sq1 DD [n] 2) 4) * valD DD (sq1 DD (sq1 DD [n] 2) 4)) 8 = _
  rw [e2, e]

theorem digs_getD (D V : Int) (k j : Nat) (h : j < k) : (digs D V k).getD j 0 = V / D ^ j % D := by
  simp [digs, List.getD_eq_getElem?_getD, h]

theorem cells_digs (D V : Int) (hD : 0 < D) (k : Nat) (b : Bool) (g : Option Nat) (l c : Nat) : cellsIn D [.slice (some ⟨0, 0, none⟩) l c] [⟨b, g, (digs D V k).map (.int .u64)⟩] = true := by
  have hi : ∀ xs : List Int, intsU (xs.map (.int .u64)) = some xs := by
    intro xs
    induction xs with
    | nil => rfl
    | cons x xs ih => simp [intsU, ih]
  simp only [cellsIn, List.getElem?_cons_zero, hi]
  simp only [digs, List.all_map, List.all_eq_true]
  intro j _
  simp only [Function.comp, Bool.and_eq_true, decide_eq_true_eq]
  exact ⟨Int.emod_nonneg _ (Int.ne_of_gt hD), Int.emod_lt_of_pos _ hD⟩

theorem lg_pre : Sound Try.prog (strict (framePre lgoPre) (frameC lgO)) := frame_sound lgO_sound

abbrev s3 (n : Int) : List Int := sq1 DD (sq1 DD (sq1 DD [n] 2) 4) 8
def blkU (xs : List Int) : Blk := ⟨true, none, xs.map (.int .u64)⟩
def lgBase (n : Int) : Obs := [(lgoPre 116 [.slice (some ⟨0, 0, none⟩) 4 4] [blkU (sq1 DD (sq1 DD [n] 2) 4)], true), (lgoPre 116 [.slice (some ⟨0, 0, none⟩) 2 2] [blkU (sq1 DD [n] 2)], true), (lgoPre 116 [.slice (some ⟨0, 0, none⟩) 1 1] [blkU [n]], true), (n == 0, false)]

theorem log_run7 (n : Int) : (evFnL Try.prog ext 300 (framePre lgoPre) (frameC lgO) noLoops [(0, false), (1, true), (1, true), (1, true), (2, true), (0, true)] 59 [.int .u64 n] []).map (fun r => (r.1.1, r.2)) =
    some (.int .i64 (IntKind.wrap IntKind.i64 (IntKind.wrap IntKind.i64 (448 + lenZ ((s3 n).getD 7 0)) - 1)), [(lgoPre 115 [.int .u64 ((s3 n).getD 7 0)] [], true), (decide ((s3 n).getD 7 0 > 0), true)] ++ lgBase n) := by kernel_rfl

theorem log_run6 (n : Int) : (evFnL Try.prog ext 300 (framePre lgoPre) (frameC lgO) noLoops [(0, false), (1, true), (1, true), (1, true), (2, false), (1, true), (0, true)] 59 [.int .u64 n] []).map (fun r => (r.1.1, r.2)) =
    some (.int .i64 (IntKind.wrap IntKind.i64 (IntKind.wrap IntKind.i64 (384 + lenZ ((s3 n).getD 6 0)) - 1)), [(lgoPre 115 [.int .u64 ((s3 n).getD 6 0)] [], true), (decide ((s3 n).getD 6 0 > 0), true), (decide ((s3 n).getD 7 0 > 0), false)] ++ lgBase n) := by kernel_rfl

theorem log_run5 (n : Int) : (evFnL Try.prog ext 300 (framePre lgoPre) (frameC lgO) noLoops [(0, false), (1, true), (1, true), (1, true), (2, false), (1, false), (1, true), (0, true)] 59 [.int .u64 n] []).map (fun r => (r.1.1, r.2)) =
    some (.int .i64 (IntKind.wrap IntKind.i64 (IntKind.wrap IntKind.i64 (320 + lenZ ((s3 n).getD 5 0)) - 1)), [(lgoPre 115 [.int .u64 ((s3 n).getD 5 0)] [], true), (decide ((s3 n).getD 5 0 > 0), true), (decide ((s3 n).getD 6 0 > 0), false), (decide ((s3 n).getD 7 0 > 0), false)] ++ lgBase n) := by kernel_rfl

theorem log_run4 (n : Int) : (evFnL Try.prog ext 300 (framePre lgoPre) (frameC lgO) noLoops [(0, false), (1, true), (1, true), (1, true), (2, false), (1, false), (1, false), (1, true), (0, true)] 59 [.int .u64 n] []).map (fun r => (r.1.1, r.2)) =
    some (.int .i64 (IntKind.wrap IntKind.i64 (IntKind.wrap IntKind.i64 (256 + lenZ ((s3 n).getD 4 0)) - 1)), [(lgoPre 115 [.int .u64 ((s3 n).getD 4 0)] [], true), (decide ((s3 n).getD 4 0 > 0), true), (decide ((s3 n).getD 5 0 > 0), false), (decide ((s3 n).getD 6 0 > 0), false), (decide ((s3 n).getD 7 0 > 0), false)] ++ lgBase n) := by kernel_rfl

theorem log_run3 (n : Int) : (evFnL Try.prog ext 300 (framePre lgoPre) (frameC lgO) noLoops [(0, false), (1, true), (1, true), (1, true), (2, false), (1, false), (1, false), (1, false), (1, true), (0, true)] 59 [.int .u64 n] []).map (fun r => (r.1.1, r.2)) =
    some (.int .i64 (IntKind.wrap IntKind.i64 (IntKind.wrap IntKind.i64 (192 + lenZ ((s3 n).getD 3 0)) - 1)), [(lgoPre 115 [.int .u64 ((s3 n).getD 3 0)] [], true), (decide ((s3 n).getD 3 0 > 0), true), (decide ((s3 n).getD 4 0 > 0), false), (decide ((s3 n).getD 5 0 > 0), false), (decide ((s3 n).getD 6 0 > 0), false), (decide ((s3 n).getD 7 0 > 0), false)] ++ lgBase n) := by kernel_rfl

theorem log_run2 (n : Int) : (evFnL Try.prog ext 300 (framePre lgoPre) (frameC lgO) noLoops [(0, false), (1, true), (1, true), (1, true), (2, false), (1, false), (1, false), (1, false), (1, false), (1, true), (0, true)] 59 [.int .u64 n] []).map (fun r => (r.1.1, r.2)) =
    some (.int .i64 (IntKind.wrap IntKind.i64 (IntKind.wrap IntKind.i64 (128 + lenZ ((s3 n).getD 2 0)) - 1)), [(lgoPre 115 [.int .u64 ((s3 n).getD 2 0)] [], true), (decide ((s3 n).getD 2 0 > 0), true), (decide ((s3 n).getD 3 0 > 0), false), (decide ((s3 n).getD 4 0 > 0), false), (decide ((s3 n).getD 5 0 > 0), false), (decide ((s3 n).getD 6 0 > 0), false), (decide ((s3 n).getD 7 0 > 0), false)] ++ lgBase n) := by kernel_rfl

theorem log_run1 (n : Int) : (evFnL Try.prog ext 300 (framePre lgoPre) (frameC lgO) noLoops [(0, false), (1, true), (1, true), (1, true), (2, false), (1, false), (1, false), (1, false), (1, false), (1, false), (1, true), (0, true)] 59 [.int .u64 n] []).map (fun r => (r.1.1, r.2)) =
    some (.int .i64 (IntKind.wrap IntKind.i64 (IntKind.wrap IntKind.i64 (64 + lenZ ((s3 n).getD 1 0)) - 1)), [(lgoPre 115 [.int .u64 ((s3 n).getD 1 0)] [], true), (decide ((s3 n).getD 1 0 > 0), true), (decide ((s3 n).getD 2 0 > 0), false), (decide ((s3 n).getD 3 0 > 0), false), (decide ((s3 n).getD 4 0 > 0), false), (decide ((s3 n).getD 5 0 > 0), false), (decide ((s3 n).getD 6 0 > 0), false), (decide ((s3 n).getD 7 0 > 0), false)] ++ lgBase n) := by kernel_rfl

theorem log_run0 (n : Int) : (evFnL Try.prog ext 300 (framePre lgoPre) (frameC lgO) noLoops [(0, false), (1, true), (1, true), (1, true), (2, false), (1, false), (1, false), (1, false), (1, false), (1, false), (1, false), (1, true)] 59 [.int .u64 n] []).map (fun r => (r.1.1, r.2)) =
    some (.int .i64 (IntKind.wrap IntKind.i64 (lenZ ((s3 n).getD 0 0) - 1)), [(lgoPre 115 [.int .u64 ((s3 n).getD 0 0)] [], true), (decide ((s3 n).getD 1 0 > 0), false), (decide ((s3 n).getD 2 0 > 0), false), (decide ((s3 n).getD 3 0 > 0), false), (decide ((s3 n).getD 4 0 > 0), false), (decide ((s3 n).getD 5 0 > 0), false), (decide ((s3 n).getD 6 0 > 0), false), (decide ((s3 n).getD 7 0 > 0), false)] ++ lgBase n) := by kernel_rfl

theorem lgBase_ok (n : Int) (h0 : 0 ≤ n) (h1 : n ≤ 18446744073709551615) (hn : n ≠ 0) : Holds (lgBase n) := by
  have a : lgoPre 116 [.slice (some ⟨0, 0, none⟩) 4 4] [blkU (sq1 DD (sq1 DD [n] 2) 4)] = true := cells_digs DD (valD DD (sq1 DD [n] 2) * valD DD (sq1 DD [n] 2)) (by decide) 4 true none 4 4
  have b : lgoPre 116 [.slice (some ⟨0, 0, none⟩) 2 2] [blkU (sq1 DD [n] 2)] = true := cells_digs DD (valD DD [n] * valD DD [n]) (by decide) 2 true none 2 2
  have c : lgoPre 116 [.slice (some ⟨0, 0, none⟩) 1 1] [blkU [n]] = true := by
    show ((0 ≤ n : Bool) && (n < DD : Bool)) && true = true
    simp [DD]
    omega
  simp [Holds, lgBase, a, b, c, hn]

theorem holds_app {a b : Obs} (h : Holds a) (k : Holds b) : Holds (a ++ b) := fun p hp => (List.mem_append.1 hp).elim (h p) (k p)

theorem log_ok (n : Int) (h0 : 0 ≤ n) (h1 : n ≤ 18446744073709551615) : CallOk Try.prog 59 [.int .u64 n] [] (.int .i64 (logZ n)) [] 0 := by
  by_cases hn : n = 0
  · subst hn
    exact pf_ok (N := 300) (L := noLoops) (os := [(0, true)]) (ob := [((0 : Int) == 0, true)]) lg_pre noLoops_ok (by kernel_rfl) (by simp [Holds]) rfl
  have hb := lgBase_ok n h0 h1 hn
  have hd := sq3_eq h0 h1
  obtain ⟨p0, p1⟩ := pow8_lt h0 h1
  have e64 : DD = 2 ^ 64 := by decide
  have hg : ∀ j, j < 8 → (s3 n).getD j 0 = n ^ 8 / (2 ^ 64) ^ j % (2 ^ 64) := fun j hj => by rw [show s3 n = digs DD (n ^ 8) 8 from hd, digs_getD _ _ _ _ hj, ← e64]
  have hu : ∀ j, j < 8 → isU ((s3 n).getD j 0) = true := fun j hj => by
    rw [hg j hj]
    have := Int.emod_nonneg (n ^ 8 / (2 ^ 64) ^ j) (b := 2 ^ 64) (by decide)
    have := Int.emod_lt_of_pos (n ^ 8 / (2 ^ 64) ^ j) (b := 2 ^ 64) (by decide)
    exact isU_iff.2 (by omega)
  have hpos : 0 < n ^ 8 := Int.pow_pos (by omega)
  have key : ∀ i, i < 8 → (∀ j, i < j → j < 8 → ¬ (s3 n).getD j 0 > 0) → (s3 n).getD i 0 > 0 → logZ n = ((64 * i : Nat) : Int) + lenZ ((s3 n).getD i 0) - 1 ∧ inI (((64 * i : Nat) : Int) + lenZ ((s3 n).getD i 0)) = true ∧ inI (((64 * i : Nat) : Int) + lenZ ((s3 n).getD i 0) - 1) = true := by
    intro i hi hz hp
    have hl := lenZ_le (isU_iff.1 (hu i hi)).1 (isU_iff.1 (hu i hi)).2
    have e := lenZ_digs 64 (n ^ 8) p0 i (7 - i) (by rw [← e64, show i + 1 + (7 - i) = 8 by omega]; exact p1) (fun j hj hk => by
      have h2 := hz j hj (by omega)
      have h3 := (isU_iff.1 (hu j (by omega))).1
      rw [← hg j (by omega)]
      omega) (by rw [← hg i hi]; exact hp)
    rw [← hg i hi] at e
    refine ⟨by unfold logZ; rw [if_neg hn, e], inI_iff.2 (by omega), inI_iff.2 (by omega)⟩
  by_cases h7 : (s3 n).getD 7 0 > 0
  · obtain ⟨k1, k2, k3⟩ := key 7 (by decide) (fun j hj hk => by
      omega) h7
    rw [show ((64 * 7 : Nat) : Int) = 448 from rfl] at k1 k2 k3
    refine pf_ok lg_pre noLoops_ok ((log_run7 n).trans (by rw [wrap_in k2, wrap_in k3, ← k1])) ?_ rfl
    have u := hu 7 (by decide)
    refine holds_app ?_ hb
    simp only [Holds, List.mem_cons, List.not_mem_nil, or_false, forall_eq_or_imp, forall_eq, lgoPre]
    simp only [u, h7, decide_true, decide_false, and_self]
  by_cases h6 : (s3 n).getD 6 0 > 0
  · obtain ⟨k1, k2, k3⟩ := key 6 (by decide) (fun j hj hk => by
      obtain rfl : j = 7 := by omega
      exact h7) h6
    rw [show ((64 * 6 : Nat) : Int) = 384 from rfl] at k1 k2 k3
    refine pf_ok lg_pre noLoops_ok ((log_run6 n).trans (by rw [wrap_in k2, wrap_in k3, ← k1])) ?_ rfl
    have u := hu 6 (by decide)
    refine holds_app ?_ hb
    simp only [Holds, List.mem_cons, List.not_mem_nil, or_false, forall_eq_or_imp, forall_eq, lgoPre]
    simp only [u, h6, h7, decide_true, decide_false, and_self]
  by_cases h5 : (s3 n).getD 5 0 > 0
  · obtain ⟨k1, k2, k3⟩ := key 5 (by decide) (fun j hj hk => by
      obtain rfl | rfl : j = 6 ∨ j = 7 := by omega
      · exact h6
      · exact h7) h5
    rw [show ((64 * 5 : Nat) : Int) = 320 from rfl] at k1 k2 k3
    refine pf_ok lg_pre noLoops_ok ((log_run5 n).trans (by rw [wrap_in k2, wrap_in k3, ← k1])) ?_ rfl
    have u := hu 5 (by decide)
    refine holds_app ?_ hb
    simp only [Holds, List.mem_cons, List.not_mem_nil, or_false, forall_eq_or_imp, forall_eq, lgoPre]
    simp only [u, h5, h6, h7, decide_true, decide_false, and_self]
  by_cases h4 : (s3 n).getD 4 0 > 0
  · obtain ⟨k1, k2, k3⟩ := key 4 (by decide) (fun j hj hk => by
      obtain rfl | rfl | rfl : j = 5 ∨ j = 6 ∨ j = 7 := by omega
      · exact h5
      · exact h6
      · exact h7) h4
    rw [show ((64 * 4 : Nat) : Int) = 256 from rfl] at k1 k2 k3
    refine pf_ok lg_pre noLoops_ok ((log_run4 n).trans (by rw [wrap_in k2, wrap_in k3, ← k1])) ?_ rfl
    have u := hu 4 (by decide)
    refine holds_app ?_ hb
    simp only [Holds, List.mem_cons, List.not_mem_nil, or_false, forall_eq_or_imp, forall_eq, lgoPre]
    simp only [u, h4, h5, h6, h7, decide_true, decide_false, and_self]
  by_cases h3 : (s3 n).getD 3 0 > 0
  · obtain ⟨k1, k2, k3⟩ := key 3 (by decide) (fun j hj hk => by
      obtain rfl | rfl | rfl | rfl : j = 4 ∨ j = 5 ∨ j = 6 ∨ j = 7 := by omega
      · exact h4
      · exact h5
      · exact h6
      · exact h7) h3
    rw [show ((64 * 3 : Nat) : Int) = 192 from rfl] at k1 k2 k3
    refine pf_ok lg_pre noLoops_ok ((log_run3 n).trans (by rw [wrap_in k2, wrap_in k3, ← k1])) ?_ rfl
    have u := hu 3 (by decide)
    refine holds_app ?_ hb
    simp only [Holds, List.mem_cons, List.not_mem_nil, or_false, forall_eq_or_imp, forall_eq, lgoPre]
    simp only [u, h3, h4, h5, h6, h7, decide_true, decide_false, and_self]
  by_cases h2 : (s3 n).getD 2 0 > 0
  · obtain ⟨k1, k2, k3⟩ := key 2 (by decide) (fun j hj hk => by
      obtain rfl | rfl | rfl | rfl | rfl : j = 3 ∨ j = 4 ∨ j = 5 ∨ j = 6 ∨ j = 7 := by omega
      · exact h3
      · exact h4
      · exact h5
      · exact h6
      · exact h7) h2
    rw [show ((64 * 2 : Nat) : Int) = 128 from rfl] at k1 k2 k3
    refine pf_ok lg_pre noLoops_ok ((log_run2 n).trans (by rw [wrap_in k2, wrap_in k3, ← k1])) ?_ rfl
    have u := hu 2 (by decide)
    refine holds_app ?_ hb
    simp only [Holds, List.mem_cons, List.not_mem_nil, or_false, forall_eq_or_imp, forall_eq, lgoPre]
    simp only [u, h2, h3, h4, h5, h6, h7, decide_true, decide_false, and_self]
  by_cases h1 : (s3 n).getD 1 0 > 0
  · obtain ⟨k1, k2, k3⟩ := key 1 (by decide) (fun j hj hk => by
      obtain rfl | rfl | rfl | rfl | rfl | rfl : j = 2 ∨ j = 3 ∨ j = 4 ∨ j = 5 ∨ j = 6 ∨ j = 7 := by omega
      · exact h2
      · exact h3
      · exact h4
      · exact h5
      · exact h6
      · exact h7) h1
    rw [show ((64 * 1 : Nat) : Int) = 64 from rfl] at k1 k2 k3
    refine pf_ok lg_pre noLoops_ok ((log_run1 n).trans (by rw [wrap_in k2, wrap_in k3, ← k1])) ?_ rfl
    have u := hu 1 (by decide)
    refine holds_app ?_ hb
    simp only [Holds, List.mem_cons, List.not_mem_nil, or_false, forall_eq_or_imp, forall_eq, lgoPre]
    simp only [u, h1, h2, h3, h4, h5, h6, h7, decide_true, decide_false, and_self]
  have hx0 : (s3 n).getD 0 0 > 0 := by
    refine Int.lt_of_not_ge fun h0' => ?_
    have hz : ∀ j, j < 8 → (s3 n).getD j 0 = 0 := by
      intro j hj
      have h3 := (isU_iff.1 (hu j hj)).1
      obtain rfl | rfl | rfl | rfl | rfl | rfl | rfl | rfl : j = 0 ∨ j = 1 ∨ j = 2 ∨ j = 3 ∨ j = 4 ∨ j = 5 ∨ j = 6 ∨ j = 7 := by omega
      all_goals omega
    have hv : valD DD (s3 n) = n ^ 8 := by rw [show s3 n = digs DD (n ^ 8) 8 from hd]; exact valD_digs DD (by decide) 8 (n ^ 8) p0 p1
    have hz2 : ∀ (l : List Int), (∀ j, j < l.length → l.getD j 0 = 0) → valD DD l = 0 := by
      intro l
      induction l with
      | nil => intro _; rfl
      | cons x l ih =>
        intro h
        have h1 := h 0 (by simp)
        simp at h1
        simp [valD, h1, ih fun j hj => by have := h (j + 1) (by simpa using hj); simpa using this]
    have hl8 : (s3 n).length = 8 := by rw [show s3 n = digs DD (n ^ 8) 8 from hd]; simp [digs]
    have hv0 := hz2 (s3 n) (fun j hj => hz j (by omega))
    rw [hv0] at hv
    omega
  obtain ⟨k1, k2, k3⟩ := key 0 (by decide) (fun j hj hk => by
      obtain rfl | rfl | rfl | rfl | rfl | rfl | rfl : j = 1 ∨ j = 2 ∨ j = 3 ∨ j = 4 ∨ j = 5 ∨ j = 6 ∨ j = 7 := by omega
      · exact h1
      · exact h2
      · exact h3
      · exact h4
      · exact h5
      · exact h6
      · exact h7) hx0
  rw [show ((64 * 0 : Nat) : Int) = 0 from rfl, Int.zero_add] at k1 k3
  refine pf_ok lg_pre noLoops_ok ((log_run0 n).trans (by rw [wrap_in k3, ← k1])) ?_ rfl
  have u := hu 0 (by decide)
  refine holds_app ?_ hb
  simp only [Holds, List.mem_cons, List.not_mem_nil, or_false, forall_eq_or_imp, forall_eq, lgoPre]
  simp only [u, h1, h2, h3, h4, h5, h6, h7, decide_true, decide_false, and_self]

end Go.Proofs.Ytfbjpenbpbpcaaa
