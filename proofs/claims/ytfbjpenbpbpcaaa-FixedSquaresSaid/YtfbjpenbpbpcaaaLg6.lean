/-
  Chapter 05's logarithm: the contract of the reference's long; the reference's Log.
-/
import Derived.Test.YtfbjpenbpbpcaaaLg5
namespace Go.Proofs.Ytfbjpenbpbpcaaa
open Go Den
set_option maxRecDepth 100000
set_option linter.unusedSimpArgs false
set_option linter.unusedVariables false

theorem valD_lt (D : Int) (hD : 0 < D) : ∀ (l : List Int), inD D l → 0 ≤ valD D l ∧ valD D l < D ^ l.length := by
  intro l
  induction l with
  | nil => intro _; exact ⟨Int.le_refl _, by simp [valD]⟩
  | cons x l ih =>
    intro h
    have hx := h 0
    simp at hx
    obtain ⟨i1, i2⟩ := ih fun j => by have := h (j + 1); simpa using this
    simp only [valD, List.length_cons]
    rw [Int.pow_succ]
    refine ⟨by have := Int.mul_nonneg (Int.le_of_lt hD) i1; omega, ?_⟩
    have h3 : D * valD D l ≤ D * (D ^ l.length - 1) := Int.mul_le_mul_of_nonneg_left (by omega) (Int.le_of_lt hD)
    rw [Int.mul_sub, Int.mul_one] at h3
    rw [Int.mul_comm (D ^ l.length) D]
    omega

theorem long_ok (b0 : Bool) (h1 : Option Nat) (xs : List Int) (hx : inD D32 xs) (hm : xs.length = 16) :
    CallOk Try.prog 117 [.slice (some ⟨0, 0, none⟩) 16 16] [⟨b0, h1, xs.map (.int .u64)⟩] (.int .i64 (lenZ (valD D32 xs))) [⟨b0, h1, xs.map (.int .u64)⟩] 1 := by
  obtain ⟨p0, p1⟩ := valD_lt D32 (by decide) xs hx
  have e32 : D32 = 2 ^ 32 := by decide
  rw [hm] at p1
  have hg : ∀ j, j < 16 → xs.getD j 0 = valD D32 xs / (2 ^ 32) ^ j % (2 ^ 32) := fun j hj => by rw [← e32]; exact valD_dig D32 (by decide) xs hx j (by omega)
  have key : ∀ i, i < 16 → (∀ j, i < j → j < 16 → ¬ xs.getD j 0 > 0) → xs.getD i 0 > 0 → lenZ (valD D32 xs) = ((32 * i : Nat) : Int) + lenZ (xs.getD i 0) ∧ (((lenZ (xs.getD i 0)).toNat : Nat) : Int) = lenZ (xs.getD i 0) ∧ 0 ≤ xs.getD i 0 ∧ xs.getD i 0 < 4294967296 := by
    intro i hi hz hp
    have hb := hx i
    have hl := lenZ_le (n := xs.getD i 0) hb.1 (by simp only [D32] at hb; omega)
    have e := lenZ_digs 32 (valD D32 xs) p0 i (15 - i) (by rw [← e32, show i + 1 + (15 - i) = 16 by omega]; exact p1) (fun j hj hk => by
      have h2 := hz j hj (by omega)
      have h3 := (hx j).1
      rw [← hg j (by omega)]
      omega) (by rw [← hg i hi]; exact hp)
    rw [← hg i hi] at e
    simp only [D32] at hb
    exact ⟨e, by omega, hb.1, hb.2⟩
  clear hg
  obtain ⟨x0, x1, x2, x3, x4, x5, x6, x7, x8, x9, x10, x11, x12, x13, x14, x15, rfl⟩ : ∃ x0 x1 x2 x3 x4 x5 x6 x7 x8 x9 x10 x11 x12 x13 x14 x15, xs = [x0, x1, x2, x3, x4, x5, x6, x7, x8, x9, x10, x11, x12, x13, x14, x15] := by match xs, hm with | [x0, x1, x2, x3, x4, x5, x6, x7, x8, x9, x10, x11, x12, x13, x14, x15], _ => exact ⟨x0, x1, x2, x3, x4, x5, x6, x7, x8, x9, x10, x11, x12, x13, x14, x15, rfl⟩
  by_cases h15' : x15 > 0
  · obtain ⟨k1, k2, k3, k4⟩ := key 15 (by decide) (fun j hj hk => by
      omega) h15'
    simp only [List.getD_cons_succ, List.getD_cons_zero] at k1 k2 k3 k4
    have hr := fnL_ok progOk extSound noC_sound (lnN_ok _ 1 480 x15 k3 k4 (by omega)) (long_run15 b0 h1 (lenZ x15).toNat x0 x1 x2 x3 x4 x5 x6 x7 x8 x9 x10 x11 x12 x13 x14 x15) (by
      simp only [Holds, cdec, lnF, h15', decide_true, decide_false]
      simp)
    rw [k1]
    rw [k2] at hr
    exact hr
  by_cases h14' : x14 > 0
  · obtain ⟨k1, k2, k3, k4⟩ := key 14 (by decide) (fun j hj hk => by
      obtain rfl : j = 15 := by omega
      exact h15') h14'
    simp only [List.getD_cons_succ, List.getD_cons_zero] at k1 k2 k3 k4
    have hr := fnL_ok progOk extSound noC_sound (lnN_ok _ 1 448 x14 k3 k4 (by omega)) (long_run14 b0 h1 (lenZ x14).toNat x0 x1 x2 x3 x4 x5 x6 x7 x8 x9 x10 x11 x12 x13 x14 x15) (by
      simp only [Holds, cdec, lnF, h14', h15', decide_true, decide_false]
      simp)
    rw [k1]
    rw [k2] at hr
    exact hr
  by_cases h13' : x13 > 0
  · obtain ⟨k1, k2, k3, k4⟩ := key 13 (by decide) (fun j hj hk => by
      obtain rfl | rfl : j = 14 ∨ j = 15 := by omega
      · exact h14'
      · exact h15') h13'
    simp only [List.getD_cons_succ, List.getD_cons_zero] at k1 k2 k3 k4
    have hr := fnL_ok progOk extSound noC_sound (lnN_ok _ 1 416 x13 k3 k4 (by omega)) (long_run13 b0 h1 (lenZ x13).toNat x0 x1 x2 x3 x4 x5 x6 x7 x8 x9 x10 x11 x12 x13 x14 x15) (by
      simp only [Holds, cdec, lnF, h13', h14', h15', decide_true, decide_false]
      simp)
    rw [k1]
    rw [k2] at hr
    exact hr
  by_cases h12' : x12 > 0
  · obtain ⟨k1, k2, k3, k4⟩ := key 12 (by decide) (fun j hj hk => by
      obtain rfl | rfl | rfl : j = 13 ∨ j = 14 ∨ j = 15 := by omega
      · exact h13'
      · exact h14'
      · exact h15') h12'
    simp only [List.getD_cons_succ, List.getD_cons_zero] at k1 k2 k3 k4
    have hr := fnL_ok progOk extSound noC_sound (lnN_ok _ 1 384 x12 k3 k4 (by omega)) (long_run12 b0 h1 (lenZ x12).toNat x0 x1 x2 x3 x4 x5 x6 x7 x8 x9 x10 x11 x12 x13 x14 x15) (by
      simp only [Holds, cdec, lnF, h12', h13', h14', h15', decide_true, decide_false]
      simp)
    rw [k1]
    rw [k2] at hr
    exact hr
  by_cases h11' : x11 > 0
  · obtain ⟨k1, k2, k3, k4⟩ := key 11 (by decide) (fun j hj hk => by
      obtain rfl | rfl | rfl | rfl : j = 12 ∨ j = 13 ∨ j = 14 ∨ j = 15 := by omega
      · exact h12'
      · exact h13'
      · exact h14'
      · exact h15') h11'
    simp only [List.getD_cons_succ, List.getD_cons_zero] at k1 k2 k3 k4
    have hr := fnL_ok progOk extSound noC_sound (lnN_ok _ 1 352 x11 k3 k4 (by omega)) (long_run11 b0 h1 (lenZ x11).toNat x0 x1 x2 x3 x4 x5 x6 x7 x8 x9 x10 x11 x12 x13 x14 x15) (by
      simp only [Holds, cdec, lnF, h11', h12', h13', h14', h15', decide_true, decide_false]
      simp)
    rw [k1]
    rw [k2] at hr
    exact hr
  by_cases h10' : x10 > 0
  · obtain ⟨k1, k2, k3, k4⟩ := key 10 (by decide) (fun j hj hk => by
      obtain rfl | rfl | rfl | rfl | rfl : j = 11 ∨ j = 12 ∨ j = 13 ∨ j = 14 ∨ j = 15 := by omega
      · exact h11'
      · exact h12'
      · exact h13'
      · exact h14'
      · exact h15') h10'
    simp only [List.getD_cons_succ, List.getD_cons_zero] at k1 k2 k3 k4
    have hr := fnL_ok progOk extSound noC_sound (lnN_ok _ 1 320 x10 k3 k4 (by omega)) (long_run10 b0 h1 (lenZ x10).toNat x0 x1 x2 x3 x4 x5 x6 x7 x8 x9 x10 x11 x12 x13 x14 x15) (by
      simp only [Holds, cdec, lnF, h10', h11', h12', h13', h14', h15', decide_true, decide_false]
      simp)
    rw [k1]
    rw [k2] at hr
    exact hr
  by_cases h9' : x9 > 0
  · obtain ⟨k1, k2, k3, k4⟩ := key 9 (by decide) (fun j hj hk => by
      obtain rfl | rfl | rfl | rfl | rfl | rfl : j = 10 ∨ j = 11 ∨ j = 12 ∨ j = 13 ∨ j = 14 ∨ j = 15 := by omega
      · exact h10'
      · exact h11'
      · exact h12'
      · exact h13'
      · exact h14'
      · exact h15') h9'
    simp only [List.getD_cons_succ, List.getD_cons_zero] at k1 k2 k3 k4
    have hr := fnL_ok progOk extSound noC_sound (lnN_ok _ 1 288 x9 k3 k4 (by omega)) (long_run9 b0 h1 (lenZ x9).toNat x0 x1 x2 x3 x4 x5 x6 x7 x8 x9 x10 x11 x12 x13 x14 x15) (by
      simp only [Holds, cdec, lnF, h9', h10', h11', h12', h13', h14', h15', decide_true, decide_false]
      simp)
    rw [k1]
    rw [k2] at hr
    exact hr
  by_cases h8' : x8 > 0
  · obtain ⟨k1, k2, k3, k4⟩ := key 8 (by decide) (fun j hj hk => by
      obtain rfl | rfl | rfl | rfl | rfl | rfl | rfl : j = 9 ∨ j = 10 ∨ j = 11 ∨ j = 12 ∨ j = 13 ∨ j = 14 ∨ j = 15 := by omega
      · exact h9'
      · exact h10'
      · exact h11'
      · exact h12'
      · exact h13'
      · exact h14'
      · exact h15') h8'
    simp only [List.getD_cons_succ, List.getD_cons_zero] at k1 k2 k3 k4
    have hr := fnL_ok progOk extSound noC_sound (lnN_ok _ 1 256 x8 k3 k4 (by omega)) (long_run8 b0 h1 (lenZ x8).toNat x0 x1 x2 x3 x4 x5 x6 x7 x8 x9 x10 x11 x12 x13 x14 x15) (by
      simp only [Holds, cdec, lnF, h8', h9', h10', h11', h12', h13', h14', h15', decide_true, decide_false]
      simp)
    rw [k1]
    rw [k2] at hr
    exact hr
  by_cases h7' : x7 > 0
  · obtain ⟨k1, k2, k3, k4⟩ := key 7 (by decide) (fun j hj hk => by
      obtain rfl | rfl | rfl | rfl | rfl | rfl | rfl | rfl : j = 8 ∨ j = 9 ∨ j = 10 ∨ j = 11 ∨ j = 12 ∨ j = 13 ∨ j = 14 ∨ j = 15 := by omega
      · exact h8'
      · exact h9'
      · exact h10'
      · exact h11'
      · exact h12'
      · exact h13'
      · exact h14'
      · exact h15') h7'
    simp only [List.getD_cons_succ, List.getD_cons_zero] at k1 k2 k3 k4
    have hr := fnL_ok progOk extSound noC_sound (lnN_ok _ 1 224 x7 k3 k4 (by omega)) (long_run7 b0 h1 (lenZ x7).toNat x0 x1 x2 x3 x4 x5 x6 x7 x8 x9 x10 x11 x12 x13 x14 x15) (by
      simp only [Holds, cdec, lnF, h7', h8', h9', h10', h11', h12', h13', h14', h15', decide_true, decide_false]
      simp)
    rw [k1]
    rw [k2] at hr
    exact hr
  by_cases h6' : x6 > 0
  · obtain ⟨k1, k2, k3, k4⟩ := key 6 (by decide) (fun j hj hk => by
      obtain rfl | rfl | rfl | rfl | rfl | rfl | rfl | rfl | rfl : j = 7 ∨ j = 8 ∨ j = 9 ∨ j = 10 ∨ j = 11 ∨ j = 12 ∨ j = 13 ∨ j = 14 ∨ j = 15 := by omega
      · exact h7'
      · exact h8'
      · exact h9'
      · exact h10'
      · exact h11'
      · exact h12'
      · exact h13'
      · exact h14'
      · exact h15') h6'
    simp only [List.getD_cons_succ, List.getD_cons_zero] at k1 k2 k3 k4
    have hr := fnL_ok progOk extSound noC_sound (lnN_ok _ 1 192 x6 k3 k4 (by omega)) (long_run6 b0 h1 (lenZ x6).toNat x0 x1 x2 x3 x4 x5 x6 x7 x8 x9 x10 x11 x12 x13 x14 x15) (by
      simp only [Holds, cdec, lnF, h6', h7', h8', h9', h10', h11', h12', h13', h14', h15', decide_true, decide_false]
      simp)
    rw [k1]
    rw [k2] at hr
    exact hr
  by_cases h5' : x5 > 0
  · obtain ⟨k1, k2, k3, k4⟩ := key 5 (by decide) (fun j hj hk => by
      obtain rfl | rfl | rfl | rfl | rfl | rfl | rfl | rfl | rfl | rfl : j = 6 ∨ j = 7 ∨ j = 8 ∨ j = 9 ∨ j = 10 ∨ j = 11 ∨ j = 12 ∨ j = 13 ∨ j = 14 ∨ j = 15 := by omega
      · exact h6'
      · exact h7'
      · exact h8'
      · exact h9'
      · exact h10'
      · exact h11'
      · exact h12'
      · exact h13'
      · exact h14'
      · exact h15') h5'
    simp only [List.getD_cons_succ, List.getD_cons_zero] at k1 k2 k3 k4
    have hr := fnL_ok progOk extSound noC_sound (lnN_ok _ 1 160 x5 k3 k4 (by omega)) (long_run5 b0 h1 (lenZ x5).toNat x0 x1 x2 x3 x4 x5 x6 x7 x8 x9 x10 x11 x12 x13 x14 x15) (by
      simp only [Holds, cdec, lnF, h5', h6', h7', h8', h9', h10', h11', h12', h13', h14', h15', decide_true, decide_false]
      simp)
    rw [k1]
    rw [k2] at hr
    exact hr
  by_cases h4' : x4 > 0
  · obtain ⟨k1, k2, k3, k4⟩ := key 4 (by decide) (fun j hj hk => by
      obtain rfl | rfl | rfl | rfl | rfl | rfl | rfl | rfl | rfl | rfl | rfl : j = 5 ∨ j = 6 ∨ j = 7 ∨ j = 8 ∨ j = 9 ∨ j = 10 ∨ j = 11 ∨ j = 12 ∨ j = 13 ∨ j = 14 ∨ j = 15 := by omega
      · exact h5'
      · exact h6'
      · exact h7'
      · exact h8'
      · exact h9'
      · exact h10'
      · exact h11'
      · exact h12'
      · exact h13'
      · exact h14'
      · exact h15') h4'
    simp only [List.getD_cons_succ, List.getD_cons_zero] at k1 k2 k3 k4
    have hr := fnL_ok progOk extSound noC_sound (lnN_ok _ 1 128 x4 k3 k4 (by omega)) (long_run4 b0 h1 (lenZ x4).toNat x0 x1 x2 x3 x4 x5 x6 x7 x8 x9 x10 x11 x12 x13 x14 x15) (by
      simp only [Holds, cdec, lnF, h4', h5', h6', h7', h8', h9', h10', h11', h12', h13', h14', h15', decide_true, decide_false]
      simp)
    rw [k1]
    rw [k2] at hr
    exact hr
  by_cases h3' : x3 > 0
  · obtain ⟨k1, k2, k3, k4⟩ := key 3 (by decide) (fun j hj hk => by
      obtain rfl | rfl | rfl | rfl | rfl | rfl | rfl | rfl | rfl | rfl | rfl | rfl : j = 4 ∨ j = 5 ∨ j = 6 ∨ j = 7 ∨ j = 8 ∨ j = 9 ∨ j = 10 ∨ j = 11 ∨ j = 12 ∨ j = 13 ∨ j = 14 ∨ j = 15 := by omega
      · exact h4'
      · exact h5'
      · exact h6'
      · exact h7'
      · exact h8'
      · exact h9'
      · exact h10'
      · exact h11'
      · exact h12'
      · exact h13'
      · exact h14'
      · exact h15') h3'
    simp only [List.getD_cons_succ, List.getD_cons_zero] at k1 k2 k3 k4
    have hr := fnL_ok progOk extSound noC_sound (lnN_ok _ 1 96 x3 k3 k4 (by omega)) (long_run3 b0 h1 (lenZ x3).toNat x0 x1 x2 x3 x4 x5 x6 x7 x8 x9 x10 x11 x12 x13 x14 x15) (by
      simp only [Holds, cdec, lnF, h3', h4', h5', h6', h7', h8', h9', h10', h11', h12', h13', h14', h15', decide_true, decide_false]
      simp)
    rw [k1]
    rw [k2] at hr
    exact hr
  by_cases h2' : x2 > 0
  · obtain ⟨k1, k2, k3, k4⟩ := key 2 (by decide) (fun j hj hk => by
      obtain rfl | rfl | rfl | rfl | rfl | rfl | rfl | rfl | rfl | rfl | rfl | rfl | rfl : j = 3 ∨ j = 4 ∨ j = 5 ∨ j = 6 ∨ j = 7 ∨ j = 8 ∨ j = 9 ∨ j = 10 ∨ j = 11 ∨ j = 12 ∨ j = 13 ∨ j = 14 ∨ j = 15 := by omega
      · exact h3'
      · exact h4'
      · exact h5'
      · exact h6'
      · exact h7'
      · exact h8'
      · exact h9'
      · exact h10'
      · exact h11'
      · exact h12'
      · exact h13'
      · exact h14'
      · exact h15') h2'
    simp only [List.getD_cons_succ, List.getD_cons_zero] at k1 k2 k3 k4
    have hr := fnL_ok progOk extSound noC_sound (lnN_ok _ 1 64 x2 k3 k4 (by omega)) (long_run2 b0 h1 (lenZ x2).toNat x0 x1 x2 x3 x4 x5 x6 x7 x8 x9 x10 x11 x12 x13 x14 x15) (by
      simp only [Holds, cdec, lnF, h2', h3', h4', h5', h6', h7', h8', h9', h10', h11', h12', h13', h14', h15', decide_true, decide_false]
      simp)
    rw [k1]
    rw [k2] at hr
    exact hr
  by_cases h1' : x1 > 0
  · obtain ⟨k1, k2, k3, k4⟩ := key 1 (by decide) (fun j hj hk => by
      obtain rfl | rfl | rfl | rfl | rfl | rfl | rfl | rfl | rfl | rfl | rfl | rfl | rfl | rfl : j = 2 ∨ j = 3 ∨ j = 4 ∨ j = 5 ∨ j = 6 ∨ j = 7 ∨ j = 8 ∨ j = 9 ∨ j = 10 ∨ j = 11 ∨ j = 12 ∨ j = 13 ∨ j = 14 ∨ j = 15 := by omega
      · exact h2'
      · exact h3'
      · exact h4'
      · exact h5'
      · exact h6'
      · exact h7'
      · exact h8'
      · exact h9'
      · exact h10'
      · exact h11'
      · exact h12'
      · exact h13'
      · exact h14'
      · exact h15') h1'
    simp only [List.getD_cons_succ, List.getD_cons_zero] at k1 k2 k3 k4
    have hr := fnL_ok progOk extSound noC_sound (lnN_ok _ 1 32 x1 k3 k4 (by omega)) (long_run1 b0 h1 (lenZ x1).toNat x0 x1 x2 x3 x4 x5 x6 x7 x8 x9 x10 x11 x12 x13 x14 x15) (by
      simp only [Holds, cdec, lnF, h1', h2', h3', h4', h5', h6', h7', h8', h9', h10', h11', h12', h13', h14', h15', decide_true, decide_false]
      simp)
    rw [k1]
    rw [k2] at hr
    exact hr
  by_cases h0' : x0 > 0
  · obtain ⟨k1, k2, k3, k4⟩ := key 0 (by decide) (fun j hj hk => by
      obtain rfl | rfl | rfl | rfl | rfl | rfl | rfl | rfl | rfl | rfl | rfl | rfl | rfl | rfl | rfl : j = 1 ∨ j = 2 ∨ j = 3 ∨ j = 4 ∨ j = 5 ∨ j = 6 ∨ j = 7 ∨ j = 8 ∨ j = 9 ∨ j = 10 ∨ j = 11 ∨ j = 12 ∨ j = 13 ∨ j = 14 ∨ j = 15 := by omega
      · exact h1'
      · exact h2'
      · exact h3'
      · exact h4'
      · exact h5'
      · exact h6'
      · exact h7'
      · exact h8'
      · exact h9'
      · exact h10'
      · exact h11'
      · exact h12'
      · exact h13'
      · exact h14'
      · exact h15') h0'
    simp only [List.getD_cons_succ, List.getD_cons_zero] at k1 k2 k3 k4
    have hr := fnL_ok progOk extSound noC_sound (lnN_ok _ 1 0 x0 k3 k4 (by omega)) (long_run0 b0 h1 (lenZ x0).toNat x0 x1 x2 x3 x4 x5 x6 x7 x8 x9 x10 x11 x12 x13 x14 x15) (by
      simp only [Holds, cdec, lnF, h0', h1', h2', h3', h4', h5', h6', h7', h8', h9', h10', h11', h12', h13', h14', h15', decide_true, decide_false]
      simp)
    rw [k1]
    rw [k2] at hr
    exact hr
  have hz2 : ∀ (l : List Int), (∀ j, j < l.length → l.getD j 0 = 0) → valD D32 l = 0 := by
    intro l
    induction l with
    | nil => intro _; rfl
    | cons x l ih =>
      intro h
      have h1 := h 0 (by simp)
      simp at h1
      simp [valD, h1, ih fun j hj => by have := h (j + 1) (by simpa using hj); simpa using this]
  have hv := hz2 [x0, x1, x2, x3, x4, x5, x6, x7, x8, x9, x10, x11, x12, x13, x14, x15] (fun j hj => by
    have hj' : j < 16 := hj
    have h3 := (hx j).1
    obtain rfl | rfl | rfl | rfl | rfl | rfl | rfl | rfl | rfl | rfl | rfl | rfl | rfl | rfl | rfl | rfl : j = 0 ∨ j = 1 ∨ j = 2 ∨ j = 3 ∨ j = 4 ∨ j = 5 ∨ j = 6 ∨ j = 7 ∨ j = 8 ∨ j = 9 ∨ j = 10 ∨ j = 11 ∨ j = 12 ∨ j = 13 ∨ j = 14 ∨ j = 15 := by omega
    · have h4 : 0 ≤ x0 := h3
      show x0 = 0
      omega
    · have h4 : 0 ≤ x1 := h3
      show x1 = 0
      omega
    · have h4 : 0 ≤ x2 := h3
      show x2 = 0
      omega
    · have h4 : 0 ≤ x3 := h3
      show x3 = 0
      omega
    · have h4 : 0 ≤ x4 := h3
      show x4 = 0
      omega
    · have h4 : 0 ≤ x5 := h3
      show x5 = 0
      omega
    · have h4 : 0 ≤ x6 := h3
      show x6 = 0
      omega
    · have h4 : 0 ≤ x7 := h3
      show x7 = 0
      omega
    · have h4 : 0 ≤ x8 := h3
      show x8 = 0
      omega
    · have h4 : 0 ≤ x9 := h3
      show x9 = 0
      omega
    · have h4 : 0 ≤ x10 := h3
      show x10 = 0
      omega
    · have h4 : 0 ≤ x11 := h3
      show x11 = 0
      omega
    · have h4 : 0 ≤ x12 := h3
      show x12 = 0
      omega
    · have h4 : 0 ≤ x13 := h3
      show x13 = 0
      omega
    · have h4 : 0 ≤ x14 := h3
      show x14 = 0
      omega
    · have h4 : 0 ≤ x15 := h3
      show x15 = 0
      omega)
  rw [hv]
  exact fnL_ok progOk extSound noC_sound noLoops_ok (long_none b0 h1 x0 x1 x2 x3 x4 x5 x6 x7 x8 x9 x10 x11 x12 x13 x14 x15) (by
    simp only [Holds, h0', h1', h2', h3', h4', h5', h6', h7', h8', h9', h10', h11', h12', h13', h14', h15', decide_false]
    simp)

end Go.Proofs.Ytfbjpenbpbpcaaa
