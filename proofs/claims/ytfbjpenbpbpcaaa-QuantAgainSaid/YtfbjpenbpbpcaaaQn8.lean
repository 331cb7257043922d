/-
  Chapter 09: the law QuantNear: plain, and joined.
-/
import Derived.Test.YtfbjpenbpbpcaaaQn7
import Derived.Test.YtfbjpenbpbpcaaaBn12
namespace Go.Proofs.Ytfbjpenbpbpcaaa
open Go Den
set_option maxRecDepth 100000
set_option linter.unusedSimpArgs false
set_option linter.unusedVariables false

/-- What is divided to the nearest is off by a half at the most. -/
theorem divQ_near (x : Int) {s : Int} (hs : 1 ≤ s) : 2 * (divQ x s * s - x) ≤ s ∧ -s ≤ 2 * (divQ x s * s - x) := by
  have h0 := Int.mul_tdiv_add_tmod x s
  have h1 := Int.tmod_lt_of_pos x (b := s) (by omega)
  have h2 : -s < x.tmod s := Int.lt_tmod_of_pos x (by omega)
  unfold divQ
  generalize x.tmod s = r at *
  generalize x.tdiv s = t at *
  rw [if_neg (by omega)]
  rw [Int.mul_comm] at h0
  split <;> split <;> (try simp only [Int.add_mul, Int.sub_mul, Int.one_mul]) <;> generalize t * s = M at * <;> omega
/-- The heart: no number is clipped but by what may be. -/
theorem near_one {x s m P : Int} (hx : -P ≤ x ∧ x ≤ P) (hP : P ≤ m * s) (hs : 1 ≤ s ∧ s ≤ 4026531841) (hm : 0 ≤ m ∧ m ≤ 127) (hb : -67108864 ≤ x ∧ x ≤ 67108864) :
    -m ≤ mxG (W (0 - m)) (mnG (divQ x s) m) ∧ mxG (W (0 - m)) (mnG (divQ x s) m) ≤ m ∧
    2 * (mxG (-67108864) (mnG (W (mxG (W (0 - m)) (mnG (divQ x s) m) * s)) 67108864) - x) ≤ s ∧ -s ≤ 2 * (mxG (-67108864) (mnG (W (mxG (W (0 - m)) (mnG (divQ x s) m) * s)) 67108864) - x) ∧
    -67108864 ≤ mxG (-67108864) (mnG (W (mxG (W (0 - m)) (mnG (divQ x s) m) * s)) 67108864) ∧ mxG (-67108864) (mnG (W (mxG (W (0 - m)) (mnG (divQ x s) m) * s)) 67108864) ≤ 67108864 := by
  obtain ⟨d1, d2⟩ := divQ_near x hs.1
  generalize divQ x s = D at *
  have hD : D ≤ m := by
    refine Int.not_lt.1 fun h => ?_
    have := Int.mul_le_mul_of_nonneg_right (a := m + 1) (b := D) (c := s) (by omega) (by omega)
    rw [Int.add_mul, Int.one_mul] at this
    generalize m * s = K at *
    generalize D * s = E at *
    omega
  have hD2 : -m ≤ D := by
    refine Int.not_lt.1 fun h => ?_
    have := Int.mul_le_mul_of_nonneg_right (a := D) (b := -m - 1) (c := s) (by omega) (by omega)
    rw [Int.sub_mul, Int.one_mul, Int.neg_mul] at this
    generalize m * s = K at *
    generalize D * s = E at *
    omega
  have e : mxG (W (0 - m)) (mnG D m) = D := by
    rw [W_in (by omega) (by omega), mxG_eq, mnG_eq]; omega
  rw [e]
  generalize D * s = E at *
  rw [W_in (by omega) (by omega), mxG_eq, mnG_eq]
  omega

/-! ### A band's peak bounds its numbers -/
theorem sq_mem {v : Int} : ∀ {xs : List Int}, v ∈ xs → v * v ≤ sq xs := by
  have nn : ∀ (v : Int), 0 ≤ v * v := fun v => by
    have h5 : v * v = ((v.natAbs * v.natAbs : Nat) : Int) := by rw [Int.natCast_mul]; exact (Int.natAbs_mul_self).symm
    rw [h5]; omega
  have nns : ∀ (xs : List Int), 0 ≤ sq xs := by
    intro xs
    induction xs with
    | nil => simp [sq]
    | cons a t ih =>
      have e : sq (a :: t) = a * a + sq t := by simp [sq]
      have := nn a
      omega
  intro xs
  induction xs with
  | nil => intro h; simp at h
  | cons a t ih =>
    intro h
    have e : sq (a :: t) = a * a + sq t := by simp [sq]
    rcases List.mem_cons.1 h with rfl | h
    · have := nns t; omega
    · have := ih h; have := nn a; omega
theorem bpart_in {xs : List Int} (hm : xs.length = 16) {n : Nat} (hn : n < 16) : xs.getD n 0 ∈ bpart xs (bnd n) := by
  obtain ⟨x0, x1, x2, x3, x4, x5, x6, x7, x8, x9, x10, x11, x12, x13, x14, x15, rfl⟩ := six_len16 xs hm
  rcases (show n = 0 ∨ n = 1 ∨ n = 2 ∨ n = 3 ∨ n = 4 ∨ n = 5 ∨ n = 6 ∨ n = 7 ∨ n = 8 ∨ n = 9 ∨ n = 10 ∨ n = 11 ∨ n = 12 ∨ n = 13 ∨ n = 14 ∨ n = 15 by omega) with rfl | rfl | rfl | rfl | rfl | rfl | rfl | rfl | rfl | rfl | rfl | rfl | rfl | rfl | rfl | rfl
  all_goals simp [bpart, bnd, edgeL]
theorem lg56 : logZ 72057594037927936 = 448 := by kernel_rfl
theorem lvG_eq2 {p : Int} (h0 : 0 < p) (h1 : p ≤ 72057594037927936) : lvG p = logZ p / 2 + 1 ∧ 0 ≤ logZ p ∧ logZ p ≤ 448 := by
  have h2 := log_mono (n := p) (m := 72057594037927936) (by omega) h1
  rw [lg56] at h2
  have h3 := log_nonneg h0
  unfold lvG
  rw [Int.tdiv_eq_ediv_of_nonneg h3, W_in (n := logZ p / 2) (by omega) (by omega), W_in (by omega) (by omega), mnG_eq]
  exact ⟨by omega, h3, h2⟩
theorem pk_pow : ((List.range 226).all fun n => decide ((2 : Nat) ^ (2 * n) ≤ ((pkN n).toNat * (pkN n).toNat) ^ 8)) = true := by kernel_rfl
theorem peak_over {p v : Int} (h0 : 0 < p) (h1 : p ≤ 72057594037927936) (hv : v * v ≤ p) : (0 ≤ lvG p ∧ lvG p ≤ 255) ∧ -pkZ (lvG p) ≤ v ∧ v ≤ pkZ (lvG p) := by
  obtain ⟨e1, e2, e3⟩ := lvG_eq2 h0 h1
  have hr : 0 ≤ lvG p ∧ lvG p ≤ 225 := by rw [e1]; omega
  refine ⟨by omega, ?_⟩
  have hp := pkZ_in (l := lvG p) (by omega)
  obtain ⟨k, hk, _, hk2, _⟩ := log_spec h0 (by omega)
  have hpk := List.all_eq_true.1 pk_pow (lvG p).toNat (by simp; omega)
  simp only [decide_eq_true_eq] at hpk
  have hpz : pkZ (lvG p) = pkN (lvG p).toNat := by unfold pkZ; rw [if_pos (by omega)]
  rw [← hpz] at hpk
  generalize pkZ (lvG p) = Q at *
  refine Decidable.byContradiction fun hn => ?_
  -- the square is above
  have hq : Q * Q ≤ p := by
    refine Int.le_trans ?_ hv
    have h3 : Q.natAbs ≤ v.natAbs := by omega
    have h4 := Nat.mul_le_mul h3 h3
    have h5 : v * v = ((v.natAbs * v.natAbs : Nat) : Int) := by rw [Int.natCast_mul]; exact (Int.natAbs_mul_self).symm
    have h6 : Q * Q = ((Q.natAbs * Q.natAbs : Nat) : Int) := by rw [Int.natCast_mul]; exact (Int.natAbs_mul_self).symm
    rw [h5, h6]; exact Int.ofNat_le.2 h4
  have h8 := pow8_mono (n := Q * Q) (m := p) (Int.mul_nonneg (by omega) (by omega)) hq
  have hQ : Q = (Q.toNat : Int) := by omega
  have h9 : ((2 ^ (2 * (lvG p).toNat) : Nat) : Int) ≤ (((Q.toNat * Q.toNat) ^ 8 : Nat) : Int) := Int.ofNat_le.2 hpk
  have h10 : (((Q.toNat * Q.toNat) ^ 8 : Nat) : Int) = (Q * Q) ^ 8 := by
    rw [Int.natCast_pow, Int.natCast_mul, ← hQ]
  have h11 : (2 : Nat) ^ (k + 1) ≤ 2 ^ (2 * (lvG p).toNat) := Nat.pow_le_pow_right (by decide) (by omega)
  have h12 : ((2 ^ (k + 1) : Nat) : Int) ≤ ((2 ^ (2 * (lvG p).toNat) : Nat) : Int) := Int.ofNat_le.2 h11
  rw [Int.natCast_pow] at h12
  have h13 : ((2 : Nat) : Int) ^ (k + 1) = (2 : Int) ^ (k + 1) := rfl
  rw [h13] at h12
  rw [h10] at h9
  exact absurd (Int.lt_of_le_of_lt (Int.le_trans h12 (Int.le_trans h9 h8)) hk2) (Int.lt_irrefl _)

/-! ### The plain law -/
def nrOk (x l q a y : List Int) (n : Nat) : Prop :=
  (a.getD (bnd n) 0 = 0 ∧ q.getD n 0 = 0 ∧ y.getD n 0 = 0) ∨
  (a.getD (bnd n) 0 ≠ 0 ∧ seZ (l.getD (bnd n) 0) (a.getD (bnd n) 0) = 0 ∧ ¬ W (2 * W (y.getD n 0 - x.getD n 0)) > stZ (l.getD (bnd n) 0) (a.getD (bnd n) 0) ∧ ¬ W (2 * W (y.getD n 0 - x.getD n 0)) < W (0 - stZ (l.getD (bnd n) 0) (a.getD (bnd n) 0)) ∧ ¬ q.getD n 0 > moZ (a.getD (bnd n) 0) ∧ ¬ q.getD n 0 < W (0 - moZ (a.getD (bnd n) 0)))
theorem lvl_in {xs : List Int} (hmay : may16 xs = true) : okL (lvl xs) = true := by
  have h : ∀ j, j < 6 → 0 ≤ (lvl xs).getD j 0 ∧ (lvl xs).getD j 0 ≤ 255 := fun j hj => by
    unfold lvl
    rw [if_pos hmay, lvC_get hmay hj]
    split
    · rename_i h
      have := (sumQ_sq (bpart_all hmay j) (by have := bpart_len xs j hj; omega)).2.2
      exact (peak_over (v := 0) h (by omega) (by omega)).1
    · omega
  have hl := lvl_len xs
  revert h hl
  generalize lvl xs = l
  intro h hl
  obtain ⟨a, b, c, d, e, g, rfl⟩ := six_ex l hl
  simp only [okL, List.all_cons, List.all_nil, Bool.and_true, Bool.and_eq_true]
  have g0 := h 0 (by omega); have g1 := h 1 (by omega); have g2 := h 2 (by omega); have g3 := h 3 (by omega); have g4 := h 4 (by omega); have g5 := h 5 (by omega)
  simp only [List.getD_cons_zero, List.getD_cons_succ] at g0 g1 g2 g3 g4 g5
  exact ⟨okV_iff.2 g0, okV_iff.2 g1, okV_iff.2 g2, okV_iff.2 g3, okV_iff.2 g4, okV_iff.2 g5⟩
theorem lvl_peak {xs : List Int} (hm : xs.length = 16) (hmay : may16 xs = true) {n : Nat} (hn : n < 16) : -pkZ ((lvl xs).getD (bnd n) 0) ≤ xs.getD n 0 ∧ xs.getD n 0 ≤ pkZ ((lvl xs).getD (bnd n) 0) := by
  have hb := bnd_lt hn
  have hs := sq_mem (bpart_in hm hn)
  unfold lvl
  rw [if_pos hmay, lvC_get hmay hb]
  split
  · rename_i h
    have := (sumQ_sq (bpart_all hmay (bnd n)) (by have := bpart_len xs (bnd n) hb; omega)).2.2
    exact (peak_over h (by omega) hs).2
  · rename_i h
    have hv : xs.getD n 0 = 0 := by
      have h5 : xs.getD n 0 * xs.getD n 0 = (((xs.getD n 0).natAbs * (xs.getD n 0).natAbs : Nat) : Int) := by rw [Int.natCast_mul]; exact (Int.natAbs_mul_self).symm
      have : (xs.getD n 0).natAbs * (xs.getD n 0).natAbs = 0 := by omega
      rcases Nat.mul_eq_zero.1 this with h | h <;> omega
    rw [hv]
    have := pkZ_in (l := 0) (by omega)
    omega
theorem mo_cases {w : Int} (h : 1 ≤ w ∧ w ≤ 7) : moZ w = 1 ∨ moZ w = 3 ∨ moZ w = 7 ∨ moZ w = 15 ∨ moZ w = 31 ∨ moZ w = 63 ∨ moZ w = 127 := by
  rcases (show w = 1 ∨ w = 2 ∨ w = 3 ∨ w = 4 ∨ w = 5 ∨ w = 6 ∨ w = 7 by omega) with rfl | rfl | rfl | rfl | rfl | rfl | rfl <;> decide
theorem near_plain {xs : List Int} (hm : xs.length = 16) (hmay : may16 xs = true) {n : Nat} (hn : n < 16) :
    let l := lvl xs; let q := smL xs (scO l); let y := greatL q (scO l)
    nrOk xs l q (shl l 120) y n ∧ mxG (W (0 - (scO l).getD (2 * n + 1) 0)) (mnG (q.getD n 0) ((scO l).getD (2 * n + 1) 0)) = q.getD n 0 ∧ -67108864 ≤ y.getD n 0 ∧ y.getD n 0 ≤ 67108864 := by
  intro l q y
  have hok : okL l = true := lvl_in hmay
  have hll : l.length = 6 := lvl_len xs
  have hb := bnd_lt hn
  have hlb := okL_get hll hok _ hb
  have hpk : -pkZ (l.getD (bnd n) 0) ≤ xs.getD n 0 ∧ xs.getD n 0 ≤ pkZ (l.getD (bnd n) 0) := lvl_peak hm hmay hn
  have ha := (shl_ok (b := 120) hll (by omega)).2 _ hb
  obtain ⟨e1, e2⟩ := scO_get l hn
  have hq : q.getD n 0 = if (scO l).getD (2 * n) 0 = 0 then 0 else clD xs (scO l) n := by show (smL _ _).getD _ _ = _; unfold smL; rw [range_get hn]
  have hy : y.getD n 0 = mxG (-67108864) (mnG (W (q.getD n 0 * (scO l).getD (2 * n) 0)) 67108864) := by show (greatL _ _).getD _ _ = _; unfold greatL; rw [range_get hn]
  unfold clD at hq
  rw [e1, e2] at hq
  rw [e1] at hy
  rw [e2]
  unfold nrOk
  have hxb : -67108864 ≤ xs.getD n 0 ∧ xs.getD n 0 ≤ 67108864 := inB_iff.1 (all_getD hmay (by omega))
  have hpi := pkZ_in hlb
  generalize y.getD n 0 = Y at *
  generalize q.getD n 0 = Q at *
  generalize (shl l 120).getD (bnd n) 0 = A at *
  generalize l.getD (bnd n) 0 = L at *
  generalize xs.getD n 0 = X at *
  by_cases hA : A = 0
  · subst hA
    rw [stZ_0, if_pos rfl] at hq
    subst hq
    rw [stZ_0] at hy
    have hy0 : Y = 0 := by rw [hy]; decide
    rw [moZ_0, hy0]
    refine ⟨.inl ⟨rfl, rfl, rfl⟩, by decide, by omega, by omega⟩
  · have hw : 1 ≤ A ∧ A ≤ 7 := by omega
    have hst : stZ L A = (pkZ L - 1) / moZ A + 1 := by unfold stZ; rw [if_pos ⟨hlb, hw⟩]
    have hse : seZ L A = 0 := by unfold seZ; rw [if_pos ⟨hlb, hw⟩]
    have hmo := mo_cases hw
    have hms : pkZ L ≤ moZ A * stZ L A ∧ 1 ≤ stZ L A ∧ stZ L A ≤ 4026531841 ∧ 0 ≤ moZ A ∧ moZ A ≤ 127 := by
      rw [hst]
      generalize pkZ L = p at *
      rcases hmo with h | h | h | h | h | h | h <;> rw [h] <;> omega
    generalize stZ L A = s at *
    generalize moZ A = m at *
    generalize pkZ L = p at *
    rw [if_neg (by omega)] at hq
    obtain ⟨n1, n2, n3, n4, n5, n6⟩ := near_one (x := X) (s := s) (m := m) (P := p) hpk hms.1 ⟨hms.2.1, hms.2.2.1⟩ hms.2.2.2 hxb
    rw [← hq] at n1 n2 n3 n4 n5 n6
    rw [← hy] at n3 n4 n5 n6
    refine ⟨.inr ⟨hA, hse, ?_, ?_, by omega, ?_⟩, ?_, n5, n6⟩
    · rw [W_in (n := Y - X) (by omega) (by omega), W_in (by omega) (by omega)]; omega
    · rw [W_in (n := Y - X) (by omega) (by omega), W_in (n := 2 * (Y - X)) (by omega) (by omega), W_in (by omega) (by omega)]; omega
    · rw [W_in (by omega) (by omega)]; omega
    · rw [W_in (by omega) (by omega), mxG_eq, mnG_eq]; omega

/-! ### Joined -/
theorem nr_loop (x0 x1 x2 x3 x4 x5 x6 x7 x8 x9 x10 x11 x12 x13 x14 x15 l0 l1 l2 l3 l4 l5 q0 q1 q2 q3 q4 q5 q6 q7 q8 q9 q10 q11 q12 q13 q14 q15 a0 a1 a2 a3 a4 a5 y0 y1 y2 y3 y4 y5 y6 y7 y8 y9 y10 y11 y12 y13 y14 y15 : Int) (h : ∀ n, n < 16 → nrOk [x0, x1, x2, x3, x4, x5, x6, x7, x8, x9, x10, x11, x12, x13, x14, x15] [l0, l1, l2, l3, l4, l5] [q0, q1, q2, q3, q4, q5, q6, q7, q8, q9, q10, q11, q12, q13, q14, q15] [a0, a1, a2, a3, a4, a5] [y0, y1, y2, y3, y4, y5, y6, y7, y8, y9, y10, y11, y12, y13, y14, y15] n) : WP Try.prog 143 (.loop (loopAt Try.prog 28 0)) ⟨nrF 0, nrH [x0, x1, x2, x3, x4, x5, x6, x7, x8, x9, x10, x11, x12, x13, x14, x15] [l0, l1, l2, l3, l4, l5] [q0, q1, q2, q3, q4, q5, q6, q7, q8, q9, q10, q11, q12, q13, q14, q15] [a0, a1, a2, a3, a4, a5] [y0, y1, y2, y3, y4, y5, y6, y7, y8, y9, y10, y11, y12, y13, y14, y15], 0⟩ (.exit 0) ⟨[(3, .bool true)], nrH [x0, x1, x2, x3, x4, x5, x6, x7, x8, x9, x10, x11, x12, x13, x14, x15] [l0, l1, l2, l3, l4, l5] [q0, q1, q2, q3, q4, q5, q6, q7, q8, q9, q10, q11, q12, q13, q14, q15] [a0, a1, a2, a3, a4, a5] [y0, y1, y2, y3, y4, y5, y6, y7, y8, y9, y10, y11, y12, y13, y14, y15], 0⟩ := by
  refine WP.loop (fun i => ⟨nrF i, nrH [x0, x1, x2, x3, x4, x5, x6, x7, x8, x9, x10, x11, x12, x13, x14, x15] [l0, l1, l2, l3, l4, l5] [q0, q1, q2, q3, q4, q5, q6, q7, q8, q9, q10, q11, q12, q13, q14, q15] [a0, a1, a2, a3, a4, a5] [y0, y1, y2, y3, y4, y5, y6, y7, y8, y9, y10, y11, y12, y13, y14, y15], 0⟩) 16 (by simp) (fun i hi => ?_) ?_
  · rcases h i hi with ⟨h1, h2, h3⟩ | ⟨h1, h2, h3, h4, h5, h6⟩
    · refine WP.run progOk extSound (nb_sound _ _ o9_sound) nr_code noLoops_ok _ (of_list (nr_z x0 x1 x2 x3 x4 x5 x6 x7 x8 x9 x10 x11 x12 x13 x14 x15 l0 l1 l2 l3 l4 l5 q0 q1 q2 q3 q4 q5 q6 q7 q8 q9 q10 q11 q12 q13 q14 q15 a0 a1 a2 a3 a4 a5 y0 y1 y2 y3 y4 y5 y6 y7 y8 y9 y10 y11 y12 y13 y14 y15) (by omega) (by omega)) ?_
      simp only [Holds, List.mem_cons, List.not_mem_nil, or_false, forall_eq_or_imp, forall_eq]
      rw [h1, h2, h3]
      exact ⟨rfl, rfl, rfl⟩
    · refine WP.run progOk extSound (nb_sound _ _ o9_sound) nr_code noLoops_ok _ (of_list (nr_p x0 x1 x2 x3 x4 x5 x6 x7 x8 x9 x10 x11 x12 x13 x14 x15 l0 l1 l2 l3 l4 l5 q0 q1 q2 q3 q4 q5 q6 q7 q8 q9 q10 q11 q12 q13 q14 q15 a0 a1 a2 a3 a4 a5 y0 y1 y2 y3 y4 y5 y6 y7 y8 y9 y10 y11 y12 y13 y14 y15) (by omega) (by omega)) ?_
      simp only [Holds, List.mem_cons, List.not_mem_nil, or_false, forall_eq_or_imp, forall_eq]
      rw [h2]
      exact ⟨decide_eq_false h6, decide_eq_false h5, decide_eq_false h4, decide_eq_false h3, rfl, beq_eq_false_iff_ne.2 h1⟩
  · exact WP.run progOk extSound noC_sound nr_code noLoops_ok _ (nr_e x0 x1 x2 x3 x4 x5 x6 x7 x8 x9 x10 x11 x12 x13 x14 x15 l0 l1 l2 l3 l4 l5 q0 q1 q2 q3 q4 q5 q6 q7 q8 q9 q10 q11 q12 q13 q14 q15 a0 a1 a2 a3 a4 a5 y0 y1 y2 y3 y4 y5 y6 y7 y8 y9 y10 y11 y12 y13 y14 y15) (by simp [Holds])
theorem near_call (xs : List Int) (hm : xs.length = 16) : CallOk Try.prog 28 [.agg (ints xs).toArray] [] (.bool true) [] 0 := by
  have c1 := may_ok xs hm
  cases hmay : may16 xs with
  | false =>
    rw [show xs.all (inB 67108864) = false from hmay] at c1
    obtain ⟨x0, x1, x2, x3, x4, x5, x6, x7, x8, x9, x10, x11, x12, x13, x14, x15, rfl⟩ := six_len16 xs hm
    exact pf_ok (nr_sound _ _ _ _ _) noLoops_ok (nr_bad x0 x1 x2 x3 x4 x5 x6 x7 x8 x9 x10 x11 x12 x13 x14 x15) (by simp only [Holds, List.mem_singleton, forall_eq]; exact tell_ok rfl c1) rfl
  | true =>
    rw [show xs.all (inB 67108864) = true from hmay] at c1
    have hok := lvl_in hmay
    have hll := lvl_len xs
    have c2 := measure_c 76 (.inl rfl) xs hm
    unfold tup6 lve at c2
    rw [if_pos hmay, L6_eq hll] at c2
    have c3 := small_ok xs hm (lvl xs) hll
    unfold sml sma sme at c3
    rw [if_pos ⟨hok, hmay⟩, if_pos ⟨hok, hmay⟩, if_pos ⟨hok, hmay⟩] at c3
    have hpl := fun n hn => near_plain hm hmay (n := n) hn
    have hql : (smL xs (scO (lvl xs))).length = 16 := by simp [smL]
    have hyl : (greatL (smL xs (scO (lvl xs))) (scO (lvl xs))).length = 16 := by simp [greatL]
    have hmb : mayB (smL xs (scO (lvl xs))) (lvl xs) = true := by
      unfold mayB
      rw [hok, Bool.true_and]
      refine decide_eq_true (getD_ext (by simp [clipL, smL]) fun i hi => ?_)
      have hi' : i < 16 := by simpa [clipL] using hi
      unfold clipL
      rw [range_get hi']
      exact (hpl i hi').2.1
    have c4 := great_ok _ hql (lvl xs) hll
    have c5 := mayq_ok _ hql (lvl xs) hll
    unfold grl gre at c4
    rw [if_pos hmb, if_pos hmb] at c4
    rw [hmb] at c5
    have c6 := may_ok _ hyl
    have hyall : (greatL (smL xs (scO (lvl xs))) (scO (lvl xs))).all (inB 67108864) = true := by
      refine List.all_eq_true.2 fun v hv => ?_
      obtain ⟨i, hi, rfl⟩ := List.mem_iff_getElem.1 hv
      have := (hpl i (by omega)).2.2
      simp only [List.getD_eq_getElem?_getD, List.getElem?_eq_getElem hi, Option.getD_some] at this
      exact inB_iff.2 this
    rw [hyall] at c6
    have hcost : ¬ costG (shl (lvl xs) 120) > 120 := by
      unfold shl
      rw [if_pos ⟨hok, by omega⟩]
      exact (share_eqs hll hok (bud := 120) (by omega)).2.2
    have hal := shl_len (lvl xs) 120
    have hn : ∀ n, n < 16 → nrOk xs (lvl xs) (smL xs (scO (lvl xs))) (shl (lvl xs) 120) (greatL (smL xs (scO (lvl xs))) (scO (lvl xs))) n := fun n hn => (hpl n hn).1
    clear hpl hmb hyall hok hmay
    revert c1 c2 c3 c4 c5 c6 hcost hn hll hql hyl hal
    generalize greatL (smL xs (scO (lvl xs))) (scO (lvl xs)) = y
    generalize smL xs (scO (lvl xs)) = q
    generalize shl (lvl xs) 120 = a
    generalize lvl xs = l
    intro c1 hll c2 c3 hql hyl c4 c5 c6 hcost hal hn
    obtain ⟨x0, x1, x2, x3, x4, x5, x6, x7, x8, x9, x10, x11, x12, x13, x14, x15, rfl⟩ := six_len16 xs hm
    obtain ⟨l0, l1, l2, l3, l4, l5, rfl⟩ := six_ex l hll
    obtain ⟨q0, q1, q2, q3, q4, q5, q6, q7, q8, q9, q10, q11, q12, q13, q14, q15, rfl⟩ := six_len16 q hql
    obtain ⟨a0, a1, a2, a3, a4, a5, rfl⟩ := six_ex a hal
    obtain ⟨y0, y1, y2, y3, y4, y5, y6, y7, y8, y9, y10, y11, y12, y13, y14, y15, rfl⟩ := six_len16 y hyl
    refine pf_ok (nb_sound _ _ (nr_sound _ _ _ _ _)) ?_ (nr_run x0 x1 x2 x3 x4 x5 x6 x7 x8 x9 x10 x11 x12 x13 x14 x15 l0 l1 l2 l3 l4 l5 q0 q1 q2 q3 q4 q5 q6 q7 q8 q9 q10 q11 q12 q13 q14 q15 a0 a1 a2 a3 a4 a5 y0 y1 y2 y3 y4 y5 y6 y7 y8 y9 y10 y11 y12 y13 y14 y15) ?_ rfl
    · refine LoopsOk.sum rfl fun b hb _ => ?_
      rw [show loopsOf (bodyOf Try.prog 28) = [loopAt Try.prog 28 0] by kernel_rfl] at hb
      simp only [List.mem_singleton] at hb
      subst hb
      exact nr_loop x0 x1 x2 x3 x4 x5 x6 x7 x8 x9 x10 x11 x12 x13 x14 x15 l0 l1 l2 l3 l4 l5 q0 q1 q2 q3 q4 q5 q6 q7 q8 q9 q10 q11 q12 q13 q14 q15 a0 a1 a2 a3 a4 a5 y0 y1 y2 y3 y4 y5 y6 y7 y8 y9 y10 y11 y12 y13 y14 y15 hn
    · simp only [Holds, List.mem_cons, List.not_mem_nil, or_false, forall_eq_or_imp, forall_eq]
      exact ⟨cdec_iff.2 trivial, cdec_iff.2 trivial, cdec_iff.2 trivial, decide_eq_false hcost, tell_ok rfl c6, tell_ok rfl c5, tell_ok rfl c4, tell_ok rfl c3, tell_ok rfl c2, tell_ok rfl c1⟩
end Go.Proofs.Ytfbjpenbpbpcaaa

