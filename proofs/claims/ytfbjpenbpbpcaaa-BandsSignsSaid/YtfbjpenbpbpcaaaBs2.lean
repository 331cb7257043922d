/-
  Chapter 08: the law BandsSigns as a call, joined.
-/
import Derived.Test.YtfbjpenbpbpcaaaBs1
namespace Go.Proofs.Ytfbjpenbpbpcaaa
open Go Den
set_option maxRecDepth 100000
set_option linter.unusedSimpArgs false
set_option linter.unusedVariables false

theorem bs_bad (x0 x1 x2 x3 x4 x5 x6 x7 x8 x9 x10 x11 x12 x13 x14 x15 b : Int) (n c : Nat) (ss : List Bool) : (evFnL Try.prog ext 300 (nmPre (tellHPre (bsT false 0 0 0 0 0 0) noPre)) (nbC [(29, 0)] [(130, true)] (tellH (bsT false 0 0 0 0 0 0) ofC)) noLoops [(0, true), (0, true)] 22 [.agg (ints [x0, x1, x2, x3, x4, x5, x6, x7, x8, x9, x10, x11, x12, x13, x14, x15]).toArray, .slice (some ⟨0, 0, none⟩) n c, .int .i64 b] [⟨false, none, ss.map .bool⟩]).map (fun r => (r.1.1, r.1.2.2, r.2)) =
  some (.bool true, 1, [(tellHPre (bsT false 0 0 0 0 0 0) noPre 74 [.agg (ints [x0, x1, x2, x3, x4, x5, x6, x7, x8, x9, x10, x11, x12, x13, x14, x15]).toArray] [], true), (tellHPre (bsT false 0 0 0 0 0 0) noPre 75 [] [], true)]) := by kernel_rfl
theorem bs_bad_nil (x0 x1 x2 x3 x4 x5 x6 x7 x8 x9 x10 x11 x12 x13 x14 x15 b : Int) : (evFnL Try.prog ext 300 (nmPre (tellHPre (bsT false 0 0 0 0 0 0) noPre)) (nbC [(29, 0)] [(130, true)] (tellH (bsT false 0 0 0 0 0 0) ofC)) noLoops [(0, true), (0, true)] 22 [.agg (ints [x0, x1, x2, x3, x4, x5, x6, x7, x8, x9, x10, x11, x12, x13, x14, x15]).toArray, .slice none 0 0, .int .i64 b] []).map (fun r => (r.1.1, r.1.2.2, r.2)) =
  some (.bool true, 0, [(tellHPre (bsT false 0 0 0 0 0 0) noPre 74 [.agg (ints [x0, x1, x2, x3, x4, x5, x6, x7, x8, x9, x10, x11, x12, x13, x14, x15]).toArray] [], true), (tellHPre (bsT false 0 0 0 0 0 0) noPre 75 [] [], true)]) := by kernel_rfl

theorem bs_nil0 (b l0 l1 l2 l3 l4 l5 x0 x1 x2 x3 x4 x5 x6 x7 x8 x9 x10 x11 x12 x13 x14 x15 : Int) : (evFnL Try.prog ext 300 (nmPre (tellHPre (bsT true l0 l1 l2 l3 l4 l5) noPre)) (nbC [(29, 0)] [(130, true)] (tellH (bsT true l0 l1 l2 l3 l4 l5) ofC)) noLoops [(0, true), (0, true), (13, true), (0, true)] 22 [.agg (ints [x0, x1, x2, x3, x4, x5, x6, x7, x8, x9, x10, x11, x12, x13, x14, x15]).toArray, .slice none 0 0, .int .i64 b] []).map (fun r => (r.1.1, r.1.2.2, r.2)) =
  some (.bool true, 0, [(decide ([l0, l1, l2, l3, l4, l5] = [l0, l1, l2, l3, l4, l5]), true), (tellHPre (bsT true l0 l1 l2 l3 l4 l5) noPre 76 [.agg (ints [x0, x1, x2, x3, x4, x5, x6, x7, x8, x9, x10, x11, x12, x13, x14, x15]).toArray] [], true), (tellHPre (bsT true l0 l1 l2 l3 l4 l5) noPre 76 [.agg (ints [x0, x1, x2, x3, x4, x5, x6, x7, x8, x9, x10, x11, x12, x13, x14, x15]).toArray] [], true),
    (decide (Int.tmod (IntKind.wrap IntKind.i64 (Int.tmod b 6 + 6)) 6 = 0), true),
    (tellHPre (bsT true l0 l1 l2 l3 l4 l5) noPre 74 [.agg (ints [x0, x1, x2, x3, x4, x5, x6, x7, x8, x9, x10, x11, x12, x13, x14, x15]).toArray] [], true), (tellHPre (bsT true l0 l1 l2 l3 l4 l5) noPre 75 [] [], true)]) := by kernel_rfl

theorem bs_nil1 (b l0 l1 l2 l3 l4 l5 x0 x1 x2 x3 x4 x5 x6 x7 x8 x9 x10 x11 x12 x13 x14 x15 : Int) : (evFnL Try.prog ext 300 (nmPre (tellHPre (bsT true l0 l1 l2 l3 l4 l5) noPre)) (nbC [(29, 1)] [(130, true)] (tellH (bsT true l0 l1 l2 l3 l4 l5) ofC)) noLoops [(0, true), (0, true), (13, true), (0, true)] 22 [.agg (ints [x0, x1, x2, x3, x4, x5, x6, x7, x8, x9, x10, x11, x12, x13, x14, x15]).toArray, .slice none 0 0, .int .i64 b] []).map (fun r => (r.1.1, r.1.2.2, r.2)) =
  some (.bool true, 0, [(decide ([l0, l1, l2, l3, l4, l5] = [l0, l1, l2, l3, l4, l5]), true), (tellHPre (bsT true l0 l1 l2 l3 l4 l5) noPre 76 [.agg (ints [x0, x1, x2, x3, x4, x5, x6, x7, x8, x9, x10, x11, x12, x13, x14, x15]).toArray] [], true), (tellHPre (bsT true l0 l1 l2 l3 l4 l5) noPre 76 [.agg (ints [x0, x1, x2, x3, x4, x5, x6, x7, x8, x9, x10, x11, x12, x13, x14, x15]).toArray] [], true),
    (decide (Int.tmod (IntKind.wrap IntKind.i64 (Int.tmod b 6 + 6)) 6 = 1), true),
    (tellHPre (bsT true l0 l1 l2 l3 l4 l5) noPre 74 [.agg (ints [x0, x1, x2, x3, x4, x5, x6, x7, x8, x9, x10, x11, x12, x13, x14, x15]).toArray] [], true), (tellHPre (bsT true l0 l1 l2 l3 l4 l5) noPre 75 [] [], true)]) := by kernel_rfl

theorem bs_nil2 (b l0 l1 l2 l3 l4 l5 x0 x1 x2 x3 x4 x5 x6 x7 x8 x9 x10 x11 x12 x13 x14 x15 : Int) : (evFnL Try.prog ext 300 (nmPre (tellHPre (bsT true l0 l1 l2 l3 l4 l5) noPre)) (nbC [(29, 2)] [(130, true)] (tellH (bsT true l0 l1 l2 l3 l4 l5) ofC)) noLoops [(0, true), (0, true), (13, true), (0, true)] 22 [.agg (ints [x0, x1, x2, x3, x4, x5, x6, x7, x8, x9, x10, x11, x12, x13, x14, x15]).toArray, .slice none 0 0, .int .i64 b] []).map (fun r => (r.1.1, r.1.2.2, r.2)) =
  some (.bool true, 0, [(decide ([l0, l1, l2, l3, l4, l5] = [l0, l1, l2, l3, l4, l5]), true), (tellHPre (bsT true l0 l1 l2 l3 l4 l5) noPre 76 [.agg (ints [x0, x1, x3, x2, x4, x5, x6, x7, x8, x9, x10, x11, x12, x13, x14, x15]).toArray] [], true), (tellHPre (bsT true l0 l1 l2 l3 l4 l5) noPre 76 [.agg (ints [x0, x1, x2, x3, x4, x5, x6, x7, x8, x9, x10, x11, x12, x13, x14, x15]).toArray] [], true),
    (decide (Int.tmod (IntKind.wrap IntKind.i64 (Int.tmod b 6 + 6)) 6 = 2), true),
    (tellHPre (bsT true l0 l1 l2 l3 l4 l5) noPre 74 [.agg (ints [x0, x1, x2, x3, x4, x5, x6, x7, x8, x9, x10, x11, x12, x13, x14, x15]).toArray] [], true), (tellHPre (bsT true l0 l1 l2 l3 l4 l5) noPre 75 [] [], true)]) := by kernel_rfl

theorem bs_nil3 (b l0 l1 l2 l3 l4 l5 x0 x1 x2 x3 x4 x5 x6 x7 x8 x9 x10 x11 x12 x13 x14 x15 : Int) : (evFnL Try.prog ext 300 (nmPre (tellHPre (bsT true l0 l1 l2 l3 l4 l5) noPre)) (nbC [(29, 3)] [(130, true)] (tellH (bsT true l0 l1 l2 l3 l4 l5) ofC)) noLoops [(0, true), (0, true), (13, true), (0, true)] 22 [.agg (ints [x0, x1, x2, x3, x4, x5, x6, x7, x8, x9, x10, x11, x12, x13, x14, x15]).toArray, .slice none 0 0, .int .i64 b] []).map (fun r => (r.1.1, r.1.2.2, r.2)) =
  some (.bool true, 0, [(decide ([l0, l1, l2, l3, l4, l5] = [l0, l1, l2, l3, l4, l5]), true), (tellHPre (bsT true l0 l1 l2 l3 l4 l5) noPre 76 [.agg (ints [x0, x1, x2, x3, x5, x4, x6, x7, x8, x9, x10, x11, x12, x13, x14, x15]).toArray] [], true), (tellHPre (bsT true l0 l1 l2 l3 l4 l5) noPre 76 [.agg (ints [x0, x1, x2, x3, x4, x5, x6, x7, x8, x9, x10, x11, x12, x13, x14, x15]).toArray] [], true),
    (decide (Int.tmod (IntKind.wrap IntKind.i64 (Int.tmod b 6 + 6)) 6 = 3), true),
    (tellHPre (bsT true l0 l1 l2 l3 l4 l5) noPre 74 [.agg (ints [x0, x1, x2, x3, x4, x5, x6, x7, x8, x9, x10, x11, x12, x13, x14, x15]).toArray] [], true), (tellHPre (bsT true l0 l1 l2 l3 l4 l5) noPre 75 [] [], true)]) := by kernel_rfl

theorem bs_nil4 (b l0 l1 l2 l3 l4 l5 x0 x1 x2 x3 x4 x5 x6 x7 x8 x9 x10 x11 x12 x13 x14 x15 : Int) : (evFnL Try.prog ext 300 (nmPre (tellHPre (bsT true l0 l1 l2 l3 l4 l5) noPre)) (nbC [(29, 4)] [(130, true)] (tellH (bsT true l0 l1 l2 l3 l4 l5) ofC)) noLoops [(0, true), (0, true), (13, true), (0, true)] 22 [.agg (ints [x0, x1, x2, x3, x4, x5, x6, x7, x8, x9, x10, x11, x12, x13, x14, x15]).toArray, .slice none 0 0, .int .i64 b] []).map (fun r => (r.1.1, r.1.2.2, r.2)) =
  some (.bool true, 0, [(decide ([l0, l1, l2, l3, l4, l5] = [l0, l1, l2, l3, l4, l5]), true), (tellHPre (bsT true l0 l1 l2 l3 l4 l5) noPre 76 [.agg (ints [x0, x1, x2, x3, x4, x5, x9, x7, x8, x6, x10, x11, x12, x13, x14, x15]).toArray] [], true), (tellHPre (bsT true l0 l1 l2 l3 l4 l5) noPre 76 [.agg (ints [x0, x1, x2, x3, x4, x5, x6, x7, x8, x9, x10, x11, x12, x13, x14, x15]).toArray] [], true),
    (decide (Int.tmod (IntKind.wrap IntKind.i64 (Int.tmod b 6 + 6)) 6 = 4), true),
    (tellHPre (bsT true l0 l1 l2 l3 l4 l5) noPre 74 [.agg (ints [x0, x1, x2, x3, x4, x5, x6, x7, x8, x9, x10, x11, x12, x13, x14, x15]).toArray] [], true), (tellHPre (bsT true l0 l1 l2 l3 l4 l5) noPre 75 [] [], true)]) := by kernel_rfl

theorem bs_nil5 (b l0 l1 l2 l3 l4 l5 x0 x1 x2 x3 x4 x5 x6 x7 x8 x9 x10 x11 x12 x13 x14 x15 : Int) : (evFnL Try.prog ext 300 (nmPre (tellHPre (bsT true l0 l1 l2 l3 l4 l5) noPre)) (nbC [(29, 5)] [(130, true)] (tellH (bsT true l0 l1 l2 l3 l4 l5) ofC)) noLoops [(0, true), (0, true), (13, true), (0, true)] 22 [.agg (ints [x0, x1, x2, x3, x4, x5, x6, x7, x8, x9, x10, x11, x12, x13, x14, x15]).toArray, .slice none 0 0, .int .i64 b] []).map (fun r => (r.1.1, r.1.2.2, r.2)) =
  some (.bool true, 0, [(decide ([l0, l1, l2, l3, l4, l5] = [l0, l1, l2, l3, l4, l5]), true), (tellHPre (bsT true l0 l1 l2 l3 l4 l5) noPre 76 [.agg (ints [x0, x1, x2, x3, x4, x5, x6, x7, x8, x9, x15, x11, x12, x13, x14, x10]).toArray] [], true), (tellHPre (bsT true l0 l1 l2 l3 l4 l5) noPre 76 [.agg (ints [x0, x1, x2, x3, x4, x5, x6, x7, x8, x9, x10, x11, x12, x13, x14, x15]).toArray] [], true),
    (decide (Int.tmod (IntKind.wrap IntKind.i64 (Int.tmod b 6 + 6)) 6 = 5), true),
    (tellHPre (bsT true l0 l1 l2 l3 l4 l5) noPre 74 [.agg (ints [x0, x1, x2, x3, x4, x5, x6, x7, x8, x9, x10, x11, x12, x13, x14, x15]).toArray] [], true), (tellHPre (bsT true l0 l1 l2 l3 l4 l5) noPre 75 [] [], true)]) := by kernel_rfl

/-! ### the plain law -/
theorem sq_sum (l : List Int) : sq l = (l.map fun v => v * v).sum := rfl
theorem lvl_same (a0 a1 a2 a3 a4 a5 a6 a7 a8 a9 a10 a11 a12 a13 a14 a15 x0 x1 x2 x3 x4 x5 x6 x7 x8 x9 x10 x11 x12 x13 x14 x15 : Int) (ha : may16 [a0, a1, a2, a3, a4, a5, a6, a7, a8, a9, a10, a11, a12, a13, a14, a15] = true) (hx : may16 [x0, x1, x2, x3, x4, x5, x6, x7, x8, x9, x10, x11, x12, x13, x14, x15] = true) (h0 : a0 * a0 = x0 * x0) (h1 : a1 * a1 = x1 * x1) (h2 : a2 * a2 + a3 * a3 = x2 * x2 + x3 * x3) (h3 : a4 * a4 + a5 * a5 = x4 * x4 + x5 * x5) (h4 : a6 * a6 + a7 * a7 + a8 * a8 + a9 * a9 = x6 * x6 + x7 * x7 + x8 * x8 + x9 * x9) (h5 : a10 * a10 + a11 * a11 + a12 * a12 + a13 * a13 + a14 * a14 + a15 * a15 = x10 * x10 + x11 * x11 + x12 * x12 + x13 * x13 + x14 * x14 + x15 * x15) : lvl [a0, a1, a2, a3, a4, a5, a6, a7, a8, a9, a10, a11, a12, a13, a14, a15] = lvl [x0, x1, x2, x3, x4, x5, x6, x7, x8, x9, x10, x11, x12, x13, x14, x15] := by
  unfold lvl
  rw [if_pos ha, if_pos hx]
  unfold lvC
  refine lS_congr 6 (Nat.le_refl _) fun j hj => ?_
  rw [(sumQ_sq (bpart_all ha j) (by have := bpart_len [a0, a1, a2, a3, a4, a5, a6, a7, a8, a9, a10, a11, a12, a13, a14, a15] j hj; omega)).1, (sumQ_sq (bpart_all hx j) (by have := bpart_len [x0, x1, x2, x3, x4, x5, x6, x7, x8, x9, x10, x11, x12, x13, x14, x15] j hj; omega)).1]
  match j, hj with
  | 0, _ => simp [sq, bpart, edgeL]; omega
  | 1, _ => simp [sq, bpart, edgeL]; omega
  | 2, _ => simp [sq, bpart, edgeL]; omega
  | 3, _ => simp [sq, bpart, edgeL]; omega
  | 4, _ => simp [sq, bpart, edgeL]; omega
  | 5, _ => simp [sq, bpart, edgeL]; omega

theorem inB_iff {x : Int} : inB 67108864 x = true ↔ -67108864 ≤ x ∧ x ≤ 67108864 := by
  unfold inB
  rw [show IntKind.wrap IntKind.i64 (0 - 67108864) = -67108864 by rfl]
  simp

theorem may_getD {xs : List Int} (h : may16 xs = true) (j : Nat) : -67108864 ≤ xs.getD j 0 ∧ xs.getD j 0 ≤ 67108864 := by
  rw [List.getD_eq_getElem?_getD]
  cases hj : xs[j]? with
  | none => simp
  | some v =>
    have := List.all_eq_true.1 h v (List.mem_of_getElem? hj)
    simpa using inB_iff.1 this

theorem sq_pm {x y : Int} (h : y = x ∨ y = -x) : y * y = x * x := by
  rcases h with rfl | rfl
  · rfl
  · exact Int.neg_mul_neg _ _

theorem six_rem (b : Int) (hb : inI b = true) : ∃ B : Nat, B < 6 ∧ Int.tmod (IntKind.wrap IntKind.i64 (Int.tmod b 6 + 6)) 6 = B := by
  have h1 := tmod_lit b 6
  rw [wrap_in (inI_iff.2 (by omega))]
  have h2 := tmod_lit (b.tmod 6 + 6) 6
  exact ⟨(Int.tmod (b.tmod 6 + 6) 6).toNat, by omega, by omega⟩

theorem pm_in {x y : Int} (h : -67108864 ≤ x ∧ x ≤ 67108864) (p : y = x ∨ y = -x) : -67108864 ≤ y ∧ y ≤ 67108864 := by omega
theorem may_pm {x0 x1 x2 x3 x4 x5 x6 x7 x8 x9 x10 x11 x12 x13 x14 x15 y0 y1 y2 y3 y4 y5 y6 y7 y8 y9 y10 y11 y12 y13 y14 y15 : Int} (h : may16 [x0, x1, x2, x3, x4, x5, x6, x7, x8, x9, x10, x11, x12, x13, x14, x15] = true) (p0 : y0 = x0 ∨ y0 = -x0) (p1 : y1 = x1 ∨ y1 = -x1) (p2 : y2 = x2 ∨ y2 = -x2) (p3 : y3 = x3 ∨ y3 = -x3) (p4 : y4 = x4 ∨ y4 = -x4) (p5 : y5 = x5 ∨ y5 = -x5) (p6 : y6 = x6 ∨ y6 = -x6) (p7 : y7 = x7 ∨ y7 = -x7) (p8 : y8 = x8 ∨ y8 = -x8) (p9 : y9 = x9 ∨ y9 = -x9) (p10 : y10 = x10 ∨ y10 = -x10) (p11 : y11 = x11 ∨ y11 = -x11) (p12 : y12 = x12 ∨ y12 = -x12) (p13 : y13 = x13 ∨ y13 = -x13) (p14 : y14 = x14 ∨ y14 = -x14) (p15 : y15 = x15 ∨ y15 = -x15) : may16 [y0, y1, y2, y3, y4, y5, y6, y7, y8, y9, y10, y11, y12, y13, y14, y15] = true := by
  unfold may16 at h ⊢
  simp only [List.all_cons, List.all_nil, Bool.and_eq_true, inB_iff, and_true] at h ⊢
  exact ⟨pm_in h.1 p0, pm_in h.2.1 p1, pm_in h.2.2.1 p2, pm_in h.2.2.2.1 p3, pm_in h.2.2.2.2.1 p4, pm_in h.2.2.2.2.2.1 p5, pm_in h.2.2.2.2.2.2.1 p6, pm_in h.2.2.2.2.2.2.2.1 p7, pm_in h.2.2.2.2.2.2.2.2.1 p8, pm_in h.2.2.2.2.2.2.2.2.2.1 p9, pm_in h.2.2.2.2.2.2.2.2.2.2.1 p10, pm_in h.2.2.2.2.2.2.2.2.2.2.2.1 p11, pm_in h.2.2.2.2.2.2.2.2.2.2.2.2.1 p12, pm_in h.2.2.2.2.2.2.2.2.2.2.2.2.2.1 p13, pm_in h.2.2.2.2.2.2.2.2.2.2.2.2.2.2.1 p14, pm_in h.2.2.2.2.2.2.2.2.2.2.2.2.2.2.2 p15⟩

theorem told76 {l0 l1 l2 l3 l4 l5 : Int} {xs : List Int} (hx : xs.length = 16) (hm : may16 xs = true) (hl : lvl xs = [l0, l1, l2, l3, l4, l5]) : tellHPre (bsT true l0 l1 l2 l3 l4 l5) noPre 76 [.agg (ints xs).toArray] [] = true := by
  have h := measure_c 76 (.inl rfl) xs hx
  unfold tup6 at h
  rw [hl, show lve xs = 0 by unfold lve; rw [if_pos hm]] at h
  exact tellH_ok rfl h
theorem told74 {may : Bool} {l0 l1 l2 l3 l4 l5 : Int} {xs : List Int} (hx : xs.length = 16) (hm : may16 xs = may) : tellHPre (bsT may l0 l1 l2 l3 l4 l5) noPre 74 [.agg (ints xs).toArray] [] = true := by
  have h := may_ok xs hx
  unfold may16 at hm
  rw [hm] at h
  exact tellH_ok rfl h
theorem told75 {may : Bool} {l0 l1 l2 l3 l4 l5 : Int} : tellHPre (bsT may l0 l1 l2 l3 l4 l5) noPre 75 [] [] = true := tellH_ok rfl live8_ok

theorem may_perm0 {y0 y1 y2 y3 y4 y5 y6 y7 y8 y9 y10 y11 y12 y13 y14 y15 : Int} (h : may16 [y0, y1, y2, y3, y4, y5, y6, y7, y8, y9, y10, y11, y12, y13, y14, y15] = true) : may16 [y0, y1, y2, y3, y4, y5, y6, y7, y8, y9, y10, y11, y12, y13, y14, y15] = true := by
  unfold may16 at h ⊢
  simp only [List.all_cons, List.all_nil, Bool.and_eq_true, inB_iff, and_true] at h ⊢
  omega
theorem may_perm1 {y0 y1 y2 y3 y4 y5 y6 y7 y8 y9 y10 y11 y12 y13 y14 y15 : Int} (h : may16 [y0, y1, y2, y3, y4, y5, y6, y7, y8, y9, y10, y11, y12, y13, y14, y15] = true) : may16 [y0, y1, y2, y3, y4, y5, y6, y7, y8, y9, y10, y11, y12, y13, y14, y15] = true := by
  unfold may16 at h ⊢
  simp only [List.all_cons, List.all_nil, Bool.and_eq_true, inB_iff, and_true] at h ⊢
  omega
theorem may_perm2 {y0 y1 y2 y3 y4 y5 y6 y7 y8 y9 y10 y11 y12 y13 y14 y15 : Int} (h : may16 [y0, y1, y2, y3, y4, y5, y6, y7, y8, y9, y10, y11, y12, y13, y14, y15] = true) : may16 [y0, y1, y3, y2, y4, y5, y6, y7, y8, y9, y10, y11, y12, y13, y14, y15] = true := by
  unfold may16 at h ⊢
  simp only [List.all_cons, List.all_nil, Bool.and_eq_true, inB_iff, and_true] at h ⊢
  omega
theorem may_perm3 {y0 y1 y2 y3 y4 y5 y6 y7 y8 y9 y10 y11 y12 y13 y14 y15 : Int} (h : may16 [y0, y1, y2, y3, y4, y5, y6, y7, y8, y9, y10, y11, y12, y13, y14, y15] = true) : may16 [y0, y1, y2, y3, y5, y4, y6, y7, y8, y9, y10, y11, y12, y13, y14, y15] = true := by
  unfold may16 at h ⊢
  simp only [List.all_cons, List.all_nil, Bool.and_eq_true, inB_iff, and_true] at h ⊢
  omega
theorem may_perm4 {y0 y1 y2 y3 y4 y5 y6 y7 y8 y9 y10 y11 y12 y13 y14 y15 : Int} (h : may16 [y0, y1, y2, y3, y4, y5, y6, y7, y8, y9, y10, y11, y12, y13, y14, y15] = true) : may16 [y0, y1, y2, y3, y4, y5, y9, y7, y8, y6, y10, y11, y12, y13, y14, y15] = true := by
  unfold may16 at h ⊢
  simp only [List.all_cons, List.all_nil, Bool.and_eq_true, inB_iff, and_true] at h ⊢
  omega
theorem may_perm5 {y0 y1 y2 y3 y4 y5 y6 y7 y8 y9 y10 y11 y12 y13 y14 y15 : Int} (h : may16 [y0, y1, y2, y3, y4, y5, y6, y7, y8, y9, y10, y11, y12, y13, y14, y15] = true) : may16 [y0, y1, y2, y3, y4, y5, y6, y7, y8, y9, y15, y11, y12, y13, y14, y10] = true := by
  unfold may16 at h ⊢
  simp only [List.all_cons, List.all_nil, Bool.and_eq_true, inB_iff, and_true] at h ⊢
  omega

theorem bsigns_call (xs : List Int) (hx : xs.length = 16) (ss : List Bool) (hn : ss.length ≤ 9223372036854775807) (c : Nat) (b : Int) (hb : inI b = true) :
    CallOk Try.prog 22 [.agg (ints xs).toArray, .slice (some ⟨0, 0, none⟩) ss.length c, .int .i64 b] [⟨false, none, ss.map .bool⟩] (.bool true) [⟨false, none, ss.map .bool⟩] 1 := by
  obtain ⟨x0, x1, x2, x3, x4, x5, x6, x7, x8, x9, x10, x11, x12, x13, x14, x15, rfl⟩ := six_len16 xs hx
  cases hm : may16 [x0, x1, x2, x3, x4, x5, x6, x7, x8, x9, x10, x11, x12, x13, x14, x15] with
  | false => exact still_ok (bsT_sound false 0 0 0 0 0 0 0) noLoops_ok (bs_bad x0 x1 x2 x3 x4 x5 x6 x7 x8 x9 x10 x11 x12 x13 x14 x15 b ss.length c ss) rfl (by rw [told74 rfl hm, told75]; simp [Holds]) rfl
  | true =>
    obtain ⟨l0, l1, l2, l3, l4, l5, hl⟩ := six_ex (lvl [x0, x1, x2, x3, x4, x5, x6, x7, x8, x9, x10, x11, x12, x13, x14, x15]) (lvl_len _)
    have hpm := flip_pm ss [x0, x1, x2, x3, x4, x5, x6, x7, x8, x9, x10, x11, x12, x13, x14, x15] (may_getD hm) ss.length
    obtain ⟨y0, y1, y2, y3, y4, y5, y6, y7, y8, y9, y10, y11, y12, y13, y14, y15, hy⟩ := six_len16 (flipY ss [x0, x1, x2, x3, x4, x5, x6, x7, x8, x9, x10, x11, x12, x13, x14, x15] ss.length) (by rw [flip_len]; rfl)
    rw [hy] at hpm
    have p0 : y0 = x0 ∨ y0 = -x0 := hpm 0
    have p1 : y1 = x1 ∨ y1 = -x1 := hpm 1
    have p2 : y2 = x2 ∨ y2 = -x2 := hpm 2
    have p3 : y3 = x3 ∨ y3 = -x3 := hpm 3
    have p4 : y4 = x4 ∨ y4 = -x4 := hpm 4
    have p5 : y5 = x5 ∨ y5 = -x5 := hpm 5
    have p6 : y6 = x6 ∨ y6 = -x6 := hpm 6
    have p7 : y7 = x7 ∨ y7 = -x7 := hpm 7
    have p8 : y8 = x8 ∨ y8 = -x8 := hpm 8
    have p9 : y9 = x9 ∨ y9 = -x9 := hpm 9
    have p10 : y10 = x10 ∨ y10 = -x10 := hpm 10
    have p11 : y11 = x11 ∨ y11 = -x11 := hpm 11
    have p12 : y12 = x12 ∨ y12 = -x12 := hpm 12
    have p13 : y13 = x13 ∨ y13 = -x13 := hpm 13
    have p14 : y14 = x14 ∨ y14 = -x14 := hpm 14
    have p15 : y15 = x15 ∨ y15 = -x15 := hpm 15
    have q0 := sq_pm p0
    have q1 := sq_pm p1
    have q2 := sq_pm p2
    have q3 := sq_pm p3
    have q4 := sq_pm p4
    have q5 := sq_pm p5
    have q6 := sq_pm p6
    have q7 := sq_pm p7
    have q8 := sq_pm p8
    have q9 := sq_pm p9
    have q10 := sq_pm p10
    have q11 := sq_pm p11
    have q12 := sq_pm p12
    have q13 := sq_pm p13
    have q14 := sq_pm p14
    have q15 := sq_pm p15
    clear hpm
    obtain ⟨B, hB, hrem⟩ := six_rem b hb
    match B, hB with
    | 0, _ =>
      have hmy : may16 [y0, y1, y2, y3, y4, y5, y6, y7, y8, y9, y10, y11, y12, y13, y14, y15] = true := may_perm0 (may_pm hm p0 p1 p2 p3 p4 p5 p6 p7 p8 p9 p10 p11 p12 p13 p14 p15)
      have hly : lvl [y0, y1, y2, y3, y4, y5, y6, y7, y8, y9, y10, y11, y12, y13, y14, y15] = [l0, l1, l2, l3, l4, l5] := by
        rw [lvl_same y0 y1 y2 y3 y4 y5 y6 y7 y8 y9 y10 y11 y12 y13 y14 y15 x0 x1 x2 x3 x4 x5 x6 x7 x8 x9 x10 x11 x12 x13 x14 x15 hmy hm (by omega) (by omega) (by omega) (by omega) (by omega) (by omega), hl]
      exact still_ok (bsT_sound true l0 l1 l2 l3 l4 l5 0) (show LoopsOk _ (ntOf _ _ 3) _ _ by rw [bs_nt]; exact bsN_ok 0 0 1 c ss [x0, x1, x2, x3, x4, x5, x6, x7, x8, x9, x10, x11, x12, x13, x14, x15] hn rfl hy) (bs_run0 b l0 l1 l2 l3 l4 l5 x0 x1 x2 x3 x4 x5 x6 x7 x8 x9 x10 x11 x12 x13 x14 x15 y0 y1 y2 y3 y4 y5 y6 y7 y8 y9 y10 y11 y12 y13 y14 y15 ss.length c ss) rfl (by
        simp only [told76 rfl hmy hly, told76 rfl hm hl, told74 rfl hm, told75]
        simp only [Holds, List.mem_cons, List.not_mem_nil, or_false, forall_eq_or_imp, forall_eq, cdec_iff, decide_eq_true_eq, and_true, true_and]
        exact hrem) rfl
    | 1, _ =>
      have hmy : may16 [y0, y1, y2, y3, y4, y5, y6, y7, y8, y9, y10, y11, y12, y13, y14, y15] = true := may_perm1 (may_pm hm p0 p1 p2 p3 p4 p5 p6 p7 p8 p9 p10 p11 p12 p13 p14 p15)
      have hly : lvl [y0, y1, y2, y3, y4, y5, y6, y7, y8, y9, y10, y11, y12, y13, y14, y15] = [l0, l1, l2, l3, l4, l5] := by
        rw [lvl_same y0 y1 y2 y3 y4 y5 y6 y7 y8 y9 y10 y11 y12 y13 y14 y15 x0 x1 x2 x3 x4 x5 x6 x7 x8 x9 x10 x11 x12 x13 x14 x15 hmy hm (by omega) (by omega) (by omega) (by omega) (by omega) (by omega), hl]
      exact still_ok (bsT_sound true l0 l1 l2 l3 l4 l5 1) (show LoopsOk _ (ntOf _ _ 3) _ _ by rw [bs_nt]; exact bsN_ok 1 1 2 c ss [x0, x1, x2, x3, x4, x5, x6, x7, x8, x9, x10, x11, x12, x13, x14, x15] hn rfl hy) (bs_run1 b l0 l1 l2 l3 l4 l5 x0 x1 x2 x3 x4 x5 x6 x7 x8 x9 x10 x11 x12 x13 x14 x15 y0 y1 y2 y3 y4 y5 y6 y7 y8 y9 y10 y11 y12 y13 y14 y15 ss.length c ss) rfl (by
        simp only [told76 rfl hmy hly, told76 rfl hm hl, told74 rfl hm, told75]
        simp only [Holds, List.mem_cons, List.not_mem_nil, or_false, forall_eq_or_imp, forall_eq, cdec_iff, decide_eq_true_eq, and_true, true_and]
        exact hrem) rfl
    | 2, _ =>
      have hmy : may16 [y0, y1, y3, y2, y4, y5, y6, y7, y8, y9, y10, y11, y12, y13, y14, y15] = true := may_perm2 (may_pm hm p0 p1 p2 p3 p4 p5 p6 p7 p8 p9 p10 p11 p12 p13 p14 p15)
      have hly : lvl [y0, y1, y3, y2, y4, y5, y6, y7, y8, y9, y10, y11, y12, y13, y14, y15] = [l0, l1, l2, l3, l4, l5] := by
        rw [lvl_same y0 y1 y3 y2 y4 y5 y6 y7 y8 y9 y10 y11 y12 y13 y14 y15 x0 x1 x2 x3 x4 x5 x6 x7 x8 x9 x10 x11 x12 x13 x14 x15 hmy hm (by omega) (by omega) (by omega) (by omega) (by omega) (by omega), hl]
      exact still_ok (bsT_sound true l0 l1 l2 l3 l4 l5 2) (show LoopsOk _ (ntOf _ _ 3) _ _ by rw [bs_nt]; exact bsN_ok 2 2 4 c ss [x0, x1, x2, x3, x4, x5, x6, x7, x8, x9, x10, x11, x12, x13, x14, x15] hn rfl hy) (bs_run2 b l0 l1 l2 l3 l4 l5 x0 x1 x2 x3 x4 x5 x6 x7 x8 x9 x10 x11 x12 x13 x14 x15 y0 y1 y2 y3 y4 y5 y6 y7 y8 y9 y10 y11 y12 y13 y14 y15 ss.length c ss) rfl (by
        simp only [told76 rfl hmy hly, told76 rfl hm hl, told74 rfl hm, told75]
        simp only [Holds, List.mem_cons, List.not_mem_nil, or_false, forall_eq_or_imp, forall_eq, cdec_iff, decide_eq_true_eq, and_true, true_and]
        exact hrem) rfl
    | 3, _ =>
      have hmy : may16 [y0, y1, y2, y3, y5, y4, y6, y7, y8, y9, y10, y11, y12, y13, y14, y15] = true := may_perm3 (may_pm hm p0 p1 p2 p3 p4 p5 p6 p7 p8 p9 p10 p11 p12 p13 p14 p15)
      have hly : lvl [y0, y1, y2, y3, y5, y4, y6, y7, y8, y9, y10, y11, y12, y13, y14, y15] = [l0, l1, l2, l3, l4, l5] := by
        rw [lvl_same y0 y1 y2 y3 y5 y4 y6 y7 y8 y9 y10 y11 y12 y13 y14 y15 x0 x1 x2 x3 x4 x5 x6 x7 x8 x9 x10 x11 x12 x13 x14 x15 hmy hm (by omega) (by omega) (by omega) (by omega) (by omega) (by omega), hl]
      exact still_ok (bsT_sound true l0 l1 l2 l3 l4 l5 3) (show LoopsOk _ (ntOf _ _ 3) _ _ by rw [bs_nt]; exact bsN_ok 3 4 6 c ss [x0, x1, x2, x3, x4, x5, x6, x7, x8, x9, x10, x11, x12, x13, x14, x15] hn rfl hy) (bs_run3 b l0 l1 l2 l3 l4 l5 x0 x1 x2 x3 x4 x5 x6 x7 x8 x9 x10 x11 x12 x13 x14 x15 y0 y1 y2 y3 y4 y5 y6 y7 y8 y9 y10 y11 y12 y13 y14 y15 ss.length c ss) rfl (by
        simp only [told76 rfl hmy hly, told76 rfl hm hl, told74 rfl hm, told75]
        simp only [Holds, List.mem_cons, List.not_mem_nil, or_false, forall_eq_or_imp, forall_eq, cdec_iff, decide_eq_true_eq, and_true, true_and]
        exact hrem) rfl
    | 4, _ =>
      have hmy : may16 [y0, y1, y2, y3, y4, y5, y9, y7, y8, y6, y10, y11, y12, y13, y14, y15] = true := may_perm4 (may_pm hm p0 p1 p2 p3 p4 p5 p6 p7 p8 p9 p10 p11 p12 p13 p14 p15)
      have hly : lvl [y0, y1, y2, y3, y4, y5, y9, y7, y8, y6, y10, y11, y12, y13, y14, y15] = [l0, l1, l2, l3, l4, l5] := by
        rw [lvl_same y0 y1 y2 y3 y4 y5 y9 y7 y8 y6 y10 y11 y12 y13 y14 y15 x0 x1 x2 x3 x4 x5 x6 x7 x8 x9 x10 x11 x12 x13 x14 x15 hmy hm (by omega) (by omega) (by omega) (by omega) (by omega) (by omega), hl]
      exact still_ok (bsT_sound true l0 l1 l2 l3 l4 l5 4) (show LoopsOk _ (ntOf _ _ 3) _ _ by rw [bs_nt]; exact bsN_ok 4 6 10 c ss [x0, x1, x2, x3, x4, x5, x6, x7, x8, x9, x10, x11, x12, x13, x14, x15] hn rfl hy) (bs_run4 b l0 l1 l2 l3 l4 l5 x0 x1 x2 x3 x4 x5 x6 x7 x8 x9 x10 x11 x12 x13 x14 x15 y0 y1 y2 y3 y4 y5 y6 y7 y8 y9 y10 y11 y12 y13 y14 y15 ss.length c ss) rfl (by
        simp only [told76 rfl hmy hly, told76 rfl hm hl, told74 rfl hm, told75]
        simp only [Holds, List.mem_cons, List.not_mem_nil, or_false, forall_eq_or_imp, forall_eq, cdec_iff, decide_eq_true_eq, and_true, true_and]
        exact hrem) rfl
    | 5, _ =>
      have hmy : may16 [y0, y1, y2, y3, y4, y5, y6, y7, y8, y9, y15, y11, y12, y13, y14, y10] = true := may_perm5 (may_pm hm p0 p1 p2 p3 p4 p5 p6 p7 p8 p9 p10 p11 p12 p13 p14 p15)
      have hly : lvl [y0, y1, y2, y3, y4, y5, y6, y7, y8, y9, y15, y11, y12, y13, y14, y10] = [l0, l1, l2, l3, l4, l5] := by
        rw [lvl_same y0 y1 y2 y3 y4 y5 y6 y7 y8 y9 y15 y11 y12 y13 y14 y10 x0 x1 x2 x3 x4 x5 x6 x7 x8 x9 x10 x11 x12 x13 x14 x15 hmy hm (by omega) (by omega) (by omega) (by omega) (by omega) (by omega), hl]
      exact still_ok (bsT_sound true l0 l1 l2 l3 l4 l5 5) (show LoopsOk _ (ntOf _ _ 3) _ _ by rw [bs_nt]; exact bsN_ok 5 10 16 c ss [x0, x1, x2, x3, x4, x5, x6, x7, x8, x9, x10, x11, x12, x13, x14, x15] hn rfl hy) (bs_run5 b l0 l1 l2 l3 l4 l5 x0 x1 x2 x3 x4 x5 x6 x7 x8 x9 x10 x11 x12 x13 x14 x15 y0 y1 y2 y3 y4 y5 y6 y7 y8 y9 y10 y11 y12 y13 y14 y15 ss.length c ss) rfl (by
        simp only [told76 rfl hmy hly, told76 rfl hm hl, told74 rfl hm, told75]
        simp only [Holds, List.mem_cons, List.not_mem_nil, or_false, forall_eq_or_imp, forall_eq, cdec_iff, decide_eq_true_eq, and_true, true_and]
        exact hrem) rfl

theorem bsigns_nil (xs : List Int) (hx : xs.length = 16) (b : Int) (hb : inI b = true) : CallOk Try.prog 22 [.agg (ints xs).toArray, .slice none 0 0, .int .i64 b] [] (.bool true) [] 0 := by
  obtain ⟨x0, x1, x2, x3, x4, x5, x6, x7, x8, x9, x10, x11, x12, x13, x14, x15, rfl⟩ := six_len16 xs hx
  cases hm : may16 [x0, x1, x2, x3, x4, x5, x6, x7, x8, x9, x10, x11, x12, x13, x14, x15] with
  | false => exact still_ok (bsT_sound false 0 0 0 0 0 0 0) noLoops_ok (bs_bad_nil x0 x1 x2 x3 x4 x5 x6 x7 x8 x9 x10 x11 x12 x13 x14 x15 b) rfl (by rw [told74 rfl hm, told75]; simp [Holds]) rfl
  | true =>
    obtain ⟨l0, l1, l2, l3, l4, l5, hl⟩ := six_ex (lvl [x0, x1, x2, x3, x4, x5, x6, x7, x8, x9, x10, x11, x12, x13, x14, x15]) (lvl_len _)
    obtain ⟨B, hB, hrem⟩ := six_rem b hb
    match B, hB with
    | 0, _ =>
      have hmy : may16 [x0, x1, x2, x3, x4, x5, x6, x7, x8, x9, x10, x11, x12, x13, x14, x15] = true := may_perm0 hm
      have hly : lvl [x0, x1, x2, x3, x4, x5, x6, x7, x8, x9, x10, x11, x12, x13, x14, x15] = [l0, l1, l2, l3, l4, l5] := by
        rw [lvl_same x0 x1 x2 x3 x4 x5 x6 x7 x8 x9 x10 x11 x12 x13 x14 x15 x0 x1 x2 x3 x4 x5 x6 x7 x8 x9 x10 x11 x12 x13 x14 x15 hmy hm (by omega) (by omega) (by omega) (by omega) (by omega) (by omega), hl]
      exact still_ok (bsT_sound true l0 l1 l2 l3 l4 l5 0) noLoops_ok (bs_nil0 b l0 l1 l2 l3 l4 l5 x0 x1 x2 x3 x4 x5 x6 x7 x8 x9 x10 x11 x12 x13 x14 x15) rfl (by
        simp only [told76 rfl hmy hly, told76 rfl hm hl, told74 rfl hm, told75]
        simp only [Holds, List.mem_cons, List.not_mem_nil, or_false, forall_eq_or_imp, forall_eq, cdec_iff, decide_eq_true_eq, and_true, true_and]
        exact hrem) rfl
    | 1, _ =>
      have hmy : may16 [x0, x1, x2, x3, x4, x5, x6, x7, x8, x9, x10, x11, x12, x13, x14, x15] = true := may_perm1 hm
      have hly : lvl [x0, x1, x2, x3, x4, x5, x6, x7, x8, x9, x10, x11, x12, x13, x14, x15] = [l0, l1, l2, l3, l4, l5] := by
        rw [lvl_same x0 x1 x2 x3 x4 x5 x6 x7 x8 x9 x10 x11 x12 x13 x14 x15 x0 x1 x2 x3 x4 x5 x6 x7 x8 x9 x10 x11 x12 x13 x14 x15 hmy hm (by omega) (by omega) (by omega) (by omega) (by omega) (by omega), hl]
      exact still_ok (bsT_sound true l0 l1 l2 l3 l4 l5 1) noLoops_ok (bs_nil1 b l0 l1 l2 l3 l4 l5 x0 x1 x2 x3 x4 x5 x6 x7 x8 x9 x10 x11 x12 x13 x14 x15) rfl (by
        simp only [told76 rfl hmy hly, told76 rfl hm hl, told74 rfl hm, told75]
        simp only [Holds, List.mem_cons, List.not_mem_nil, or_false, forall_eq_or_imp, forall_eq, cdec_iff, decide_eq_true_eq, and_true, true_and]
        exact hrem) rfl
    | 2, _ =>
      have hmy : may16 [x0, x1, x3, x2, x4, x5, x6, x7, x8, x9, x10, x11, x12, x13, x14, x15] = true := may_perm2 hm
      have hly : lvl [x0, x1, x3, x2, x4, x5, x6, x7, x8, x9, x10, x11, x12, x13, x14, x15] = [l0, l1, l2, l3, l4, l5] := by
        rw [lvl_same x0 x1 x3 x2 x4 x5 x6 x7 x8 x9 x10 x11 x12 x13 x14 x15 x0 x1 x2 x3 x4 x5 x6 x7 x8 x9 x10 x11 x12 x13 x14 x15 hmy hm (by omega) (by omega) (by omega) (by omega) (by omega) (by omega), hl]
      exact still_ok (bsT_sound true l0 l1 l2 l3 l4 l5 2) noLoops_ok (bs_nil2 b l0 l1 l2 l3 l4 l5 x0 x1 x2 x3 x4 x5 x6 x7 x8 x9 x10 x11 x12 x13 x14 x15) rfl (by
        simp only [told76 rfl hmy hly, told76 rfl hm hl, told74 rfl hm, told75]
        simp only [Holds, List.mem_cons, List.not_mem_nil, or_false, forall_eq_or_imp, forall_eq, cdec_iff, decide_eq_true_eq, and_true, true_and]
        exact hrem) rfl
    | 3, _ =>
      have hmy : may16 [x0, x1, x2, x3, x5, x4, x6, x7, x8, x9, x10, x11, x12, x13, x14, x15] = true := may_perm3 hm
      have hly : lvl [x0, x1, x2, x3, x5, x4, x6, x7, x8, x9, x10, x11, x12, x13, x14, x15] = [l0, l1, l2, l3, l4, l5] := by
        rw [lvl_same x0 x1 x2 x3 x5 x4 x6 x7 x8 x9 x10 x11 x12 x13 x14 x15 x0 x1 x2 x3 x4 x5 x6 x7 x8 x9 x10 x11 x12 x13 x14 x15 hmy hm (by omega) (by omega) (by omega) (by omega) (by omega) (by omega), hl]
      exact still_ok (bsT_sound true l0 l1 l2 l3 l4 l5 3) noLoops_ok (bs_nil3 b l0 l1 l2 l3 l4 l5 x0 x1 x2 x3 x4 x5 x6 x7 x8 x9 x10 x11 x12 x13 x14 x15) rfl (by
        simp only [told76 rfl hmy hly, told76 rfl hm hl, told74 rfl hm, told75]
        simp only [Holds, List.mem_cons, List.not_mem_nil, or_false, forall_eq_or_imp, forall_eq, cdec_iff, decide_eq_true_eq, and_true, true_and]
        exact hrem) rfl
    | 4, _ =>
      have hmy : may16 [x0, x1, x2, x3, x4, x5, x9, x7, x8, x6, x10, x11, x12, x13, x14, x15] = true := may_perm4 hm
      have hly : lvl [x0, x1, x2, x3, x4, x5, x9, x7, x8, x6, x10, x11, x12, x13, x14, x15] = [l0, l1, l2, l3, l4, l5] := by
        rw [lvl_same x0 x1 x2 x3 x4 x5 x9 x7 x8 x6 x10 x11 x12 x13 x14 x15 x0 x1 x2 x3 x4 x5 x6 x7 x8 x9 x10 x11 x12 x13 x14 x15 hmy hm (by omega) (by omega) (by omega) (by omega) (by omega) (by omega), hl]
      exact still_ok (bsT_sound true l0 l1 l2 l3 l4 l5 4) noLoops_ok (bs_nil4 b l0 l1 l2 l3 l4 l5 x0 x1 x2 x3 x4 x5 x6 x7 x8 x9 x10 x11 x12 x13 x14 x15) rfl (by
        simp only [told76 rfl hmy hly, told76 rfl hm hl, told74 rfl hm, told75]
        simp only [Holds, List.mem_cons, List.not_mem_nil, or_false, forall_eq_or_imp, forall_eq, cdec_iff, decide_eq_true_eq, and_true, true_and]
        exact hrem) rfl
    | 5, _ =>
      have hmy : may16 [x0, x1, x2, x3, x4, x5, x6, x7, x8, x9, x15, x11, x12, x13, x14, x10] = true := may_perm5 hm
      have hly : lvl [x0, x1, x2, x3, x4, x5, x6, x7, x8, x9, x15, x11, x12, x13, x14, x10] = [l0, l1, l2, l3, l4, l5] := by
        rw [lvl_same x0 x1 x2 x3 x4 x5 x6 x7 x8 x9 x15 x11 x12 x13 x14 x10 x0 x1 x2 x3 x4 x5 x6 x7 x8 x9 x10 x11 x12 x13 x14 x15 hmy hm (by omega) (by omega) (by omega) (by omega) (by omega) (by omega), hl]
      exact still_ok (bsT_sound true l0 l1 l2 l3 l4 l5 5) noLoops_ok (bs_nil5 b l0 l1 l2 l3 l4 l5 x0 x1 x2 x3 x4 x5 x6 x7 x8 x9 x10 x11 x12 x13 x14 x15) rfl (by
        simp only [told76 rfl hmy hly, told76 rfl hm hl, told74 rfl hm, told75]
        simp only [Holds, List.mem_cons, List.not_mem_nil, or_false, forall_eq_or_imp, forall_eq, cdec_iff, decide_eq_true_eq, and_true, true_and]
        exact hrem) rfl

end Go.Proofs.Ytfbjpenbpbpcaaa

