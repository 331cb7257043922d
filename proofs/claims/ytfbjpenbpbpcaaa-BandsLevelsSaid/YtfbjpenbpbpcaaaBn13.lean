/-
  Chapter 08: the law BandsLevels as a call.
-/
import Derived.Test.YtfbjpenbpbpcaaaBn12
namespace Go.Proofs.Ytfbjpenbpbpcaaa
open Go Den
set_option maxRecDepth 100000
set_option linter.unusedSimpArgs false
set_option linter.unusedVariables false

noncomputable def v1L (x mo : Int) (xs : List Int) : Nat → St → Option (Ex × St × Obs) := sumL 5 ⟨l1F x mo xs 0, [blkI xs], 0⟩ (.exit 0) ⟨[(1, .int .i64 x), (2, .int .i64 mo), (3, ptI 0), (7, .bool true)], [blkI xs], 0⟩
noncomputable def v3L (x mo : Int) (xs tw : List Int) : Nat → St → Option (Ex × St × Obs) := sumL 23 ⟨l3F x mo 0, l3H xs (L6 (lvl xs)) tw (L6 (lvl tw)), 0⟩ (.exit 4) ⟨[(1, .int .i64 x), (2, .int .i64 mo), (3, ptI 0), (7, .bool true), (10, ptI 1), (12, ptI 2)], l3H xs (L6 (lvl xs)) tw (L6 (lvl tw)), 0⟩
noncomputable def vN (x mo : Int) (xs tw : List Int) : Loops := { loop := orL (v1L x mo xs) (v3L x mo xs tw) }
noncomputable def vB (x mo : Int) (xs : List Int) : Loops := { loop := sumL 5 ⟨l1F x mo xs 0, [blkI xs], 0⟩ .ret ⟨[(6, .bool true)], [blkI xs], 0⟩ }
/-- A number's band. -/
def bandOf (k : Nat) : Nat := if k < 1 then 0 else if k < 2 then 1 else if k < 4 then 2 else if k < 6 then 3 else if k < 10 then 4 else 5
def grK (xs : List Int) (R : Int) (k : Nat) : List Int := xs.set k (W (mxG (xs.getD k 0) (W (0 - xs.getD k 0)) + R))
def vI (xs gr : List Int) (j i : Nat) : Bool × Bool := if i = j then (decide ((lvl gr).getD i 0 < (lvl xs).getD i 0), false) else ((lvl gr).getD i 0 != (lvl xs).getD i 0, false)
theorem v_run (x0 x1 x2 x3 x4 x5 x6 x7 x8 x9 x10 x11 x12 x13 x14 x15 x mo R : Int) : (List.range' 0 16).map (fun (k : Nat) => (evFnL Try.prog ext 300 (nmPre noPre) (nbC [(95, (k : Int)), (109, R)] ((161, true) :: allF [44, 61, 123, 141, 154]) o8) (vN x mo [x0, x1, x2, x3, x4, x5, x6, x7, x8, x9, x10, x11, x12, x13, x14, x15] [W (x0 * 2), W (x1 * 2), W (x2 * 2), W (x3 * 2), W (x4 * 2), W (x5 * 2), W (x6 * 2), W (x7 * 2), W (x8 * 2), W (x9 * 2), W (x10 * 2), W (x11 * 2), W (x12 * 2), W (x13 * 2), W (x14 * 2), W (x15 * 2)]) [] 20 [.agg (ints [x0, x1, x2, x3, x4, x5, x6, x7, x8, x9, x10, x11, x12, x13, x14, x15]).toArray, .int .i64 x, .int .i64 mo] []).map (fun r => (r.1.1, r.2))) =
  (List.range' 0 16).map fun (k : Nat) => some (.bool true, [(may16 [W (x0 * 2), W (x1 * 2), W (x2 * 2), W (x3 * 2), W (x4 * 2), W (x5 * 2), W (x6 * 2), W (x7 * 2), W (x8 * 2), W (x9 * 2), W (x10 * 2), W (x11 * 2), W (x12 * 2), W (x13 * 2), W (x14 * 2), W (x15 * 2)], true), vI [x0, x1, x2, x3, x4, x5, x6, x7, x8, x9, x10, x11, x12, x13, x14, x15] (grK [x0, x1, x2, x3, x4, x5, x6, x7, x8, x9, x10, x11, x12, x13, x14, x15] R k) (bandOf k) 5, vI [x0, x1, x2, x3, x4, x5, x6, x7, x8, x9, x10, x11, x12, x13, x14, x15] (grK [x0, x1, x2, x3, x4, x5, x6, x7, x8, x9, x10, x11, x12, x13, x14, x15] R k) (bandOf k) 4, vI [x0, x1, x2, x3, x4, x5, x6, x7, x8, x9, x10, x11, x12, x13, x14, x15] (grK [x0, x1, x2, x3, x4, x5, x6, x7, x8, x9, x10, x11, x12, x13, x14, x15] R k) (bandOf k) 3, vI [x0, x1, x2, x3, x4, x5, x6, x7, x8, x9, x10, x11, x12, x13, x14, x15] (grK [x0, x1, x2, x3, x4, x5, x6, x7, x8, x9, x10, x11, x12, x13, x14, x15] R k) (bandOf k) 2, vI [x0, x1, x2, x3, x4, x5, x6, x7, x8, x9, x10, x11, x12, x13, x14, x15] (grK [x0, x1, x2, x3, x4, x5, x6, x7, x8, x9, x10, x11, x12, x13, x14, x15] R k) (bandOf k) 1, vI [x0, x1, x2, x3, x4, x5, x6, x7, x8, x9, x10, x11, x12, x13, x14, x15] (grK [x0, x1, x2, x3, x4, x5, x6, x7, x8, x9, x10, x11, x12, x13, x14, x15] R k) (bandOf k) 0,
    (lve (grK [x0, x1, x2, x3, x4, x5, x6, x7, x8, x9, x10, x11, x12, x13, x14, x15] R k) != 0, false), (decide ((W (mo.tmod 1000 + 1000)).tmod 1000 = R), true), (decide ((W (x.tmod 16 + 16)).tmod 16 = (k : Int)), true),
    (cdec (l3F x mo 0 = l3F x mo 0), true), (cdec (l3H [x0, x1, x2, x3, x4, x5, x6, x7, x8, x9, x10, x11, x12, x13, x14, x15] (L6 (lvl [x0, x1, x2, x3, x4, x5, x6, x7, x8, x9, x10, x11, x12, x13, x14, x15])) [W (x0 * 2), W (x1 * 2), W (x2 * 2), W (x3 * 2), W (x4 * 2), W (x5 * 2), W (x6 * 2), W (x7 * 2), W (x8 * 2), W (x9 * 2), W (x10 * 2), W (x11 * 2), W (x12 * 2), W (x13 * 2), W (x14 * 2), W (x15 * 2)] (L6 (lvl [W (x0 * 2), W (x1 * 2), W (x2 * 2), W (x3 * 2), W (x4 * 2), W (x5 * 2), W (x6 * 2), W (x7 * 2), W (x8 * 2), W (x9 * 2), W (x10 * 2), W (x11 * 2), W (x12 * 2), W (x13 * 2), W (x14 * 2), W (x15 * 2)])) = l3H [x0, x1, x2, x3, x4, x5, x6, x7, x8, x9, x10, x11, x12, x13, x14, x15] (L6 (lvl [x0, x1, x2, x3, x4, x5, x6, x7, x8, x9, x10, x11, x12, x13, x14, x15])) [W (x0 * 2), W (x1 * 2), W (x2 * 2), W (x3 * 2), W (x4 * 2), W (x5 * 2), W (x6 * 2), W (x7 * 2), W (x8 * 2), W (x9 * 2), W (x10 * 2), W (x11 * 2), W (x12 * 2), W (x13 * 2), W (x14 * 2), W (x15 * 2)] (L6 (lvl [W (x0 * 2), W (x1 * 2), W (x2 * 2), W (x3 * 2), W (x4 * 2), W (x5 * 2), W (x6 * 2), W (x7 * 2), W (x8 * 2), W (x9 * 2), W (x10 * 2), W (x11 * 2), W (x12 * 2), W (x13 * 2), W (x14 * 2), W (x15 * 2)]))), true), (cdec (0 = 0), true), (lve [W (x0 * 2), W (x1 * 2), W (x2 * 2), W (x3 * 2), W (x4 * 2), W (x5 * 2), W (x6 * 2), W (x7 * 2), W (x8 * 2), W (x9 * 2), W (x10 * 2), W (x11 * 2), W (x12 * 2), W (x13 * 2), W (x14 * 2), W (x15 * 2)] != 0, false), (lve [x0, x1, x2, x3, x4, x5, x6, x7, x8, x9, x10, x11, x12, x13, x14, x15] != 0, false),
    (cdec (l1F x mo [x0, x1, x2, x3, x4, x5, x6, x7, x8, x9, x10, x11, x12, x13, x14, x15] 0 = l1F x mo [x0, x1, x2, x3, x4, x5, x6, x7, x8, x9, x10, x11, x12, x13, x14, x15] 0), true), (cdec ([blkI [x0, x1, x2, x3, x4, x5, x6, x7, x8, x9, x10, x11, x12, x13, x14, x15]] = [blkI [x0, x1, x2, x3, x4, x5, x6, x7, x8, x9, x10, x11, x12, x13, x14, x15]]), true), (cdec (0 = 0), true)]) := by kernel_rfl
theorem v_bad (x0 x1 x2 x3 x4 x5 x6 x7 x8 x9 x10 x11 x12 x13 x14 x15 x mo : Int) : (evFnL Try.prog ext 300 noPre o8 (vB x mo [x0, x1, x2, x3, x4, x5, x6, x7, x8, x9, x10, x11, x12, x13, x14, x15]) [] 20 [.agg (ints [x0, x1, x2, x3, x4, x5, x6, x7, x8, x9, x10, x11, x12, x13, x14, x15]).toArray, .int .i64 x, .int .i64 mo] []).map (fun r => (r.1.1, r.2)) =
  some (.bool true, [(cdec (l1F x mo [x0, x1, x2, x3, x4, x5, x6, x7, x8, x9, x10, x11, x12, x13, x14, x15] 0 = l1F x mo [x0, x1, x2, x3, x4, x5, x6, x7, x8, x9, x10, x11, x12, x13, x14, x15] 0), true), (cdec ([blkI [x0, x1, x2, x3, x4, x5, x6, x7, x8, x9, x10, x11, x12, x13, x14, x15]] = [blkI [x0, x1, x2, x3, x4, x5, x6, x7, x8, x9, x10, x11, x12, x13, x14, x15]]), true), (cdec (0 = 0), true)]) := by kernel_rfl
theorem v_l : loopsOf (bodyOf Try.prog 20) = [loopAt Try.prog 20 0, loopAt Try.prog 20 1, loopAt Try.prog 20 2, loopAt Try.prog 20 3] := by kernel_rfl
theorem v_i0 : firstId (loopAt Try.prog 20 0) = 5 := by kernel_rfl
theorem v_i1 : firstId (loopAt Try.prog 20 1) = 15 := by kernel_rfl
theorem v_i2 : firstId (loopAt Try.prog 20 2) = 23 := by kernel_rfl
theorem v_i3 : firstId (loopAt Try.prog 20 3) = 36 := by kernel_rfl

theorem bpart_sets (x0 x1 x2 x3 x4 x5 x6 x7 x8 x9 x10 x11 x12 x13 x14 x15 y : Int) : (List.range' 0 96).map (fun (n : Nat) => if n % 6 = bandOf (n / 6) then [] else bpart ([x0, x1, x2, x3, x4, x5, x6, x7, x8, x9, x10, x11, x12, x13, x14, x15].set (n / 6) y) (n % 6)) = (List.range' 0 96).map fun (n : Nat) => if n % 6 = bandOf (n / 6) then [] else bpart [x0, x1, x2, x3, x4, x5, x6, x7, x8, x9, x10, x11, x12, x13, x14, x15] (n % 6) := by kernel_rfl
theorem bpart_set {xs : List Int} (hm : xs.length = 16) {k : Nat} (hk : k < 16) (y : Int) : ∀ j, j < 6 → j ≠ bandOf k → bpart (xs.set k y) j = bpart xs j := by
  obtain ⟨x0, x1, x2, x3, x4, x5, x6, x7, x8, x9, x10, x11, x12, x13, x14, x15, rfl⟩ := six_len16 xs hm
  intro j hj hne
  have t := of_list (bpart_sets x0 x1 x2 x3 x4 x5 x6 x7 x8 x9 x10 x11 x12 x13 x14 x15 y) (i := 6 * k + j) (by omega) (by omega)
  have hq : (6 * k + j) / 6 = k := by omega
  have hr : (6 * k + j) % 6 = j := by omega
  rw [hq, hr, if_neg hne, if_neg hne] at t
  exact t
theorem sq_cons (x : Int) (xs : List Int) : sq (x :: xs) = x * x + sq xs := by simp [sq]
theorem sq_nil : sq [] = 0 := rfl
theorem bpart_set2 {xs : List Int} (hm : xs.length = 16) {k : Nat} (hk : k < 16) {y : Int} (h : xs.getD k 0 * xs.getD k 0 ≤ y * y) : sq (bpart xs (bandOf k)) ≤ sq (bpart (xs.set k y) (bandOf k)) := by
  obtain ⟨x0, x1, x2, x3, x4, x5, x6, x7, x8, x9, x10, x11, x12, x13, x14, x15, rfl⟩ := six_len16 xs hm
  rcases (show k = 0 ∨ k = 1 ∨ k = 2 ∨ k = 3 ∨ k = 4 ∨ k = 5 ∨ k = 6 ∨ k = 7 ∨ k = 8 ∨ k = 9 ∨ k = 10 ∨ k = 11 ∨ k = 12 ∨ k = 13 ∨ k = 14 ∨ k = 15 by omega) with rfl | rfl | rfl | rfl | rfl | rfl | rfl | rfl | rfl | rfl | rfl | rfl | rfl | rfl | rfl | rfl
  all_goals
    simp only [List.getD_cons_zero, List.getD_cons_succ] at h
    simp only [bandOf, bpart, edgeL, List.set_cons_zero, List.set_cons_succ, List.getD_cons_zero, List.getD_cons_succ, Nat.reduceLT, if_true, if_false, Nat.reduceAdd, Nat.reduceSub, List.drop_succ_cons, List.drop_zero, List.take_succ_cons, List.take_zero, sq_cons, sq_nil, Nat.lt_irrefl]
    omega

theorem levels_call (xs : List Int) (hm : xs.length = 16) (x mo : Int) : CallOk Try.prog 20 [.agg (ints xs).toArray, .int .i64 x, .int .i64 mo] [] (.bool true) [] 0 := by
  cases hall : xs.all b24 with
  | false =>
    obtain ⟨x0, x1, x2, x3, x4, x5, x6, x7, x8, x9, x10, x11, x12, x13, x14, x15, rfl⟩ := six_len16 xs hm
    refine pf_ok o8_sound ?_ (v_bad x0 x1 x2 x3 x4 x5 x6 x7 x8 x9 x10 x11 x12 x13 x14 x15 x mo) (by simp [Holds, cdec]) rfl
    refine LoopsOk.sum rfl fun b hb hi => ?_
    rw [v_l] at hb
    simp only [List.mem_cons, List.not_mem_nil, or_false] at hb
    rcases hb with rfl | rfl | rfl | rfl
    · exact l1_some x0 x1 x2 x3 x4 x5 x6 x7 x8 x9 x10 x11 x12 x13 x14 x15 x mo hall
    · rw [v_i1] at hi; omega
    · rw [v_i2] at hi; omega
    · rw [v_i3] at hi; omega
  | true =>
    have hv : ∀ v ∈ xs, -16777216 ≤ v ∧ v ≤ 16777216 := fun v hv => b24_iff.1 (List.all_eq_true.1 hall v hv)
    have hin : xs.all (inB 67108864) = true := List.all_eq_true.2 fun v h => inB_iff.2 (by have := hv v h; omega)
    obtain ⟨tw, htw⟩ : ∃ tw, xs.map (fun v => W (v * 2)) = tw := ⟨_, rfl⟩
    have htl : tw.length = 16 := by rw [← htw]; simpa using hm
    have htv : ∀ v ∈ tw, -33554432 ≤ v ∧ v ≤ 33554432 := fun v h => by
      rw [← htw] at h
      obtain ⟨u, hu, rfl⟩ := List.mem_map.1 h
      have := hv u hu
      rw [W_in (n := u * 2) (by omega) (by omega)]
      omega
    have htin : tw.all (inB 67108864) = true := List.all_eq_true.2 fun v h => inB_iff.2 (by have := htv v h; omega)
    obtain ⟨R, hR⟩ : ∃ R, (W (mo.tmod 1000 + 1000)).tmod 1000 = R := ⟨_, rfl⟩
    have hR2 := rem_in mo 1000 (by omega) (by omega)
    rw [hR] at hR2
    have h16 := rem_in x 16 (by omega) (by omega)
    obtain ⟨k, hk, hkx⟩ : ∃ k : Nat, k < 16 ∧ (W (x.tmod 16 + 16)).tmod 16 = (k : Int) := ⟨((W (x.tmod 16 + 16)).tmod 16).toNat, by omega, by omega⟩
    -- levels
    have hlv : lvl xs = lvC xs := by unfold lvl may16; rw [if_pos hin]
    have hlt : lvl tw = lvC tw := by unfold lvl may16; rw [if_pos htin]
    have hps : ∀ b, b < 6 → 0 ≤ sq (bpart xs b) ∧ sq (bpart xs b) ≤ 6 * 281474976710656 := fun b hb => by
      have h1 := sq_small (bpart xs b) (fun v h => hv v (bpart_mem h))
      have h2 := bpart_len xs b hb
      omega
    have hpt : ∀ b, b < 6 → sq (bpart tw b) = 4 * sq (bpart xs b) := fun b hb => by
      rw [← htw, bpart_map]
      exact sq_twice _ fun v h => hv v (bpart_mem h)
    have hL : ∀ b, b < 6 → (lvl xs).getD b 0 = if sq (bpart xs b) > 0 then lvG (sq (bpart xs b)) else 0 := fun b hb => by rw [hlv]; exact lvC_get hin hb
    have hT : ∀ b, b < 6 → (lvl tw).getD b 0 = if 4 * sq (bpart xs b) > 0 then lvG (4 * sq (bpart xs b)) else 0 := fun b hb => by rw [hlt, lvC_get htin hb, hpt b hb]
    have hloop : ∀ b, b < 6 → ((lvl xs).getD b 0 = 0 ∧ (lvl tw).getD b 0 = 0) ∨ ((lvl xs).getD b 0 > 0 ∧ (lvl tw).getD b 0 = (lvl xs).getD b 0 + 8 ∧ (lvl xs).getD b 0 ≤ 255) := fun b hb => by
      rw [hL b hb, hT b hb]
      have hp := hps b hb
      by_cases h0 : sq (bpart xs b) > 0
      · right
        rw [if_pos h0, if_pos (by omega), lvG_four h0 (by omega)]
        have := lvG_eq h0 (show sq (bpart xs b) ≤ 9007199254740992 by omega)
        refine ⟨by omega, rfl, by omega⟩
      · left
        rw [if_neg h0, if_neg (by omega)]
        exact ⟨rfl, rfl⟩
    -- the greater one
    obtain ⟨y, hy⟩ : ∃ y, W (mxG (xs.getD k 0) (W (0 - xs.getD k 0)) + R) = y := ⟨_, rfl⟩
    have hxk : -16777216 ≤ xs.getD k 0 ∧ xs.getD k 0 ≤ 16777216 := by
      rw [List.getD_eq_getElem?_getD, List.getElem?_eq_getElem (by omega)]
      exact hv _ (List.getElem_mem _)
    have hy2 : y = max (xs.getD k 0) (-(xs.getD k 0)) + R := by
      rw [← hy, W_in (n := 0 - xs.getD k 0) (by omega) (by omega), mxG_eq, W_in (by omega) (by omega)]
      omega
    have hyy : xs.getD k 0 * xs.getD k 0 ≤ y * y := by
      have h3 : (xs.getD k 0).natAbs ≤ y.natAbs := by omega
      have h4 := Nat.mul_le_mul h3 h3
      have h5 : ∀ v : Int, v * v = ((v.natAbs * v.natAbs : Nat) : Int) := fun v => by rw [Int.natCast_mul]; exact (Int.natAbs_mul_self).symm
      rw [h5, h5]
      omega
    have hgr : grK xs R k = xs.set k y := by unfold grK; rw [hy]
    have hgv : ∀ v ∈ xs.set k y, -33554432 ≤ v ∧ v ≤ 33554432 := fun v h => by
      rcases List.mem_or_eq_of_mem_set h with h | h
      · have := hv v h; omega
      · subst h; omega
    have hgin : (xs.set k y).all (inB 67108864) = true := List.all_eq_true.2 fun v h => inB_iff.2 (by have := hgv v h; omega)
    have hlg : lvl (xs.set k y) = lvC (xs.set k y) := by unfold lvl may16; rw [if_pos hgin]
    have hG : ∀ b, b < 6 → (lvl (xs.set k y)).getD b 0 = if sq (bpart (xs.set k y) b) > 0 then lvG (sq (bpart (xs.set k y) b)) else 0 := fun b hb => by rw [hlg]; exact lvC_get hgin hb
    have hbk : bandOf k < 6 := by unfold bandOf; repeat' split
                                  all_goals omega
    have hvI : ∀ i, i < 6 → (vI xs (grK xs R k) (bandOf k) i).1 = (vI xs (grK xs R k) (bandOf k) i).2 := fun i hi => by
      unfold vI
      rw [hgr]
      by_cases he : i = bandOf k
      · rw [if_pos he]
        subst he
        refine decide_eq_false ?_
        rw [hG _ hbk, hL _ hbk]
        have h1 := bpart_set2 hm hk hyy
        have h2 := hps _ hbk
        have h3 : sq (bpart (xs.set k y) (bandOf k)) ≤ 9007199254740992 := by
          have := sq_fold (bpart (xs.set k y) (bandOf k)) 0 (bpart_all hgin _) (Int.le_refl 0) (by have := bpart_len (xs.set k y) (bandOf k) hbk; omega)
          have hs : ∀ (l : List Int), (∀ v ∈ l, -33554432 ≤ v ∧ v ≤ 33554432) → sq l ≤ l.length * 1125899906842624 := by
            intro l
            induction l with
            | nil => intro _; simp [sq]
            | cons z l ih =>
              intro h
              rw [sq_cons]
              have h1 := sq48 (h z (by simp)).1 (h z (by simp)).2
              have h2 := ih (fun v hv => h v (by simp [hv]))
              simp only [List.length_cons]
              omega
          have h5 := hs (bpart (xs.set k y) (bandOf k)) (fun v h => hgv v (bpart_mem h))
          have h6 := bpart_len (xs.set k y) (bandOf k) hbk
          omega
        by_cases h0 : sq (bpart xs (bandOf k)) > 0
        · rw [if_pos h0, if_pos (by omega)]
          have := lvG_mono h0 h1 h3
          omega
        · rw [if_neg h0]
          split
          · rename_i h4
            have := (lvG_eq h4 h3).2
            rw [(lvG_eq h4 h3).1]
            omega
          · omega
      · rw [if_neg he]
        refine ne_false ?_
        rw [hG i hi, hL i hi, bpart_set hm hk y i hi he]
    have e1 : (lve xs != 0) = false := by unfold lve may16; rw [if_pos hin]; rfl
    have e2 : (lve tw != 0) = false := by unfold lve may16; rw [if_pos htin]; rfl
    have e3 : (lve (grK xs R k) != 0) = false := by rw [hgr]; unfold lve may16; rw [if_pos hgin]; rfl
    have e4 : may16 tw = true := htin
    obtain ⟨x0, x1, x2, x3, x4, x5, x6, x7, x8, x9, x10, x11, x12, x13, x14, x15, rfl⟩ := six_len16 xs hm
    have htw2 : [W (x0 * 2), W (x1 * 2), W (x2 * 2), W (x3 * 2), W (x4 * 2), W (x5 * 2), W (x6 * 2), W (x7 * 2), W (x8 * 2), W (x9 * 2), W (x10 * 2), W (x11 * 2), W (x12 * 2), W (x13 * 2), W (x14 * 2), W (x15 * 2)] = tw := htw
    have hrun := of_list (v_run x0 x1 x2 x3 x4 x5 x6 x7 x8 x9 x10 x11 x12 x13 x14 x15 x mo R) (i := k) (by omega) (by omega)
    have hL6 := L6_eq (lvl_len [x0, x1, x2, x3, x4, x5, x6, x7, x8, x9, x10, x11, x12, x13, x14, x15])
    have hT6 := L6_eq (lvl_len tw)
    obtain ⟨l0, l1, l2, l3, l4, l5, hl⟩ := six_ex (lvl [x0, x1, x2, x3, x4, x5, x6, x7, x8, x9, x10, x11, x12, x13, x14, x15]) (lvl_len [x0, x1, x2, x3, x4, x5, x6, x7, x8, x9, x10, x11, x12, x13, x14, x15])
    obtain ⟨t0, t1, t2, t3, t4, t5, ht⟩ := six_ex (lvl tw) (lvl_len tw)
    have h1 := l1_all x0 x1 x2 x3 x4 x5 x6 x7 x8 x9 x10 x11 x12 x13 x14 x15 x mo hall
    have h3 := l3_loop x0 x1 x2 x3 x4 x5 x6 x7 x8 x9 x10 x11 x12 x13 x14 x15 l0 l1 l2 l3 l4 l5 t0 t1 t2 t3 t4 t5 x mo tw (fun b hb => by have := hloop b hb; rw [hl, ht] at this; exact this)
    rw [← hl, ← ht, ← hL6, ← hT6] at h3
    refine pf_ok (nb_sound _ _ o8_sound) ?_ hrun ?_ rfl
    · rw [htw2]
      refine .flat (by kernel_rfl) fun b hb s x s' o hs ho => ?_
      rw [v_l] at hb
      simp only [vN, orL] at hs
      simp only [List.mem_cons, List.not_mem_nil, or_false] at hb
      split at hs
      · rename_i r hr
        injection hs with hs
        subst hs
        have hid := sumL_id hr
        rcases hb with rfl | rfl | rfl | rfl
        · exact sumL_ok h1 hr ho
        · rw [v_i1] at hid; omega
        · rw [v_i2] at hid; omega
        · rw [v_i3] at hid; omega
      · have hid := sumL_id hs
        rcases hb with rfl | rfl | rfl | rfl
        · rw [v_i0] at hid; omega
        · rw [v_i1] at hid; omega
        · exact sumL_ok h3 hs ho
        · rw [v_i3] at hid; omega
    · rw [htw2]
      simp only [Holds, List.mem_cons, List.not_mem_nil, or_false, forall_eq_or_imp, forall_eq]
      exact ⟨e4, hvI 5 (by omega), hvI 4 (by omega), hvI 3 (by omega), hvI 2 (by omega), hvI 1 (by omega), hvI 0 (by omega), e3, decide_eq_true hR, decide_eq_true hkx, cdec_iff.2 trivial, cdec_iff.2 trivial, cdec_iff.2 trivial, e2, e1, cdec_iff.2 trivial, cdec_iff.2 trivial, cdec_iff.2 trivial⟩
end Go.Proofs.Ytfbjpenbpbpcaaa

