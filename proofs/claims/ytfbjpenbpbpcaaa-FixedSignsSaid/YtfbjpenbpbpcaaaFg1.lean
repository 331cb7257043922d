/-
  Chapter 05: Add over a row that append made; the law FixedSigns as a call.
-/
import Derived.Test.YtfbjpenbpbpcaaaFs1
import Derived.Test.YtfbjpenbpbpcaaaOuW
namespace Go.Proofs.Ytfbjpenbpbpcaaa
open Go Den
set_option maxRecDepth 100000
set_option linter.unusedSimpArgs false
set_option linter.unusedVariables false

theorem add3_step (f : FuncId) (hf : f = 56 ∨ f = 64) (b s : Int) (l : List Int) (o : Bool) (g : Option Nat) (b0 b1 b2 : Blk) (R : Heap) (lo c i : Nat) (hi : i < l.length) (hl : l.length ≤ 1000000) (hs : -2305843009213693952 ≤ s ∧ s ≤ 2305843009213693951) :
    WP Try.prog 22 (loopAt Try.prog f 0) ⟨adF b s 3 l.length c i, b0 :: b1 :: b2 :: ⟨o, g, ints l⟩ :: R, lo⟩ .normal ⟨adF b (satZ (s + satZ (l.getD i 0) 62) b) 3 l.length c (i + 1), b0 :: b1 :: b2 :: ⟨o, g, ints l⟩ :: R, lo⟩ := by
  have h1 := satZ_le (l.getD i 0) 62
  have e1 : IntKind.i64.wrap (s + satZ (intAt (ints l) (0 + Int.toNat (i : Int))) 62) = s + satZ (l.getD i 0) 62 := by
    rw [intAt_ints, Nat.zero_add, Int.toNat_natCast, wrap_in (inI_iff.2 (by omega))]
  have e2 : IntKind.i64.wrap ((i : Int) + 1) = ((i + 1 : Nat) : Int) := by rw [wrap_in (inI_iff.2 (by omega))]; omega
  have g2 : isIntAt .i64 (ints l) (0 + Int.toNat (i : Int)) = true := isIntAt_ints _ (by omega)
  have key : WP Try.prog 22 (loopAt Try.prog f 0) ⟨adF b s 3 l.length c i, b0 :: b1 :: b2 :: ⟨o, g, ints l⟩ :: R, lo⟩ .normal
      ⟨[(0, .int .i64 b), (5, .int .i64 (satZ (IntKind.i64.wrap (s + satZ (intAt (ints l) (0 + Int.toNat (i : Int))) 62)) b)), (8, .slice (some ⟨3, 0, none⟩) l.length c), (9, .int .i64 l.length), (10, .int .i64 (IntKind.i64.wrap ((i : Int) + 1)))], b0 :: b1 :: b2 :: ⟨o, g, ints l⟩ :: R, lo⟩ := by
    rcases hf with rfl | rfl
    all_goals
      refine WP.run (P := Try.prog) (X := ext) (pre := symPre [8, 12] fx3Pre) (C := fx3) (L := noLoops) (N := 300) (nt := 22) progOk extSound s8_sound (by first | exact codeOk56 | exact codeOk64) noLoops_ok (os := [(0, true), (0, true), (0, true)]) [0, 5, 8, 9, 10]
        (ob := [(isIntAt .i64 (ints l) (0 + Int.toNat (i : Int)), true), (decide (0 ≤ (i : Int) ∧ (i : Int) < l.length), true), (decide ((i : Int) < l.length), true)]) (by kernel_rfl) ?_
      rw [g2]
      simp [Holds]
      omega
  rw [e1, e2] at key
  exact key

theorem add3_end (f : FuncId) (hf : f = 56 ∨ f = 64) (b s : Int) (H : Heap) (lo n c : Nat) :
    WP Try.prog 22 (loopAt Try.prog f 0) ⟨adF b s 3 n c n, H, lo⟩ (.exit 0) ⟨[(5, .int .i64 s)], H, lo⟩ := by
  rcases hf with rfl | rfl
  all_goals
    refine WP.run (P := Try.prog) (X := ext) (pre := symPre [8, 12] fx3Pre) (C := fx3) (L := noLoops) (N := 300) (nt := 22) progOk extSound s8_sound (by first | exact codeOk56 | exact codeOk64) noLoops_ok (os := [(0, false)]) [5]
      (ob := [(decide ((n : Int) < n), false)]) (by kernel_rfl) ?_
    simp [Holds]

theorem add3_loop (f : FuncId) (hf : f = 56 ∨ f = 64) (b : Int) (l : List Int) (o : Bool) (g : Option Nat) (b0 b1 b2 : Blk) (R : Heap) (lo c : Nat) (hl : l.length ≤ 1000000) :
    WP Try.prog 22 (.loop (loopAt Try.prog f 0)) ⟨adF b 0 3 l.length c 0, b0 :: b1 :: b2 :: ⟨o, g, ints l⟩ :: R, lo⟩ (.exit 0) ⟨[(5, .int .i64 (addZ b l 0))], b0 :: b1 :: b2 :: ⟨o, g, ints l⟩ :: R, lo⟩ := by
  have h := WP.loop (P := Try.prog) (nt := 22) (b := loopAt Try.prog f 0) (fun i => ⟨adF b (addZ b (l.take i) 0) 3 l.length c i, b0 :: b1 :: b2 :: ⟨o, g, ints l⟩ :: R, lo⟩) l.length (x := .exit 0) (s' := ⟨[(5, .int .i64 (addZ b l 0))], b0 :: b1 :: b2 :: ⟨o, g, ints l⟩ :: R, lo⟩) (by simp)
    (fun i hi => by
      have := add3_step f hf b (addZ b (l.take i) 0) l o g b0 b1 b2 R lo c i hi hl (addZ_le b _ 0 (by omega))
      rwa [← addZ_succ b l i hi] at this)
    (by
      have := add3_end f hf b (addZ b (l.take l.length) 0) (b0 :: b1 :: b2 :: ⟨o, g, ints l⟩ :: R) lo l.length c
      rwa [List.take_length] at this ⊢)
  exact h

/-- Add, the row the fourth block. -/
theorem add3_ok (f : FuncId) (hf : f = 56 ∨ f = 64) (b : Int) (l : List Int) (o : Bool) (g : Option Nat) (b0 b1 b2 : Blk) (R : Heap) (c : Nat) (hl : l.length ≤ 1000000) :
    CallOk Try.prog f [.int .i64 b, .slice (some ⟨3, 0, none⟩) l.length c] (b0 :: b1 :: b2 :: ⟨o, g, ints l⟩ :: R) (.int .i64 (addZ b l 0)) (b0 :: b1 :: b2 :: ⟨o, g, ints l⟩ :: R) (R.length + 4) := by
  have hw := add3_loop f hf b l o g b0 b1 b2 R (R.length + 4) c hl
  have hL : LoopsOk Try.prog 22 { loop := sumL 3 ⟨adF b 0 3 l.length c 0, b0 :: b1 :: b2 :: ⟨o, g, ints l⟩ :: R, R.length + 4⟩ (.exit 0) ⟨[(5, .int .i64 (addZ b l 0))], b0 :: b1 :: b2 :: ⟨o, g, ints l⟩ :: R, R.length + 4⟩ } (bodyOf Try.prog f) := by
    rcases hf with rfl | rfl
    · exact LoopsOk.sum rfl (fun b' hb' _ => by rw [loops56] at hb'; simp only [List.mem_singleton] at hb'; subst hb'; exact hw)
    · exact LoopsOk.sum rfl (fun b' hb' _ => by rw [loops64] at hb'; simp only [List.mem_singleton] at hb'; subst hb'; exact hw)
  have e56 : ntOf Try.prog 56 2 = 22 := by kernel_rfl
  have e64 : ntOf Try.prog 64 2 = 22 := by kernel_rfl
  rcases hf with rfl | rfl
  all_goals
    refine fnL_ok (N := 300) (pre := fx3Pre) (C := fx3) (os := []) progOk extSound fx3_sound (show LoopsOk _ (ntOf _ _ 2) _ _ by first | (rw [e56]; exact hL) | (rw [e64]; exact hL)) (ob := [(cdec (adF b 0 3 l.length c 0 = adF b 0 3 l.length c 0), true), (cdec ((b0 :: b1 :: b2 :: ⟨o, g, ints l⟩ :: R : Heap) = b0 :: b1 :: b2 :: ⟨o, g, ints l⟩ :: R), true), (cdec (R.length + 4 = R.length + 4), true)]) (by kernel_rfl) ?_
    simp [Holds, cdec_iff]


theorem tmod60 (a : Int) : -1152921504606846976 < a.tmod 1152921504606846976 ∧ a.tmod 1152921504606846976 < 1152921504606846976 := by
  rcases tmod_lit a 1152921504606846976 with h | h <;> omega

theorem divQ_neg (a b : Int) : divQ (-a) b = -divQ a b := by
  unfold divQ
  rw [Int.neg_tmod, Int.neg_tdiv]
  generalize a.tmod b = r
  generalize a.tdiv b = q
  split
  · rfl
  · split <;> split <;> split <;> first | omega | (split <;> omega)

theorem divQ_le (a b : Int) : -(a.natAbs : Int) - 1 ≤ divQ a b ∧ divQ a b ≤ a.natAbs + 1 := by
  unfold divQ
  split
  · omega
  · rename_i hb
    obtain ⟨h1, h2, h3, h4, h5⟩ := tdiv_facts a b (by omega)
    rcases Int.lt_or_le a 0 with h | h
    · have := h5 h
      split <;> split <;> omega
    · have := h4 h
      split <;> split <;> omega

theorem mulZ_comm (a b y : Int) : mulZ a b y = mulZ b a y := by unfold mulZ; rw [Int.mul_comm]

theorem sat_sat (v b : Int) : satZ (satZ v b) b = satZ v b := by
  have h1 := top_le b
  have h2 := within_le v (-(topZ b) - 1) (topZ b) (by omega)
  unfold satZ
  generalize withinZ v (-(topZ b) - 1) (topZ b) = w at *
  unfold withinZ
  split <;> split <;> omega
theorem sat_zero (b : Int) : satZ 0 b = 0 := by
  have h1 := top_le b
  unfold satZ withinZ
  split <;> split <;> omega
theorem sat_add (b : Int) : ∀ (l : List Int) (s : Int), satZ s b = s → satZ (addZ b l s) b = addZ b l s
  | [], s, h => h
  | x :: l, s, h => sat_add b l _ (sat_sat _ b)
theorem add_zero (b : Int) (l : List Int) : addZ b (l ++ [0]) 0 = addZ b l 0 := by
  rw [addZ_append]
  show satZ (addZ b l 0 + satZ 0 62) b = _
  rw [sat_zero, Int.add_zero]
  exact sat_add b l 0 (sat_zero b)

def fgT (s : Int) : Tale := fun f args H => match f with
  | 56 => some (.int .i64 s, H, H.length)
  | _ => none
theorem fg_sound (s A Bt : Int) (e : Bool) : Sound Try.prog (strict (nmPre (tellHPre (fgT s) fx3Pre)) (nbC [(20, A), (55, Bt)] [(40, false), (43, e), (48, false), (69, true), (76, true), (86, true)] (tellH (fgT s) fx3))) := nb_sound _ _ (tellH_sound _ fx3_sound)
theorem fgs_sound (s A Bt : Int) (e : Bool) : Sound Try.prog (strict (nmPre (symPre [80, 82] (tellHPre (fgT s) fx3Pre))) (nbC [(20, A), (55, Bt)] [(40, false), (43, e), (48, false), (69, true), (76, true), (86, true)] (tellH (fgT s) fx3))) := nb_sound _ _ (sym_sound _ (tellH_sound _ fx3_sound))

theorem signs_some (a b y s A Bt : Int) (k c : Nat) (CS : List Value) (hk : k + 1 ≤ 500) (hCS : CS.length = k + 1) (hb : inI b = true) (hy : inI y = true) (hA : Int.tmod a 1152921504606846976 = A) (hB : IntKind.wrap IntKind.i64 (1 + Int.tmod (IntKind.wrap IntKind.i64 (Int.tmod y 62 + 62)) 62) = Bt) (hs : satZ s Bt = s)
    (h1 : CallOk Try.prog 56 [.int .i64 Bt, .slice (some ⟨0, 0, none⟩) (k + 1) c] [⟨false, none, CS⟩] (.int .i64 s) [⟨false, none, CS⟩] 1) (h2 : CallOk Try.prog 56 [.int .i64 Bt, .slice (some ⟨3, 0, none⟩) (k + 1 + 1) 0] [⟨false, none, CS⟩, ⟨false, none, []⟩, ⟨true, none, [.int .i64 0]⟩, ⟨true, some 1, (CS.drop 0).take (k + 1) ++ [.int .i64 0]⟩] (.int .i64 s) [⟨false, none, CS⟩, ⟨false, none, []⟩, ⟨true, none, [.int .i64 0]⟩, ⟨true, some 1, (CS.drop 0).take (k + 1) ++ [.int .i64 0]⟩] 4) :
    CallOk Try.prog 10 [.int .i64 a, .int .i64 b, .int .i64 y, .slice (some ⟨0, 0, none⟩) (k + 1) c] [⟨false, none, CS⟩] (.bool true) [⟨false, none, CS⟩] 1 := by
  obtain ⟨hA1, hA2⟩ := tmod60 a
  rw [hA] at hA1 hA2
  have w0 : IntKind.wrap IntKind.i64 (0 - A) = -A := by rw [wrap_in (inI_iff.2 (by omega))]; omega
  have q0 := divQ_neg A b
  have q1 := divQ_le A b
  have w1 : IntKind.wrap IntKind.i64 (0 - divQ (-A) b) = divQ A b := by rw [q0, wrap_in (inI_iff.2 (by omega))]; omega
  have e43 : ∀ x, -1152921504606846976 < x → x < 1152921504606846976 → tellHPre (fgT s) fx3Pre 43 [.int .i64 x, .int .i64 b] [] = true := fun x p q => by
    show (inI x && inI b) = true
    rw [hb, inI_iff.2 (by omega)]; rfl
  have e47 : ∀ x z, tellHPre (fgT s) fx3Pre 47 [.int .i64 x, .int .i64 z, .int .i64 y] [] = true := fun x z => hy
  by_cases hE : divE b = 0
  · refine CallOk.still (fnL_ok (N := 300) (pre := nmPre (symPre [80, 82] (tellHPre (fgT s) fx3Pre))) (C := nbC [(20, A), (55, Bt)] [(40, false), (43, true), (48, false), (69, true), (76, true), (86, true)] (tellH (fgT s) fx3)) (L := noLoops) (os := [(3, false), (0, true), (0, true), (11, true), (4, true), (4, true), (10, true), (2, true), (1, true)]) (v := .bool true) (H' := [⟨false, none, CS⟩, ⟨false, none, []⟩, ⟨true, none, [.int .i64 0]⟩, ⟨true, some 1, (CS.drop 0).take (k + 1) ++ [.int .i64 0]⟩]) (l := 1)
      (ob := [(s == s, true), (tellHPre (fgT s) fx3Pre 56 [.int .i64 Bt, .slice (some ⟨3, 0, none⟩) (k + 1 + 1) 0] [⟨false, none, CS⟩, ⟨false, none, []⟩, ⟨true, none, [.int .i64 0]⟩, ⟨true, some 1, (CS.drop 0).take (k + 1) ++ [.int .i64 0]⟩], true),
      (decide (1 = 1 ∧ 0 < 1 ∧ 0 + 1 ≤ 1 ∧ (k + 1 + 1) * 8 ≤ 140737488355328 ∧ k + 1 + 1 ≤ 9223372036854775807 ∧ 1 = 1 ∧ 0 < k + 1 ∧ true = true ∧ ((CS.drop 0).take (k + 1)).length = k + 1), true),
      (decide (1 = 1 ∧ 0 < 1 ∧ 0 < k + 1 ∧ 0 + (k + 1) ≤ CS.length ∧ (k + 1) * 8 ≤ 140737488355328 ∧ k + 1 ≤ 9223372036854775807), true),
      (satZ s Bt == s, true), (mulZ A b y == mulZ b A y, true), (tellHPre (fgT s) fx3Pre 47 [.int .i64 b, .int .i64 A, .int .i64 y] [], true), (tellHPre (fgT s) fx3Pre 47 [.int .i64 A, .int .i64 b, .int .i64 y] [], true),
      (tellHPre (fgT s) fx3Pre 56 [.int .i64 Bt, .slice (some ⟨0, 0, none⟩) (k + 1) c] [⟨false, none, CS⟩], true),
      (decide (IntKind.wrap IntKind.i64 (1 + Int.tmod (IntKind.wrap IntKind.i64 (Int.tmod y 62 + 62)) 62) = Bt), true),
      (divQ A b != IntKind.wrap IntKind.i64 (0 - divQ (IntKind.wrap IntKind.i64 (0 - A)) b), false), (divE b == 0, true), (divE b != divE b, false),
      (tellHPre (fgT s) fx3Pre 43 [.int .i64 (IntKind.wrap IntKind.i64 (0 - A)), .int .i64 b] [], true), (tellHPre (fgT s) fx3Pre 43 [.int .i64 A, .int .i64 b] [], true), (decide (((k + 1 : Nat) : Int) > 500), false), (decide (Int.tmod a 1152921504606846976 = A), true)])
      progOk extSound (fgs_sound s A Bt true) noLoops_ok (by kernel_rfl) ?_) rfl rfl
    rw [tellH_ok rfl h2, e47, e47, tellH_ok rfl h1, w0, e43 A hA1 hA2, e43 (-A) (by omega) (by omega), hB, hA, hs, mulZ_comm b A, w1]
    simp [Holds, hE, hCS]
    omega
  · refine CallOk.still (fnL_ok (N := 300) (pre := nmPre (symPre [80, 82] (tellHPre (fgT s) fx3Pre))) (C := nbC [(20, A), (55, Bt)] [(40, false), (43, false), (48, false), (69, true), (76, true), (86, true)] (tellH (fgT s) fx3)) (L := noLoops) (os := [(3, false), (0, true), (0, true), (12, true), (4, true), (4, true), (10, true), (2, true), (1, true)]) (v := .bool true) (H' := [⟨false, none, CS⟩, ⟨false, none, []⟩, ⟨true, none, [.int .i64 0]⟩, ⟨true, some 1, (CS.drop 0).take (k + 1) ++ [.int .i64 0]⟩]) (l := 1)
      (ob := [(s == s, true), (tellHPre (fgT s) fx3Pre 56 [.int .i64 Bt, .slice (some ⟨3, 0, none⟩) (k + 1 + 1) 0] [⟨false, none, CS⟩, ⟨false, none, []⟩, ⟨true, none, [.int .i64 0]⟩, ⟨true, some 1, (CS.drop 0).take (k + 1) ++ [.int .i64 0]⟩], true),
      (decide (1 = 1 ∧ 0 < 1 ∧ 0 + 1 ≤ 1 ∧ (k + 1 + 1) * 8 ≤ 140737488355328 ∧ k + 1 + 1 ≤ 9223372036854775807 ∧ 1 = 1 ∧ 0 < k + 1 ∧ true = true ∧ ((CS.drop 0).take (k + 1)).length = k + 1), true),
      (decide (1 = 1 ∧ 0 < 1 ∧ 0 < k + 1 ∧ 0 + (k + 1) ≤ CS.length ∧ (k + 1) * 8 ≤ 140737488355328 ∧ k + 1 ≤ 9223372036854775807), true),
      (satZ s Bt == s, true), (mulZ A b y == mulZ b A y, true), (tellHPre (fgT s) fx3Pre 47 [.int .i64 b, .int .i64 A, .int .i64 y] [], true), (tellHPre (fgT s) fx3Pre 47 [.int .i64 A, .int .i64 b, .int .i64 y] [], true),
      (tellHPre (fgT s) fx3Pre 56 [.int .i64 Bt, .slice (some ⟨0, 0, none⟩) (k + 1) c] [⟨false, none, CS⟩], true),
      (decide (IntKind.wrap IntKind.i64 (1 + Int.tmod (IntKind.wrap IntKind.i64 (Int.tmod y 62 + 62)) 62) = Bt), true), (divE b == 0, false), (divE b != divE b, false),
      (tellHPre (fgT s) fx3Pre 43 [.int .i64 (IntKind.wrap IntKind.i64 (0 - A)), .int .i64 b] [], true), (tellHPre (fgT s) fx3Pre 43 [.int .i64 A, .int .i64 b] [], true), (decide (((k + 1 : Nat) : Int) > 500), false), (decide (Int.tmod a 1152921504606846976 = A), true)])
      progOk extSound (fgs_sound s A Bt false) noLoops_ok (by kernel_rfl) ?_) rfl rfl
    rw [tellH_ok rfl h2, e47, e47, tellH_ok rfl h1, w0, e43 A hA1 hA2, e43 (-A) (by omega) (by omega), hB, hA, hs, mulZ_comm b A]
    simp [Holds, hE, hCS]
    omega

theorem signs_empty (a b y s A Bt : Int) (c : Nat) (hb : inI b = true) (hy : inI y = true) (hA : Int.tmod a 1152921504606846976 = A) (hB : IntKind.wrap IntKind.i64 (1 + Int.tmod (IntKind.wrap IntKind.i64 (Int.tmod y 62 + 62)) 62) = Bt) (hs : satZ s Bt = s)
    (h1 : CallOk Try.prog 56 [.int .i64 Bt, .slice (some ⟨0, 0, none⟩) 0 c] [⟨false, none, []⟩] (.int .i64 s) [⟨false, none, []⟩] 1) (h2 : CallOk Try.prog 56 [.int .i64 Bt, .slice (some ⟨2, 0, none⟩) 1 0] [⟨false, none, []⟩, ⟨true, none, [.int .i64 0]⟩, ⟨true, some 1, [.int .i64 0]⟩] (.int .i64 s) [⟨false, none, []⟩, ⟨true, none, [.int .i64 0]⟩, ⟨true, some 1, [.int .i64 0]⟩] 3) :
    CallOk Try.prog 10 [.int .i64 a, .int .i64 b, .int .i64 y, .slice (some ⟨0, 0, none⟩) 0 c] [⟨false, none, []⟩] (.bool true) [⟨false, none, []⟩] 1 := by
  obtain ⟨hA1, hA2⟩ := tmod60 a
  rw [hA] at hA1 hA2
  have w0 : IntKind.wrap IntKind.i64 (0 - A) = -A := by rw [wrap_in (inI_iff.2 (by omega))]; omega
  have q0 := divQ_neg A b
  have q1 := divQ_le A b
  have w1 : IntKind.wrap IntKind.i64 (0 - divQ (-A) b) = divQ A b := by rw [q0, wrap_in (inI_iff.2 (by omega))]; omega
  have e43 : ∀ x, -1152921504606846976 < x → x < 1152921504606846976 → tellHPre (fgT s) fx3Pre 43 [.int .i64 x, .int .i64 b] [] = true := fun x p q => by
    show (inI x && inI b) = true
    rw [hb, inI_iff.2 (by omega)]; rfl
  have e47 : ∀ x z, tellHPre (fgT s) fx3Pre 47 [.int .i64 x, .int .i64 z, .int .i64 y] [] = true := fun x z => hy
  by_cases hE : divE b = 0
  · refine CallOk.still (fnL_ok (N := 300) (pre := nmPre (tellHPre (fgT s) fx3Pre)) (C := nbC [(20, A), (55, Bt)] [(40, false), (43, true), (48, false), (69, true), (76, true), (86, true)] (tellH (fgT s) fx3)) (L := noLoops) (os := [(4, true), (0, true), (11, true), (4, true), (4, true), (13, true)]) (v := .bool true) (H' := [⟨false, none, []⟩, ⟨true, none, [.int .i64 0]⟩, ⟨true, some 1, [.int .i64 0]⟩]) (l := 1)
      (ob := [(s == s, true), (tellHPre (fgT s) fx3Pre 56 [.int .i64 Bt, .slice (some ⟨2, 0, none⟩) 1 0] [⟨false, none, []⟩, ⟨true, none, [.int .i64 0]⟩, ⟨true, some 1, [.int .i64 0]⟩], true),
      (satZ s Bt == s, true), (mulZ A b y == mulZ b A y, true), (tellHPre (fgT s) fx3Pre 47 [.int .i64 b, .int .i64 A, .int .i64 y] [], true), (tellHPre (fgT s) fx3Pre 47 [.int .i64 A, .int .i64 b, .int .i64 y] [], true),
      (tellHPre (fgT s) fx3Pre 56 [.int .i64 Bt, .slice (some ⟨0, 0, none⟩) 0 c] [⟨false, none, []⟩], true),
      (decide (IntKind.wrap IntKind.i64 (1 + Int.tmod (IntKind.wrap IntKind.i64 (Int.tmod y 62 + 62)) 62) = Bt), true),
      (divQ A b != IntKind.wrap IntKind.i64 (0 - divQ (IntKind.wrap IntKind.i64 (0 - A)) b), false), (divE b == 0, true), (divE b != divE b, false),
      (tellHPre (fgT s) fx3Pre 43 [.int .i64 (IntKind.wrap IntKind.i64 (0 - A)), .int .i64 b] [], true), (tellHPre (fgT s) fx3Pre 43 [.int .i64 A, .int .i64 b] [], true), (decide (Int.tmod a 1152921504606846976 = A), true)])
      progOk extSound (fg_sound s A Bt true) noLoops_ok (by kernel_rfl) ?_) rfl rfl
    rw [tellH_ok rfl h2, e47, e47, tellH_ok rfl h1, w0, e43 A hA1 hA2, e43 (-A) (by omega) (by omega), hB, hA, hs, mulZ_comm b A, w1]
    simp [Holds, hE]
  · refine CallOk.still (fnL_ok (N := 300) (pre := nmPre (tellHPre (fgT s) fx3Pre)) (C := nbC [(20, A), (55, Bt)] [(40, false), (43, false), (48, false), (69, true), (76, true), (86, true)] (tellH (fgT s) fx3)) (L := noLoops) (os := [(4, true), (0, true), (12, true), (4, true), (4, true), (13, true)]) (v := .bool true) (H' := [⟨false, none, []⟩, ⟨true, none, [.int .i64 0]⟩, ⟨true, some 1, [.int .i64 0]⟩]) (l := 1)
      (ob := [(s == s, true), (tellHPre (fgT s) fx3Pre 56 [.int .i64 Bt, .slice (some ⟨2, 0, none⟩) 1 0] [⟨false, none, []⟩, ⟨true, none, [.int .i64 0]⟩, ⟨true, some 1, [.int .i64 0]⟩], true),
      (satZ s Bt == s, true), (mulZ A b y == mulZ b A y, true), (tellHPre (fgT s) fx3Pre 47 [.int .i64 b, .int .i64 A, .int .i64 y] [], true), (tellHPre (fgT s) fx3Pre 47 [.int .i64 A, .int .i64 b, .int .i64 y] [], true),
      (tellHPre (fgT s) fx3Pre 56 [.int .i64 Bt, .slice (some ⟨0, 0, none⟩) 0 c] [⟨false, none, []⟩], true),
      (decide (IntKind.wrap IntKind.i64 (1 + Int.tmod (IntKind.wrap IntKind.i64 (Int.tmod y 62 + 62)) 62) = Bt), true), (divE b == 0, false), (divE b != divE b, false),
      (tellHPre (fgT s) fx3Pre 43 [.int .i64 (IntKind.wrap IntKind.i64 (0 - A)), .int .i64 b] [], true), (tellHPre (fgT s) fx3Pre 43 [.int .i64 A, .int .i64 b] [], true), (decide (Int.tmod a 1152921504606846976 = A), true)])
      progOk extSound (fg_sound s A Bt false) noLoops_ok (by kernel_rfl) ?_) rfl rfl
    rw [tellH_ok rfl h2, e47, e47, tellH_ok rfl h1, w0, e43 A hA1 hA2, e43 (-A) (by omega) (by omega), hB, hA, hs, mulZ_comm b A]
    simp [Holds, hE]

theorem signs_nil (a b y s A Bt : Int)  (hb : inI b = true) (hy : inI y = true) (hA : Int.tmod a 1152921504606846976 = A) (hB : IntKind.wrap IntKind.i64 (1 + Int.tmod (IntKind.wrap IntKind.i64 (Int.tmod y 62 + 62)) 62) = Bt) (hs : satZ s Bt = s)
    (h1 : CallOk Try.prog 56 [.int .i64 Bt, .slice none 0 0] [] (.int .i64 s) [] 0) (h2 : CallOk Try.prog 56 [.int .i64 Bt, .slice (some ⟨1, 0, none⟩) 1 0] [⟨true, none, [.int .i64 0]⟩, ⟨true, some 1, [.int .i64 0]⟩] (.int .i64 s) [⟨true, none, [.int .i64 0]⟩, ⟨true, some 1, [.int .i64 0]⟩] 2) :
    CallOk Try.prog 10 [.int .i64 a, .int .i64 b, .int .i64 y, .slice none 0 0] [] (.bool true) [] 0 := by
  obtain ⟨hA1, hA2⟩ := tmod60 a
  rw [hA] at hA1 hA2
  have w0 : IntKind.wrap IntKind.i64 (0 - A) = -A := by rw [wrap_in (inI_iff.2 (by omega))]; omega
  have q0 := divQ_neg A b
  have q1 := divQ_le A b
  have w1 : IntKind.wrap IntKind.i64 (0 - divQ (-A) b) = divQ A b := by rw [q0, wrap_in (inI_iff.2 (by omega))]; omega
  have e43 : ∀ x, -1152921504606846976 < x → x < 1152921504606846976 → tellHPre (fgT s) fx3Pre 43 [.int .i64 x, .int .i64 b] [] = true := fun x p q => by
    show (inI x && inI b) = true
    rw [hb, inI_iff.2 (by omega)]; rfl
  have e47 : ∀ x z, tellHPre (fgT s) fx3Pre 47 [.int .i64 x, .int .i64 z, .int .i64 y] [] = true := fun x z => hy
  by_cases hE : divE b = 0
  · refine CallOk.still (fnL_ok (N := 300) (pre := nmPre (tellHPre (fgT s) fx3Pre)) (C := nbC [(20, A), (55, Bt)] [(40, false), (43, true), (48, false), (69, true), (76, true), (86, true)] (tellH (fgT s) fx3)) (L := noLoops) (os := [(4, true), (0, true), (11, true), (4, true), (4, true), (13, true)]) (v := .bool true) (H' := [⟨true, none, [.int .i64 0]⟩, ⟨true, some 1, [.int .i64 0]⟩]) (l := 0)
      (ob := [(s == s, true), (tellHPre (fgT s) fx3Pre 56 [.int .i64 Bt, .slice (some ⟨1, 0, none⟩) 1 0] [⟨true, none, [.int .i64 0]⟩, ⟨true, some 1, [.int .i64 0]⟩], true),
      (satZ s Bt == s, true), (mulZ A b y == mulZ b A y, true), (tellHPre (fgT s) fx3Pre 47 [.int .i64 b, .int .i64 A, .int .i64 y] [], true), (tellHPre (fgT s) fx3Pre 47 [.int .i64 A, .int .i64 b, .int .i64 y] [], true),
      (tellHPre (fgT s) fx3Pre 56 [.int .i64 Bt, .slice none 0 0] [], true),
      (decide (IntKind.wrap IntKind.i64 (1 + Int.tmod (IntKind.wrap IntKind.i64 (Int.tmod y 62 + 62)) 62) = Bt), true),
      (divQ A b != IntKind.wrap IntKind.i64 (0 - divQ (IntKind.wrap IntKind.i64 (0 - A)) b), false), (divE b == 0, true), (divE b != divE b, false),
      (tellHPre (fgT s) fx3Pre 43 [.int .i64 (IntKind.wrap IntKind.i64 (0 - A)), .int .i64 b] [], true), (tellHPre (fgT s) fx3Pre 43 [.int .i64 A, .int .i64 b] [], true), (decide (Int.tmod a 1152921504606846976 = A), true)])
      progOk extSound (fg_sound s A Bt true) noLoops_ok (by kernel_rfl) ?_) rfl rfl
    rw [tellH_ok rfl h2, e47, e47, tellH_ok rfl h1, w0, e43 A hA1 hA2, e43 (-A) (by omega) (by omega), hB, hA, hs, mulZ_comm b A, w1]
    simp [Holds, hE]
  · refine CallOk.still (fnL_ok (N := 300) (pre := nmPre (tellHPre (fgT s) fx3Pre)) (C := nbC [(20, A), (55, Bt)] [(40, false), (43, false), (48, false), (69, true), (76, true), (86, true)] (tellH (fgT s) fx3)) (L := noLoops) (os := [(4, true), (0, true), (12, true), (4, true), (4, true), (13, true)]) (v := .bool true) (H' := [⟨true, none, [.int .i64 0]⟩, ⟨true, some 1, [.int .i64 0]⟩]) (l := 0)
      (ob := [(s == s, true), (tellHPre (fgT s) fx3Pre 56 [.int .i64 Bt, .slice (some ⟨1, 0, none⟩) 1 0] [⟨true, none, [.int .i64 0]⟩, ⟨true, some 1, [.int .i64 0]⟩], true),
      (satZ s Bt == s, true), (mulZ A b y == mulZ b A y, true), (tellHPre (fgT s) fx3Pre 47 [.int .i64 b, .int .i64 A, .int .i64 y] [], true), (tellHPre (fgT s) fx3Pre 47 [.int .i64 A, .int .i64 b, .int .i64 y] [], true),
      (tellHPre (fgT s) fx3Pre 56 [.int .i64 Bt, .slice none 0 0] [], true),
      (decide (IntKind.wrap IntKind.i64 (1 + Int.tmod (IntKind.wrap IntKind.i64 (Int.tmod y 62 + 62)) 62) = Bt), true), (divE b == 0, false), (divE b != divE b, false),
      (tellHPre (fgT s) fx3Pre 43 [.int .i64 (IntKind.wrap IntKind.i64 (0 - A)), .int .i64 b] [], true), (tellHPre (fgT s) fx3Pre 43 [.int .i64 A, .int .i64 b] [], true), (decide (Int.tmod a 1152921504606846976 = A), true)])
      progOk extSound (fg_sound s A Bt false) noLoops_ok (by kernel_rfl) ?_) rfl rfl
    rw [tellH_ok rfl h2, e47, e47, tellH_ok rfl h1, w0, e43 A hA1 hA2, e43 (-A) (by omega) (by omega), hB, hA, hs, mulZ_comm b A]
    simp [Holds, hE]

theorem signs_many (a b y A : Int) (n c : Nat) (CS : List Value) (hn : 500 < n) : CallOk Try.prog 10 [.int .i64 a, .int .i64 b, .int .i64 y, .slice (some ⟨0, 0, none⟩) n c] [⟨false, none, CS⟩] (.bool true) [⟨false, none, CS⟩] 1 :=
  CallOk.still (fnL_ok (N := 300) (pre := fx3Pre) (C := fx3) (L := noLoops) (os := [(3, true)]) (v := .bool true) (H' := [⟨false, none, CS⟩]) (l := 1) (ob := [(decide ((n : Int) > 500), true)]) progOk extSound fx3_sound noLoops_ok (by kernel_rfl) (by simp [Holds]; omega)) rfl rfl

theorem add_one (b : Int) (o o2 : Blk) : CallOk Try.prog 56 [.int .i64 b, .slice (some ⟨1, 0, none⟩) 1 0] [o, ⟨true, some 1, [.int .i64 0]⟩] (.int .i64 0) [o, ⟨true, some 1, [.int .i64 0]⟩] 2 := by
  have h := fnL_ok (N := 300) (pre := fx3Pre) (C := fx3) (L := noLoops) (f := 56) (args := [.int .i64 b, .slice (some ⟨1, 0, none⟩) 1 0]) (H := [o, ⟨true, some 1, [.int .i64 0]⟩]) (os := []) (v := .int .i64 (satZ (IntKind.wrap IntKind.i64 (0 + satZ 0 62)) b)) (H' := [o, ⟨true, some 1, [.int .i64 0]⟩]) (l := 2) (ob := []) progOk extSound fx3_sound noLoops_ok (by kernel_rfl) (by simp [Holds])
  rw [sat_zero 62] at h
  rw [show IntKind.wrap IntKind.i64 (0 + 0) = 0 by rfl, sat_zero] at h
  exact h
theorem add_one2 (b : Int) (o o2 : Blk) : CallOk Try.prog 56 [.int .i64 b, .slice (some ⟨2, 0, none⟩) 1 0] [o, o2, ⟨true, some 1, [.int .i64 0]⟩] (.int .i64 0) [o, o2, ⟨true, some 1, [.int .i64 0]⟩] 3 := by
  have h := fnL_ok (N := 300) (pre := fx3Pre) (C := fx3) (L := noLoops) (f := 56) (args := [.int .i64 b, .slice (some ⟨2, 0, none⟩) 1 0]) (H := [o, o2, ⟨true, some 1, [.int .i64 0]⟩]) (os := []) (v := .int .i64 (satZ (IntKind.wrap IntKind.i64 (0 + satZ 0 62)) b)) (H' := [o, o2, ⟨true, some 1, [.int .i64 0]⟩]) (l := 3) (ob := []) progOk extSound fx3_sound noLoops_ok (by kernel_rfl) (by simp [Holds])
  rw [sat_zero 62] at h
  rw [show IntKind.wrap IntKind.i64 (0 + 0) = 0 by rfl, sat_zero] at h
  exact h

theorem signs_call (a b y : Int) (hb : inI b = true) (hy : inI y = true) (l : List Int) (c : Nat) : CallOk Try.prog 10 [.int .i64 a, .int .i64 b, .int .i64 y, .slice (some ⟨0, 0, none⟩) l.length c] [⟨false, none, ints l⟩] (.bool true) [⟨false, none, ints l⟩] 1 := by
  by_cases hn : l.length ≤ 500
  · cases l with
    | nil => exact signs_empty a b y 0 _ _ c hb hy rfl rfl (sat_zero _) (add_ok 56 (.inl rfl) _ [] _ _ [] c (by simp)) (add_one2 _ _ _)
    | cons x l =>
      have h2 := add3_ok 56 (.inl rfl) (IntKind.wrap IntKind.i64 (1 + Int.tmod (IntKind.wrap IntKind.i64 (Int.tmod y 62 + 62)) 62)) (x :: l ++ [0]) true (some 1) ⟨false, none, ints (x :: l)⟩ ⟨false, none, []⟩ ⟨true, none, [.int .i64 0]⟩ [] 0 (by simp at hn ⊢; omega)
      rw [add_zero] at h2
      have e1 : ints (x :: l ++ [0]) = ((ints (x :: l)).drop 0).take (l.length + 1) ++ [.int .i64 0] := by
        have : (ints (x :: l)).take (l.length + 1) = ints (x :: l) := List.take_of_length_le (by simp [ints])
        rw [List.drop_zero, this]
        simp [ints]
      have e2 : (x :: l ++ [0]).length = l.length + 1 + 1 := by simp
      rw [e1, e2] at h2
      exact signs_some a b y _ _ _ l.length c (ints (x :: l)) (by simpa using hn) (by simp [ints]) hb hy rfl rfl (sat_add _ _ 0 (sat_zero _)) (add_ok 56 (.inl rfl) _ (x :: l) _ _ [] c (by omega)) h2
  · exact signs_many a b y 0 _ c _ (by omega)
theorem signs_nil_call (a b y : Int) (hb : inI b = true) (hy : inI y = true) : CallOk Try.prog 10 [.int .i64 a, .int .i64 b, .int .i64 y, .slice none 0 0] [] (.bool true) [] 0 :=
  signs_nil a b y 0 _ _ hb hy rfl rfl (sat_zero _) (add_none 56 (.inl rfl) _ []) (add_one _ _ ⟨false, none, []⟩)

end Go.Proofs.Ytfbjpenbpbpcaaa

