/-
  Chapter 09: the law QuantNoise as a call.
-/
import Derived.Test.YtfbjpenbpbpcaaaQn9
import Derived.Test.YtfbjpenbpbpcaaaQn4
namespace Go.Proofs.Ytfbjpenbpbpcaaa
open Go Den
set_option maxRecDepth 100000
set_option linter.unusedSimpArgs false
set_option linter.unusedVariables false

def qzT (xf : List Int → List Int) (N : Int) : FuncId → List Value → Option Value := fun f args => match f, args with
  | 74, [_] => some (.bool true)
  | 105, [.int .u32 _, .agg cs] => (aggF 6 (fun l => .tuple #[.agg (ints (L16 (xf l))).toArray, .int .u32 N, .int .i64 0]) cs).map (·.1)
  | _, _ => none
noncomputable abbrev qzC (xf : List Int → List Int) (N : Int) : Oracle := tellC (qzT xf N) o9
noncomputable abbrev qzP (xf : List Int → List Int) (N : Int) : Pre := tellPre (qzT xf N) noPre
theorem qz_sound (xf : List Int → List Int) (N : Int) : Sound Try.prog (strict (qzP xf N) (qzC xf N)) := tell_sound _ o9_sound
def qzF (i : Nat) : Slots := [(3, ptI 0), (5, .bool true), (6, ptI 1), (59, .int .i64 i)]
def qzH (l x z : List Int) : Heap := [blkI l, blkI x, blkI z]
theorem qz_z (l0 l1 l2 l3 l4 l5 x0 x1 x2 x3 x4 x5 x6 x7 x8 x9 x10 x11 x12 x13 x14 x15 : Int) (z : List Int) : (List.range' 0 16).map (fun (i : Nat) => evL Try.prog ext (nmPre noPre) (nbC [] [(78, false), (87, false), (97, false), (103, true), (108, false)] o9) noLoops 300 113 (loopAt Try.prog 29 0) (qzF i) (qzH [l0, l1, l2, l3, l4, l5] [x0, x1, x2, x3, x4, x5, x6, x7, x8, x9, x10, x11, x12, x13, x14, x15] z) 0 [] [3, 5, 6, 59]) =
  (List.range' 0 16).map fun (i : Nat) => some (.normal, qzF (i + 1), qzH [l0, l1, l2, l3, l4, l5] [x0, x1, x2, x3, x4, x5, x6, x7, x8, x9, x10, x11, x12, x13, x14, x15] z, 0, [([x0, x1, x2, x3, x4, x5, x6, x7, x8, x9, x10, x11, x12, x13, x14, x15].getD i 0 != 0, false), ([l0, l1, l2, l3, l4, l5].getD (bnd i) 0 == 0, true), (decide (W (8 * [x0, x1, x2, x3, x4, x5, x6, x7, x8, x9, x10, x11, x12, x13, x14, x15].getD i 0) < W (W (0 - pkZ ([l0, l1, l2, l3, l4, l5].getD (bnd i) 0)) - 8)), false), (decide (W (8 * [x0, x1, x2, x3, x4, x5, x6, x7, x8, x9, x10, x11, x12, x13, x14, x15].getD i 0) > W (pkZ ([l0, l1, l2, l3, l4, l5].getD (bnd i) 0) + 8)), false), (peZ ([l0, l1, l2, l3, l4, l5].getD (bnd i) 0) != 0, false)]) := by kernel_rfl
theorem qz_p (l0 l1 l2 l3 l4 l5 x0 x1 x2 x3 x4 x5 x6 x7 x8 x9 x10 x11 x12 x13 x14 x15 : Int) (z : List Int) : (List.range' 0 16).map (fun (i : Nat) => evL Try.prog ext (nmPre noPre) (nbC [] [(78, false), (87, false), (97, false), (103, false)] o9) noLoops 300 113 (loopAt Try.prog 29 0) (qzF i) (qzH [l0, l1, l2, l3, l4, l5] [x0, x1, x2, x3, x4, x5, x6, x7, x8, x9, x10, x11, x12, x13, x14, x15] z) 0 [] [3, 5, 6, 59]) =
  (List.range' 0 16).map fun (i : Nat) => some (.normal, qzF (i + 1), qzH [l0, l1, l2, l3, l4, l5] [x0, x1, x2, x3, x4, x5, x6, x7, x8, x9, x10, x11, x12, x13, x14, x15] z, 0, [([l0, l1, l2, l3, l4, l5].getD (bnd i) 0 == 0, false), (decide (W (8 * [x0, x1, x2, x3, x4, x5, x6, x7, x8, x9, x10, x11, x12, x13, x14, x15].getD i 0) < W (W (0 - pkZ ([l0, l1, l2, l3, l4, l5].getD (bnd i) 0)) - 8)), false), (decide (W (8 * [x0, x1, x2, x3, x4, x5, x6, x7, x8, x9, x10, x11, x12, x13, x14, x15].getD i 0) > W (pkZ ([l0, l1, l2, l3, l4, l5].getD (bnd i) 0) + 8)), false), (peZ ([l0, l1, l2, l3, l4, l5].getD (bnd i) 0) != 0, false)]) := by kernel_rfl
theorem qz_e (l0 l1 l2 l3 l4 l5 x0 x1 x2 x3 x4 x5 x6 x7 x8 x9 x10 x11 x12 x13 x14 x15 : Int) (z : List Int) : evL Try.prog ext noPre noC noLoops 300 113 (loopAt Try.prog 29 0) (qzF 16) (qzH [l0, l1, l2, l3, l4, l5] [x0, x1, x2, x3, x4, x5, x6, x7, x8, x9, x10, x11, x12, x13, x14, x15] z) 0 [] [5] = some (.exit 0, [(5, .bool true)], qzH [l0, l1, l2, l3, l4, l5] [x0, x1, x2, x3, x4, x5, x6, x7, x8, x9, x10, x11, x12, x13, x14, x15] z, 0, []) := by kernel_rfl
theorem qz_code : codeOk (loopAt Try.prog 29 0) = true := by kernel_rfl
noncomputable def qzN (l x z : List Int) : Loops := { loop := sumL 11 ⟨qzF 0, qzH l x z, 0⟩ (.exit 0) ⟨[(5, .bool true)], qzH l x z, 0⟩ }
theorem qz_bad (l0 l1 l2 l3 l4 l5 s : Int) : (evFnL Try.prog ext 300 (nmPre noPre) (nbC [] [(22, true)] o9) noLoops [] 29 [.int .u32 s, .agg (ints [l0, l1, l2, l3, l4, l5]).toArray] []).map (fun r => (r.1.1, r.2)) =
  some (.bool true, [(chk8 [l0, l1, l2, l3, l4, l5] != 0, true)]) := by kernel_rfl
theorem qz_run (l0 l1 l2 l3 l4 l5 s N : Int) (xf : List Int → List Int) : (evFnL Try.prog ext 300 (nmPre (qzP xf N)) (nbC [] (nF [22, 47, 52]) (qzC xf N)) (qzN [l0, l1, l2, l3, l4, l5] (L16 (xf [l0, l1, l2, l3, l4, l5])) (L16 (xf [0, 0, 0, 0, 0, 0]))) [(4, true), (0, true), (10, true)] 29 [.int .u32 s, .agg (ints [l0, l1, l2, l3, l4, l5]).toArray] []).map (fun r => (r.1.1, r.2)) =
  some (.bool true, [(cdec (qzF 0 = qzF 0), true), (cdec (qzH [l0, l1, l2, l3, l4, l5] (L16 (xf [l0, l1, l2, l3, l4, l5])) (L16 (xf [0, 0, 0, 0, 0, 0])) = qzH [l0, l1, l2, l3, l4, l5] (L16 (xf [l0, l1, l2, l3, l4, l5])) (L16 (xf [0, 0, 0, 0, 0, 0]))), true), (cdec (0 = 0), true), (qzP xf N 74 [.agg (ints (L16 (xf [l0, l1, l2, l3, l4, l5]))).toArray] [], true), (!decide (L16 (xf [0, 0, 0, 0, 0, 0]) = [0, 0, 0, 0, 0, 0, 0, 0, 0, 0, 0, 0, 0, 0, 0, 0]), false), (N != N, false), (qzP xf N 105 [.int .u32 s, .agg (ints [0, 0, 0, 0, 0, 0]).toArray] [], true), (qzP xf N 105 [.int .u32 s, .agg (ints [l0, l1, l2, l3, l4, l5]).toArray] [], true), (chk8 [l0, l1, l2, l3, l4, l5] != 0, false)]) := by kernel_rfl
/-! ### The plain law -/
theorem nxt_in (s : Int) : 0 ≤ nxt s ∧ nxt s < 4294967296 := by
  unfold nxt WU
  generalize IntKind.wrap .u32 (s * 1664525) + 1013904223 = n
  have e : IntKind.wrap .u32 n = n % 4294967296 := by
    unfold IntKind.wrap
    simp [IntKind.bits, IntKind.signed]
  rw [e]; omega
theorem hiZ_in {s : Int} (h : 0 ≤ s ∧ s < 4294967296) : 0 ≤ hiZ s ∧ hiZ s ≤ 65535 := by
  unfold hiZ
  rw [show (2 : Int) ^ min (Int.toNat 16) (IntKind.bits .u32) = 65536 by decide, Int.fdiv_eq_ediv_of_nonneg _ (by omega)]
  rw [W_in (by omega) (by omega)]
  omega
theorem noise_one {h p : Int} (hh : 0 ≤ h ∧ h ≤ 65535) (hp : 2 ≤ p ∧ p ≤ 4026531841) : 8 * hel (roundZ (W (W (h - 32768) * p)) 18) ≤ p + 8 ∧ -p - 8 ≤ 8 * hel (roundZ (W (W (h - 32768) * p)) 18) := by
  rw [W_in (n := h - 32768) (by omega) (by omega)]
  have h1 : (h - 32768) * p ≤ 32767 * p := Int.mul_le_mul_of_nonneg_right (by omega) (by omega)
  have h2 : -32768 * p ≤ (h - 32768) * p := Int.mul_le_mul_of_nonneg_right (by omega) (by omega)
  generalize (h - 32768) * p = M at *
  rw [W_in (by omega) (by omega)]
  unfold roundZ hel
  rw [if_neg (by omega), if_neg (by omega), mxG_eq, mnG_eq, show (2 : Int) ^ ((18 : Int).toNat - 1) = 131072 by decide, show (2 : Int) ^ (18 : Int).toNat = 262144 by decide]
  omega
theorem hel_in (v : Int) : -67108864 ≤ hel v ∧ hel v ≤ 67108864 := by
  unfold hel; rw [mxG_eq, mnG_eq]; omega
def qzOk (l x : List Int) (n : Nat) : Prop := (0 ≤ l.getD (bnd n) 0 ∧ l.getD (bnd n) 0 ≤ 255) ∧ (l.getD (bnd n) 0 = 0 → x.getD n 0 = 0) ∧ 8 * x.getD n 0 ≤ pkZ (l.getD (bnd n) 0) + 8 ∧ -pkZ (l.getD (bnd n) 0) - 8 ≤ 8 * x.getD n 0 ∧ -67108864 ≤ x.getD n 0 ∧ x.getD n 0 ≤ 67108864
theorem noise_plain {l : List Int} (hl : l.length = 6) (hok : okL l = true) (s : Int) {n : Nat} (hn : n < 16) : qzOk l (nzl s l) n := by
  have hb := bnd_lt hn
  have hlb := okL_get hl hok _ hb
  have hpk := pkZ_in hlb
  have hx : (nzl s l).getD n 0 = if l.getD (bnd n) 0 > 0 then hel (roundZ (nzv (sdS s (n + 1)) (pkZ (l.getD (bnd n) 0))) 18) else 0 := by
    unfold nzl; rw [if_pos hok, nzX_get s l 16 (Nat.le_refl _) n, if_pos hn]
  unfold qzOk
  rw [hx]
  refine ⟨hlb, fun h0 => by rw [if_neg (by omega)], ?_⟩
  split
  · have h1 := noise_one (h := hiZ (sdS s (n + 1))) (hiZ_in (nxt_in (sdS s n))) hpk
    have h2 := hel_in (roundZ (nzv (sdS s (n + 1)) (pkZ (l.getD (bnd n) 0))) 18)
    exact ⟨h1.1, h1.2, h2.1, h2.2⟩
  · omega
theorem nzl_zero (s : Int) : nzl s [0, 0, 0, 0, 0, 0] = [0, 0, 0, 0, 0, 0, 0, 0, 0, 0, 0, 0, 0, 0, 0, 0] := by
  refine getD_ext (by rw [nzl_len]; rfl) fun i hi => ?_
  rw [nzl_len] at hi
  have := (noise_plain (l := [0, 0, 0, 0, 0, 0]) rfl (by decide) s hi).2.1
  have hz : ([0, 0, 0, 0, 0, 0] : List Int).getD (bnd i) 0 = 0 := by
    have hb := bnd_lt hi
    generalize bnd i = b at hb
    rcases (show b = 0 ∨ b = 1 ∨ b = 2 ∨ b = 3 ∨ b = 4 ∨ b = 5 by omega) with rfl | rfl | rfl | rfl | rfl | rfl <;> rfl
  rw [this hz]
  rcases (show i = 0 ∨ i = 1 ∨ i = 2 ∨ i = 3 ∨ i = 4 ∨ i = 5 ∨ i = 6 ∨ i = 7 ∨ i = 8 ∨ i = 9 ∨ i = 10 ∨ i = 11 ∨ i = 12 ∨ i = 13 ∨ i = 14 ∨ i = 15 by omega) with rfl | rfl | rfl | rfl | rfl | rfl | rfl | rfl | rfl | rfl | rfl | rfl | rfl | rfl | rfl | rfl <;> rfl

/-! ### Joined -/
theorem qz_loop (l0 l1 l2 l3 l4 l5 x0 x1 x2 x3 x4 x5 x6 x7 x8 x9 x10 x11 x12 x13 x14 x15 : Int) (z : List Int) (h : ∀ n, n < 16 → qzOk [l0, l1, l2, l3, l4, l5] [x0, x1, x2, x3, x4, x5, x6, x7, x8, x9, x10, x11, x12, x13, x14, x15] n) : WP Try.prog 113 (.loop (loopAt Try.prog 29 0)) ⟨qzF 0, qzH [l0, l1, l2, l3, l4, l5] [x0, x1, x2, x3, x4, x5, x6, x7, x8, x9, x10, x11, x12, x13, x14, x15] z, 0⟩ (.exit 0) ⟨[(5, .bool true)], qzH [l0, l1, l2, l3, l4, l5] [x0, x1, x2, x3, x4, x5, x6, x7, x8, x9, x10, x11, x12, x13, x14, x15] z, 0⟩ := by
  refine WP.loop (fun i => ⟨qzF i, qzH [l0, l1, l2, l3, l4, l5] [x0, x1, x2, x3, x4, x5, x6, x7, x8, x9, x10, x11, x12, x13, x14, x15] z, 0⟩) 16 (by simp) (fun i hi => ?_) ?_
  · obtain ⟨h1, h2, h3, h4, h5, h6⟩ := h i hi
    have hpe : (peZ ([l0, l1, l2, l3, l4, l5].getD (bnd i) 0) != 0) = false := by unfold peZ; rw [if_pos h1]; rfl
    have hpk := pkZ_in h1
    have e1 : decide (W (8 * [x0, x1, x2, x3, x4, x5, x6, x7, x8, x9, x10, x11, x12, x13, x14, x15].getD i 0) < W (W (0 - pkZ ([l0, l1, l2, l3, l4, l5].getD (bnd i) 0)) - 8)) = false := by
      refine decide_eq_false ?_
      generalize pkZ ([l0, l1, l2, l3, l4, l5].getD (bnd i) 0) = p at *
      generalize [x0, x1, x2, x3, x4, x5, x6, x7, x8, x9, x10, x11, x12, x13, x14, x15].getD i 0 = x at *
      rw [W_in (n := 8 * x) (by omega) (by omega), W_in (n := 0 - p) (by omega) (by omega), W_in (by omega) (by omega)]; omega
    have e2 : decide (W (8 * [x0, x1, x2, x3, x4, x5, x6, x7, x8, x9, x10, x11, x12, x13, x14, x15].getD i 0) > W (pkZ ([l0, l1, l2, l3, l4, l5].getD (bnd i) 0) + 8)) = false := by
      refine decide_eq_false ?_
      generalize pkZ ([l0, l1, l2, l3, l4, l5].getD (bnd i) 0) = p at *
      generalize [x0, x1, x2, x3, x4, x5, x6, x7, x8, x9, x10, x11, x12, x13, x14, x15].getD i 0 = x at *
      rw [W_in (n := 8 * x) (by omega) (by omega), W_in (by omega) (by omega)]; omega
    by_cases h0 : [l0, l1, l2, l3, l4, l5].getD (bnd i) 0 = 0
    · refine WP.run progOk extSound (nb_sound _ _ o9_sound) qz_code noLoops_ok _ (of_list (qz_z l0 l1 l2 l3 l4 l5 x0 x1 x2 x3 x4 x5 x6 x7 x8 x9 x10 x11 x12 x13 x14 x15 z) (by omega) (by omega)) ?_
      simp only [Holds, List.mem_cons, List.not_mem_nil, or_false, forall_eq_or_imp, forall_eq]
      exact ⟨by rw [h2 h0]; rfl, by rw [h0]; rfl, e1, e2, hpe⟩
    · refine WP.run progOk extSound (nb_sound _ _ o9_sound) qz_code noLoops_ok _ (of_list (qz_p l0 l1 l2 l3 l4 l5 x0 x1 x2 x3 x4 x5 x6 x7 x8 x9 x10 x11 x12 x13 x14 x15 z) (by omega) (by omega)) ?_
      simp only [Holds, List.mem_cons, List.not_mem_nil, or_false, forall_eq_or_imp, forall_eq]
      exact ⟨beq_eq_false_iff_ne.2 h0, e1, e2, hpe⟩
  · exact WP.run progOk extSound noC_sound qz_code noLoops_ok _ (qz_e l0 l1 l2 l3 l4 l5 x0 x1 x2 x3 x4 x5 x6 x7 x8 x9 x10 x11 x12 x13 x14 x15 z) (by simp [Holds])
theorem noise_call (s : Int) (l : List Int) (hl : l.length = 6) : CallOk Try.prog 29 [.int .u32 s, .agg (ints l).toArray] [] (.bool true) [] 0 := by
  by_cases h : okL l = true
  · have hc : chk8 l = 0 := by unfold chk8; rw [if_pos h]
    have c1 := noise_ok s l hl
    have c2 := noise_ok s [0, 0, 0, 0, 0, 0] rfl
    rw [hc] at c1
    rw [show chk8 [0, 0, 0, 0, 0, 0] = 0 by decide] at c2
    have hN : nzs s [0, 0, 0, 0, 0, 0] = nzs s l := by unfold nzs; rw [if_pos h, if_pos (show okL [0, 0, 0, 0, 0, 0] = true by decide)]
    rw [hN] at c2
    have c3 := may_ok _ (nzl_len s l)
    have hpl := fun n hn => noise_plain hl h s (n := n) hn
    have hall : (nzl s l).all (inB 67108864) = true := by
      refine List.all_eq_true.2 fun v hv => ?_
      obtain ⟨i, hi, rfl⟩ := List.mem_iff_getElem.1 hv
      rw [nzl_len] at hi
      have := (hpl i hi).2.2.2.2
      simp only [List.getD_eq_getElem?_getD, List.getElem?_eq_getElem (show i < (nzl s l).length by rw [nzl_len]; exact hi), Option.getD_some] at this
      unfold inB
      rw [show IntKind.wrap IntKind.i64 (0 - 67108864) = -67108864 by decide]
      simpa using this
    rw [hall] at c3
    have e1 : L16 (nzl s l) = nzl s l := L16_eq (nzl_len s l)
    have e2 : L16 (nzl s [0, 0, 0, 0, 0, 0]) = nzl s [0, 0, 0, 0, 0, 0] := L16_eq (nzl_len s _)
    have hz : L16 (nzl s [0, 0, 0, 0, 0, 0]) = [0, 0, 0, 0, 0, 0, 0, 0, 0, 0, 0, 0, 0, 0, 0, 0] := by rw [e2]; exact nzl_zero s
    rw [← e2] at c2
    rw [← e1] at c1 c3 hpl
    generalize nzs s l = N at *
    obtain ⟨l0, l1, l2, l3, l4, l5, rfl⟩ := six_ex l hl
    refine pf_ok (nb_sound _ _ (qz_sound _ _)) ?_ (qz_run l0 l1 l2 l3 l4 l5 s N (nzl s)) ?_ rfl
    · refine LoopsOk.sum rfl fun b hb _ => ?_
      rw [show loopsOf (bodyOf Try.prog 29) = [loopAt Try.prog 29 0] by kernel_rfl] at hb
      simp only [List.mem_singleton] at hb
      subst hb
      have hlx : (L16 (nzl s [l0, l1, l2, l3, l4, l5])).length = 16 := by simp [L16]
      generalize L16 (nzl s [0, 0, 0, 0, 0, 0]) = z at *
      generalize L16 (nzl s [l0, l1, l2, l3, l4, l5]) = x at *
      obtain ⟨x0, x1, x2, x3, x4, x5, x6, x7, x8, x9, x10, x11, x12, x13, x14, x15, rfl⟩ := six_len16 x hlx
      exact qz_loop l0 l1 l2 l3 l4 l5 x0 x1 x2 x3 x4 x5 x6 x7 x8 x9 x10 x11 x12 x13 x14 x15 z hpl
    · simp only [Holds, List.mem_cons, List.not_mem_nil, or_false, forall_eq_or_imp, forall_eq]
      exact ⟨cdec_iff.2 trivial, cdec_iff.2 trivial, cdec_iff.2 trivial, tell_ok rfl c3, by rw [hz]; rfl, by simp, tell_ok rfl c2, tell_ok rfl c1, by rw [hc]; rfl⟩
  · have hc : chk8 l = 1 := by unfold chk8; rw [if_neg h]
    obtain ⟨l0, l1, l2, l3, l4, l5, rfl⟩ := six_ex l hl
    exact pf_ok (nb_sound _ _ o9_sound) noLoops_ok (qz_bad l0 l1 l2 l3 l4 l5 s) (by simp only [Holds, List.mem_singleton, forall_eq]; rw [hc]; rfl) rfl
end Go.Proofs.Ytfbjpenbpbpcaaa

