/-
  Chapter 07: lapped.Lap.
-/
import Derived.Test.YtfbjpenbpbpcaaaLa1
import Derived.Test.YtfbjpenbpbpcaaaLp13
import Derived.Test.YtfbjpenbpbpcaaaOuW
namespace Go.Proofs.Ytfbjpenbpbpcaaa
open Go Den
set_option maxRecDepth 100000
set_option linter.unusedSimpArgs false
set_option linter.unusedVariables false

def lbk (l : List Int) : Blk := ⟨true, none, ints l⟩
def lpt (b : Nat) : Value := .pointer (some ⟨b, 0, none⟩)

def stO : Oracle := fun f args H => match H with
  | [] => match f, args with
    | 49, [.int .i64 v, .int .i64 b] => some (.int .i64 (satZ v b), [], 0)
    | 63, [.int .i64 v, .int .i64 b] => some (.int .i64 (satZ v b), [], 0)
    | _, _ => none
  | _ => none
theorem stO_sound : Sound Try.prog stO := by
  intro f args H v H' l h
  unfold stO at h
  split at h
  · split at h
    all_goals first | (simp at h; done) | (simp only [Option.some.injEq, Prod.mk.injEq] at h; obtain ⟨rfl, rfl, rfl⟩ := h)
    · exact sat_ok _ _
    · exact ref_sat_ok _ _
  · simp at h

def inT (xs : List Int) : Bool := xs.all (inB 1099511627776)
def lapG (rd : Int → Int → Int) (t w : List Int) : List Int := (List.range 16).map fun i => satZ (rd (IntKind.wrap IntKind.i64 (t.getD i 0 + w.getD i 0)) 8) 16
def lapN (w : List Int) : List Int := (List.range 16).map fun i => w.getD (16 + i) 0
def lapV (p n : List Int) (e : Int) : Value := .tuple #[.agg (ints p).toArray, .agg (ints n).toArray, .int .i64 e]
def zr16 : List Int := [0, 0, 0, 0, 0, 0, 0, 0, 0, 0, 0, 0, 0, 0, 0, 0]
theorem lapG_eq {rd : Int → Int → Int} (h : ∀ v b, inI v = true → inL b = true → rd v b = roundZ v b) (t w : List Int) : lapG rd t w = lapG roundZ t w := by
  unfold lapG
  refine List.map_congr_left fun i _ => ?_
  rw [h _ _ (inI_wrap _) rfl]

def laC : Oracle := frameC (orElse bdO (orElse rdO stO))
theorem laC_all : Sound Try.prog laC := unframe (bdO_sound.or (rdO_sound.or stO_sound))
theorem laC_sound : Sound Try.prog (strict noPre laC) := plain_sound laC_all

theorem lap_good (t0 t1 t2 t3 t4 t5 t6 t7 t8 t9 t10 t11 t12 t13 t14 t15 w0 w1 w2 w3 w4 w5 w6 w7 w8 w9 w10 w11 w12 w13 w14 w15 w16 w17 w18 w19 w20 w21 w22 w23 w24 w25 w26 w27 w28 w29 w30 w31 : Int) : (evFnL Try.prog ext 300 (nmPre noPre) (nbC [] [(9, true), (13, true)] laC) noLoops [] 86 [.agg (ints [t0, t1, t2, t3, t4, t5, t6, t7, t8, t9, t10, t11, t12, t13, t14, t15]).toArray, .agg (ints [w0, w1, w2, w3, w4, w5, w6, w7, w8, w9, w10, w11, w12, w13, w14, w15, w16, w17, w18, w19, w20, w21, w22, w23, w24, w25, w26, w27, w28, w29, w30, w31]).toArray] []).map (fun r => (r.1.1, r.2)) =
  some (lapV (lapG raw45 [t0, t1, t2, t3, t4, t5, t6, t7, t8, t9, t10, t11, t12, t13, t14, t15] [w0, w1, w2, w3, w4, w5, w6, w7, w8, w9, w10, w11, w12, w13, w14, w15, w16, w17, w18, w19, w20, w21, w22, w23, w24, w25, w26, w27, w28, w29, w30, w31]) (lapN [w0, w1, w2, w3, w4, w5, w6, w7, w8, w9, w10, w11, w12, w13, w14, w15, w16, w17, w18, w19, w20, w21, w22, w23, w24, w25, w26, w27, w28, w29, w30, w31]) 0, [(inT [w0, w1, w2, w3, w4, w5, w6, w7, w8, w9, w10, w11, w12, w13, w14, w15, w16, w17, w18, w19, w20, w21, w22, w23, w24, w25, w26, w27, w28, w29, w30, w31], true), (inT [t0, t1, t2, t3, t4, t5, t6, t7, t8, t9, t10, t11, t12, t13, t14, t15], true)]) := by kernel_rfl
theorem lap_bad1 (t0 t1 t2 t3 t4 t5 t6 t7 t8 t9 t10 t11 t12 t13 t14 t15 w0 w1 w2 w3 w4 w5 w6 w7 w8 w9 w10 w11 w12 w13 w14 w15 w16 w17 w18 w19 w20 w21 w22 w23 w24 w25 w26 w27 w28 w29 w30 w31 : Int) : (evFnL Try.prog ext 300 (nmPre noPre) (nbC [] [(9, false)] laC) noLoops [] 86 [.agg (ints [t0, t1, t2, t3, t4, t5, t6, t7, t8, t9, t10, t11, t12, t13, t14, t15]).toArray, .agg (ints [w0, w1, w2, w3, w4, w5, w6, w7, w8, w9, w10, w11, w12, w13, w14, w15, w16, w17, w18, w19, w20, w21, w22, w23, w24, w25, w26, w27, w28, w29, w30, w31]).toArray] []).map (fun r => (r.1.1, r.2)) =
  some (lapV zr16 zr16 1, [(inT [t0, t1, t2, t3, t4, t5, t6, t7, t8, t9, t10, t11, t12, t13, t14, t15], false)]) := by kernel_rfl
theorem lap_bad2 (t0 t1 t2 t3 t4 t5 t6 t7 t8 t9 t10 t11 t12 t13 t14 t15 w0 w1 w2 w3 w4 w5 w6 w7 w8 w9 w10 w11 w12 w13 w14 w15 w16 w17 w18 w19 w20 w21 w22 w23 w24 w25 w26 w27 w28 w29 w30 w31 : Int) : (evFnL Try.prog ext 300 (nmPre noPre) (nbC [] [(9, true), (13, false)] laC) noLoops [] 86 [.agg (ints [t0, t1, t2, t3, t4, t5, t6, t7, t8, t9, t10, t11, t12, t13, t14, t15]).toArray, .agg (ints [w0, w1, w2, w3, w4, w5, w6, w7, w8, w9, w10, w11, w12, w13, w14, w15, w16, w17, w18, w19, w20, w21, w22, w23, w24, w25, w26, w27, w28, w29, w30, w31]).toArray] []).map (fun r => (r.1.1, r.2)) =
  some (lapV zr16 zr16 1, [(inT [w0, w1, w2, w3, w4, w5, w6, w7, w8, w9, w10, w11, w12, w13, w14, w15, w16, w17, w18, w19, w20, w21, w22, w23, w24, w25, w26, w27, w28, w29, w30, w31], false), (inT [t0, t1, t2, t3, t4, t5, t6, t7, t8, t9, t10, t11, t12, t13, t14, t15], true)]) := by kernel_rfl

def lapP (t w : List Int) : List Int := if inT t = true ∧ inT w = true then lapG roundZ t w else zr16
def lapT (t w : List Int) : List Int := if inT t = true ∧ inT w = true then lapN w else zr16
def lapE (t w : List Int) : Int := if inT t = true ∧ inT w = true then 0 else 1

theorem len32 (xs : List Int) (h : xs.length = 32) : ∃ w0 w1 w2 w3 w4 w5 w6 w7 w8 w9 w10 w11 w12 w13 w14 w15 w16 w17 w18 w19 w20 w21 w22 w23 w24 w25 w26 w27 w28 w29 w30 w31, xs = [w0, w1, w2, w3, w4, w5, w6, w7, w8, w9, w10, w11, w12, w13, w14, w15, w16, w17, w18, w19, w20, w21, w22, w23, w24, w25, w26, w27, w28, w29, w30, w31] := by
  match xs, h with
  | [w0, w1, w2, w3, w4, w5, w6, w7, w8, w9, w10, w11, w12, w13, w14, w15, w16, w17, w18, w19, w20, w21, w22, w23, w24, w25, w26, w27, w28, w29, w30, w31], _ => exact ⟨w0, w1, w2, w3, w4, w5, w6, w7, w8, w9, w10, w11, w12, w13, w14, w15, w16, w17, w18, w19, w20, w21, w22, w23, w24, w25, w26, w27, w28, w29, w30, w31, rfl⟩
theorem len16 (xs : List Int) (h : xs.length = 16) : ∃ t0 t1 t2 t3 t4 t5 t6 t7 t8 t9 t10 t11 t12 t13 t14 t15, xs = [t0, t1, t2, t3, t4, t5, t6, t7, t8, t9, t10, t11, t12, t13, t14, t15] := by
  match xs, h with
  | [t0, t1, t2, t3, t4, t5, t6, t7, t8, t9, t10, t11, t12, t13, t14, t15], _ => exact ⟨t0, t1, t2, t3, t4, t5, t6, t7, t8, t9, t10, t11, t12, t13, t14, t15, rfl⟩

theorem pf_lap (p n : List Int) (e : Int) : pf 3 (lapV p n e) = true := by
  have h : ∀ l : List Int, pf 2 (.agg (ints l).toArray) = true := fun l => by simp [pf, ints, isFlat]
  show ([.agg (ints p).toArray, .agg (ints n).toArray, .int .i64 e] : List Value).all (pf 2) = true
  simp only [List.all_cons, List.all_nil, h]
  rfl

theorem lap_ok (t w : List Int) (ht : t.length = 16) (hw : w.length = 32) : CallOk Try.prog 86 [.agg (ints t).toArray, .agg (ints w).toArray] [] (lapV (lapP t w) (lapT t w) (lapE t w)) [] 0 := by
  obtain ⟨w0, w1, w2, w3, w4, w5, w6, w7, w8, w9, w10, w11, w12, w13, w14, w15, w16, w17, w18, w19, w20, w21, w22, w23, w24, w25, w26, w27, w28, w29, w30, w31, rfl⟩ := len32 w hw
  obtain ⟨t0, t1, t2, t3, t4, t5, t6, t7, t8, t9, t10, t11, t12, t13, t14, t15, rfl⟩ := len16 t ht
  unfold lapP lapT lapE
  cases h1 : inT [t0, t1, t2, t3, t4, t5, t6, t7, t8, t9, t10, t11, t12, t13, t14, t15] with
  | false =>
    simp only [Bool.false_eq_true, false_and, if_false]
    exact pf_ok (nb_sound _ _ laC_sound) noLoops_ok (lap_bad1 t0 t1 t2 t3 t4 t5 t6 t7 t8 t9 t10 t11 t12 t13 t14 t15 w0 w1 w2 w3 w4 w5 w6 w7 w8 w9 w10 w11 w12 w13 w14 w15 w16 w17 w18 w19 w20 w21 w22 w23 w24 w25 w26 w27 w28 w29 w30 w31) (by rw [h1]; simp [Holds]) (pf_lap _ _ _)
  | true => cases h2 : inT [w0, w1, w2, w3, w4, w5, w6, w7, w8, w9, w10, w11, w12, w13, w14, w15, w16, w17, w18, w19, w20, w21, w22, w23, w24, w25, w26, w27, w28, w29, w30, w31] with
    | false =>
      simp only [Bool.false_eq_true, and_false, if_false]
      exact pf_ok (nb_sound _ _ laC_sound) noLoops_ok (lap_bad2 t0 t1 t2 t3 t4 t5 t6 t7 t8 t9 t10 t11 t12 t13 t14 t15 w0 w1 w2 w3 w4 w5 w6 w7 w8 w9 w10 w11 w12 w13 w14 w15 w16 w17 w18 w19 w20 w21 w22 w23 w24 w25 w26 w27 w28 w29 w30 w31) (by rw [h1, h2]; simp [Holds]) (pf_lap _ _ _)
    | true =>
      simp only [and_self, if_true]
      rw [← lapG_eq raw45_eq]
      exact pf_ok (nb_sound _ _ laC_sound) noLoops_ok (lap_good t0 t1 t2 t3 t4 t5 t6 t7 t8 t9 t10 t11 t12 t13 t14 t15 w0 w1 w2 w3 w4 w5 w6 w7 w8 w9 w10 w11 w12 w13 w14 w15 w16 w17 w18 w19 w20 w21 w22 w23 w24 w25 w26 w27 w28 w29 w30 w31) (by rw [h1, h2]; simp [Holds]) (pf_lap _ _ _)

end Go.Proofs.Ytfbjpenbpbpcaaa

