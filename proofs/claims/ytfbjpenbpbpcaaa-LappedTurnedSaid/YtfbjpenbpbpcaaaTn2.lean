/-
  Chapter 07: the law LappedTurned as a call.
-/
import Derived.Test.YtfbjpenbpbpcaaaTn1
import Derived.Test.YtfbjpenbpbpcaaaZL
import Derived.Test.YtfbjpenbpbpcaaaArrW
namespace Go.Proofs.Ytfbjpenbpbpcaaa
open Go Den
set_option maxRecDepth 100000
set_option linter.unusedSimpArgs false
set_option linter.unusedVariables false

abbrev W7 (n : Int) : Int := IntKind.wrap .i64 n
def cl7 (p : Int) : Int := mnG (mxG p (-32767)) 32767
def T16 (O : List Int) : List Int := (List.range 16).map fun i => O.getD i 0
def T32 (O : List Int) : List Int := (List.range 32).map fun i => O.getD i 0
def tuT (b : Bool) (ff : List Int → List Int → List Int) (gf : List Int → List Int) : FuncId → List Value → Option Value := fun f args => match f, args with
  | 65, [] => some (.bool true)
  | 74, [_] => some (.bool b)
  | 66, [.agg ps, .agg cs] => match intsI ps.toList, intsI cs.toList with
    | some p, some c => some (.tuple #[.agg (ints (T16 (ff p c))).toArray, .int .i64 0])
    | _, _ => none
  | 72, [.agg xs] => match intsI xs.toList with
    | some x => some (.tuple #[.agg (ints (T32 (gf x))).toArray, .int .i64 0])
    | none => none
  | _, _ => none
noncomputable abbrev tuC (b : Bool) (ff : List Int → List Int → List Int) (gf : List Int → List Int) : Oracle := tellC (tuT b ff gf) noC
noncomputable abbrev tuP (b : Bool) (ff : List Int → List Int → List Int) (gf : List Int → List Int) : Pre := tellPre (tuT b ff gf) noPre
theorem tu_sound (b : Bool) (ff : List Int → List Int → List Int) (gf : List Int → List Int) : Sound Try.prog (strict (tuP b ff gf) (tuC b ff gf)) := tell_sound _ noC_sound
def tuL : Loops := { keys := fun id F => match id with
  | 7 => [3, 4, 5, 7, 8, 9, 33]
  | 15 => [5, 7, 8, 9, 11, 12, 13, 14, 62]
  | 22 => [7, 8, 9, 11, 12, 13, 14, 16, 79]
  | 31 => [7, 11, 13, 18, 20, 114]
  | 38 => [7, 13, 20, 131]
  | _ => keysOf F }
theorem tu_bad (p0 p1 p2 p3 p4 p5 p6 p7 p8 p9 p10 p11 p12 p13 p14 p15 c0 c1 c2 c3 c4 c5 c6 c7 c8 c9 c10 c11 c12 c13 c14 c15 x0 x1 x2 x3 x4 x5 x6 x7 x8 x9 x10 x11 x12 x13 x14 x15 : Int) (ff : List Int → List Int → List Int) (gf : List Int → List Int) : (evFnL Try.prog ext 300 (nmPre (tuP false ff gf)) (nbC [] [] (tuC false ff gf)) tuL [(0, true), (0, true)] 17 [.agg (ints [p0, p1, p2, p3, p4, p5, p6, p7, p8, p9, p10, p11, p12, p13, p14, p15]).toArray, .agg (ints [c0, c1, c2, c3, c4, c5, c6, c7, c8, c9, c10, c11, c12, c13, c14, c15]).toArray, .agg (ints [x0, x1, x2, x3, x4, x5, x6, x7, x8, x9, x10, x11, x12, x13, x14, x15]).toArray] []).map (fun r => (r.1.1, r.2)) =
  some (.bool true, [(tuP false ff gf 74 [.agg (ints [x0, x1, x2, x3, x4, x5, x6, x7, x8, x9, x10, x11, x12, x13, x14, x15]).toArray] [], true), (tuP false ff gf 65 [] [], true)]) := by kernel_rfl
theorem tu_run (p0 p1 p2 p3 p4 p5 p6 p7 p8 p9 p10 p11 p12 p13 p14 p15 c0 c1 c2 c3 c4 c5 c6 c7 c8 c9 c10 c11 c12 c13 c14 c15 x0 x1 x2 x3 x4 x5 x6 x7 x8 x9 x10 x11 x12 x13 x14 x15 : Int) (ff : List Int → List Int → List Int) (gf : List Int → List Int) : (evFnL Try.prog ext 300 (nmPre (tuP true ff gf)) (nbC [] [(125, false), (128, false), (142, false), (145, false)] (tuC true ff gf)) tuL [(0, true), (0, true), (18, true), (0, true), (34, true), (0, true)] 17 [.agg (ints [p0, p1, p2, p3, p4, p5, p6, p7, p8, p9, p10, p11, p12, p13, p14, p15]).toArray, .agg (ints [c0, c1, c2, c3, c4, c5, c6, c7, c8, c9, c10, c11, c12, c13, c14, c15]).toArray, .agg (ints [x0, x1, x2, x3, x4, x5, x6, x7, x8, x9, x10, x11, x12, x13, x14, x15]).toArray] []).map (fun r => (r.1.1, r.2)) =
  some (.bool true, ((List.range 32).reverse.flatMap fun n => [(decide (W7 ((T32 (gf [x0, x1, x2, x3, x4, x5, x6, x7, x8, x9, x10, x11, x12, x13, x14, x15])).getD n 0 + (T32 (gf [W7 (0 - x0), W7 (0 - x1), W7 (0 - x2), W7 (0 - x3), W7 (0 - x4), W7 (0 - x5), W7 (0 - x6), W7 (0 - x7), W7 (0 - x8), W7 (0 - x9), W7 (0 - x10), W7 (0 - x11), W7 (0 - x12), W7 (0 - x13), W7 (0 - x14), W7 (0 - x15)])).getD n 0) < -2), false), (decide (W7 ((T32 (gf [x0, x1, x2, x3, x4, x5, x6, x7, x8, x9, x10, x11, x12, x13, x14, x15])).getD n 0 + (T32 (gf [W7 (0 - x0), W7 (0 - x1), W7 (0 - x2), W7 (0 - x3), W7 (0 - x4), W7 (0 - x5), W7 (0 - x6), W7 (0 - x7), W7 (0 - x8), W7 (0 - x9), W7 (0 - x10), W7 (0 - x11), W7 (0 - x12), W7 (0 - x13), W7 (0 - x14), W7 (0 - x15)])).getD n 0) > 2), false)]) ++ (((List.range 16).reverse.flatMap fun n => [(decide (W7 ((T16 (ff [cl7 p0, cl7 p1, cl7 p2, cl7 p3, cl7 p4, cl7 p5, cl7 p6, cl7 p7, cl7 p8, cl7 p9, cl7 p10, cl7 p11, cl7 p12, cl7 p13, cl7 p14, cl7 p15] [cl7 c0, cl7 c1, cl7 c2, cl7 c3, cl7 c4, cl7 c5, cl7 c6, cl7 c7, cl7 c8, cl7 c9, cl7 c10, cl7 c11, cl7 c12, cl7 c13, cl7 c14, cl7 c15])).getD n 0 + (T16 (ff [W7 (0 - cl7 p0), W7 (0 - cl7 p1), W7 (0 - cl7 p2), W7 (0 - cl7 p3), W7 (0 - cl7 p4), W7 (0 - cl7 p5), W7 (0 - cl7 p6), W7 (0 - cl7 p7), W7 (0 - cl7 p8), W7 (0 - cl7 p9), W7 (0 - cl7 p10), W7 (0 - cl7 p11), W7 (0 - cl7 p12), W7 (0 - cl7 p13), W7 (0 - cl7 p14), W7 (0 - cl7 p15)] [W7 (0 - cl7 c0), W7 (0 - cl7 c1), W7 (0 - cl7 c2), W7 (0 - cl7 c3), W7 (0 - cl7 c4), W7 (0 - cl7 c5), W7 (0 - cl7 c6), W7 (0 - cl7 c7), W7 (0 - cl7 c8), W7 (0 - cl7 c9), W7 (0 - cl7 c10), W7 (0 - cl7 c11), W7 (0 - cl7 c12), W7 (0 - cl7 c13), W7 (0 - cl7 c14), W7 (0 - cl7 c15)])).getD n 0) < -4), false), (decide (W7 ((T16 (ff [cl7 p0, cl7 p1, cl7 p2, cl7 p3, cl7 p4, cl7 p5, cl7 p6, cl7 p7, cl7 p8, cl7 p9, cl7 p10, cl7 p11, cl7 p12, cl7 p13, cl7 p14, cl7 p15] [cl7 c0, cl7 c1, cl7 c2, cl7 c3, cl7 c4, cl7 c5, cl7 c6, cl7 c7, cl7 c8, cl7 c9, cl7 c10, cl7 c11, cl7 c12, cl7 c13, cl7 c14, cl7 c15])).getD n 0 + (T16 (ff [W7 (0 - cl7 p0), W7 (0 - cl7 p1), W7 (0 - cl7 p2), W7 (0 - cl7 p3), W7 (0 - cl7 p4), W7 (0 - cl7 p5), W7 (0 - cl7 p6), W7 (0 - cl7 p7), W7 (0 - cl7 p8), W7 (0 - cl7 p9), W7 (0 - cl7 p10), W7 (0 - cl7 p11), W7 (0 - cl7 p12), W7 (0 - cl7 p13), W7 (0 - cl7 p14), W7 (0 - cl7 p15)] [W7 (0 - cl7 c0), W7 (0 - cl7 c1), W7 (0 - cl7 c2), W7 (0 - cl7 c3), W7 (0 - cl7 c4), W7 (0 - cl7 c5), W7 (0 - cl7 c6), W7 (0 - cl7 c7), W7 (0 - cl7 c8), W7 (0 - cl7 c9), W7 (0 - cl7 c10), W7 (0 - cl7 c11), W7 (0 - cl7 c12), W7 (0 - cl7 c13), W7 (0 - cl7 c14), W7 (0 - cl7 c15)])).getD n 0) > 4), false)]) ++ [(tuP true ff gf 72 [.agg (ints [W7 (0 - x0), W7 (0 - x1), W7 (0 - x2), W7 (0 - x3), W7 (0 - x4), W7 (0 - x5), W7 (0 - x6), W7 (0 - x7), W7 (0 - x8), W7 (0 - x9), W7 (0 - x10), W7 (0 - x11), W7 (0 - x12), W7 (0 - x13), W7 (0 - x14), W7 (0 - x15)]).toArray] [], true), (tuP true ff gf 66 [.agg (ints [W7 (0 - cl7 p0), W7 (0 - cl7 p1), W7 (0 - cl7 p2), W7 (0 - cl7 p3), W7 (0 - cl7 p4), W7 (0 - cl7 p5), W7 (0 - cl7 p6), W7 (0 - cl7 p7), W7 (0 - cl7 p8), W7 (0 - cl7 p9), W7 (0 - cl7 p10), W7 (0 - cl7 p11), W7 (0 - cl7 p12), W7 (0 - cl7 p13), W7 (0 - cl7 p14), W7 (0 - cl7 p15)]).toArray, .agg (ints [W7 (0 - cl7 c0), W7 (0 - cl7 c1), W7 (0 - cl7 c2), W7 (0 - cl7 c3), W7 (0 - cl7 c4), W7 (0 - cl7 c5), W7 (0 - cl7 c6), W7 (0 - cl7 c7), W7 (0 - cl7 c8), W7 (0 - cl7 c9), W7 (0 - cl7 c10), W7 (0 - cl7 c11), W7 (0 - cl7 c12), W7 (0 - cl7 c13), W7 (0 - cl7 c14), W7 (0 - cl7 c15)]).toArray] [], true), (tuP true ff gf 72 [.agg (ints [x0, x1, x2, x3, x4, x5, x6, x7, x8, x9, x10, x11, x12, x13, x14, x15]).toArray] [], true), (tuP true ff gf 66 [.agg (ints [cl7 p0, cl7 p1, cl7 p2, cl7 p3, cl7 p4, cl7 p5, cl7 p6, cl7 p7, cl7 p8, cl7 p9, cl7 p10, cl7 p11, cl7 p12, cl7 p13, cl7 p14, cl7 p15]).toArray, .agg (ints [cl7 c0, cl7 c1, cl7 c2, cl7 c3, cl7 c4, cl7 c5, cl7 c6, cl7 c7, cl7 c8, cl7 c9, cl7 c10, cl7 c11, cl7 c12, cl7 c13, cl7 c14, cl7 c15]).toArray] [], true), (tuP true ff gf 74 [.agg (ints [x0, x1, x2, x3, x4, x5, x6, x7, x8, x9, x10, x11, x12, x13, x14, x15]).toArray] [], true), (tuP true ff gf 65 [] [], true)])) := by kernel_rfl

/-! ### Joined -/
theorem cl7_in (p : Int) : -32767 ≤ cl7 p ∧ cl7 p ≤ 32767 := by unfold cl7; rw [mxG_eq, mnG_eq]; omega
theorem W7_cl (p : Int) : W7 (0 - cl7 p) = -cl7 p := by
  have := cl7_in p
  show IntKind.wrap _ _ = _
  rw [wrap_in7 (by omega) (by omega)]; omega
theorem T16_get (O : List Int) {n : Nat} (hn : n < 16) : (T16 O).getD n 0 = O.getD n 0 := by
  unfold T16; rw [List.getD_eq_getElem?_getD, List.getElem?_map, List.getElem?_range hn]; rfl
theorem T32_get (O : List Int) {n : Nat} (hn : n < 32) : (T32 O).getD n 0 = O.getD n 0 := by
  unfold T32; rw [List.getD_eq_getElem?_getD, List.getElem?_map, List.getElem?_range hn]; rfl
theorem T_ext {A B : List Int} (hl : A.length = B.length) (h : ∀ i, i < A.length → A.getD i 0 = B.getD i 0) : A = B := by
  refine List.ext_getElem hl fun i h1 h2 => ?_
  have := h i h1
  rw [List.getD_eq_getElem?_getD, List.getD_eq_getElem?_getD, List.getElem?_eq_getElem h1, List.getElem?_eq_getElem h2] at this
  exact this
theorem T16_eq {O : List Int} (h : O.length = 16) : T16 O = O := T_ext (by simp [T16, h]) fun i hi => T16_get O (by simpa [T16] using hi)
theorem T32_eq {O : List Int} (h : O.length = 32) : T32 O = O := T_ext (by simp [T32, h]) fun i hi => T32_get O (by simpa [T32] using hi)
theorem fwd_len (xs : List Int) : (fwdG roundZ xs).length = 16 := by unfold fwdG; rw [List.length_map]; rfl
theorem inv_len (xs : List Int) : (invG roundZ xs).length = 32 := by unfold invG; simp
theorem chk_in {xs : List Int} (h : ∀ x ∈ xs, -32767 ≤ x ∧ x ≤ 32767) : chkZ xs = 0 := by
  unfold chkZ
  have : xs.all okP = true := List.all_eq_true.2 fun x hx => by
    have := h x hx
    unfold okP; simp only [Bool.and_eq_true, decide_eq_true_eq]; omega
  rw [this]; rfl
theorem fw_c {P C : List Int} (hP : P.length = 16) (hC : C.length = 16) (h1 : ∀ x ∈ P, -32767 ≤ x ∧ x ≤ 32767) (h2 : ∀ x ∈ C, -32767 ≤ x ∧ x ≤ 32767) : CallOk Try.prog 66 [.agg (ints P).toArray, .agg (ints C).toArray] [] (.tuple #[.agg (ints (T16 (fwdG roundZ (P ++ C)))).toArray, .int .i64 0]) [] 0 := by
  have h := forwards_ok 66 (.inl rfl) P C hP hC
  unfold fwO fwE at h
  rw [if_pos ⟨chk_in h1, chk_in h2⟩, if_pos ⟨chk_in h1, chk_in h2⟩] at h
  rw [T16_eq (fwd_len _)]; exact h
theorem iv_c {xs : List Int} (hx : xs.length = 16) (h : xs.all (inB 67108864) = true) : CallOk Try.prog 72 [.agg (ints xs).toArray] [] (.tuple #[.agg (ints (T32 (invG roundZ xs))).toArray, .int .i64 0]) [] 0 := by
  have h' := inverses_ok 72 (.inl rfl) xs hx
  unfold ivO ivE at h'
  rw [h] at h'
  rw [T32_eq (inv_len _)]; exact h'
theorem inB7 {v : Int} : inB 67108864 v = true ↔ -67108864 ≤ v ∧ v ≤ 67108864 := by
  unfold inB
  rw [show IntKind.wrap IntKind.i64 (0 - 67108864) = -67108864 by decide]
  simp
theorem turned_call (p c x : List Int) (hp : p.length = 16) (hc : c.length = 16) (hx : x.length = 16) : CallOk Try.prog 17 [.agg (ints p).toArray, .agg (ints c).toArray, .agg (ints x).toArray] [] (.bool true) [] 0 := by
  have kk1 := may_ok x hx
  cases hm : x.all (inB 67108864) with
  | false =>
    rw [hm] at kk1
    obtain ⟨p0, p1, p2, p3, p4, p5, p6, p7, p8, p9, p10, p11, p12, p13, p14, p15, rfl⟩ := six_len16 p hp
    obtain ⟨c0, c1, c2, c3, c4, c5, c6, c7, c8, c9, c10, c11, c12, c13, c14, c15, rfl⟩ := six_len16 c hc
    obtain ⟨x0, x1, x2, x3, x4, x5, x6, x7, x8, x9, x10, x11, x12, x13, x14, x15, rfl⟩ := six_len16 x hx
    exact pf_ok (nb_sound _ _ (tu_sound _ _ _)) (LoopsOk.names rfl) (tu_bad p0 p1 p2 p3 p4 p5 p6 p7 p8 p9 p10 p11 p12 p13 p14 p15 c0 c1 c2 c3 c4 c5 c6 c7 c8 c9 c10 c11 c12 c13 c14 c15 x0 x1 x2 x3 x4 x5 x6 x7 x8 x9 x10 x11 x12 x13 x14 x15 (fun p _ => p) id) (by
      simp only [Holds, List.mem_cons, List.not_mem_nil, or_false, forall_eq_or_imp, forall_eq]
      exact ⟨tell_ok rfl kk1, tell_ok rfl live7_ok⟩) rfl
  | true =>
    rw [hm] at kk1
    have kk2 := iv_c hx hm
    obtain ⟨p0, p1, p2, p3, p4, p5, p6, p7, p8, p9, p10, p11, p12, p13, p14, p15, rfl⟩ := six_len16 p hp
    obtain ⟨c0, c1, c2, c3, c4, c5, c6, c7, c8, c9, c10, c11, c12, c13, c14, c15, rfl⟩ := six_len16 c hc
    obtain ⟨x0, x1, x2, x3, x4, x5, x6, x7, x8, x9, x10, x11, x12, x13, x14, x15, rfl⟩ := six_len16 x hx
    have hxb : ∀ v ∈ [x0, x1, x2, x3, x4, x5, x6, x7, x8, x9, x10, x11, x12, x13, x14, x15], -67108864 ≤ v ∧ v ≤ 67108864 := fun v hv => inB7.1 (List.all_eq_true.1 hm v hv)
    simp only [List.mem_cons, List.not_mem_nil, or_false, forall_eq_or_imp, forall_eq] at hxb
    obtain ⟨e0, e1, e2, e3, e4, e5, e6, e7, e8, e9, e10, e11, e12, e13, e14, e15⟩ := hxb
    have wx : ∀ v : Int, -67108864 ≤ v ∧ v ≤ 67108864 → W7 (0 - v) = -v := fun v hv => by
      show IntKind.wrap _ _ = _
      rw [wrap_in7 (by omega) (by omega)]; omega
    have hnx : [W7 (0 - x0), W7 (0 - x1), W7 (0 - x2), W7 (0 - x3), W7 (0 - x4), W7 (0 - x5), W7 (0 - x6), W7 (0 - x7), W7 (0 - x8), W7 (0 - x9), W7 (0 - x10), W7 (0 - x11), W7 (0 - x12), W7 (0 - x13), W7 (0 - x14), W7 (0 - x15)] = [-x0, -x1, -x2, -x3, -x4, -x5, -x6, -x7, -x8, -x9, -x10, -x11, -x12, -x13, -x14, -x15] := by
      rw [wx x0 e0, wx x1 e1, wx x2 e2, wx x3 e3, wx x4 e4, wx x5 e5, wx x6 e6, wx x7 e7, wx x8 e8, wx x9 e9, wx x10 e10, wx x11 e11, wx x12 e12, wx x13 e13, wx x14 e14, wx x15 e15]
    have hNx : Nx [x0, x1, x2, x3, x4, x5, x6, x7, x8, x9, x10, x11, x12, x13, x14, x15] [W7 (0 - x0), W7 (0 - x1), W7 (0 - x2), W7 (0 - x3), W7 (0 - x4), W7 (0 - x5), W7 (0 - x6), W7 (0 - x7), W7 (0 - x8), W7 (0 - x9), W7 (0 - x10), W7 (0 - x11), W7 (0 - x12), W7 (0 - x13), W7 (0 - x14), W7 (0 - x15)] := by
      rw [hnx]
      exact .cons e0 (.cons e1 (.cons e2 (.cons e3 (.cons e4 (.cons e5 (.cons e6 (.cons e7 (.cons e8 (.cons e9 (.cons e10 (.cons e11 (.cons e12 (.cons e13 (.cons e14 (.cons e15 (.nil))))))))))))))))
    have hNg : Ng ([cl7 p0, cl7 p1, cl7 p2, cl7 p3, cl7 p4, cl7 p5, cl7 p6, cl7 p7, cl7 p8, cl7 p9, cl7 p10, cl7 p11, cl7 p12, cl7 p13, cl7 p14, cl7 p15] ++ [cl7 c0, cl7 c1, cl7 c2, cl7 c3, cl7 c4, cl7 c5, cl7 c6, cl7 c7, cl7 c8, cl7 c9, cl7 c10, cl7 c11, cl7 c12, cl7 c13, cl7 c14, cl7 c15]) ([W7 (0 - cl7 p0), W7 (0 - cl7 p1), W7 (0 - cl7 p2), W7 (0 - cl7 p3), W7 (0 - cl7 p4), W7 (0 - cl7 p5), W7 (0 - cl7 p6), W7 (0 - cl7 p7), W7 (0 - cl7 p8), W7 (0 - cl7 p9), W7 (0 - cl7 p10), W7 (0 - cl7 p11), W7 (0 - cl7 p12), W7 (0 - cl7 p13), W7 (0 - cl7 p14), W7 (0 - cl7 p15)] ++ [W7 (0 - cl7 c0), W7 (0 - cl7 c1), W7 (0 - cl7 c2), W7 (0 - cl7 c3), W7 (0 - cl7 c4), W7 (0 - cl7 c5), W7 (0 - cl7 c6), W7 (0 - cl7 c7), W7 (0 - cl7 c8), W7 (0 - cl7 c9), W7 (0 - cl7 c10), W7 (0 - cl7 c11), W7 (0 - cl7 c12), W7 (0 - cl7 c13), W7 (0 - cl7 c14), W7 (0 - cl7 c15)]) := by
      simp only [W7_cl, List.cons_append, List.nil_append]
      exact .cons (cl7_in _) (.cons (cl7_in _) (.cons (cl7_in _) (.cons (cl7_in _) (.cons (cl7_in _) (.cons (cl7_in _) (.cons (cl7_in _) (.cons (cl7_in _) (.cons (cl7_in _) (.cons (cl7_in _) (.cons (cl7_in _) (.cons (cl7_in _) (.cons (cl7_in _) (.cons (cl7_in _) (.cons (cl7_in _) (.cons (cl7_in _) (.cons (cl7_in _) (.cons (cl7_in _) (.cons (cl7_in _) (.cons (cl7_in _) (.cons (cl7_in _) (.cons (cl7_in _) (.cons (cl7_in _) (.cons (cl7_in _) (.cons (cl7_in _) (.cons (cl7_in _) (.cons (cl7_in _) (.cons (cl7_in _) (.cons (cl7_in _) (.cons (cl7_in _) (.cons (cl7_in _) (.cons (cl7_in _) (.nil))))))))))))))))))))))))))))))))
    have kk3 : CallOk Try.prog 72 [.agg (ints [W7 (0 - x0), W7 (0 - x1), W7 (0 - x2), W7 (0 - x3), W7 (0 - x4), W7 (0 - x5), W7 (0 - x6), W7 (0 - x7), W7 (0 - x8), W7 (0 - x9), W7 (0 - x10), W7 (0 - x11), W7 (0 - x12), W7 (0 - x13), W7 (0 - x14), W7 (0 - x15)]).toArray] [] (.tuple #[.agg (ints (T32 (invG roundZ [W7 (0 - x0), W7 (0 - x1), W7 (0 - x2), W7 (0 - x3), W7 (0 - x4), W7 (0 - x5), W7 (0 - x6), W7 (0 - x7), W7 (0 - x8), W7 (0 - x9), W7 (0 - x10), W7 (0 - x11), W7 (0 - x12), W7 (0 - x13), W7 (0 - x14), W7 (0 - x15)]))).toArray, .int .i64 0]) [] 0 := by
      refine iv_c rfl ?_
      rw [hnx]
      simp only [List.all_cons, List.all_nil, Bool.and_true, Bool.and_eq_true, inB7]
      omega
    have kk4 : CallOk Try.prog 66 [.agg (ints [cl7 p0, cl7 p1, cl7 p2, cl7 p3, cl7 p4, cl7 p5, cl7 p6, cl7 p7, cl7 p8, cl7 p9, cl7 p10, cl7 p11, cl7 p12, cl7 p13, cl7 p14, cl7 p15]).toArray, .agg (ints [cl7 c0, cl7 c1, cl7 c2, cl7 c3, cl7 c4, cl7 c5, cl7 c6, cl7 c7, cl7 c8, cl7 c9, cl7 c10, cl7 c11, cl7 c12, cl7 c13, cl7 c14, cl7 c15]).toArray] [] (.tuple #[.agg (ints (T16 (fwdG roundZ ([cl7 p0, cl7 p1, cl7 p2, cl7 p3, cl7 p4, cl7 p5, cl7 p6, cl7 p7, cl7 p8, cl7 p9, cl7 p10, cl7 p11, cl7 p12, cl7 p13, cl7 p14, cl7 p15] ++ [cl7 c0, cl7 c1, cl7 c2, cl7 c3, cl7 c4, cl7 c5, cl7 c6, cl7 c7, cl7 c8, cl7 c9, cl7 c10, cl7 c11, cl7 c12, cl7 c13, cl7 c14, cl7 c15])))).toArray, .int .i64 0]) [] 0 := by
      refine fw_c rfl rfl ?_ ?_
      all_goals
        simp only [List.mem_cons, List.not_mem_nil, or_false, forall_eq_or_imp, forall_eq]
        refine ⟨cl7_in _, cl7_in _, cl7_in _, cl7_in _, cl7_in _, cl7_in _, cl7_in _, cl7_in _, cl7_in _, cl7_in _, cl7_in _, cl7_in _, cl7_in _, cl7_in _, cl7_in _, cl7_in _⟩
    have ngi : ∀ v, -32767 ≤ W7 (0 - cl7 v) ∧ W7 (0 - cl7 v) ≤ 32767 := fun v => by rw [W7_cl]; have := cl7_in v; omega
    have kk5 : CallOk Try.prog 66 [.agg (ints [W7 (0 - cl7 p0), W7 (0 - cl7 p1), W7 (0 - cl7 p2), W7 (0 - cl7 p3), W7 (0 - cl7 p4), W7 (0 - cl7 p5), W7 (0 - cl7 p6), W7 (0 - cl7 p7), W7 (0 - cl7 p8), W7 (0 - cl7 p9), W7 (0 - cl7 p10), W7 (0 - cl7 p11), W7 (0 - cl7 p12), W7 (0 - cl7 p13), W7 (0 - cl7 p14), W7 (0 - cl7 p15)]).toArray, .agg (ints [W7 (0 - cl7 c0), W7 (0 - cl7 c1), W7 (0 - cl7 c2), W7 (0 - cl7 c3), W7 (0 - cl7 c4), W7 (0 - cl7 c5), W7 (0 - cl7 c6), W7 (0 - cl7 c7), W7 (0 - cl7 c8), W7 (0 - cl7 c9), W7 (0 - cl7 c10), W7 (0 - cl7 c11), W7 (0 - cl7 c12), W7 (0 - cl7 c13), W7 (0 - cl7 c14), W7 (0 - cl7 c15)]).toArray] [] (.tuple #[.agg (ints (T16 (fwdG roundZ ([W7 (0 - cl7 p0), W7 (0 - cl7 p1), W7 (0 - cl7 p2), W7 (0 - cl7 p3), W7 (0 - cl7 p4), W7 (0 - cl7 p5), W7 (0 - cl7 p6), W7 (0 - cl7 p7), W7 (0 - cl7 p8), W7 (0 - cl7 p9), W7 (0 - cl7 p10), W7 (0 - cl7 p11), W7 (0 - cl7 p12), W7 (0 - cl7 p13), W7 (0 - cl7 p14), W7 (0 - cl7 p15)] ++ [W7 (0 - cl7 c0), W7 (0 - cl7 c1), W7 (0 - cl7 c2), W7 (0 - cl7 c3), W7 (0 - cl7 c4), W7 (0 - cl7 c5), W7 (0 - cl7 c6), W7 (0 - cl7 c7), W7 (0 - cl7 c8), W7 (0 - cl7 c9), W7 (0 - cl7 c10), W7 (0 - cl7 c11), W7 (0 - cl7 c12), W7 (0 - cl7 c13), W7 (0 - cl7 c14), W7 (0 - cl7 c15)])))).toArray, .int .i64 0]) [] 0 := by
      refine fw_c rfl rfl ?_ ?_
      all_goals
        simp only [List.mem_cons, List.not_mem_nil, or_false, forall_eq_or_imp, forall_eq]
        refine ⟨ngi _, ngi _, ngi _, ngi _, ngi _, ngi _, ngi _, ngi _, ngi _, ngi _, ngi _, ngi _, ngi _, ngi _, ngi _, ngi _⟩
    have q1 := fun n hn => fwd_turn hNg rfl (i := n) hn
    have q2 := fun n hn => inv_turn hNx rfl (n := n) hn
    refine pf_ok (nb_sound _ _ (tu_sound _ _ _)) (LoopsOk.names rfl) (tu_run p0 p1 p2 p3 p4 p5 p6 p7 p8 p9 p10 p11 p12 p13 p14 p15 c0 c1 c2 c3 c4 c5 c6 c7 c8 c9 c10 c11 c12 c13 c14 c15 x0 x1 x2 x3 x4 x5 x6 x7 x8 x9 x10 x11 x12 x13 x14 x15 (fun p c => fwdG roundZ (p ++ c)) (invG roundZ)) ?_ rfl
    intro o ho
    rcases List.mem_append.1 ho with ho | ho
    · obtain ⟨n, hn, ho⟩ := List.mem_flatMap.1 ho
      have hn' : n < 32 := by simpa using hn
      have := q2 n hn'
      simp only [List.mem_cons, List.not_mem_nil, or_false] at ho
      rcases ho with rfl | rfl
      · refine decide_eq_false ?_
        rw [T32_get _ hn', T32_get _ hn']
        show ¬ IntKind.wrap _ _ < _
        rw [wrap_in7 (by omega) (by omega)]; omega
      · refine decide_eq_false ?_
        rw [T32_get _ hn', T32_get _ hn']
        show ¬ IntKind.wrap _ _ > _
        rw [wrap_in7 (by omega) (by omega)]; omega
    · rcases List.mem_append.1 ho with ho | ho
      · obtain ⟨n, hn, ho⟩ := List.mem_flatMap.1 ho
        have hn' : n < 16 := by simpa using hn
        have := q1 n hn'
        simp only [List.mem_cons, List.not_mem_nil, or_false] at ho
        rcases ho with rfl | rfl
        · refine decide_eq_false ?_
          rw [T16_get _ hn', T16_get _ hn']
          show ¬ IntKind.wrap _ _ < _
          rw [wrap_in7 (by omega) (by omega)]; omega
        · refine decide_eq_false ?_
          rw [T16_get _ hn', T16_get _ hn']
          show ¬ IntKind.wrap _ _ > _
          rw [wrap_in7 (by omega) (by omega)]; omega
      · revert o
        suffices hh : Holds [(tuP true (fun p c => fwdG roundZ (p ++ c)) (invG roundZ) 72 [.agg (ints [W7 (0 - x0), W7 (0 - x1), W7 (0 - x2), W7 (0 - x3), W7 (0 - x4), W7 (0 - x5), W7 (0 - x6), W7 (0 - x7), W7 (0 - x8), W7 (0 - x9), W7 (0 - x10), W7 (0 - x11), W7 (0 - x12), W7 (0 - x13), W7 (0 - x14), W7 (0 - x15)]).toArray] [], true), (tuP true (fun p c => fwdG roundZ (p ++ c)) (invG roundZ) 66 [.agg (ints [W7 (0 - cl7 p0), W7 (0 - cl7 p1), W7 (0 - cl7 p2), W7 (0 - cl7 p3), W7 (0 - cl7 p4), W7 (0 - cl7 p5), W7 (0 - cl7 p6), W7 (0 - cl7 p7), W7 (0 - cl7 p8), W7 (0 - cl7 p9), W7 (0 - cl7 p10), W7 (0 - cl7 p11), W7 (0 - cl7 p12), W7 (0 - cl7 p13), W7 (0 - cl7 p14), W7 (0 - cl7 p15)]).toArray, .agg (ints [W7 (0 - cl7 c0), W7 (0 - cl7 c1), W7 (0 - cl7 c2), W7 (0 - cl7 c3), W7 (0 - cl7 c4), W7 (0 - cl7 c5), W7 (0 - cl7 c6), W7 (0 - cl7 c7), W7 (0 - cl7 c8), W7 (0 - cl7 c9), W7 (0 - cl7 c10), W7 (0 - cl7 c11), W7 (0 - cl7 c12), W7 (0 - cl7 c13), W7 (0 - cl7 c14), W7 (0 - cl7 c15)]).toArray] [], true), (tuP true (fun p c => fwdG roundZ (p ++ c)) (invG roundZ) 72 [.agg (ints [x0, x1, x2, x3, x4, x5, x6, x7, x8, x9, x10, x11, x12, x13, x14, x15]).toArray] [], true), (tuP true (fun p c => fwdG roundZ (p ++ c)) (invG roundZ) 66 [.agg (ints [cl7 p0, cl7 p1, cl7 p2, cl7 p3, cl7 p4, cl7 p5, cl7 p6, cl7 p7, cl7 p8, cl7 p9, cl7 p10, cl7 p11, cl7 p12, cl7 p13, cl7 p14, cl7 p15]).toArray, .agg (ints [cl7 c0, cl7 c1, cl7 c2, cl7 c3, cl7 c4, cl7 c5, cl7 c6, cl7 c7, cl7 c8, cl7 c9, cl7 c10, cl7 c11, cl7 c12, cl7 c13, cl7 c14, cl7 c15]).toArray] [], true), (tuP true (fun p c => fwdG roundZ (p ++ c)) (invG roundZ) 74 [.agg (ints [x0, x1, x2, x3, x4, x5, x6, x7, x8, x9, x10, x11, x12, x13, x14, x15]).toArray] [], true), (tuP true (fun p c => fwdG roundZ (p ++ c)) (invG roundZ) 65 [] [], true)] from fun o _ _ ho => hh o ho
        simp only [Holds, List.mem_cons, List.not_mem_nil, or_false, forall_eq_or_imp, forall_eq]
        exact ⟨tell_ok rfl kk3, tell_ok rfl kk5, tell_ok rfl kk2, tell_ok rfl kk4, tell_ok rfl kk1, tell_ok rfl live7_ok⟩
end Go.Proofs.Ytfbjpenbpbpcaaa

