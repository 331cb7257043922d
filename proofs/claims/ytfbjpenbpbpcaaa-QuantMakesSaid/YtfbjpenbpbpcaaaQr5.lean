/-
  Chapter 09: the law QuantMakes as a call.
-/
import Derived.Test.YtfbjpenbpbpcaaaQr4
namespace Go.Proofs.Ytfbjpenbpbpcaaa
open Go Den
set_option maxRecDepth 100000
set_option linter.unusedSimpArgs false
set_option linter.unusedVariables false

def qmT (b : Bool) (Q A Y N : List Int) (e g s i : Int) : FuncId → List Value → Option Value := fun f args => match f, args with
  | 103, [_, _] => some (.tuple #[.agg (ints Q).toArray, .agg (ints A).toArray, .int .i64 e])
  | 106, [_, _] => some (.tuple #[.agg (ints Q).toArray, .agg (ints A).toArray, .int .i64 e])
  | 102, [_, _] => some (.tuple #[.agg (ints Y).toArray, .int .i64 g])
  | 107, [_, _] => some (.tuple #[.agg (ints Y).toArray, .int .i64 g])
  | 105, [_, _] => some (.tuple #[.agg (ints N).toArray, .int .u32 s, .int .i64 i])
  | 108, [_, _] => some (.tuple #[.agg (ints N).toArray, .int .u32 s, .int .i64 i])
  | 104, [_, _] => some (.bool b)
  | 101, [_, _] => some (.bool b)
  | _, _ => none
noncomputable abbrev qmC (b : Bool) (Q A Y N : List Int) (e g s i : Int) : Oracle := tellC (qmT b Q A Y N e g s i) o9
noncomputable abbrev qmP (b : Bool) (Q A Y N : List Int) (e g s i : Int) : Pre := tellPre (qmT b Q A Y N e g s i) noPre
theorem qm_sound (b : Bool) (Q A Y N : List Int) (e g s i : Int) : Sound Try.prog (strict (qmP b Q A Y N e g s i) (qmC b Q A Y N e g s i)) := tell_sound _ o9_sound
theorem qm_run (b : Bool) (x0 x1 x2 x3 x4 x5 x6 x7 x8 x9 x10 x11 x12 x13 x14 x15 q0 q1 q2 q3 q4 q5 q6 q7 q8 q9 q10 q11 q12 q13 q14 q15 l0 l1 l2 l3 l4 l5 p0 p1 p2 p3 p4 p5 p6 p7 p8 p9 p10 p11 p12 p13 p14 p15 a0 a1 a2 a3 a4 a5 y0 y1 y2 y3 y4 y5 y6 y7 y8 y9 y10 y11 y12 y13 y14 y15 n0 n1 n2 n3 n4 n5 n6 n7 n8 n9 n10 n11 n12 n13 n14 n15 e g s i sd : Int) : (evFnL Try.prog ext 300 (nmPre (qmP b [p0, p1, p2, p3, p4, p5, p6, p7, p8, p9, p10, p11, p12, p13, p14, p15] [a0, a1, a2, a3, a4, a5] [y0, y1, y2, y3, y4, y5, y6, y7, y8, y9, y10, y11, y12, y13, y14, y15] [n0, n1, n2, n3, n4, n5, n6, n7, n8, n9, n10, n11, n12, n13, n14, n15] e g s i)) (nbC [] (allT [73, 78, 83, 88, 93, 107, 112, 117]) (qmC b [p0, p1, p2, p3, p4, p5, p6, p7, p8, p9, p10, p11, p12, p13, p14, p15] [a0, a1, a2, a3, a4, a5] [y0, y1, y2, y3, y4, y5, y6, y7, y8, y9, y10, y11, y12, y13, y14, y15] [n0, n1, n2, n3, n4, n5, n6, n7, n8, n9, n10, n11, n12, n13, n14, n15] e g s i)) noLoops [(2, true), (0, true), (0, true), (0, true), (0, true), (0, true), (18, true), (3, true)] 30 [.agg (ints [x0, x1, x2, x3, x4, x5, x6, x7, x8, x9, x10, x11, x12, x13, x14, x15]).toArray, .agg (ints [q0, q1, q2, q3, q4, q5, q6, q7, q8, q9, q10, q11, q12, q13, q14, q15]).toArray, .agg (ints [l0, l1, l2, l3, l4, l5]).toArray, .int .u32 sd] []).map (fun r => (r.1.1, r.2)) =
  some (.bool true, [(i == i, true), (s == s, true), (decide ([n0, n1, n2, n3, n4, n5, n6, n7, n8, n9, n10, n11, n12, n13, n14, n15] = [n0, n1, n2, n3, n4, n5, n6, n7, n8, n9, n10, n11, n12, n13, n14, n15]), true), (qmP b [p0, p1, p2, p3, p4, p5, p6, p7, p8, p9, p10, p11, p12, p13, p14, p15] [a0, a1, a2, a3, a4, a5] [y0, y1, y2, y3, y4, y5, y6, y7, y8, y9, y10, y11, y12, y13, y14, y15] [n0, n1, n2, n3, n4, n5, n6, n7, n8, n9, n10, n11, n12, n13, n14, n15] e g s i 101 [.agg (ints [q0, q1, q2, q3, q4, q5, q6, q7, q8, q9, q10, q11, q12, q13, q14, q15]).toArray, .agg (ints [l0, l1, l2, l3, l4, l5]).toArray] [], true), (qmP b [p0, p1, p2, p3, p4, p5, p6, p7, p8, p9, p10, p11, p12, p13, p14, p15] [a0, a1, a2, a3, a4, a5] [y0, y1, y2, y3, y4, y5, y6, y7, y8, y9, y10, y11, y12, y13, y14, y15] [n0, n1, n2, n3, n4, n5, n6, n7, n8, n9, n10, n11, n12, n13, n14, n15] e g s i 104 [.agg (ints [q0, q1, q2, q3, q4, q5, q6, q7, q8, q9, q10, q11, q12, q13, q14, q15]).toArray, .agg (ints [l0, l1, l2, l3, l4, l5]).toArray] [], true), (g == g, true), (decide ([y0, y1, y2, y3, y4, y5, y6, y7, y8, y9, y10, y11, y12, y13, y14, y15] = [y0, y1, y2, y3, y4, y5, y6, y7, y8, y9, y10, y11, y12, y13, y14, y15]), true), (e == e, true), (decide ([a0, a1, a2, a3, a4, a5] = [a0, a1, a2, a3, a4, a5]), true), (decide ([p0, p1, p2, p3, p4, p5, p6, p7, p8, p9, p10, p11, p12, p13, p14, p15] = [p0, p1, p2, p3, p4, p5, p6, p7, p8, p9, p10, p11, p12, p13, p14, p15]), true), (qmP b [p0, p1, p2, p3, p4, p5, p6, p7, p8, p9, p10, p11, p12, p13, p14, p15] [a0, a1, a2, a3, a4, a5] [y0, y1, y2, y3, y4, y5, y6, y7, y8, y9, y10, y11, y12, y13, y14, y15] [n0, n1, n2, n3, n4, n5, n6, n7, n8, n9, n10, n11, n12, n13, n14, n15] e g s i 108 [.int .u32 sd, .agg (ints [l0, l1, l2, l3, l4, l5]).toArray] [], true), (qmP b [p0, p1, p2, p3, p4, p5, p6, p7, p8, p9, p10, p11, p12, p13, p14, p15] [a0, a1, a2, a3, a4, a5] [y0, y1, y2, y3, y4, y5, y6, y7, y8, y9, y10, y11, y12, y13, y14, y15] [n0, n1, n2, n3, n4, n5, n6, n7, n8, n9, n10, n11, n12, n13, n14, n15] e g s i 105 [.int .u32 sd, .agg (ints [l0, l1, l2, l3, l4, l5]).toArray] [], true), (qmP b [p0, p1, p2, p3, p4, p5, p6, p7, p8, p9, p10, p11, p12, p13, p14, p15] [a0, a1, a2, a3, a4, a5] [y0, y1, y2, y3, y4, y5, y6, y7, y8, y9, y10, y11, y12, y13, y14, y15] [n0, n1, n2, n3, n4, n5, n6, n7, n8, n9, n10, n11, n12, n13, n14, n15] e g s i 107 [.agg (ints [q0, q1, q2, q3, q4, q5, q6, q7, q8, q9, q10, q11, q12, q13, q14, q15]).toArray, .agg (ints [l0, l1, l2, l3, l4, l5]).toArray] [], true), (qmP b [p0, p1, p2, p3, p4, p5, p6, p7, p8, p9, p10, p11, p12, p13, p14, p15] [a0, a1, a2, a3, a4, a5] [y0, y1, y2, y3, y4, y5, y6, y7, y8, y9, y10, y11, y12, y13, y14, y15] [n0, n1, n2, n3, n4, n5, n6, n7, n8, n9, n10, n11, n12, n13, n14, n15] e g s i 102 [.agg (ints [q0, q1, q2, q3, q4, q5, q6, q7, q8, q9, q10, q11, q12, q13, q14, q15]).toArray, .agg (ints [l0, l1, l2, l3, l4, l5]).toArray] [], true), (qmP b [p0, p1, p2, p3, p4, p5, p6, p7, p8, p9, p10, p11, p12, p13, p14, p15] [a0, a1, a2, a3, a4, a5] [y0, y1, y2, y3, y4, y5, y6, y7, y8, y9, y10, y11, y12, y13, y14, y15] [n0, n1, n2, n3, n4, n5, n6, n7, n8, n9, n10, n11, n12, n13, n14, n15] e g s i 106 [.agg (ints [x0, x1, x2, x3, x4, x5, x6, x7, x8, x9, x10, x11, x12, x13, x14, x15]).toArray, .agg (ints [l0, l1, l2, l3, l4, l5]).toArray] [], true), (qmP b [p0, p1, p2, p3, p4, p5, p6, p7, p8, p9, p10, p11, p12, p13, p14, p15] [a0, a1, a2, a3, a4, a5] [y0, y1, y2, y3, y4, y5, y6, y7, y8, y9, y10, y11, y12, y13, y14, y15] [n0, n1, n2, n3, n4, n5, n6, n7, n8, n9, n10, n11, n12, n13, n14, n15] e g s i 103 [.agg (ints [x0, x1, x2, x3, x4, x5, x6, x7, x8, x9, x10, x11, x12, x13, x14, x15]).toArray, .agg (ints [l0, l1, l2, l3, l4, l5]).toArray] [], true)]) := by cases b <;> kernel_rfl
theorem makes_call (x : List Int) (hx : x.length = 16) (q : List Int) (hq : q.length = 16) (l : List Int) (hl : l.length = 6) (sd : Int) : CallOk Try.prog 30 [.agg (ints x).toArray, .agg (ints q).toArray, .agg (ints l).toArray, .int .u32 sd] [] (.bool true) [] 0 := by
  have c1 := small_ok x hx l hl
  have c2 := rsmall_ok x hx l hl
  have c3 := great_ok q hq l hl
  have c4 := rgreat_ok q hq l hl
  have c5 := noise_ok sd l hl
  have c6 := rnoise_ok sd l hl
  have c7 := mayq_ok q hq l hl
  have c8 := rmay_ok q hq l hl
  have h1 : (sml x l).length = 16 := by unfold sml; split <;> simp [smL]
  have h2 : (sma x l).length = 6 := by unfold sma; split <;> simp [shl_len, zer6]
  have h3 : (grl q l).length = 16 := by unfold grl; split <;> simp [greatL]
  have h4 := nzl_len sd l
  generalize sml x l = P at *
  generalize sma x l = A at *
  generalize grl q l = Y at *
  generalize nzl sd l = N at *
  generalize sme x l = e at *
  generalize gre q l = g at *
  generalize nzs sd l = s at *
  generalize chk8 l = i at *
  generalize mayB q l = b at *
  obtain ⟨x0, x1, x2, x3, x4, x5, x6, x7, x8, x9, x10, x11, x12, x13, x14, x15, rfl⟩ := six_len16 x hx
  obtain ⟨q0, q1, q2, q3, q4, q5, q6, q7, q8, q9, q10, q11, q12, q13, q14, q15, rfl⟩ := six_len16 q hq
  obtain ⟨l0, l1, l2, l3, l4, l5, rfl⟩ := six_ex l hl
  obtain ⟨p0, p1, p2, p3, p4, p5, p6, p7, p8, p9, p10, p11, p12, p13, p14, p15, rfl⟩ := six_len16 P h1
  obtain ⟨a0, a1, a2, a3, a4, a5, rfl⟩ := six_ex A h2
  obtain ⟨y0, y1, y2, y3, y4, y5, y6, y7, y8, y9, y10, y11, y12, y13, y14, y15, rfl⟩ := six_len16 Y h3
  obtain ⟨n0, n1, n2, n3, n4, n5, n6, n7, n8, n9, n10, n11, n12, n13, n14, n15, rfl⟩ := six_len16 N h4
  refine pf_ok (nb_sound _ _ (qm_sound _ _ _ _ _ _ _ _ _)) noLoops_ok (qm_run b x0 x1 x2 x3 x4 x5 x6 x7 x8 x9 x10 x11 x12 x13 x14 x15 q0 q1 q2 q3 q4 q5 q6 q7 q8 q9 q10 q11 q12 q13 q14 q15 l0 l1 l2 l3 l4 l5 p0 p1 p2 p3 p4 p5 p6 p7 p8 p9 p10 p11 p12 p13 p14 p15 a0 a1 a2 a3 a4 a5 y0 y1 y2 y3 y4 y5 y6 y7 y8 y9 y10 y11 y12 y13 y14 y15 n0 n1 n2 n3 n4 n5 n6 n7 n8 n9 n10 n11 n12 n13 n14 n15 e g s i sd) ?_ rfl
  simp only [Holds, List.mem_cons, List.not_mem_nil, or_false, forall_eq_or_imp, forall_eq]
  exact ⟨beq_self_eq_true _, beq_self_eq_true _, decide_eq_true trivial, tell_ok rfl c8, tell_ok rfl c7, beq_self_eq_true _, decide_eq_true trivial, beq_self_eq_true _, decide_eq_true trivial, decide_eq_true trivial, tell_ok rfl c6, tell_ok rfl c5, tell_ok rfl c4, tell_ok rfl c3, tell_ok rfl c2, tell_ok rfl c1⟩
end Go.Proofs.Ytfbjpenbpbpcaaa

