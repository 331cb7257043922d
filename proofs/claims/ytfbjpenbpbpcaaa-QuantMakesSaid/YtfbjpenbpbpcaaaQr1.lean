/-
  Chapter 09: the reference's steps.
-/
import Derived.Test.YtfbjpenbpbpcaaaZN
import Derived.Test.YtfbjpenbpbpcaaaPm1
namespace Go.Proofs.Ytfbjpenbpbpcaaa
open Go Den
set_option maxRecDepth 100000
set_option linter.unusedSimpArgs false
set_option linter.unusedVariables false


def rO (l A : List Int) (i : Nat) : List Int := (List.range 16).map fun n => if n < i then stZ (l.getD (bnd n) 0) (A.getD (bnd n) 0) else 0
def rM (A : List Int) (i : Nat) : List Int := (List.range 16).map fun n => if n < i then moZ (A.getD (bnd n) 0) else 0
def rcF9 (i : Nat) : Slots := [(1, ptI 0), (2, ptI 1), (3, ptI 2), (4, ptI 3), (6, ptI 4), (7, ptI 5), (8, ptI 6), (23, .int .i64 i)]
def rcH9 (l A S M : List Int) : Heap := [blkI l, blkI (List.replicate 16 0), blkI (List.replicate 16 0), blkI [0, 0, 0, 0, 0, 0], blkI S, blkI M, blkI A]
theorem rs9_t (a b c d e g a0 a1 a2 a3 a4 a5 : Int) : (List.range' 0 16).map (fun (k : Nat) => evL Try.prog ext (nmPre noPre) (nbC [] [(34, true)] x9a) noLoops 300 57 (loopAt Try.prog 130 0) (rcF9 k) (rcH9 [a, b, c, d, e, g] [a0, a1, a2, a3, a4, a5] (rO [a, b, c, d, e, g] [a0, a1, a2, a3, a4, a5] k) (rM [a0, a1, a2, a3, a4, a5] k)) 0 [] [1, 2, 3, 4, 6, 7, 8, 23]) =
  (List.range' 0 16).map fun (k : Nat) => some (.normal, rcF9 (k + 1), rcH9 [a, b, c, d, e, g] [a0, a1, a2, a3, a4, a5] (rO [a, b, c, d, e, g] [a0, a1, a2, a3, a4, a5] (k + 1)) (rM [a0, a1, a2, a3, a4, a5] (k + 1)), 0, [(decide ([a0, a1, a2, a3, a4, a5].getD (bnd k) 0 > 0), true)]) := by kernel_rfl
theorem rs9_f (a b c d e g a0 a1 a2 a3 a4 a5 : Int) : (List.range' 0 16).map (fun (k : Nat) => evL Try.prog ext (nmPre noPre) (nbC [] [(34, false)] x9a) noLoops 300 57 (loopAt Try.prog 130 0) (rcF9 k) (rcH9 [a, b, c, d, e, g] [a0, a1, a2, a3, a4, a5] (rO [a, b, c, d, e, g] [a0, a1, a2, a3, a4, a5] k) (rM [a0, a1, a2, a3, a4, a5] k)) 0 [] [1, 2, 3, 4, 6, 7, 8, 23]) =
  (List.range' 0 16).map fun (k : Nat) => some (.normal, rcF9 (k + 1), rcH9 [a, b, c, d, e, g] [a0, a1, a2, a3, a4, a5] (rO [a, b, c, d, e, g] [a0, a1, a2, a3, a4, a5] k) (rM [a0, a1, a2, a3, a4, a5] k), 0, [(decide ([a0, a1, a2, a3, a4, a5].getD (bnd k) 0 > 0), false)]) := by kernel_rfl
def rcE9 : Slots := [(2, ptI 1), (3, ptI 2), (4, ptI 3), (6, ptI 4), (7, ptI 5), (8, ptI 6)]
theorem rs9_e (a b c d e g a0 a1 a2 a3 a4 a5 : Int) : evL Try.prog ext noPre noC noLoops 300 57 (loopAt Try.prog 130 0) (rcF9 16) (rcH9 [a, b, c, d, e, g] [a0, a1, a2, a3, a4, a5] (rO [a, b, c, d, e, g] [a0, a1, a2, a3, a4, a5] 16) (rM [a0, a1, a2, a3, a4, a5] 16)) 0 [] [2, 3, 4, 6, 7, 8] = some (.exit 0, rcE9, rcH9 [a, b, c, d, e, g] [a0, a1, a2, a3, a4, a5] (rO [a, b, c, d, e, g] [a0, a1, a2, a3, a4, a5] 16) (rM [a0, a1, a2, a3, a4, a5] 16), 0, []) := by kernel_rfl
theorem rs9_code : codeOk (loopAt Try.prog 130 0) = true := by kernel_rfl
theorem rO_skip {l A : List Int} {k : Nat} (h : A.getD (bnd k) 0 = 0) : rO l A (k + 1) = rO l A k ∧ rM A (k + 1) = rM A k := by
  refine ⟨?_, ?_⟩
  all_goals
    first | unfold rO | unfold rM
    refine List.map_congr_left fun n hn => ?_
    by_cases h1 : n < k
    · rw [if_pos h1, if_pos (show n < k + 1 by omega)]
    · rw [if_neg h1]
      by_cases h2 : n < k + 1
      · have : n = k := by omega
        subst this
        rw [if_pos h2, h]
        first | rw [stZ_0] | rw [moZ_0]
      · rw [if_neg h2]
theorem rs9_loop (a b c d e g a0 a1 a2 a3 a4 a5 : Int) (hA : ∀ i, i < 6 → 0 ≤ [a0, a1, a2, a3, a4, a5].getD i 0) : WP Try.prog 57 (.loop (loopAt Try.prog 130 0)) ⟨rcF9 0, rcH9 [a, b, c, d, e, g] [a0, a1, a2, a3, a4, a5] (List.replicate 16 0) (List.replicate 16 0), 0⟩ (.exit 0) ⟨rcE9, rcH9 [a, b, c, d, e, g] [a0, a1, a2, a3, a4, a5] (rO [a, b, c, d, e, g] [a0, a1, a2, a3, a4, a5] 16) (rM [a0, a1, a2, a3, a4, a5] 16), 0⟩ := by
  refine WP.loop (fun k => ⟨rcF9 k, rcH9 [a, b, c, d, e, g] [a0, a1, a2, a3, a4, a5] (rO [a, b, c, d, e, g] [a0, a1, a2, a3, a4, a5] k) (rM [a0, a1, a2, a3, a4, a5] k), 0⟩) 16 (by simp) (fun k hk => ?_) (WP.run progOk extSound noC_sound rs9_code noLoops_ok _ (rs9_e a b c d e g a0 a1 a2 a3 a4 a5) (by simp [Holds]))
  have hb : bnd k < 6 := by unfold bnd; repeat' split
                            all_goals omega
  by_cases h : [a0, a1, a2, a3, a4, a5].getD (bnd k) 0 > 0
  · exact WP.run progOk extSound (nb_sound _ _ x9a_sound) rs9_code noLoops_ok _ (of_list (rs9_t a b c d e g a0 a1 a2 a3 a4 a5) (by omega) (by omega)) (by simp only [Holds, List.mem_singleton, forall_eq]; exact decide_eq_true h)
  · have h0 : [a0, a1, a2, a3, a4, a5].getD (bnd k) 0 = 0 := by have := hA _ hb; omega
    show WP _ _ _ _ _ ⟨_, rcH9 _ _ (rO _ _ (k + 1)) (rM _ (k + 1)), _⟩
    rw [(rO_skip (l := [a, b, c, d, e, g]) h0).1, (rO_skip (l := [a, b, c, d, e, g]) h0).2]
    exact WP.run progOk extSound (nb_sound _ _ x9a_sound) rs9_code noLoops_ok _ (of_list (rs9_f a b c d e g a0 a1 a2 a3 a4 a5) (by omega) (by omega)) (by simp only [Holds, List.mem_singleton, forall_eq]; exact decide_eq_false h)
noncomputable def rs9N (a b c d e g a0 a1 a2 a3 a4 a5 : Int) : Loops := { loop := sumL 6 ⟨rcF9 0, rcH9 [a, b, c, d, e, g] [a0, a1, a2, a3, a4, a5] (List.replicate 16 0) (List.replicate 16 0), 0⟩ (.exit 0) ⟨rcE9, rcH9 [a, b, c, d, e, g] [a0, a1, a2, a3, a4, a5] (rO [a, b, c, d, e, g] [a0, a1, a2, a3, a4, a5] 16) (rM [a0, a1, a2, a3, a4, a5] 16), 0⟩ }
noncomputable def rb0 : Code := bodyOf Try.prog 130
noncomputable def rb1 : Code := tlC rb0
noncomputable def rb2 : Code := tlC rb1
noncomputable def rb3 : Code := tlC rb2
noncomputable def rb4 : Code := tlC rb3
noncomputable def rb5 : Code := tlC rb4
theorem rb_seq : (isSeq rb0 && isSeq rb1 && isSeq rb2 && isSeq rb3 && isSeq rb4 && isSeq rb5 && isSeq (hdC rb3) && isSeq (thenC (tlC (hdC rb3)))) = true := by kernel_rfl
theorem rb_ok : (codeOk (hdC rb0) && codeOk (hdC rb1) && codeOk (hdC rb2) && codeOk (hdC rb3) && codeOk (hdC rb4) && codeOk (tlC rb5) && codeOk (hdC (hdC rb3)) && codeOk (tlC (thenC (tlC (hdC rb3))))) = true := by kernel_rfl
theorem rs9_r0 (a b c d e g : Int) : evL Try.prog ext noPre noC noLoops 300 57 (hdC rb0) (Den.start 0 [.agg (ints [a, b, c, d, e, g]).toArray]) [] 0 [] [1, 2, 3, 4] = some (.normal, [(1, ptI 0), (2, ptI 1), (3, ptI 2), (4, ptI 3)], [blkI [a, b, c, d, e, g], blkI (List.replicate 16 0), blkI (List.replicate 16 0), blkI [0, 0, 0, 0, 0, 0]], 0, []) := by kernel_rfl
theorem rs9_r1 (a b c d e g : Int) : evL Try.prog ext noPre noC noLoops 300 57 (hdC rb1) [(1, ptI 0), (2, ptI 1), (3, ptI 2), (4, ptI 3)] [blkI [a, b, c, d, e, g], blkI (List.replicate 16 0), blkI (List.replicate 16 0), blkI [0, 0, 0, 0, 0, 0]] 0 [] [1, 2, 3, 4, 6, 7] = some (.normal, [(1, ptI 0), (2, ptI 1), (3, ptI 2), (4, ptI 3), (6, ptI 4), (7, ptI 5)], [blkI [a, b, c, d, e, g], blkI (List.replicate 16 0), blkI (List.replicate 16 0), blkI [0, 0, 0, 0, 0, 0], blkI (List.replicate 16 0), blkI (List.replicate 16 0)], 0, []) := by kernel_rfl
theorem rs9_r2 (a b c d e g a0 a1 a2 a3 a4 a5 n : Int) : evL Try.prog ext (s2P [a0, a1, a2, a3, a4, a5] n) (s2C [a0, a1, a2, a3, a4, a5] n) noLoops 300 57 (hdC rb2) [(1, ptI 0), (2, ptI 1), (3, ptI 2), (4, ptI 3), (6, ptI 4), (7, ptI 5)] [blkI [a, b, c, d, e, g], blkI (List.replicate 16 0), blkI (List.replicate 16 0), blkI [0, 0, 0, 0, 0, 0], blkI (List.replicate 16 0), blkI (List.replicate 16 0)] 0 [(0, true)] [1, 2, 3, 4, 6, 7, 8, 9] = some (.normal, [(1, ptI 0), (2, ptI 1), (3, ptI 2), (4, ptI 3), (6, ptI 4), (7, ptI 5), (8, ptI 6), (9, .int .i64 n)], rcH9 [a, b, c, d, e, g] [a0, a1, a2, a3, a4, a5] (List.replicate 16 0) (List.replicate 16 0), 0, [(s2P [a0, a1, a2, a3, a4, a5] n 81 [.agg (ints [a, b, c, d, e, g]).toArray, .int .i64 120] [], true)]) := by kernel_rfl
theorem rs9_r3 (a b c d e g a0 a1 a2 a3 a4 a5 : Int) : evL Try.prog ext noPre noC noLoops 300 57 (hdC rb3) [(1, ptI 0), (2, ptI 1), (3, ptI 2), (4, ptI 3), (6, ptI 4), (7, ptI 5), (8, ptI 6), (9, .int .i64 0)] (rcH9 [a, b, c, d, e, g] [a0, a1, a2, a3, a4, a5] (List.replicate 16 0) (List.replicate 16 0)) 0 [] [1, 2, 3, 4, 6, 7, 8] = some (.normal, [(1, ptI 0), (2, ptI 1), (3, ptI 2), (4, ptI 3), (6, ptI 4), (7, ptI 5), (8, ptI 6)], rcH9 [a, b, c, d, e, g] [a0, a1, a2, a3, a4, a5] (List.replicate 16 0) (List.replicate 16 0), 0, []) := by kernel_rfl
theorem rs9_r4 (a b c d e g a0 a1 a2 a3 a4 a5 : Int) : evL Try.prog ext noPre noC (rs9N a b c d e g a0 a1 a2 a3 a4 a5) 300 57 (hdC rb4) [(1, ptI 0), (2, ptI 1), (3, ptI 2), (4, ptI 3), (6, ptI 4), (7, ptI 5), (8, ptI 6)] (rcH9 [a, b, c, d, e, g] [a0, a1, a2, a3, a4, a5] (List.replicate 16 0) (List.replicate 16 0)) 0 [] [2, 3, 4, 6, 7, 8] = some (.normal, rcE9, rcH9 [a, b, c, d, e, g] [a0, a1, a2, a3, a4, a5] (rO [a, b, c, d, e, g] [a0, a1, a2, a3, a4, a5] 16) (rM [a0, a1, a2, a3, a4, a5] 16), 0, [(cdec (rcF9 0 = rcF9 0), true), (cdec (rcH9 [a, b, c, d, e, g] [a0, a1, a2, a3, a4, a5] (List.replicate 16 0) (List.replicate 16 0) = rcH9 [a, b, c, d, e, g] [a0, a1, a2, a3, a4, a5] (List.replicate 16 0) (List.replicate 16 0)), true), (cdec (0 = 0), true)]) := by kernel_rfl
def rsEF (b : Bool) : Slots := [(2, ptI 1), (3, ptI 2), (4, ptI 3), (5, .bool b)]
def rsEH (l A S M : List Int) : Heap := [blkI l, blkI S, blkI M, blkI A, blkI S, blkI M, blkI A]
theorem rs9_pm (a b c d e g a0 a1 a2 a3 a4 a5 s0 s1 s2 s3 s4 s5 s6 s7 s8 s9 s10 s11 s12 s13 s14 s15 m0 m1 m2 m3 m4 m5 m6 m7 m8 m9 m10 m11 m12 m13 m14 m15 : Int) : (evPerm Try.prog ext noC 57 (opsOf (hdC rb5)).toList (opsOf (hdC rb5)).toList.length (List.replicate (opsOf (hdC rb5)).toList.length false) ⟨rcE9, rcH9 [a, b, c, d, e, g] [a0, a1, a2, a3, a4, a5] [s0, s1, s2, s3, s4, s5, s6, s7, s8, s9, s10, s11, s12, s13, s14, s15] [m0, m1, m2, m3, m4, m5, m6, m7, m8, m9, m10, m11, m12, m13, m14, m15], 0⟩).map (fun L => L.map fun s => (pick s.F [2, 3, 4, 5], s.H, s.lo)) =
  some (List.replicate 15 (rsEF true, rsEH [a, b, c, d, e, g] [a0, a1, a2, a3, a4, a5] [s0, s1, s2, s3, s4, s5, s6, s7, s8, s9, s10, s11, s12, s13, s14, s15] [m0, m1, m2, m3, m4, m5, m6, m7, m8, m9, m10, m11, m12, m13, m14, m15], 0)) := by kernel_rfl
theorem rs9_pb (a b c d e g : Int) : (evPerm Try.prog ext noC 57 (opsOf (hdC (thenC (tlC (hdC rb3))))).toList (opsOf (hdC (thenC (tlC (hdC rb3))))).toList.length (List.replicate (opsOf (hdC (thenC (tlC (hdC rb3))))).toList.length false) ⟨(19, .bool true) :: [(1, ptI 0), (2, ptI 1), (3, ptI 2), (4, ptI 3), (6, ptI 4), (7, ptI 5), (8, ptI 6)], rcH9 [a, b, c, d, e, g] [0, 0, 0, 0, 0, 0] (List.replicate 16 0) (List.replicate 16 0), 0⟩).map (fun L => L.map fun s => (pick s.F [2, 3, 4, 5], s.H, s.lo)) =
  some (List.replicate 15 (rsEF false, rsEH [a, b, c, d, e, g] [0, 0, 0, 0, 0, 0] (List.replicate 16 0) (List.replicate 16 0), 0)) := by kernel_rfl
theorem rs9_pd : (isDraw (hdC rb5) && (opsOf (hdC rb5)).toList.all noSel) = true := by kernel_rfl
theorem rs9_pe : (isDraw (hdC (thenC (tlC (hdC rb3)))) && (opsOf (hdC (thenC (tlC (hdC rb3))))).toList.all noSel) = true := by kernel_rfl
theorem rs9_ret : tlC rb5 = .ret := by kernel_rfl
theorem rs9_ret2 : tlC (thenC (tlC (hdC rb3))) = .ret := by kernel_rfl
theorem rs9_test : testC (tlC (hdC rb3)) = some (.tmp 19) := by kernel_rfl
theorem rs9_b0 (a b c d e g : Int) : evL Try.prog ext noPre noC noLoops 300 57 (hdC (hdC rb3)) [(1, ptI 0), (2, ptI 1), (3, ptI 2), (4, ptI 3), (6, ptI 4), (7, ptI 5), (8, ptI 6), (9, .int .i64 1)] (rcH9 [a, b, c, d, e, g] [0, 0, 0, 0, 0, 0] (List.replicate 16 0) (List.replicate 16 0)) 0 [] [19, 1, 2, 3, 4, 6, 7, 8] = some (.normal, (19, .bool true) :: [(1, ptI 0), (2, ptI 1), (3, ptI 2), (4, ptI 3), (6, ptI 4), (7, ptI 5), (8, ptI 6)], rcH9 [a, b, c, d, e, g] [0, 0, 0, 0, 0, 0] (List.replicate 16 0) (List.replicate 16 0), 0, []) := by kernel_rfl
theorem rs9_res (bb : Bool) (a b c d e g a0 a1 a2 a3 a4 a5 s0 s1 s2 s3 s4 s5 s6 s7 s8 s9 s10 s11 s12 s13 s14 s15 m0 m1 m2 m3 m4 m5 m6 m7 m8 m9 m10 m11 m12 m13 m14 m15 : Int) : (match Try.prog.funcs[130]? with | some fn => evResults Try.prog fn (rsEF bb) (rsEH [a, b, c, d, e, g] [a0, a1, a2, a3, a4, a5] [s0, s1, s2, s3, s4, s5, s6, s7, s8, s9, s10, s11, s12, s13, s14, s15] [m0, m1, m2, m3, m4, m5, m6, m7, m8, m9, m10, m11, m12, m13, m14, m15]) | none => none) = some (.tuple #[.agg (ints [s0, s1, s2, s3, s4, s5, s6, s7, s8, s9, s10, s11, s12, s13, s14, s15]).toArray, .agg (ints [m0, m1, m2, m3, m4, m5, m6, m7, m8, m9, m10, m11, m12, m13, m14, m15]).toArray, .agg (ints [a0, a1, a2, a3, a4, a5]).toArray, .bool bb]) := by kernel_rfl
theorem rs9_hf : (match Try.prog.funcs[130]? with | some fn => fn.body.isSome | none => false) = true := by kernel_rfl
theorem rs9_nt : ntOf Try.prog 130 1 = 57 := by kernel_rfl
theorem noCc_plain : Sound Try.prog noC := fun f args H v H' l h => by simp [noC] at h
theorem WP.ret_is {c : Code} (hc : c = .ret) (hk : codeOk c = true) (s : St) : WP Try.prog 57 c s .ret s := by
  subst hc
  obtain ⟨F, H, lo⟩ := s
  exact WPr.weaken (evCodeL_WP (N := 1) (L := noLoops) progOk extSound noC_sound .ret hk none (.inl ⟨rfl, noLoops_ok⟩) ⟨⟨F, H, lo⟩, [], []⟩ .ret ⟨⟨F, H, lo⟩, [], []⟩ rfl (by simp [Holds])).1 (Sub.refl _) (Sub.refl _)
theorem zer_get (k : Nat) : zer6.getD k 0 = 0 := by
  match k with
  | 0 | 1 | 2 | 3 | 4 | 5 => rfl
  | k + 6 => simp [zer6]
theorem rO_zero (l : List Int) : rO l zer6 16 = (List.replicate 16 0) ∧ rM zer6 16 = (List.replicate 16 0) := by
  refine ⟨?_, ?_⟩
  · unfold rO
    rw [List.map_congr_left (g := fun _ => (0 : Int)) fun i hi => by rw [zer_get, stZ_0]; split <;> rfl]
    rfl
  · unfold rM
    rw [List.map_congr_left (g := fun _ => (0 : Int)) fun i hi => by rw [zer_get, moZ_0]; split <;> rfl]
    rfl
theorem rsteps_ok (l : List Int) (hl : l.length = 6) : CallOk Try.prog 130 [.agg (ints l).toArray] [] (.tuple #[.agg (ints (rO l (shl l 120) 16)).toArray, .agg (ints (rM (shl l 120) 16)).toArray, .agg (ints (shl l 120)).toArray, .bool (okL l)]) [] 0 := by
  have hsh := share_c 81 (.inr rfl) l 120 hl
  unfold tup6 at hsh
  rw [L6_eq (shl_len l 120)] at hsh
  have hok := shl_ok hl (b := 120) (by omega)
  by_cases h : okL l = true
  · have he : she l 120 = 0 := by unfold she; rw [if_pos ⟨h, by omega⟩]
    rw [he] at hsh
    rw [h]
    have hlen := shl_len l 120
    generalize shl l 120 = A at hsh hlen hok
    obtain ⟨a, b, c, d, e, g, rfl⟩ := six_ex l hl
    obtain ⟨a0, a1, a2, a3, a4, a5, rfl⟩ := six_ex A hlen
    have hS : (rO [a, b, c, d, e, g] [a0, a1, a2, a3, a4, a5] 16).length = 16 := by simp [rO]
    have hM : (rM [a0, a1, a2, a3, a4, a5] 16).length = 16 := by simp [rM]
    have q := rb_seq
    have k := rb_ok
    simp only [Bool.and_eq_true] at q k
    obtain ⟨⟨⟨⟨⟨⟨⟨q0, q1⟩, q2⟩, q3⟩, q4⟩, q5⟩, q6⟩, q7⟩ := q
    obtain ⟨⟨⟨⟨⟨⟨⟨k0, k1⟩, k2⟩, k3⟩, k4⟩, k5⟩, k6⟩, k7⟩ := k
    have w0 := WP.run (nt := 57) progOk extSound noC_sound k0 noLoops_ok _ (rs9_r0 a b c d e g) (by simp [Holds])
    have w1 := WP.run (nt := 57) progOk extSound noC_sound k1 noLoops_ok _ (rs9_r1 a b c d e g) (by simp [Holds])
    have w2 := WP.run (nt := 57) progOk extSound (s2_sound _ _) k2 noLoops_ok _ (rs9_r2 a b c d e g a0 a1 a2 a3 a4 a5 0) (by simp only [Holds, List.mem_singleton, forall_eq]; exact tell_ok rfl hsh)
    have w3 := WP.run (nt := 57) progOk extSound noC_sound k3 noLoops_ok _ (rs9_r3 a b c d e g a0 a1 a2 a3 a4 a5) (by simp [Holds])
    have w4 := WP.run (nt := 57) progOk extSound noC_sound k4 (LoopsOk.sum rfl fun b hb hi => by
      rw [show loopsOf (hdC rb4) = [loopAt Try.prog 130 0] by kernel_rfl] at hb
      simp only [List.mem_singleton] at hb
      subst hb
      exact rs9_loop a b c d e g a0 a1 a2 a3 a4 a5 (fun i hi => (hok.2 i hi).1)) _ (rs9_r4 a b c d e g a0 a1 a2 a3 a4 a5) (by simp only [Holds, List.mem_cons, List.not_mem_nil, or_false, forall_eq_or_imp, forall_eq]; exact ⟨cdec_iff.2 trivial, cdec_iff.2 trivial, cdec_iff.2 trivial⟩)
    revert w4
    generalize rO [a, b, c, d, e, g] [a0, a1, a2, a3, a4, a5] 16 = S at hS ⊢
    generalize rM [a0, a1, a2, a3, a4, a5] 16 = M at hM ⊢
    intro w4
    obtain ⟨s0, s1, s2, s3, s4, s5, s6, s7, s8, s9, s10, s11, s12, s13, s14, s15, rfl⟩ := six_len16 S hS
    obtain ⟨m0, m1, m2, m3, m4, m5, m6, m7, m8, m9, m10, m11, m12, m13, m14, m15, rfl⟩ := six_len16 M hM
    have w5 := WP.perm (nt := 57) progOk extSound noCc_plain rs9_pd _ _ (rs9_pm a b c d e g a0 a1 a2 a3 a4 a5 s0 s1 s2 s3 s4 s5 s6 s7 s8 s9 s10 s11 s12 s13 s14 s15 m0 m1 m2 m3 m4 m5 m6 m7 m8 m9 m10 m11 m12 m13 m14 m15) (Nat.le_refl _)
    have wb : WP Try.prog 57 rb0 ⟨Den.start 0 [.agg (ints [a, b, c, d, e, g]).toArray], [], 0⟩ .ret ⟨rsEF true, rsEH [a, b, c, d, e, g] [a0, a1, a2, a3, a4, a5] [s0, s1, s2, s3, s4, s5, s6, s7, s8, s9, s10, s11, s12, s13, s14, s15] [m0, m1, m2, m3, m4, m5, m6, m7, m8, m9, m10, m11, m12, m13, m14, m15], 0⟩ :=
      WP.cut q0 w0 (WP.cut q1 w1 (WP.cut q2 w2 (WP.cut q3 w3 (WP.cut q4 w4 (WP.cut q5 w5 (WP.ret_is rs9_ret k5 _))))))
    exact CallOk.drop (CallOk.walk rs9_hf (n := 1) rfl (by rw [rs9_nt]; exact wb) (.inr rfl) (rs9_res true a b c d e g a0 a1 a2 a3 a4 a5 s0 s1 s2 s3 s4 s5 s6 s7 s8 s9 s10 s11 s12 s13 s14 s15 m0 m1 m2 m3 m4 m5 m6 m7 m8 m9 m10 m11 m12 m13 m14 m15)) rfl
  · have he : she l 120 = 1 := by unfold she; rw [if_neg (fun hh => h hh.1)]
    have hs : shl l 120 = zer6 := by unfold shl; rw [if_neg (fun hh => h hh.1)]
    rw [he, hs] at hsh
    rw [hs, (rO_zero l).1, (rO_zero l).2, show okL l = false by simpa using h]
    obtain ⟨a, b, c, d, e, g, rfl⟩ := six_ex l hl
    have q := rb_seq
    have k := rb_ok
    simp only [Bool.and_eq_true] at q k
    obtain ⟨⟨⟨⟨⟨⟨⟨q0, q1⟩, q2⟩, q3⟩, q4⟩, q5⟩, q6⟩, q7⟩ := q
    obtain ⟨⟨⟨⟨⟨⟨⟨k0, k1⟩, k2⟩, k3⟩, k4⟩, k5⟩, k6⟩, k7⟩ := k
    have w0 := WP.run (nt := 57) progOk extSound noC_sound k0 noLoops_ok _ (rs9_r0 a b c d e g) (by simp [Holds])
    have w1 := WP.run (nt := 57) progOk extSound noC_sound k1 noLoops_ok _ (rs9_r1 a b c d e g) (by simp [Holds])
    have w2 := WP.run (nt := 57) progOk extSound (s2_sound _ _) k2 noLoops_ok _ (rs9_r2 a b c d e g 0 0 0 0 0 0 1) (by simp only [Holds, List.mem_singleton, forall_eq]; exact tell_ok rfl hsh)
    have w3 := WP.run (nt := 57) progOk extSound noC_sound k6 noLoops_ok _ (rs9_b0 a b c d e g) (by simp [Holds])
    have w5 := WP.perm (nt := 57) progOk extSound noCc_plain rs9_pe _ _ (rs9_pb a b c d e g) (Nat.le_refl _)
    have wb : WP Try.prog 57 rb0 ⟨Den.start 0 [.agg (ints [a, b, c, d, e, g]).toArray], [], 0⟩ .ret ⟨rsEF false, rsEH [a, b, c, d, e, g] [0, 0, 0, 0, 0, 0] (List.replicate 16 0) (List.replicate 16 0), 0⟩ :=
      WP.cut q0 w0 (WP.cut q1 w1 (WP.cut q2 w2 (WP.cut_out q3 (by simp) (WP.cut q6 w3 (WP.cond_true rs9_test rfl (WP.cut q7 w5 (WP.ret_is rs9_ret2 k7 _)))))))
    exact CallOk.drop (CallOk.walk rs9_hf (n := 1) rfl (by rw [rs9_nt]; exact wb) (.inr rfl) (rs9_res false a b c d e g 0 0 0 0 0 0 0 0 0 0 0 0 0 0 0 0 0 0 0 0 0 0 0 0 0 0 0 0 0 0 0 0 0 0 0 0 0 0)) rfl
end Go.Proofs.Ytfbjpenbpbpcaaa

