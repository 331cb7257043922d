/-
  Chapter 07: the law LappedSilence as a call.
-/
import Derived.Test.YtfbjpenbpbpcaaaLa8
import Derived.Test.YtfbjpenbpbpcaaaPm3
namespace Go.Proofs.Ytfbjpenbpbpcaaa
open Go Den
set_option maxRecDepth 100000
set_option linter.unusedSimpArgs false
set_option linter.unusedVariables false

noncomputable def sc0 : Code := bodyOf Try.prog 24
noncomputable def sc1 : Code := tlC sc0
noncomputable def sc2 : Code := tlC sc1
noncomputable def sc3 : Code := tlC sc2
noncomputable def sc4 : Code := tlC sc3
noncomputable def sc5 : Code := tlC sc4
theorem sc_seq : (isSeq sc0 && isSeq sc1 && isSeq sc2 && isSeq sc3 && isSeq sc4) = true := by kernel_rfl
theorem sc_ok : (codeOk (hdC sc0) && codeOk (hdC sc1) && codeOk (hdC sc2) && codeOk (hdC sc3) && codeOk sc5) = true := by kernel_rfl
theorem sc_pd : (isDraw (hdC sc4) && (opsOf (hdC sc4)).toList.all noSel) = true := by kernel_rfl
theorem sc_hf : (match Try.prog.funcs[24]? with | some fn => fn.body.isSome | none => false) = true := by kernel_rfl
theorem sc_nt : ntOf Try.prog 24 2 = 98 := by kernel_rfl
theorem sc_res (b : Bool) (H : Heap) : (match Try.prog.funcs[24]? with | some fn => evResults Try.prog fn [(4, .bool b)] H | none => none) = some (.bool b) := by kernel_rfl

/-- What the law leans on. -/
def scT (may : Bool) (k : Nat) (PL : List Int) : Tale := fun f args H => match f with
  | 65 => some (.bool true, H, H.length)
  | 91 => some (.bool may, H, H.length)
  | 88 => some (.tuple #[.slice (some ⟨H.length, 0, none⟩) (k + 1) 0, .agg (ints zr16).toArray, .int .i64 0], H ++ [⟨true, some 16, ints PL⟩], H.length)
  | _ => none
theorem sc_sound (may : Bool) (k : Nat) (PL : List Int) (l : List (Nat × Int)) : Sound Try.prog (strict (nmPre (tellHPre (scT may k PL) noPre)) (nbC l [] (tellH (scT may k PL) noC))) := nb_sound _ _ (tellH_sound _ noC_sound)
theorem sc_soundF (may : Bool) (k : Nat) (PL : List Int) : Sound Try.prog (strict (framePre (tellHPre (scT may k PL) noPre)) (frameC (tellH (scT may k PL) noC))) := frame_sound (tellH_sound _ noC_sound)
theorem sc_sound0 (may : Bool) (k : Nat) (PL : List Int) : Sound Try.prog (strict (tellHPre (scT may k PL) noPre) (tellH (scT may k PL) noC)) := tellH_sound _ noC_sound

section
variable (g0 pf : Nat → Int)
theorem sc_r0 (many : Int) : evL Try.prog ext noPre noC noLoops 300 98 (hdC sc0) (Den.start 0 [.agg (ints (T16 g0)).toArray, .int .i64 many]) [] 0 [] [1, 2] = some (.normal, [(1, .int .i64 many), (2, lpt 0)], [lbk (T16 g0)], 0, []) := by kernel_rfl
theorem sc_r1 (may : Bool) (many : Int) : evL Try.prog ext (tellHPre (scT may 0 []) noPre) (tellH (scT may 0 []) noC) noLoops 300 98 (hdC sc1) [(1, .int .i64 many), (2, lpt 0)] [lbk (T16 g0)] 0 [(0, true)] [1, 2, 5] = some (.normal, [(1, .int .i64 many), (2, lpt 0), (5, .bool true)], [lbk (T16 g0)], 0, [(tellHPre (scT may 0 []) noPre 65 [] [], true)]) := by kernel_rfl
theorem sc_r2f (many : Int) : evL Try.prog ext (tellHPre (scT false 0 []) noPre) (tellH (scT false 0 []) noC) noLoops 300 98 (hdC sc2) [(1, .int .i64 many), (2, lpt 0), (5, .bool true)] [lbk (T16 g0)] 0 [(0, true)] [4] = some (.ret, [(4, .bool true)], [lbk (T16 g0)], 0, [(tellHPre (scT false 0 []) noPre 91 [.agg (ints (T16 g0)).toArray] [], true)]) := by kernel_rfl
theorem sc_r2t (many : Int) : evL Try.prog ext (tellHPre (scT true 0 []) noPre) (tellH (scT true 0 []) noC) noLoops 300 98 (hdC sc2) [(1, .int .i64 many), (2, lpt 0), (5, .bool true)] [lbk (T16 g0)] 0 [(0, true)] [1, 2, 5] = some (.normal, [(1, .int .i64 many), (2, lpt 0), (5, .bool true)], [lbk (T16 g0)], 0, [(tellHPre (scT true 0 []) noPre 91 [.agg (ints (T16 g0)).toArray] [], true)]) := by kernel_rfl

/-! ### The inner loop, at the first frame -/
def siF (m j : Nat) : Slots := [(2, lpt 0), (9, .int .i64 0), (58, .agg (ints (T16 pf)).toArray), (59, .int .i64 j), (5, .bool true), (44, .slice (some ⟨2, 0, none⟩) m 0), (45, .int .i64 m), (46, .int .i64 0)]
def siG (m : Nat) : Slots := [(2, lpt 0), (5, .bool true), (44, .slice (some ⟨2, 0, none⟩) m 0), (45, .int .i64 m), (46, .int .i64 0)]
variable (m : Nat) (Z O Y P : Blk)
theorem si_a : (List.range' 0 16).map (fun (j : Nat) => evL Try.prog ext (nmPre noPre) (nbC [] [(69, false)] noC) noLoops 300 98 (loopAt Try.prog 24 1) (siF pf m j) [lbk (T16 g0), Z, O, Y, P] 0 [] [2, 9, 58, 59, 5, 44, 45, 46]) =
  (List.range' 0 16).map fun (j : Nat) => some (.normal, siF pf m (j + 1), [lbk (T16 g0), Z, O, Y, P], 0, [(decide (g0 j > -4194304), false)]) := by kernel_rfl
theorem si_b : (List.range' 0 16).map (fun (j : Nat) => evL Try.prog ext (nmPre noPre) (nbC [] [(69, true), (75, false)] noC) noLoops 300 98 (loopAt Try.prog 24 1) (siF pf m j) [lbk (T16 g0), Z, O, Y, P] 0 [] [2, 9, 58, 59, 5, 44, 45, 46]) =
  (List.range' 0 16).map fun (j : Nat) => some (.normal, siF pf m (j + 1), [lbk (T16 g0), Z, O, Y, P], 0, [(decide (g0 j < 4194304), false), (decide (g0 j > -4194304), true)]) := by kernel_rfl
theorem si_c : (List.range' 0 16).map (fun (j : Nat) => evL Try.prog ext (nmPre noPre) (nbC [] [(69, true), (75, true), (84, false), (92, false)] noC) noLoops 300 98 (loopAt Try.prog 24 1) (siF pf m j) [lbk (T16 g0), Z, O, Y, P] 0 [] [2, 9, 58, 59, 5, 44, 45, 46]) =
  (List.range' 0 16).map fun (j : Nat) => some (.normal, siF pf m (j + 1), [lbk (T16 g0), Z, O, Y, P], 0, [(decide (IntKind.wrap IntKind.i64 (g0 j - IntKind.wrap IntKind.i64 (256 * pf j)) > 128), false), (decide (IntKind.wrap IntKind.i64 (IntKind.wrap IntKind.i64 (256 * pf j) - g0 j) > 128), false), (decide (g0 j < 4194304), true), (decide (g0 j > -4194304), true)]) := by kernel_rfl
theorem si_e : evL Try.prog ext noPre noC noLoops 300 98 (loopAt Try.prog 24 1) (siF pf m 16) [lbk (T16 g0), Z, O, Y, P] 0 [] [2, 5, 44, 45, 46] = some (.exit 2, siG m, [lbk (T16 g0), Z, O, Y, P], 0, []) := by kernel_rfl
theorem codeOk24b : codeOk (loopAt Try.prog 24 1) = true := by kernel_rfl

theorem si_loop (h : ∀ j, j < 16 → -4194304 < g0 j → g0 j < 4194304 → -128 ≤ 256 * pf j - g0 j ∧ 256 * pf j - g0 j ≤ 128) :
    WP Try.prog 98 (.loop (loopAt Try.prog 24 1)) ⟨siF pf m 0, [lbk (T16 g0), Z, O, Y, P], 0⟩ (.exit 2) ⟨siG m, [lbk (T16 g0), Z, O, Y, P], 0⟩ := by
  refine WP.loop (fun j => ⟨siF pf m j, [lbk (T16 g0), Z, O, Y, P], 0⟩) 16 (by simp) (fun j hj => ?_) (WP.run (nt := 98) progOk extSound noC_sound codeOk24b noLoops_ok _ (si_e g0 pf m Z O Y P) (by simp [Holds]))
  by_cases h1 : -4194304 < g0 j
  · by_cases h2 : g0 j < 4194304
    · obtain ⟨h3, h4⟩ := h j hj h1 h2
      refine WP.run (nt := 98) progOk extSound (nb_sound _ _ noC_sound) codeOk24b noLoops_ok _ (of_list (si_c g0 pf m Z O Y P) (by omega) (by omega)) ?_
      have e1 : IntKind.wrap IntKind.i64 (256 * pf j) = 256 * pf j := wrap_in (inI_iff.2 (by omega))
      have e2 : IntKind.wrap IntKind.i64 (256 * pf j - g0 j) = 256 * pf j - g0 j := wrap_in (inI_iff.2 (by omega))
      have e3 : IntKind.wrap IntKind.i64 (g0 j - 256 * pf j) = g0 j - 256 * pf j := wrap_in (inI_iff.2 (by omega))
      rw [e1, e2, e3]
      simp [Holds]
      omega
    · refine WP.run (nt := 98) progOk extSound (nb_sound _ _ noC_sound) codeOk24b noLoops_ok _ (of_list (si_b g0 pf m Z O Y P) (by omega) (by omega)) ?_
      simp [Holds]
      omega
  · refine WP.run (nt := 98) progOk extSound (nb_sound _ _ noC_sound) codeOk24b noLoops_ok _ (of_list (si_a g0 pf m Z O Y P) (by omega) (by omega)) ?_
    simp [Holds]
    omega

noncomputable def siN : Loops := { loop := fun id s => match Nat.beq id 14, at? 9 s.F with
  | true, some (.int _ z) => match decide (z = 0) with
    | true => sumL 14 ⟨siF pf m 0, [lbk (T16 g0), Z, O, Y, P], 0⟩ (.exit 2) ⟨siG m, [lbk (T16 g0), Z, O, Y, P], 0⟩ id s
    | false => none
  | _, _ => none }
theorem sc_loops : loopsOf sc5 = [loopAt Try.prog 24 0, loopAt Try.prog 24 1] := by kernel_rfl
theorem sc_ranges : rangesOf sc5 = [] := by kernel_rfl
theorem sc_first0 : firstId (loopAt Try.prog 24 0) = 9 := by kernel_rfl
theorem siN_ok (h : ∀ j, j < 16 → -4194304 < g0 j → g0 j < 4194304 → -128 ≤ 256 * pf j - g0 j ∧ 256 * pf j - g0 j ≤ 128) : LoopsOk Try.prog 98 (siN g0 pf m Z O Y P) sc5 := by
  refine .flat sc_ranges fun b hb s x s' o hs ho => ?_
  simp only [siN] at hs
  split at hs
  · rename_i z hid _
    split at hs
    · rw [sc_loops] at hb
      simp only [List.mem_cons, List.not_mem_nil, or_false] at hb
      rcases hb with rfl | rfl
      · rw [sc_first0] at hid; simp at hid
      · exact sumL_ok (si_loop g0 pf m Z O Y P h) hs ho
    · simp at hs
  · simp at hs
end

theorem told91 {may : Bool} {k : Nat} {PL : List Int} {g0 : Nat → Int} (h : inT (T16 g0) = may) : tellHPre (scT may k PL) noPre 91 [.agg (ints (T16 g0)).toArray] [] = true := by
  have hk := mst_ok (T16 g0) (T16_len g0)
  rw [bif_bool] at hk
  have e : (T16 g0).all (fun x => inB 1099511627776 x) = may := h
  rw [e] at hk
  exact tellH_ok rfl hk

def zl (k : Nat) : List Int := List.replicate (k * 16) 0
section
variable (g0 pf : Nat → Int)

theorem sc_r4_1 (many : Int) : evL Try.prog ext (nmPre (tellHPre (scT true 0 []) noPre)) (nbC [(22, 1)] [] (tellH (scT true 0 []) noC)) noLoops 300 98 (hdC sc3) [(1, .int .i64 many), (2, lpt 0), (5, .bool true)] [lbk (T16 g0)] 0 [] [1, 2, 5] =
  some (.normal, [(1, .int .i64 1), (2, lpt 0), (5, .bool true)], [lbk (T16 g0)], 0, [(decide (IntKind.wrap IntKind.i64 (1 + Int.tmod (IntKind.wrap IntKind.i64 (Int.tmod many 5 + 5)) 5) = 1), true)]) := by kernel_rfl
theorem sc_r5_1 : (evPermS Try.prog ext (framePre (tellHPre (scT true 0 (T16 pf ++ zl 0)) noPre)) (frameC (tellH (scT true 0 (T16 pf ++ zl 0)) noC)) 98 (opsOf (hdC sc4)).toList (opsOf (hdC sc4)).toList.length (List.replicate (opsOf (hdC sc4)).toList.length false) ⟨⟨[(1, .int .i64 1), (2, lpt 0), (5, .bool true)], [lbk (T16 g0)], 0⟩, [(0, true)], []⟩).map (fun L => L.map fun t => (gcS 1 [26, 6, 7] [2, 5, 1, 6, 7, 8] t.s, t.ob)) =
  some (List.replicate 369 (some ([(2, lpt 0), (5, .bool true), (1, .int .i64 1), (6, .slice (some ⟨2, 0, none⟩) 1 0), (7, lpt 3), (8, .int .i64 0)], [lbk (T16 g0), ⟨true, none, ints (zl 1)⟩, ⟨true, some 16, ints (T16 pf ++ zl 0)⟩, lbk zr16], 0), [(tellHPre (scT true 0 (T16 pf ++ zl 0)) noPre 88 [.agg (ints (T16 g0)).toArray, .slice (some ⟨0, 0, none⟩) 1 1] [⟨true, none, ints (zl 1)⟩], true)])) := by kernel_rfl
theorem sc_r6_1 : evL Try.prog ext noPre noC (siN g0 pf 1 ⟨true, none, ints (zl 1)⟩ ⟨true, some 16, ints (T16 pf ++ zl 0)⟩ (lbk zr16) (lbk (T16 pf))) 300 98 sc5 [(2, lpt 0), (5, .bool true), (1, .int .i64 1), (6, .slice (some ⟨2, 0, none⟩) 1 0), (7, lpt 3), (8, .int .i64 0)] [lbk (T16 g0), ⟨true, none, ints (zl 1)⟩, ⟨true, some 16, ints (T16 pf ++ zl 0)⟩, lbk zr16] 0 [] [4] =
  some (.ret, [(4, .bool true)], [lbk (T16 g0), ⟨true, none, ints (zl 1)⟩, ⟨true, some 16, ints (T16 pf ++ zl 0)⟩, lbk zr16] ++ (lbk (T16 pf) :: List.replicate 0 (lbk zr16)), 0, [(cdec (siF pf 1 0 = siF pf 1 0), true), (cdec (([lbk (T16 g0), ⟨true, none, ints (zl 1)⟩, ⟨true, some 16, ints (T16 pf ++ zl 0)⟩, lbk zr16, lbk (T16 pf)] : Heap) = [lbk (T16 g0), ⟨true, none, ints (zl 1)⟩, ⟨true, some 16, ints (T16 pf ++ zl 0)⟩, lbk zr16, lbk (T16 pf)]), true), (cdec (0 = 0), true)]) := by kernel_rfl
theorem sil_1 (many : Int) (hin : inT (T16 g0) = true) (hm : IntKind.wrap IntKind.i64 (1 + Int.tmod (IntKind.wrap IntKind.i64 (Int.tmod many 5 + 5)) 5) = 1) (h : ∀ j, j < 16 → -4194304 < g0 j → g0 j < 4194304 → -128 ≤ 256 * pf j - g0 j ∧ 256 * pf j - g0 j ≤ 128)
    (hb : CallOk Try.prog 88 [.agg (ints (T16 g0)).toArray, .slice (some ⟨0, 0, none⟩) 1 1] [⟨true, none, ints (zl 1)⟩] (.tuple #[.slice (some ⟨1, 0, none⟩) 1 0, .agg (ints zr16).toArray, .int .i64 0]) [⟨true, none, ints (zl 1)⟩, ⟨true, some 16, ints (T16 pf ++ zl 0)⟩] 1) :
    CallOk Try.prog 24 [.agg (ints (T16 g0)).toArray, .int .i64 many] [] (.bool true) [] 0 := by
  have q := sc_seq
  have k := sc_ok
  simp only [Bool.and_eq_true] at q k
  obtain ⟨⟨⟨⟨q0, q1⟩, q2⟩, q3⟩, q4⟩ := q
  obtain ⟨⟨⟨⟨k0, k1⟩, k2⟩, k3⟩, k5⟩ := k
  have u0 := WP.run (nt := 98) progOk extSound noC_sound k0 noLoops_ok _ (sc_r0 g0 many) (by simp [Holds])
  have u1 := WP.run (nt := 98) progOk extSound (sc_sound0 true 0 []) k1 noLoops_ok _ (sc_r1 g0 true many) (by rw [tellH_ok rfl live7_ok]; simp [Holds])
  have u2 := WP.run (nt := 98) progOk extSound (sc_sound0 true 0 []) k2 noLoops_ok _ (sc_r2t g0 many) (by rw [told91 hin]; simp [Holds])
  have u3 := WP.run (nt := 98) progOk extSound (sc_sound true 0 [] _) k3 noLoops_ok _ (sc_r4_1 g0 many) (by simp [Holds, hm])
  have u4 := WP.permG (nt := 98) progOk extSound (sc_soundF true 0 (T16 pf ++ zl 0)) sc_pd _ _ _ _ (sc_r5_1 g0 pf) (by rw [tellH_ok rfl hb]; simp [Holds]) (Nat.le_refl _)
  have u5 := WP.run (nt := 98) progOk extSound noC_sound k5 (siN_ok g0 pf 1 _ _ _ _ h) _ (sc_r6_1 g0 pf) (by simp only [Holds, List.mem_cons, List.not_mem_nil, or_false, forall_eq_or_imp, forall_eq]; exact ⟨cdec_iff.2 trivial, cdec_iff.2 trivial, cdec_iff.2 trivial⟩)
  exact CallOk.drop (CallOk.walk sc_hf (n := 2) rfl (by rw [sc_nt]; exact WP.cut q0 u0 (WP.cut q1 u1 (WP.cut q2 u2 (WP.cut q3 u3 (WP.cut q4 u4 u5))))) (.inr rfl) (sc_res true _)) rfl

theorem sc_r4_2 (many : Int) : evL Try.prog ext (nmPre (tellHPre (scT true 0 []) noPre)) (nbC [(22, 2)] [] (tellH (scT true 0 []) noC)) noLoops 300 98 (hdC sc3) [(1, .int .i64 many), (2, lpt 0), (5, .bool true)] [lbk (T16 g0)] 0 [] [1, 2, 5] =
  some (.normal, [(1, .int .i64 2), (2, lpt 0), (5, .bool true)], [lbk (T16 g0)], 0, [(decide (IntKind.wrap IntKind.i64 (1 + Int.tmod (IntKind.wrap IntKind.i64 (Int.tmod many 5 + 5)) 5) = 2), true)]) := by kernel_rfl
theorem sc_r5_2 : (evPermS Try.prog ext (framePre (tellHPre (scT true 1 (T16 pf ++ zl 1)) noPre)) (frameC (tellH (scT true 1 (T16 pf ++ zl 1)) noC)) 98 (opsOf (hdC sc4)).toList (opsOf (hdC sc4)).toList.length (List.replicate (opsOf (hdC sc4)).toList.length false) ⟨⟨[(1, .int .i64 2), (2, lpt 0), (5, .bool true)], [lbk (T16 g0)], 0⟩, [(0, true)], []⟩).map (fun L => L.map fun t => (gcS 1 [26, 6, 7] [2, 5, 1, 6, 7, 8] t.s, t.ob)) =
  some (List.replicate 369 (some ([(2, lpt 0), (5, .bool true), (1, .int .i64 2), (6, .slice (some ⟨2, 0, none⟩) 2 0), (7, lpt 3), (8, .int .i64 0)], [lbk (T16 g0), ⟨true, none, ints (zl 2)⟩, ⟨true, some 16, ints (T16 pf ++ zl 1)⟩, lbk zr16], 0), [(tellHPre (scT true 1 (T16 pf ++ zl 1)) noPre 88 [.agg (ints (T16 g0)).toArray, .slice (some ⟨0, 0, none⟩) 2 2] [⟨true, none, ints (zl 2)⟩], true)])) := by kernel_rfl
theorem sc_r6_2 : evL Try.prog ext noPre noC (siN g0 pf 2 ⟨true, none, ints (zl 2)⟩ ⟨true, some 16, ints (T16 pf ++ zl 1)⟩ (lbk zr16) (lbk (T16 pf))) 300 98 sc5 [(2, lpt 0), (5, .bool true), (1, .int .i64 2), (6, .slice (some ⟨2, 0, none⟩) 2 0), (7, lpt 3), (8, .int .i64 0)] [lbk (T16 g0), ⟨true, none, ints (zl 2)⟩, ⟨true, some 16, ints (T16 pf ++ zl 1)⟩, lbk zr16] 0 [] [4] =
  some (.ret, [(4, .bool true)], [lbk (T16 g0), ⟨true, none, ints (zl 2)⟩, ⟨true, some 16, ints (T16 pf ++ zl 1)⟩, lbk zr16] ++ (lbk (T16 pf) :: List.replicate 1 (lbk zr16)), 0, [(cdec (siF pf 2 0 = siF pf 2 0), true), (cdec (([lbk (T16 g0), ⟨true, none, ints (zl 2)⟩, ⟨true, some 16, ints (T16 pf ++ zl 1)⟩, lbk zr16, lbk (T16 pf)] : Heap) = [lbk (T16 g0), ⟨true, none, ints (zl 2)⟩, ⟨true, some 16, ints (T16 pf ++ zl 1)⟩, lbk zr16, lbk (T16 pf)]), true), (cdec (0 = 0), true)]) := by kernel_rfl
theorem sil_2 (many : Int) (hin : inT (T16 g0) = true) (hm : IntKind.wrap IntKind.i64 (1 + Int.tmod (IntKind.wrap IntKind.i64 (Int.tmod many 5 + 5)) 5) = 2) (h : ∀ j, j < 16 → -4194304 < g0 j → g0 j < 4194304 → -128 ≤ 256 * pf j - g0 j ∧ 256 * pf j - g0 j ≤ 128)
    (hb : CallOk Try.prog 88 [.agg (ints (T16 g0)).toArray, .slice (some ⟨0, 0, none⟩) 2 2] [⟨true, none, ints (zl 2)⟩] (.tuple #[.slice (some ⟨1, 0, none⟩) 2 0, .agg (ints zr16).toArray, .int .i64 0]) [⟨true, none, ints (zl 2)⟩, ⟨true, some 16, ints (T16 pf ++ zl 1)⟩] 1) :
    CallOk Try.prog 24 [.agg (ints (T16 g0)).toArray, .int .i64 many] [] (.bool true) [] 0 := by
  have q := sc_seq
  have k := sc_ok
  simp only [Bool.and_eq_true] at q k
  obtain ⟨⟨⟨⟨q0, q1⟩, q2⟩, q3⟩, q4⟩ := q
  obtain ⟨⟨⟨⟨k0, k1⟩, k2⟩, k3⟩, k5⟩ := k
  have u0 := WP.run (nt := 98) progOk extSound noC_sound k0 noLoops_ok _ (sc_r0 g0 many) (by simp [Holds])
  have u1 := WP.run (nt := 98) progOk extSound (sc_sound0 true 0 []) k1 noLoops_ok _ (sc_r1 g0 true many) (by rw [tellH_ok rfl live7_ok]; simp [Holds])
  have u2 := WP.run (nt := 98) progOk extSound (sc_sound0 true 0 []) k2 noLoops_ok _ (sc_r2t g0 many) (by rw [told91 hin]; simp [Holds])
  have u3 := WP.run (nt := 98) progOk extSound (sc_sound true 0 [] _) k3 noLoops_ok _ (sc_r4_2 g0 many) (by simp [Holds, hm])
  have u4 := WP.permG (nt := 98) progOk extSound (sc_soundF true 1 (T16 pf ++ zl 1)) sc_pd _ _ _ _ (sc_r5_2 g0 pf) (by rw [tellH_ok rfl hb]; simp [Holds]) (Nat.le_refl _)
  have u5 := WP.run (nt := 98) progOk extSound noC_sound k5 (siN_ok g0 pf 2 _ _ _ _ h) _ (sc_r6_2 g0 pf) (by simp only [Holds, List.mem_cons, List.not_mem_nil, or_false, forall_eq_or_imp, forall_eq]; exact ⟨cdec_iff.2 trivial, cdec_iff.2 trivial, cdec_iff.2 trivial⟩)
  exact CallOk.drop (CallOk.walk sc_hf (n := 2) rfl (by rw [sc_nt]; exact WP.cut q0 u0 (WP.cut q1 u1 (WP.cut q2 u2 (WP.cut q3 u3 (WP.cut q4 u4 u5))))) (.inr rfl) (sc_res true _)) rfl

theorem sc_r4_3 (many : Int) : evL Try.prog ext (nmPre (tellHPre (scT true 0 []) noPre)) (nbC [(22, 3)] [] (tellH (scT true 0 []) noC)) noLoops 300 98 (hdC sc3) [(1, .int .i64 many), (2, lpt 0), (5, .bool true)] [lbk (T16 g0)] 0 [] [1, 2, 5] =
  some (.normal, [(1, .int .i64 3), (2, lpt 0), (5, .bool true)], [lbk (T16 g0)], 0, [(decide (IntKind.wrap IntKind.i64 (1 + Int.tmod (IntKind.wrap IntKind.i64 (Int.tmod many 5 + 5)) 5) = 3), true)]) := by kernel_rfl
theorem sc_r5_3 : (evPermS Try.prog ext (framePre (tellHPre (scT true 2 (T16 pf ++ zl 2)) noPre)) (frameC (tellH (scT true 2 (T16 pf ++ zl 2)) noC)) 98 (opsOf (hdC sc4)).toList (opsOf (hdC sc4)).toList.length (List.replicate (opsOf (hdC sc4)).toList.length false) ⟨⟨[(1, .int .i64 3), (2, lpt 0), (5, .bool true)], [lbk (T16 g0)], 0⟩, [(0, true)], []⟩).map (fun L => L.map fun t => (gcS 1 [26, 6, 7] [2, 5, 1, 6, 7, 8] t.s, t.ob)) =
  some (List.replicate 369 (some ([(2, lpt 0), (5, .bool true), (1, .int .i64 3), (6, .slice (some ⟨2, 0, none⟩) 3 0), (7, lpt 3), (8, .int .i64 0)], [lbk (T16 g0), ⟨true, none, ints (zl 3)⟩, ⟨true, some 16, ints (T16 pf ++ zl 2)⟩, lbk zr16], 0), [(tellHPre (scT true 2 (T16 pf ++ zl 2)) noPre 88 [.agg (ints (T16 g0)).toArray, .slice (some ⟨0, 0, none⟩) 3 3] [⟨true, none, ints (zl 3)⟩], true)])) := by kernel_rfl
theorem sc_r6_3 : evL Try.prog ext noPre noC (siN g0 pf 3 ⟨true, none, ints (zl 3)⟩ ⟨true, some 16, ints (T16 pf ++ zl 2)⟩ (lbk zr16) (lbk (T16 pf))) 300 98 sc5 [(2, lpt 0), (5, .bool true), (1, .int .i64 3), (6, .slice (some ⟨2, 0, none⟩) 3 0), (7, lpt 3), (8, .int .i64 0)] [lbk (T16 g0), ⟨true, none, ints (zl 3)⟩, ⟨true, some 16, ints (T16 pf ++ zl 2)⟩, lbk zr16] 0 [] [4] =
  some (.ret, [(4, .bool true)], [lbk (T16 g0), ⟨true, none, ints (zl 3)⟩, ⟨true, some 16, ints (T16 pf ++ zl 2)⟩, lbk zr16] ++ (lbk (T16 pf) :: List.replicate 2 (lbk zr16)), 0, [(cdec (siF pf 3 0 = siF pf 3 0), true), (cdec (([lbk (T16 g0), ⟨true, none, ints (zl 3)⟩, ⟨true, some 16, ints (T16 pf ++ zl 2)⟩, lbk zr16, lbk (T16 pf)] : Heap) = [lbk (T16 g0), ⟨true, none, ints (zl 3)⟩, ⟨true, some 16, ints (T16 pf ++ zl 2)⟩, lbk zr16, lbk (T16 pf)]), true), (cdec (0 = 0), true)]) := by kernel_rfl
theorem sil_3 (many : Int) (hin : inT (T16 g0) = true) (hm : IntKind.wrap IntKind.i64 (1 + Int.tmod (IntKind.wrap IntKind.i64 (Int.tmod many 5 + 5)) 5) = 3) (h : ∀ j, j < 16 → -4194304 < g0 j → g0 j < 4194304 → -128 ≤ 256 * pf j - g0 j ∧ 256 * pf j - g0 j ≤ 128)
    (hb : CallOk Try.prog 88 [.agg (ints (T16 g0)).toArray, .slice (some ⟨0, 0, none⟩) 3 3] [⟨true, none, ints (zl 3)⟩] (.tuple #[.slice (some ⟨1, 0, none⟩) 3 0, .agg (ints zr16).toArray, .int .i64 0]) [⟨true, none, ints (zl 3)⟩, ⟨true, some 16, ints (T16 pf ++ zl 2)⟩] 1) :
    CallOk Try.prog 24 [.agg (ints (T16 g0)).toArray, .int .i64 many] [] (.bool true) [] 0 := by
  have q := sc_seq
  have k := sc_ok
  simp only [Bool.and_eq_true] at q k
  obtain ⟨⟨⟨⟨q0, q1⟩, q2⟩, q3⟩, q4⟩ := q
  obtain ⟨⟨⟨⟨k0, k1⟩, k2⟩, k3⟩, k5⟩ := k
  have u0 := WP.run (nt := 98) progOk extSound noC_sound k0 noLoops_ok _ (sc_r0 g0 many) (by simp [Holds])
  have u1 := WP.run (nt := 98) progOk extSound (sc_sound0 true 0 []) k1 noLoops_ok _ (sc_r1 g0 true many) (by rw [tellH_ok rfl live7_ok]; simp [Holds])
  have u2 := WP.run (nt := 98) progOk extSound (sc_sound0 true 0 []) k2 noLoops_ok _ (sc_r2t g0 many) (by rw [told91 hin]; simp [Holds])
  have u3 := WP.run (nt := 98) progOk extSound (sc_sound true 0 [] _) k3 noLoops_ok _ (sc_r4_3 g0 many) (by simp [Holds, hm])
  have u4 := WP.permG (nt := 98) progOk extSound (sc_soundF true 2 (T16 pf ++ zl 2)) sc_pd _ _ _ _ (sc_r5_3 g0 pf) (by rw [tellH_ok rfl hb]; simp [Holds]) (Nat.le_refl _)
  have u5 := WP.run (nt := 98) progOk extSound noC_sound k5 (siN_ok g0 pf 3 _ _ _ _ h) _ (sc_r6_3 g0 pf) (by simp only [Holds, List.mem_cons, List.not_mem_nil, or_false, forall_eq_or_imp, forall_eq]; exact ⟨cdec_iff.2 trivial, cdec_iff.2 trivial, cdec_iff.2 trivial⟩)
  exact CallOk.drop (CallOk.walk sc_hf (n := 2) rfl (by rw [sc_nt]; exact WP.cut q0 u0 (WP.cut q1 u1 (WP.cut q2 u2 (WP.cut q3 u3 (WP.cut q4 u4 u5))))) (.inr rfl) (sc_res true _)) rfl

theorem sc_r4_4 (many : Int) : evL Try.prog ext (nmPre (tellHPre (scT true 0 []) noPre)) (nbC [(22, 4)] [] (tellH (scT true 0 []) noC)) noLoops 300 98 (hdC sc3) [(1, .int .i64 many), (2, lpt 0), (5, .bool true)] [lbk (T16 g0)] 0 [] [1, 2, 5] =
  some (.normal, [(1, .int .i64 4), (2, lpt 0), (5, .bool true)], [lbk (T16 g0)], 0, [(decide (IntKind.wrap IntKind.i64 (1 + Int.tmod (IntKind.wrap IntKind.i64 (Int.tmod many 5 + 5)) 5) = 4), true)]) := by kernel_rfl
theorem sc_r5_4 : (evPermS Try.prog ext (framePre (tellHPre (scT true 3 (T16 pf ++ zl 3)) noPre)) (frameC (tellH (scT true 3 (T16 pf ++ zl 3)) noC)) 98 (opsOf (hdC sc4)).toList (opsOf (hdC sc4)).toList.length (List.replicate (opsOf (hdC sc4)).toList.length false) ⟨⟨[(1, .int .i64 4), (2, lpt 0), (5, .bool true)], [lbk (T16 g0)], 0⟩, [(0, true)], []⟩).map (fun L => L.map fun t => (gcS 1 [26, 6, 7] [2, 5, 1, 6, 7, 8] t.s, t.ob)) =
  some (List.replicate 369 (some ([(2, lpt 0), (5, .bool true), (1, .int .i64 4), (6, .slice (some ⟨2, 0, none⟩) 4 0), (7, lpt 3), (8, .int .i64 0)], [lbk (T16 g0), ⟨true, none, ints (zl 4)⟩, ⟨true, some 16, ints (T16 pf ++ zl 3)⟩, lbk zr16], 0), [(tellHPre (scT true 3 (T16 pf ++ zl 3)) noPre 88 [.agg (ints (T16 g0)).toArray, .slice (some ⟨0, 0, none⟩) 4 4] [⟨true, none, ints (zl 4)⟩], true)])) := by kernel_rfl
theorem sc_r6_4 : evL Try.prog ext noPre noC (siN g0 pf 4 ⟨true, none, ints (zl 4)⟩ ⟨true, some 16, ints (T16 pf ++ zl 3)⟩ (lbk zr16) (lbk (T16 pf))) 300 98 sc5 [(2, lpt 0), (5, .bool true), (1, .int .i64 4), (6, .slice (some ⟨2, 0, none⟩) 4 0), (7, lpt 3), (8, .int .i64 0)] [lbk (T16 g0), ⟨true, none, ints (zl 4)⟩, ⟨true, some 16, ints (T16 pf ++ zl 3)⟩, lbk zr16] 0 [] [4] =
  some (.ret, [(4, .bool true)], [lbk (T16 g0), ⟨true, none, ints (zl 4)⟩, ⟨true, some 16, ints (T16 pf ++ zl 3)⟩, lbk zr16] ++ (lbk (T16 pf) :: List.replicate 3 (lbk zr16)), 0, [(cdec (siF pf 4 0 = siF pf 4 0), true), (cdec (([lbk (T16 g0), ⟨true, none, ints (zl 4)⟩, ⟨true, some 16, ints (T16 pf ++ zl 3)⟩, lbk zr16, lbk (T16 pf)] : Heap) = [lbk (T16 g0), ⟨true, none, ints (zl 4)⟩, ⟨true, some 16, ints (T16 pf ++ zl 3)⟩, lbk zr16, lbk (T16 pf)]), true), (cdec (0 = 0), true)]) := by kernel_rfl
theorem sil_4 (many : Int) (hin : inT (T16 g0) = true) (hm : IntKind.wrap IntKind.i64 (1 + Int.tmod (IntKind.wrap IntKind.i64 (Int.tmod many 5 + 5)) 5) = 4) (h : ∀ j, j < 16 → -4194304 < g0 j → g0 j < 4194304 → -128 ≤ 256 * pf j - g0 j ∧ 256 * pf j - g0 j ≤ 128)
    (hb : CallOk Try.prog 88 [.agg (ints (T16 g0)).toArray, .slice (some ⟨0, 0, none⟩) 4 4] [⟨true, none, ints (zl 4)⟩] (.tuple #[.slice (some ⟨1, 0, none⟩) 4 0, .agg (ints zr16).toArray, .int .i64 0]) [⟨true, none, ints (zl 4)⟩, ⟨true, some 16, ints (T16 pf ++ zl 3)⟩] 1) :
    CallOk Try.prog 24 [.agg (ints (T16 g0)).toArray, .int .i64 many] [] (.bool true) [] 0 := by
  have q := sc_seq
  have k := sc_ok
  simp only [Bool.and_eq_true] at q k
  obtain ⟨⟨⟨⟨q0, q1⟩, q2⟩, q3⟩, q4⟩ := q
  obtain ⟨⟨⟨⟨k0, k1⟩, k2⟩, k3⟩, k5⟩ := k
  have u0 := WP.run (nt := 98) progOk extSound noC_sound k0 noLoops_ok _ (sc_r0 g0 many) (by simp [Holds])
  have u1 := WP.run (nt := 98) progOk extSound (sc_sound0 true 0 []) k1 noLoops_ok _ (sc_r1 g0 true many) (by rw [tellH_ok rfl live7_ok]; simp [Holds])
  have u2 := WP.run (nt := 98) progOk extSound (sc_sound0 true 0 []) k2 noLoops_ok _ (sc_r2t g0 many) (by rw [told91 hin]; simp [Holds])
  have u3 := WP.run (nt := 98) progOk extSound (sc_sound true 0 [] _) k3 noLoops_ok _ (sc_r4_4 g0 many) (by simp [Holds, hm])
  have u4 := WP.permG (nt := 98) progOk extSound (sc_soundF true 3 (T16 pf ++ zl 3)) sc_pd _ _ _ _ (sc_r5_4 g0 pf) (by rw [tellH_ok rfl hb]; simp [Holds]) (Nat.le_refl _)
  have u5 := WP.run (nt := 98) progOk extSound noC_sound k5 (siN_ok g0 pf 4 _ _ _ _ h) _ (sc_r6_4 g0 pf) (by simp only [Holds, List.mem_cons, List.not_mem_nil, or_false, forall_eq_or_imp, forall_eq]; exact ⟨cdec_iff.2 trivial, cdec_iff.2 trivial, cdec_iff.2 trivial⟩)
  exact CallOk.drop (CallOk.walk sc_hf (n := 2) rfl (by rw [sc_nt]; exact WP.cut q0 u0 (WP.cut q1 u1 (WP.cut q2 u2 (WP.cut q3 u3 (WP.cut q4 u4 u5))))) (.inr rfl) (sc_res true _)) rfl

theorem sc_r4_5 (many : Int) : evL Try.prog ext (nmPre (tellHPre (scT true 0 []) noPre)) (nbC [(22, 5)] [] (tellH (scT true 0 []) noC)) noLoops 300 98 (hdC sc3) [(1, .int .i64 many), (2, lpt 0), (5, .bool true)] [lbk (T16 g0)] 0 [] [1, 2, 5] =
  some (.normal, [(1, .int .i64 5), (2, lpt 0), (5, .bool true)], [lbk (T16 g0)], 0, [(decide (IntKind.wrap IntKind.i64 (1 + Int.tmod (IntKind.wrap IntKind.i64 (Int.tmod many 5 + 5)) 5) = 5), true)]) := by kernel_rfl
theorem sc_r5_5 : (evPermS Try.prog ext (framePre (tellHPre (scT true 4 (T16 pf ++ zl 4)) noPre)) (frameC (tellH (scT true 4 (T16 pf ++ zl 4)) noC)) 98 (opsOf (hdC sc4)).toList (opsOf (hdC sc4)).toList.length (List.replicate (opsOf (hdC sc4)).toList.length false) ⟨⟨[(1, .int .i64 5), (2, lpt 0), (5, .bool true)], [lbk (T16 g0)], 0⟩, [(0, true)], []⟩).map (fun L => L.map fun t => (gcS 1 [26, 6, 7] [2, 5, 1, 6, 7, 8] t.s, t.ob)) =
  some (List.replicate 369 (some ([(2, lpt 0), (5, .bool true), (1, .int .i64 5), (6, .slice (some ⟨2, 0, none⟩) 5 0), (7, lpt 3), (8, .int .i64 0)], [lbk (T16 g0), ⟨true, none, ints (zl 5)⟩, ⟨true, some 16, ints (T16 pf ++ zl 4)⟩, lbk zr16], 0), [(tellHPre (scT true 4 (T16 pf ++ zl 4)) noPre 88 [.agg (ints (T16 g0)).toArray, .slice (some ⟨0, 0, none⟩) 5 5] [⟨true, none, ints (zl 5)⟩], true)])) := by kernel_rfl
theorem sc_r6_5 : evL Try.prog ext noPre noC (siN g0 pf 5 ⟨true, none, ints (zl 5)⟩ ⟨true, some 16, ints (T16 pf ++ zl 4)⟩ (lbk zr16) (lbk (T16 pf))) 300 98 sc5 [(2, lpt 0), (5, .bool true), (1, .int .i64 5), (6, .slice (some ⟨2, 0, none⟩) 5 0), (7, lpt 3), (8, .int .i64 0)] [lbk (T16 g0), ⟨true, none, ints (zl 5)⟩, ⟨true, some 16, ints (T16 pf ++ zl 4)⟩, lbk zr16] 0 [] [4] =
  some (.ret, [(4, .bool true)], [lbk (T16 g0), ⟨true, none, ints (zl 5)⟩, ⟨true, some 16, ints (T16 pf ++ zl 4)⟩, lbk zr16] ++ (lbk (T16 pf) :: List.replicate 4 (lbk zr16)), 0, [(cdec (siF pf 5 0 = siF pf 5 0), true), (cdec (([lbk (T16 g0), ⟨true, none, ints (zl 5)⟩, ⟨true, some 16, ints (T16 pf ++ zl 4)⟩, lbk zr16, lbk (T16 pf)] : Heap) = [lbk (T16 g0), ⟨true, none, ints (zl 5)⟩, ⟨true, some 16, ints (T16 pf ++ zl 4)⟩, lbk zr16, lbk (T16 pf)]), true), (cdec (0 = 0), true)]) := by kernel_rfl
theorem sil_5 (many : Int) (hin : inT (T16 g0) = true) (hm : IntKind.wrap IntKind.i64 (1 + Int.tmod (IntKind.wrap IntKind.i64 (Int.tmod many 5 + 5)) 5) = 5) (h : ∀ j, j < 16 → -4194304 < g0 j → g0 j < 4194304 → -128 ≤ 256 * pf j - g0 j ∧ 256 * pf j - g0 j ≤ 128)
    (hb : CallOk Try.prog 88 [.agg (ints (T16 g0)).toArray, .slice (some ⟨0, 0, none⟩) 5 5] [⟨true, none, ints (zl 5)⟩] (.tuple #[.slice (some ⟨1, 0, none⟩) 5 0, .agg (ints zr16).toArray, .int .i64 0]) [⟨true, none, ints (zl 5)⟩, ⟨true, some 16, ints (T16 pf ++ zl 4)⟩] 1) :
    CallOk Try.prog 24 [.agg (ints (T16 g0)).toArray, .int .i64 many] [] (.bool true) [] 0 := by
  have q := sc_seq
  have k := sc_ok
  simp only [Bool.and_eq_true] at q k
  obtain ⟨⟨⟨⟨q0, q1⟩, q2⟩, q3⟩, q4⟩ := q
  obtain ⟨⟨⟨⟨k0, k1⟩, k2⟩, k3⟩, k5⟩ := k
  have u0 := WP.run (nt := 98) progOk extSound noC_sound k0 noLoops_ok _ (sc_r0 g0 many) (by simp [Holds])
  have u1 := WP.run (nt := 98) progOk extSound (sc_sound0 true 0 []) k1 noLoops_ok _ (sc_r1 g0 true many) (by rw [tellH_ok rfl live7_ok]; simp [Holds])
  have u2 := WP.run (nt := 98) progOk extSound (sc_sound0 true 0 []) k2 noLoops_ok _ (sc_r2t g0 many) (by rw [told91 hin]; simp [Holds])
  have u3 := WP.run (nt := 98) progOk extSound (sc_sound true 0 [] _) k3 noLoops_ok _ (sc_r4_5 g0 many) (by simp [Holds, hm])
  have u4 := WP.permG (nt := 98) progOk extSound (sc_soundF true 4 (T16 pf ++ zl 4)) sc_pd _ _ _ _ (sc_r5_5 g0 pf) (by rw [tellH_ok rfl hb]; simp [Holds]) (Nat.le_refl _)
  have u5 := WP.run (nt := 98) progOk extSound noC_sound k5 (siN_ok g0 pf 5 _ _ _ _ h) _ (sc_r6_5 g0 pf) (by simp only [Holds, List.mem_cons, List.not_mem_nil, or_false, forall_eq_or_imp, forall_eq]; exact ⟨cdec_iff.2 trivial, cdec_iff.2 trivial, cdec_iff.2 trivial⟩)
  exact CallOk.drop (CallOk.walk sc_hf (n := 2) rfl (by rw [sc_nt]; exact WP.cut q0 u0 (WP.cut q1 u1 (WP.cut q2 u2 (WP.cut q3 u3 (WP.cut q4 u4 u5))))) (.inr rfl) (sc_res true _)) rfl

end

/-! ### the plain law -/
def z32 : List Int := List.replicate 32 0
theorem ivO_z : ivO zr16 = z32 := by kernel_rfl
theorem ivE_z : ivE zr16 = 0 := by kernel_rfl
theorem lapN_z : lapN z32 = zr16 := by kernel_rfl
theorem inT_z : inT zr16 = true := by kernel_rfl
theorem inT_z32 : inT z32 = true := by kernel_rfl
theorem lapG_z : lapG roundZ zr16 z32 = zr16 := by kernel_rfl
theorem zl_getD (n i : Nat) : (zl n).getD i 0 = 0 := by
  unfold zl
  rw [List.getD_eq_getElem?_getD, List.getElem?_replicate]
  split <;> rfl
theorem spec_z (n i : Nat) : specX (ints (zl n)) i = zr16 := by
  unfold specX
  rw [zr16_T]
  congr 1
  funext j
  rw [intAt_ints, zl_getD]
theorem wX_z (n i : Nat) : wX bI0 (ints (zl n)) i = z32 := by
  unfold wX
  rw [spec_z, ← ivO_z]
  exact T32_get (ivO_len zr16)
theorem lapT_z {t : List Int} (h : inT t = true) : lapT t z32 = zr16 := by unfold lapT; rw [if_pos ⟨h, inT_z32⟩, lapN_z]
theorem tg_z (n : Nat) (g0 : Nat → Int) (h : inT (T16 g0) = true) : ∀ i, inT (T16 (tgR (zl n) g0 i)) = true ∧ T16 (tgR (zl n) g0 (i + 1)) = zr16
  | 0 => ⟨h, by
    show T16 (fun k => bN0 k (T16 g0) (wX bI0 (ints (zl n)) 0)) = zr16
    rw [wX_z]
    exact (T16_get (lapT_len _ _)).trans (lapT_z h)⟩
  | i + 1 => by
    have e := (tg_z n g0 h i).2
    refine ⟨by rw [e]; exact inT_z, ?_⟩
    show T16 (fun k => bN0 k (T16 (tgR (zl n) g0 (i + 1))) (wX bI0 (ints (zl n)) (i + 1))) = zr16
    rw [wX_z, e]
    exact (T16_get (lapT_len _ _)).trans (lapT_z inT_z)
theorem ok_z (n : Nat) (g0 : Nat → Int) (h : inT (T16 g0) = true) (i : Nat) : okR (zl n) g0 i := by
  refine ⟨by rw [spec_z]; exact ivE_z, ?_⟩
  show lapE (T16 (tgR (zl n) g0 i)) (wX bI0 (ints (zl n)) i) = 0
  rw [wX_z]
  unfold lapE
  rw [if_pos ⟨(tg_z n g0 h i).1, inT_z32⟩]
theorem zl_succ (k : Nat) : zl (k + 1) = zl k ++ zr16 := by
  unfold zl
  rw [show zr16 = List.replicate 16 0 by rfl, List.replicate_append_replicate]
  congr 1
  omega
theorem pl_z (n : Nat) (g0 : Nat → Int) (h : inT (T16 g0) = true) : ∀ k, plR (zl n) g0 (k + 1) = T16 (fun j => bP0 j (T16 g0) z32) ++ zl k
  | 0 => by
    show [] ++ pX bI0 bP0 g0 (ints (zl n)) 0 = _
    unfold pX
    rw [wX_z]
    simp [zl]
  | k + 1 => by
    show plR (zl n) g0 (k + 1) ++ pX bI0 bP0 (tgR (zl n) g0 (k + 1)) (ints (zl n)) (k + 1) = _
    rw [pl_z n g0 h k, zl_succ, List.append_assoc]
    congr 2
    unfold pX
    rw [wX_z, (tg_z n g0 h k).2]
    have e : lapP zr16 z32 = zr16 := by unfold lapP; rw [if_pos ⟨inT_z, inT_z32⟩, lapG_z]
    exact (T16_get (lapP_len zr16 z32)).trans e
theorem T16_at (g : Nat → Int) {j : Nat} (h : j < 16) : (T16 g).getD j 0 = g j := by
  unfold T16
  rw [List.getD_eq_getElem?_getD, List.getElem?_map, List.getElem?_range h]
  rfl
theorem near_z (g0 : Nat → Int) (h : inT (T16 g0) = true) (j : Nat) (hj : j < 16) (h1 : -4194304 < g0 j) (h2 : g0 j < 4194304) : -128 ≤ 256 * bP0 j (T16 g0) z32 - g0 j ∧ 256 * bP0 j (T16 g0) z32 - g0 j ≤ 128 := by
  have e : bP0 j (T16 g0) z32 = satZ (roundZ (g0 j) 8) 16 := by
    unfold bP0 lapP
    rw [if_pos ⟨h, inT_z32⟩]
    unfold lapG
    rw [List.getD_eq_getElem?_getD, List.getElem?_map, List.getElem?_range hj, Option.map_some, Option.getD_some, T16_at g0 hj, show z32.getD j 0 = 0 by exact zl_getD 2 j, Int.add_zero, wrap_in (inI_iff.2 (by omega))]
  have r : roundZ (g0 j) 8 = (g0 j + 128) / 256 := rfl
  have st : satZ ((g0 j + 128) / 256) 16 = withinZ ((g0 j + 128) / 256) (-32768) 32767 := rfl
  rw [e, r, st]
  unfold withinZ
  split <;> split <;> omega

theorem five_rem (b : Int) : ∃ B : Nat, B < 5 ∧ IntKind.wrap IntKind.i64 (1 + Int.tmod (IntKind.wrap IntKind.i64 (Int.tmod b 5 + 5)) 5) = ((B + 1 : Nat) : Int) := by
  have h1 := tmod_lit b 5
  rw [wrap_in (n := Int.tmod b 5 + 5) (inI_iff.2 (by omega))]
  have h2 := tmod_lit (b.tmod 5 + 5) 5
  refine ⟨(Int.tmod (b.tmod 5 + 5) 5).toNat, by omega, ?_⟩
  rw [wrap_in (inI_iff.2 (by omega))]
  omega

theorem silence_call (t : List Int) (ht : t.length = 16) (many : Int) : CallOk Try.prog 24 [.agg (ints t).toArray, .int .i64 many] [] (.bool true) [] 0 := by
  rw [← T16_get ht]
  generalize (fun k => t.getD k 0) = g0
  cases hin : inT (T16 g0) with
  | false =>
    have q := sc_seq
    have k := sc_ok
    simp only [Bool.and_eq_true] at q k
    obtain ⟨⟨⟨⟨q0, q1⟩, q2⟩, q3⟩, q4⟩ := q
    obtain ⟨⟨⟨⟨k0, k1⟩, k2⟩, k3⟩, k5⟩ := k
    have u0 := WP.run (nt := 98) progOk extSound noC_sound k0 noLoops_ok _ (sc_r0 g0 many) (by simp [Holds])
    have u1 := WP.run (nt := 98) progOk extSound (sc_sound0 false 0 []) k1 noLoops_ok _ (sc_r1 g0 false many) (by rw [tellH_ok rfl live7_ok]; simp [Holds])
    have u2 := WP.run (nt := 98) progOk extSound (sc_sound0 false 0 []) k2 noLoops_ok _ (sc_r2f g0 many) (by rw [told91 hin]; simp [Holds])
    exact CallOk.drop (CallOk.walk sc_hf (n := 2) rfl (by rw [sc_nt]; exact WP.cut q0 u0 (WP.cut q1 u1 (WP.cut_out q2 (by simp) u2))) (.inr rfl) (sc_res true _)) rfl
  | true =>
    have hb : ∀ k, k < 5 → CallOk Try.prog 88 [.agg (ints (T16 g0)).toArray, .slice (some ⟨0, 0, none⟩) (k + 1) (k + 1)] [⟨true, none, ints (zl (k + 1))⟩] (.tuple #[.slice (some ⟨1, 0, none⟩) (k + 1) 0, .agg (ints zr16).toArray, .int .i64 0])
        [⟨true, none, ints (zl (k + 1))⟩, ⟨true, some 16, ints (T16 (fun j => bP0 j (T16 g0) z32) ++ zl k)⟩] 1 := by
      intro k hk
      have b := back88_g true none (zl (k + 1)) g0 k (k + 1) (by simp [zl]) (by omega) (fun i _ => ok_z (k + 1) g0 hin i)
      rw [(tg_z (k + 1) g0 hin k).2, pl_z (k + 1) g0 hin k] at b
      exact CallOk.under b (by simp [zl]) (R := []) (by simp)
    obtain ⟨B, hB, hrem⟩ := five_rem many
    match B, hB with
    | 0, _ => exact sil_1 g0 _ many hin hrem (near_z g0 hin) (hb 0 (by omega))
    | 1, _ => exact sil_2 g0 _ many hin hrem (near_z g0 hin) (hb 1 (by omega))
    | 2, _ => exact sil_3 g0 _ many hin hrem (near_z g0 hin) (hb 2 (by omega))
    | 3, _ => exact sil_4 g0 _ many hin hrem (near_z g0 hin) (hb 3 (by omega))
    | 4, _ => exact sil_5 g0 _ many hin hrem (near_z g0 hin) (hb 4 (by omega))
end Go.Proofs.Ytfbjpenbpbpcaaa

