/-
  Chapter 07: the law LappedLaps as a call: frames' numbers a slice of any length.
-/
import Derived.Test.YtfbjpenbpbpcaaaLa7
namespace Go.Proofs.Ytfbjpenbpbpcaaa
open Go Den
set_option maxRecDepth 100000
set_option linter.unusedSimpArgs false
set_option linter.unusedVariables false

/-- A call whose value holds no address, in a heap with more blocks behind. -/
theorem CallOk.under0 {f : FuncId} {t : List Int} {n c : Nat} {ow : Bool} {gr : Option Nat} {L : List Int} {v : Value}
    (h : CallOk Try.prog f [.agg (ints t).toArray, .slice (some ⟨0, 0, none⟩) n c] [⟨ow, gr, ints L⟩] v [⟨ow, gr, ints L⟩] 1) (hv : ∀ φ, ren φ 3 v = some v) (hp : pf 3 v = true)
    (hL : L ≠ []) {R : Heap} (hR : ∀ b ∈ R, b.cells ≠ []) :
    CallOk Try.prog f [.agg (ints t).toArray, .slice (some ⟨0, 0, none⟩) n c] (⟨ow, gr, ints L⟩ :: R) v (⟨ow, gr, ints L⟩ :: R) (R.length + 1) := by
  have hf := h.frame (args := [.agg (ints t).toArray, .slice (some ⟨0, 0, none⟩) n c]) (H := ⟨ow, gr, ints L⟩ :: R) (e := [0]) (sel := []) (v := v)
    (olds := [⟨ow, gr, ints L⟩]) (news := []) (l := R.length + 1) (ψ := fun b => if b = 0 then some 0 else none) (φ := fun b => if b = 0 then some 0 else none)
    (by simp) rfl (fun b c hb => by
      split at hb
      · rename_i h0; injection hb with hb; subst hb; subst h0; rfl
      · simp at hb) ?_ (fun i k hi => ?_) (fun i b hb => .inl ?_) (by simp) (fun j i hj => by simp at hj) (fun b c hb => ?_) (hv _) ?_ rfl (fun j x hj hlj => ?_)
  · simpa [putAll] using hf
  · simp only [mapAll, ren, ren_ints, Option.map_some, ren0, if_true]
  · match i, hi with
    | 0, hi => injection hi with hi; subst hi; exact ⟨_, _, rfl, rfl, renB_ints _ _ _ _⟩
  · cases i with
    | zero =>
      simp at hb
      subst hb
      intro hh
      exact hL (by simpa [ints] using hh)
    | succ i => exact hR b (List.mem_of_getElem? (by simpa using hb))
  · split at hb
    · rename_i h0; injection hb with hb; subst hb; subst h0; exact .inl ⟨by simp, rfl⟩
    · simp at hb
  · simp only [List.take, List.length_cons, List.length_nil, mapAll, renB_ints, Option.map_some]
  · match j, hj with
    | 0, hj => omega

theorem ren_bad (φ : Nat → Option Nat) : ren φ 3 (.tuple #[.slice none 0 0, .agg (ints zr16).toArray, .int .i64 1]) = some (.tuple #[.slice none 0 0, .agg (ints zr16).toArray, .int .i64 1]) := by
  simp [ren, mapAll, ren_ints, ren0, isFlat]

def llT (good : Bool) (pg ng tg : Nat → Int) (e0 e : Int) (k : Nat) (PL : List Int) : Tale := fun f args H => match f, args with
  | 65, _ => some (.bool true, H, H.length)
  | 86, _ => some (lapV (T16 pg) (T16 ng) e0, H, H.length)
  | 87, _ => some (lapV (T16 pg) (T16 ng) e0, H, H.length)
  | 88, _ => match good with
    | true => some (.tuple #[.slice (some ⟨H.length, 0, none⟩) (k + 1) 0, .agg (ints (T16 tg)).toArray, .int .i64 0], H ++ [⟨true, some 16, ints PL⟩], H.length)
    | false => some (.tuple #[.slice none 0 0, .agg (ints (T16 tg)).toArray, .int .i64 e], H, H.length)
  | 89, _ => match good with
    | true => some (.tuple #[.slice (some ⟨H.length, 0, none⟩) (k + 1) 0, .agg (ints (T16 tg)).toArray, .int .i64 0], H ++ [⟨true, some 16, ints PL⟩], H.length)
    | false => some (.tuple #[.slice none 0 0, .agg (ints (T16 tg)).toArray, .int .i64 e], H, H.length)
  | 90, _ => some (.bool true, H, H.length)
  | _, _ => none
section
variable (pg ng tg g0 w0 : Nat → Int) (e0 e : Int)
theorem ll_sound (good : Bool) (k : Nat) (PL : List Int) : Sound Try.prog (strict (nmPre (tellHPre (llT good pg ng tg e0 e k PL) noPre)) (nbC [] (allT [59, 64, 69, 79, 84]) (tellH (llT good pg ng tg e0 e k PL) noC))) := nb_sound _ _ (tellH_sound _ noC_sound)
def llH (OB : Blk) : Heap := [OB, lbk (T16 g0), lbk (T32 w0), lbk (T16 pg), lbk (T16 ng), lbk (T16 pg), lbk (T16 ng)]
abbrev llA (sl : Value) : List Value := [.agg (ints (T16 g0)).toArray, .agg (ints (T32 w0)).toArray, sl]

theorem ll_many (n c : Nat) (OB : Blk) : (evFnL Try.prog ext 300 (nmPre (tellHPre (llT false pg ng tg e0 e 0 []) noPre)) (nbC [] (allT [59, 64, 69, 79, 84]) (tellH (llT false pg ng tg e0 e 0 []) noC)) noLoops [(0, true), (1, true)] 23 (llA g0 w0 (.slice (some ⟨0, 0, none⟩) n c)) [OB]).map (fun r => (r.1.1, r.1.2.2, r.2)) =
  some (.bool true, 1, [(decide ((n : Int) > 20), true), (tellHPre (llT false pg ng tg e0 e 0 []) noPre 65 [] [], true)]) := by kernel_rfl
theorem ll_good (k c : Nat) (PL : List Int) (OB : Blk) : (evFnL Try.prog ext 300 (nmPre (tellHPre (llT true pg ng tg e0 e k PL) noPre)) (nbC [] (allT [59, 64, 69, 79, 84]) (tellH (llT true pg ng tg e0 e k PL) noC)) noLoops [(0, true), (1, false), (0, true), (0, true), (0, true), (0, true), (12, true)] 23 (llA g0 w0 (.slice (some ⟨0, 0, none⟩) (k + 1) c)) [OB]).map (fun r => (r.1.1, r.1.2.2, r.2)) =
  some (.bool true, 1, [((0 : Int) == 0, true), (decide (T16 tg = T16 tg), true), (tellHPre (llT true pg ng tg e0 e k PL) noPre 90 [.slice (some ⟨7, 0, none⟩) (k + 1) 0, .slice (some ⟨9, 0, none⟩) (k + 1) 0] (smH OB (lbk (T16 g0)) (lbk (T32 w0)) (lbk (T16 pg)) (lbk (T16 ng)) (lbk (T16 pg)) (lbk (T16 ng)) (lbk (T16 tg)) (lbk (T16 tg)) PL), true),
    (e0 == e0, true), (decide (T16 ng = T16 ng), true), (decide (T16 pg = T16 pg), true),
    (tellHPre (llT true pg ng tg e0 e k PL) noPre 89 [.agg (ints (T16 g0)).toArray, .slice (some ⟨0, 0, none⟩) (k + 1) c] (llH pg ng g0 w0 OB ++ [⟨true, some 16, ints PL⟩, lbk (T16 tg)]), true),
    (tellHPre (llT true pg ng tg e0 e k PL) noPre 88 [.agg (ints (T16 g0)).toArray, .slice (some ⟨0, 0, none⟩) (k + 1) c] (llH pg ng g0 w0 OB), true),
    (tellHPre (llT true pg ng tg e0 e k PL) noPre 87 [.agg (ints (T16 g0)).toArray, .agg (ints (T32 w0)).toArray] [], true), (tellHPre (llT true pg ng tg e0 e k PL) noPre 86 [.agg (ints (T16 g0)).toArray, .agg (ints (T32 w0)).toArray] [], true),
    (decide (((k + 1 : Nat) : Int) > 20), false), (tellHPre (llT true pg ng tg e0 e k PL) noPre 65 [] [], true)]) := by kernel_rfl
theorem ll_bad (k c : Nat) (OB : Blk) : (evFnL Try.prog ext 300 (nmPre (tellHPre (llT false pg ng tg e0 e 0 []) noPre)) (nbC [] (allT [59, 64, 69, 79, 84]) (tellH (llT false pg ng tg e0 e 0 []) noC)) noLoops [(0, true), (1, false), (0, true), (0, true), (0, true), (0, true), (12, true)] 23 (llA g0 w0 (.slice (some ⟨0, 0, none⟩) (k + 1) c)) [OB]).map (fun r => (r.1.1, r.1.2.2, r.2)) =
  some (.bool true, 1, [(e == e, true), (decide (T16 tg = T16 tg), true), (tellHPre (llT false pg ng tg e0 e 0 []) noPre 90 [.slice none 0 0, .slice none 0 0] [], true),
    (e0 == e0, true), (decide (T16 ng = T16 ng), true), (decide (T16 pg = T16 pg), true),
    (tellHPre (llT false pg ng tg e0 e 0 []) noPre 89 [.agg (ints (T16 g0)).toArray, .slice (some ⟨0, 0, none⟩) (k + 1) c] (llH pg ng g0 w0 OB ++ [lbk (T16 tg)]), true),
    (tellHPre (llT false pg ng tg e0 e 0 []) noPre 88 [.agg (ints (T16 g0)).toArray, .slice (some ⟨0, 0, none⟩) (k + 1) c] (llH pg ng g0 w0 OB), true),
    (tellHPre (llT false pg ng tg e0 e 0 []) noPre 87 [.agg (ints (T16 g0)).toArray, .agg (ints (T32 w0)).toArray] [], true), (tellHPre (llT false pg ng tg e0 e 0 []) noPre 86 [.agg (ints (T16 g0)).toArray, .agg (ints (T32 w0)).toArray] [], true),
    (decide (((k + 1 : Nat) : Int) > 20), false), (tellHPre (llT false pg ng tg e0 e 0 []) noPre 65 [] [], true)]) := by kernel_rfl
theorem ll_zero (c : Nat) (OB : Blk) : (evFnL Try.prog ext 300 (nmPre (tellHPre (llT false pg ng tg e0 e 0 []) noPre)) (nbC [] (allT [59, 64, 69, 79, 84]) (tellH (llT false pg ng tg e0 e 0 []) noC)) noLoops [(0, true), (2, true), (0, true), (0, true), (0, true), (12, true)] 23 (llA g0 w0 (.slice (some ⟨0, 0, none⟩) 0 c)) [OB]).map (fun r => (r.1.1, r.1.2.2, r.2)) =
  some (.bool true, 1, [(e == e, true), (decide (T16 tg = T16 tg), true), (tellHPre (llT false pg ng tg e0 e 0 []) noPre 90 [.slice none 0 0, .slice none 0 0] [], true),
    (e0 == e0, true), (decide (T16 ng = T16 ng), true), (decide (T16 pg = T16 pg), true),
    (tellHPre (llT false pg ng tg e0 e 0 []) noPre 89 [.agg (ints (T16 g0)).toArray, .slice (some ⟨0, 0, none⟩) 0 c] (llH pg ng g0 w0 OB ++ [lbk (T16 tg)]), true),
    (tellHPre (llT false pg ng tg e0 e 0 []) noPre 88 [.agg (ints (T16 g0)).toArray, .slice (some ⟨0, 0, none⟩) 0 c] (llH pg ng g0 w0 OB), true),
    (tellHPre (llT false pg ng tg e0 e 0 []) noPre 87 [.agg (ints (T16 g0)).toArray, .agg (ints (T32 w0)).toArray] [], true), (tellHPre (llT false pg ng tg e0 e 0 []) noPre 86 [.agg (ints (T16 g0)).toArray, .agg (ints (T32 w0)).toArray] [], true),
    (tellHPre (llT false pg ng tg e0 e 0 []) noPre 65 [] [], true)]) := by kernel_rfl
theorem ll_nil : (evFnL Try.prog ext 300 (nmPre (tellHPre (llT false pg ng tg e0 e 0 []) noPre)) (nbC [] (allT [59, 64, 69, 79, 84]) (tellH (llT false pg ng tg e0 e 0 []) noC)) noLoops [(0, true), (2, true), (0, true), (0, true), (0, true), (12, true)] 23 (llA g0 w0 (.slice none 0 0)) []).map (fun r => (r.1.1, r.1.2.2, r.2)) =
  some (.bool true, 0, [(e == e, true), (decide (T16 tg = T16 tg), true), (tellHPre (llT false pg ng tg e0 e 0 []) noPre 90 [.slice none 0 0, .slice none 0 0] [], true),
    (e0 == e0, true), (decide (T16 ng = T16 ng), true), (decide (T16 pg = T16 pg), true),
    (tellHPre (llT false pg ng tg e0 e 0 []) noPre 89 [.agg (ints (T16 g0)).toArray, .slice none 0 0] [lbk (T16 g0), lbk (T32 w0), lbk (T16 pg), lbk (T16 ng), lbk (T16 pg), lbk (T16 ng), lbk (T16 tg)], true),
    (tellHPre (llT false pg ng tg e0 e 0 []) noPre 88 [.agg (ints (T16 g0)).toArray, .slice none 0 0] [lbk (T16 g0), lbk (T32 w0), lbk (T16 pg), lbk (T16 ng), lbk (T16 pg), lbk (T16 ng)], true),
    (tellHPre (llT false pg ng tg e0 e 0 []) noPre 87 [.agg (ints (T16 g0)).toArray, .agg (ints (T32 w0)).toArray] [], true), (tellHPre (llT false pg ng tg e0 e 0 []) noPre 86 [.agg (ints (T16 g0)).toArray, .agg (ints (T32 w0)).toArray] [], true),
    (tellHPre (llT false pg ng tg e0 e 0 []) noPre 65 [] [], true)]) := by kernel_rfl

theorem back_z1 (f : FuncId) (hf : f = 88 ∨ f = 89) (c : Nat) (B0 B1 B2 B3 B4 B5 B6 : Blk) : CallOk Try.prog f [.agg (ints (T16 g0)).toArray, .slice (some ⟨0, 0, none⟩) 0 c] [B0, B1, B2, B3, B4, B5, B6] (.tuple #[.slice none 0 0, .agg (ints (T16 g0)).toArray, .int .i64 0]) [B0, B1, B2, B3, B4, B5, B6] 7 := by
  rcases hf with rfl | rfl
  all_goals exact CallOk.still (fnL_ok (N := 300) (pre := noPre) (C := noC) (L := noLoops) (os := []) (H' := [B0, B1, B2, B3, B4, B5, B6, lbk (T16 g0), lbk (T16 g0)]) (l := 7) (ob := []) progOk extSound noC_sound noLoops_ok (by kernel_rfl) (by simp [Holds])) rfl rfl
theorem back_z2 (f : FuncId) (hf : f = 88 ∨ f = 89) (c : Nat) (B0 B1 B2 B3 B4 B5 B6 B7 : Blk) : CallOk Try.prog f [.agg (ints (T16 g0)).toArray, .slice (some ⟨0, 0, none⟩) 0 c] [B0, B1, B2, B3, B4, B5, B6, B7] (.tuple #[.slice none 0 0, .agg (ints (T16 g0)).toArray, .int .i64 0]) [B0, B1, B2, B3, B4, B5, B6, B7] 8 := by
  rcases hf with rfl | rfl
  all_goals exact CallOk.still (fnL_ok (N := 300) (pre := noPre) (C := noC) (L := noLoops) (os := []) (H' := [B0, B1, B2, B3, B4, B5, B6, B7, lbk (T16 g0), lbk (T16 g0)]) (l := 8) (ob := []) progOk extSound noC_sound noLoops_ok (by kernel_rfl) (by simp [Holds])) rfl rfl
theorem back_y1 (f : FuncId) (hf : f = 88 ∨ f = 89) (B1 B2 B3 B4 B5 B6 : Blk) : CallOk Try.prog f [.agg (ints (T16 g0)).toArray, .slice none 0 0] [B1, B2, B3, B4, B5, B6] (.tuple #[.slice none 0 0, .agg (ints (T16 g0)).toArray, .int .i64 0]) [B1, B2, B3, B4, B5, B6] 6 := by
  rcases hf with rfl | rfl
  all_goals exact CallOk.still (fnL_ok (N := 300) (pre := noPre) (C := noC) (L := noLoops) (os := []) (H' := [B1, B2, B3, B4, B5, B6, lbk (T16 g0), lbk (T16 g0)]) (l := 6) (ob := []) progOk extSound noC_sound noLoops_ok (by kernel_rfl) (by simp [Holds])) rfl rfl
theorem back_y2 (f : FuncId) (hf : f = 88 ∨ f = 89) (B1 B2 B3 B4 B5 B6 B7 : Blk) : CallOk Try.prog f [.agg (ints (T16 g0)).toArray, .slice none 0 0] [B1, B2, B3, B4, B5, B6, B7] (.tuple #[.slice none 0 0, .agg (ints (T16 g0)).toArray, .int .i64 0]) [B1, B2, B3, B4, B5, B6, B7] 7 := by
  rcases hf with rfl | rfl
  all_goals exact CallOk.still (fnL_ok (N := 300) (pre := noPre) (C := noC) (L := noLoops) (os := []) (H' := [B1, B2, B3, B4, B5, B6, B7, lbk (T16 g0), lbk (T16 g0)]) (l := 7) (ob := []) progOk extSound noC_sound noLoops_ok (by kernel_rfl) (by simp [Holds])) rfl rfl
end

theorem still_ok7 {N : Nat} {pre : Pre} {C : Oracle} {L : Loops} {os : Path} {f : FuncId} {args : List Value} {H : Heap} {v : Value} {ob : Obs} {l : Nat} (hC : Sound Try.prog (strict pre C))
    (hL : LoopsOk Try.prog (ntOf Try.prog f args.length) L (bodyOf Try.prog f)) (h : (evFnL Try.prog ext N pre C L os f args H).map (fun r => (r.1.1, r.1.2.2, r.2)) = some (v, l, ob)) (hl : l = H.length) (hh : Holds ob) (hv : pf 3 v = true) : CallOk Try.prog f args H v H H.length := by
  cases hr : evFnL Try.prog ext N pre C L os f args H with
  | none => rw [hr] at h; simp at h
  | some r =>
    obtain ⟨⟨v1, H1, l1⟩, ob1⟩ := r
    rw [hr] at h
    simp only [Option.map_some, Option.some.injEq, Prod.mk.injEq] at h
    obtain ⟨rfl, rfl, rfl⟩ := h
    exact CallOk.still (fnL_ok progOk extSound hC hL hr hh) hl hv

theorem lap_T (f : FuncId) (hf : f = 86 ∨ f = 87) (g0 w0 : Nat → Int) : CallOk Try.prog f [.agg (ints (T16 g0)).toArray, .agg (ints (T32 w0)).toArray] [] (lapV (T16 fun k => bP0 k (T16 g0) (T32 w0)) (T16 fun k => bN0 k (T16 g0) (T32 w0)) (lapE (T16 g0) (T32 w0))) [] 0 := by
  have h1 : T16 (fun k => bP0 k (T16 g0) (T32 w0)) = lapP (T16 g0) (T32 w0) := T16_get (lapP_len _ _)
  have h2 : T16 (fun k => bN0 k (T16 g0) (T32 w0)) = lapT (T16 g0) (T32 w0) := T16_get (lapT_len _ _)
  rw [h1, h2]
  rcases hf with rfl | rfl
  · exact lap_ok _ _ (T16_len _) (by simp [T32])
  · exact rlap_ok _ _ (T16_len _) (by simp [T32])

theorem zr16_T : zr16 = T16 fun _ => 0 := rfl

theorem laps_call (t w : List Int) (ht : t.length = 16) (hw : w.length = 32) (L : List Int) (n c : Nat) (hL : L.length = n * 16) :
    CallOk Try.prog 23 [.agg (ints t).toArray, .agg (ints w).toArray, .slice (some ⟨0, 0, none⟩) n c] [⟨false, none, ints L⟩] (.bool true) [⟨false, none, ints L⟩] 1 := by
  rw [← T16_get ht, ← T32_get hw]
  generalize (fun k => t.getD k 0) = g0
  generalize (fun k => w.getD k 0) = w0
  have hlap := lap_T 86 (.inl rfl) g0 w0
  have hrlap := lap_T 87 (.inr rfl) g0 w0
  by_cases hn : n ≤ 20
  · cases n with
    | zero =>
      refine still_ok7 (ll_sound _ _ _ _ _ _ _ _) noLoops_ok (ll_zero (fun k => bP0 k (T16 g0) (T32 w0)) (fun k => bN0 k (T16 g0) (T32 w0)) g0 g0 w0 (lapE (T16 g0) (T32 w0)) 0 c _) rfl ?_ rfl
      rw [tellH_ok rfl same_none, tellH_ok rfl (back_z2 g0 89 (.inr rfl) c _ _ _ _ _ _ _ _), tellH_ok rfl (back_z1 g0 88 (.inl rfl) c _ _ _ _ _ _ _), tellH_ok rfl hrlap, tellH_ok rfl hlap, tellH_ok rfl live7_ok]
      simp [Holds]
    | succ k =>
      have hne : L ≠ [] := by intro h; rw [h] at hL; simp at hL
      have hcells : ∀ g : Nat → Int, (lbk (T16 g)).cells ≠ [] := fun g => by simp [lbk, ints, T16, List.range_succ]
      have hcells2 : ∀ g : Nat → Int, (lbk (T32 g)).cells ≠ [] := fun g => by simp [lbk, ints, T32, List.range_succ]
      rcases least_bad (okR L g0) (k + 1) with h | ⟨m, hm, hb, h⟩
      · have b1 := back88_g false none L g0 k c hL (by omega) h
        have b2 := back89_g false none L g0 k c hL (by omega) h
        have hpl := plR_len L g0 (k + 1)
        have hO : (⟨true, some 16, ints (plR L g0 (k + 1))⟩ : Blk).cells ≠ [] := by
          intro hh
          have := congrArg List.length hh
          rw [ints_length, hpl] at this
          simp at this
        have u1 := CallOk.under b1 hne (R := [lbk (T16 g0), lbk (T32 w0), lbk (T16 fun k => bP0 k (T16 g0) (T32 w0)), lbk (T16 fun k => bN0 k (T16 g0) (T32 w0)), lbk (T16 fun k => bP0 k (T16 g0) (T32 w0)), lbk (T16 fun k => bN0 k (T16 g0) (T32 w0))]) (by
          intro b hb
          simp only [List.mem_cons, List.not_mem_nil, or_false] at hb
          rcases hb with rfl | rfl | rfl | rfl | rfl | rfl <;> first | exact hcells _ | exact hcells2 _)
        have u2 := CallOk.under b2 hne (R := [lbk (T16 g0), lbk (T32 w0), lbk (T16 fun k => bP0 k (T16 g0) (T32 w0)), lbk (T16 fun k => bN0 k (T16 g0) (T32 w0)), lbk (T16 fun k => bP0 k (T16 g0) (T32 w0)), lbk (T16 fun k => bN0 k (T16 g0) (T32 w0)), ⟨true, some 16, ints (plR L g0 (k + 1))⟩, lbk (T16 (tgR L g0 (k + 1)))]) (by
          intro b hb
          simp only [List.mem_cons, List.not_mem_nil, or_false] at hb
          rcases hb with rfl | rfl | rfl | rfl | rfl | rfl | rfl | rfl <;> first | exact hO | exact hcells _ | exact hcells2 _)
        refine still_ok7 (ll_sound _ _ _ _ _ _ _ _) noLoops_ok (ll_good (fun k => bP0 k (T16 g0) (T32 w0)) (fun k => bN0 k (T16 g0) (T32 w0)) (tgR L g0 (k + 1)) g0 w0 (lapE (T16 g0) (T32 w0)) 0 k c (plR L g0 (k + 1)) _) rfl ?_ rfl
        rw [tellH_ok rfl (same_ok _ _ _ _ _ _ _ _ _ (plR L g0 (k + 1)) (k + 1) hpl (by omega)), tellH_ok rfl u2, tellH_ok rfl u1, tellH_ok rfl hrlap, tellH_ok rfl hlap, tellH_ok rfl live7_ok]
        simp [Holds]
        omega
      · have b1 := back88_b false none L g0 (k + 1) c hL (by omega) hm hb h
        have b2 := back89_b false none L g0 (k + 1) c hL (by omega) hm hb h
        have u1 := CallOk.under0 b1 ren_bad pf_bad hne (R := [lbk (T16 g0), lbk (T32 w0), lbk (T16 fun k => bP0 k (T16 g0) (T32 w0)), lbk (T16 fun k => bN0 k (T16 g0) (T32 w0)), lbk (T16 fun k => bP0 k (T16 g0) (T32 w0)), lbk (T16 fun k => bN0 k (T16 g0) (T32 w0))]) (by
          intro b hb
          simp only [List.mem_cons, List.not_mem_nil, or_false] at hb
          rcases hb with rfl | rfl | rfl | rfl | rfl | rfl <;> first | exact hcells _ | exact hcells2 _)
        have u2 := CallOk.under0 b2 ren_bad pf_bad hne (R := [lbk (T16 g0), lbk (T32 w0), lbk (T16 fun k => bP0 k (T16 g0) (T32 w0)), lbk (T16 fun k => bN0 k (T16 g0) (T32 w0)), lbk (T16 fun k => bP0 k (T16 g0) (T32 w0)), lbk (T16 fun k => bN0 k (T16 g0) (T32 w0)), lbk zr16]) (by
          intro b hb
          simp only [List.mem_cons, List.not_mem_nil, or_false] at hb
          rcases hb with rfl | rfl | rfl | rfl | rfl | rfl | rfl <;> first | exact hcells _ | exact hcells2 _ | exact hcells (fun _ => 0))
        refine still_ok7 (ll_sound _ _ _ _ _ _ _ _) noLoops_ok (ll_bad (fun k => bP0 k (T16 g0) (T32 w0)) (fun k => bN0 k (T16 g0) (T32 w0)) (fun _ => 0) g0 w0 (lapE (T16 g0) (T32 w0)) 1 k c _) rfl ?_ rfl
        rw [tellH_ok rfl same_none, tellH_ok rfl u2, tellH_ok rfl u1, tellH_ok rfl hrlap, tellH_ok rfl hlap, tellH_ok rfl live7_ok]
        simp [Holds]
        omega
  · refine still_ok7 (ll_sound _ _ _ _ _ _ _ _) noLoops_ok (ll_many (fun _ => 0) (fun _ => 0) (fun _ => 0) g0 w0 0 0 n c _) rfl ?_ rfl
    rw [tellH_ok rfl live7_ok]
    simp [Holds]
    omega

theorem laps_nil (t w : List Int) (ht : t.length = 16) (hw : w.length = 32) : CallOk Try.prog 23 [.agg (ints t).toArray, .agg (ints w).toArray, .slice none 0 0] [] (.bool true) [] 0 := by
  rw [← T16_get ht, ← T32_get hw]
  generalize (fun k => t.getD k 0) = g0
  generalize (fun k => w.getD k 0) = w0
  refine still_ok7 (ll_sound _ _ _ _ _ _ _ _) noLoops_ok (ll_nil (fun k => bP0 k (T16 g0) (T32 w0)) (fun k => bN0 k (T16 g0) (T32 w0)) g0 g0 w0 (lapE (T16 g0) (T32 w0)) 0) rfl ?_ rfl
  rw [tellH_ok rfl same_none, tellH_ok rfl (back_y2 g0 89 (.inr rfl) _ _ _ _ _ _ _), tellH_ok rfl (back_y1 g0 88 (.inl rfl) _ _ _ _ _ _), tellH_ok rfl (lap_T 87 (.inr rfl) g0 w0), tellH_ok rfl (lap_T 86 (.inl rfl) g0 w0), tellH_ok rfl live7_ok]
  simp [Holds]

end Go.Proofs.Ytfbjpenbpbpcaaa

