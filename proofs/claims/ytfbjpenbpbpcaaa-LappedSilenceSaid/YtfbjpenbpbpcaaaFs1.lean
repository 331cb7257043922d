/-
  Chapter 05: Add, and the reference's, over a row of any length.
-/
import Derived.Test.YtfbjpenbpbpcaaaTl
namespace Go.Proofs.Ytfbjpenbpbpcaaa
open Go Den
set_option maxRecDepth 100000
set_option linter.unusedSimpArgs false
set_option linter.unusedVariables false

/-- The sum of the first i, saturated each time. -/
def addZ (b : Int) : List Int → Int → Int
  | [], s => s
  | x :: l, s => addZ b l (satZ (s + satZ x 62) b)

theorem addZ_append (b : Int) : ∀ (l m : List Int) (s : Int), addZ b (l ++ m) s = addZ b m (addZ b l s)
  | [], m, s => rfl
  | x :: l, m, s => addZ_append b l m _

theorem satZ_le (v b : Int) : -2305843009213693952 ≤ satZ v b ∧ satZ v b ≤ 2305843009213693951 := by
  have h1 := top_le b
  have h2 := within_le v (-(topZ b) - 1) (topZ b) (by omega)
  unfold satZ
  omega

theorem addZ_le (b : Int) : ∀ (l : List Int) (s : Int), -2305843009213693952 ≤ s ∧ s ≤ 2305843009213693951 → -2305843009213693952 ≤ addZ b l s ∧ addZ b l s ≤ 2305843009213693951
  | [], s, h => h
  | x :: l, s, h => addZ_le b l _ (satZ_le _ _)

theorem addZ_succ (b : Int) (l : List Int) (i : Nat) (h : i < l.length) : addZ b (l.take (i + 1)) 0 = satZ (addZ b (l.take i) 0 + satZ (l.getD i 0) 62) b := by
  have e : l.take (i + 1) = l.take i ++ [l.getD i 0] := by
    rw [List.take_add_one, List.getD_eq_getElem?_getD, List.getElem?_eq_getElem h]; rfl
  rw [e, addZ_append]; rfl

theorem intAt_ints (l : List Int) (i : Nat) : intAt (ints l) i = l.getD i 0 := by
  unfold intAt ints
  rw [List.getElem?_map, List.getD_eq_getElem?_getD]
  cases l[i]? <;> rfl
theorem isIntAt_ints (l : List Int) {i : Nat} (h : i < l.length) : isIntAt .i64 (ints l) i = true := by
  unfold isIntAt ints
  rw [List.getElem?_map, List.getElem?_eq_getElem h]; rfl

def adF (b s : Int) (p n c i : Nat) : Slots := [(0, .int .i64 b), (5, .int .i64 s), (8, .slice (some ⟨p, 0, none⟩) n c), (9, .int .i64 n), (10, .int .i64 i)]

theorem codeOk56 : codeOk (loopAt Try.prog 56 0) = true := by kernel_rfl
theorem codeOk64 : codeOk (loopAt Try.prog 64 0) = true := by kernel_rfl
theorem s8_sound : Sound Try.prog (strict (symPre [8, 12] fx3Pre) fx3) := sym_sound [8, 12] fx3_sound

theorem add_step (f : FuncId) (hf : f = 56 ∨ f = 64) (b s : Int) (l : List Int) (o : Bool) (g : Option Nat) (R : Heap) (lo c i : Nat) (hi : i < l.length) (hl : l.length ≤ 1000000) (hs : -2305843009213693952 ≤ s ∧ s ≤ 2305843009213693951) :
    WP Try.prog 22 (loopAt Try.prog f 0) ⟨adF b s 0 l.length c i, ⟨o, g, ints l⟩ :: R, lo⟩ .normal ⟨adF b (satZ (s + satZ (l.getD i 0) 62) b) 0 l.length c (i + 1), ⟨o, g, ints l⟩ :: R, lo⟩ := by
  have h1 := satZ_le (l.getD i 0) 62
  have e1 : IntKind.i64.wrap (s + satZ (intAt (ints l) (0 + Int.toNat (i : Int))) 62) = s + satZ (l.getD i 0) 62 := by
    rw [intAt_ints, Nat.zero_add, Int.toNat_natCast, wrap_in (inI_iff.2 (by omega))]
  have e2 : IntKind.i64.wrap ((i : Int) + 1) = ((i + 1 : Nat) : Int) := by rw [wrap_in (inI_iff.2 (by omega))]; omega
  have g2 : isIntAt .i64 (ints l) (0 + Int.toNat (i : Int)) = true := isIntAt_ints _ (by omega)
  have key : WP Try.prog 22 (loopAt Try.prog f 0) ⟨adF b s 0 l.length c i, ⟨o, g, ints l⟩ :: R, lo⟩ .normal
      ⟨[(0, .int .i64 b), (5, .int .i64 (satZ (IntKind.i64.wrap (s + satZ (intAt (ints l) (0 + Int.toNat (i : Int))) 62)) b)), (8, .slice (some ⟨0, 0, none⟩) l.length c), (9, .int .i64 l.length), (10, .int .i64 (IntKind.i64.wrap ((i : Int) + 1)))], ⟨o, g, ints l⟩ :: R, lo⟩ := by
    rcases hf with rfl | rfl
    all_goals
      refine WP.run (P := Try.prog) (X := ext) (pre := symPre [8, 12] fx3Pre) (C := fx3) (L := noLoops) (N := 300) (nt := 22) progOk extSound s8_sound (by first | exact codeOk56 | exact codeOk64) noLoops_ok (os := [(0, true), (0, true), (0, true)]) [0, 5, 8, 9, 10]
        (ob := [(isIntAt .i64 (ints l) (0 + Int.toNat (i : Int)), true), (decide (0 ≤ (i : Int) ∧ (i : Int) < l.length), true), (decide ((i : Int) < l.length), true)]) (by kernel_rfl) ?_
      rw [g2]
      simp [Holds]
      omega
  rw [e1, e2] at key
  exact key

theorem add_end (f : FuncId) (hf : f = 56 ∨ f = 64) (b s : Int) (H : Heap) (lo n c : Nat) :
    WP Try.prog 22 (loopAt Try.prog f 0) ⟨adF b s 0 n c n, H, lo⟩ (.exit 0) ⟨[(5, .int .i64 s)], H, lo⟩ := by
  rcases hf with rfl | rfl
  all_goals
    refine WP.run (P := Try.prog) (X := ext) (pre := symPre [8, 12] fx3Pre) (C := fx3) (L := noLoops) (N := 300) (nt := 22) progOk extSound s8_sound (by first | exact codeOk56 | exact codeOk64) noLoops_ok (os := [(0, false)]) [5]
      (ob := [(decide ((n : Int) < n), false)]) (by kernel_rfl) ?_
    simp [Holds]

theorem add_loop (f : FuncId) (hf : f = 56 ∨ f = 64) (b : Int) (l : List Int) (o : Bool) (g : Option Nat) (R : Heap) (lo c : Nat) (hl : l.length ≤ 1000000) :
    WP Try.prog 22 (.loop (loopAt Try.prog f 0)) ⟨adF b 0 0 l.length c 0, ⟨o, g, ints l⟩ :: R, lo⟩ (.exit 0) ⟨[(5, .int .i64 (addZ b l 0))], ⟨o, g, ints l⟩ :: R, lo⟩ := by
  have h := WP.loop (P := Try.prog) (nt := 22) (b := loopAt Try.prog f 0) (fun i => ⟨adF b (addZ b (l.take i) 0) 0 l.length c i, ⟨o, g, ints l⟩ :: R, lo⟩) l.length (x := .exit 0) (s' := ⟨[(5, .int .i64 (addZ b l 0))], ⟨o, g, ints l⟩ :: R, lo⟩) (by simp)
    (fun i hi => by
      have := add_step f hf b (addZ b (l.take i) 0) l o g R lo c i hi hl (addZ_le b _ 0 (by omega))
      rwa [← addZ_succ b l i hi] at this)
    (by
      have := add_end f hf b (addZ b (l.take l.length) 0) (⟨o, g, ints l⟩ :: R) lo l.length c
      rwa [List.take_length] at this ⊢)
  exact h

theorem first56 : firstId (loopAt Try.prog 56 0) = 3 := by kernel_rfl
theorem first64 : firstId (loopAt Try.prog 64 0) = 3 := by kernel_rfl
theorem loops56 : loopsOf (bodyOf Try.prog 56) = [loopAt Try.prog 56 0] := by kernel_rfl
theorem loops64 : loopsOf (bodyOf Try.prog 64) = [loopAt Try.prog 64 0] := by kernel_rfl

/-- Add, the row at the heap's head. -/
theorem add_ok (f : FuncId) (hf : f = 56 ∨ f = 64) (b : Int) (l : List Int) (o : Bool) (g : Option Nat) (R : Heap) (c : Nat) (hl : l.length ≤ 1000000) :
    CallOk Try.prog f [.int .i64 b, .slice (some ⟨0, 0, none⟩) l.length c] (⟨o, g, ints l⟩ :: R) (.int .i64 (addZ b l 0)) (⟨o, g, ints l⟩ :: R) (R.length + 1) := by
  have hw := add_loop f hf b l o g R (R.length + 1) c hl
  have hL : LoopsOk Try.prog 22 { loop := sumL 3 ⟨adF b 0 0 l.length c 0, ⟨o, g, ints l⟩ :: R, R.length + 1⟩ (.exit 0) ⟨[(5, .int .i64 (addZ b l 0))], ⟨o, g, ints l⟩ :: R, R.length + 1⟩ } (bodyOf Try.prog f) := by
    rcases hf with rfl | rfl
    · exact LoopsOk.sum rfl (fun b' hb' _ => by rw [loops56] at hb'; simp only [List.mem_singleton] at hb'; subst hb'; exact hw)
    · exact LoopsOk.sum rfl (fun b' hb' _ => by rw [loops64] at hb'; simp only [List.mem_singleton] at hb'; subst hb'; exact hw)
  have e56 : ntOf Try.prog 56 2 = 22 := by kernel_rfl
  have e64 : ntOf Try.prog 64 2 = 22 := by kernel_rfl
  rcases hf with rfl | rfl
  all_goals
    refine fnL_ok (N := 300) (pre := fx3Pre) (C := fx3) (os := []) progOk extSound fx3_sound (show LoopsOk _ (ntOf _ _ 2) _ _ by first | (rw [e56]; exact hL) | (rw [e64]; exact hL)) (ob := [(cdec (adF b 0 0 l.length c 0 = adF b 0 0 l.length c 0), true), (cdec ((⟨o, g, ints l⟩ :: R : Heap) = ⟨o, g, ints l⟩ :: R), true), (cdec (R.length + 1 = R.length + 1), true)]) (by kernel_rfl) ?_
    simp [Holds, cdec_iff]

theorem add_none (f : FuncId) (hf : f = 56 ∨ f = 64) (b : Int) (R : Heap) : CallOk Try.prog f [.int .i64 b, .slice none 0 0] R (.int .i64 0) R R.length := by
  rcases hf with rfl | rfl
  all_goals exact fnL_ok (N := 300) (pre := fx3Pre) (C := fx3) (os := []) progOk extSound fx3_sound noLoops_ok (ob := []) (by kernel_rfl) (by simp [Holds])

end Go.Proofs.Ytfbjpenbpbpcaaa

