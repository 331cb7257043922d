/-
  Chapter 08: what masks are, as numbers.
-/
import Derived.Test.YtfbjpenbpbpcaaaZE
import Derived.Test.YtfbjpenbpbpcaaaZF
namespace Go.Proofs.Ytfbjpenbpbpcaaa
open Go Den
set_option maxRecDepth 100000
set_option linter.unusedSimpArgs false
set_option linter.unusedVariables false

abbrev W (n : Int) : Int := IntKind.wrap .i64 n
theorem W_in {n : Int} (h1 : -9223372036854775808 ≤ n) (h2 : n ≤ 9223372036854775807) : W n = n := wrap_in (inI_iff.2 ⟨h1, h2⟩)
/-- The builtin max, and min. -/
def mxG (a b : Int) : Int := if b > a then b else a
def mnG (a b : Int) : Int := if b < a then b else a
theorem mxG_eq (a b : Int) : mxG a b = max a b := by unfold mxG; omega
theorem mnG_eq (a b : Int) : mnG a b = min a b := by unfold mnG; omega

def fwM : Int → List Int → List Int
  | _, [] => []
  | s, v :: l => mxG 0 (W (s - 8)) :: fwM (W (mxG s v - 12)) l
/-- From the last one on: the spread, what there is, the levels. -/
def bwM : Int → List Int → List Int → List Int
  | s, m :: ms, v :: l => mxG m (W (s - 8)) :: bwM (W (mxG s v - 12)) ms l
  | _, _, _ => []
def maskZ (l : List Int) : List Int := (bwM 0 (fwM 0 l).reverse l.reverse).reverse
def fwP : Int → List Int → List Int
  | _, [] => []
  | s, v :: l => max 0 (s - 8) :: fwP (max s v - 12) l
def bwP : Int → List Int → List Int → List Int
  | s, m :: ms, v :: l => max m (s - 8) :: bwP (max s v - 12) ms l
  | _, _, _ => []

def okV (v : Int) : Bool := decide (0 ≤ v) && decide (v ≤ 255)
def okL (l : List Int) : Bool := l.all okV
theorem okV_iff {v : Int} : okV v = true ↔ 0 ≤ v ∧ v ≤ 255 := by simp [okV]

theorem fw_eq : ∀ (l : List Int) (s : Int), -12 * (l.length + 20) ≤ s → s ≤ 255 → (∀ v ∈ l, 0 ≤ v ∧ v ≤ 255) → l.length ≤ 1000 → fwM s l = fwP s l := by
  intro l
  induction l with
  | nil => intros; rfl
  | cons v l ih =>
    intro s h1 h2 h3 h4
    have hv := h3 v (by simp)
    simp only [List.length_cons] at h1 h4
    simp only [fwM, fwP, mxG_eq]
    rw [W_in (n := s - 8) (by omega) (by omega), W_in (n := max s v - 12) (by omega) (by omega)]
    rw [ih (max s v - 12) (by omega) (by omega) (fun u hu => h3 u (by simp [hu])) (by omega)]
theorem bw_eq : ∀ (l ms : List Int) (s : Int), -12 * (l.length + 20) ≤ s → s ≤ 255 → (∀ v ∈ l, 0 ≤ v ∧ v ≤ 255) → l.length ≤ 1000 → bwM s ms l = bwP s ms l := by
  intro l
  induction l with
  | nil => intro ms s _ _ _ _; cases ms <;> rfl
  | cons v l ih =>
    intro ms s h1 h2 h3 h4
    cases ms with
    | nil => rfl
    | cons m ms =>
      have hv := h3 v (by simp)
      simp only [List.length_cons] at h1 h4
      simp only [bwM, bwP, mxG_eq]
      rw [W_in (n := s - 8) (by omega) (by omega), W_in (n := max s v - 12) (by omega) (by omega)]
      rw [ih ms (max s v - 12) (by omega) (by omega) (fun u hu => h3 u (by simp [hu])) (by omega)]

/-- What each band masks of the others. -/
def maskC : List Int → List Int
  | [a, b, c, d, e, g] => [max (max (max (max (max 0 (b - 20)) (c - 32)) (d - 44)) (e - 56)) (g - 68), max (max (max (max (max 0 (a - 20)) (c - 20)) (d - 32)) (e - 44)) (g - 56),
    max (max (max (max (max 0 (a - 32)) (b - 20)) (d - 20)) (e - 32)) (g - 44), max (max (max (max (max 0 (a - 44)) (b - 32)) (c - 20)) (e - 20)) (g - 32),
    max (max (max (max (max 0 (a - 56)) (b - 44)) (c - 32)) (d - 20)) (g - 20), max (max (max (max (max 0 (a - 68)) (b - 56)) (c - 44)) (d - 32)) (e - 20)]
  | _ => []

theorem maskP_eq (a b c d e g : Int) (ha : 0 ≤ a) (hb : 0 ≤ b) (hc : 0 ≤ c) (hd : 0 ≤ d) (he : 0 ≤ e) (hg : 0 ≤ g) : (bwP 0 (fwP 0 [a, b, c, d, e, g]).reverse [a, b, c, d, e, g].reverse).reverse = maskC [a, b, c, d, e, g] := by
  simp only [fwP, List.reverse_cons, List.reverse_nil, List.nil_append, List.cons_append, bwP, maskC, List.append_assoc]
  simp only [List.cons.injEq, and_true]
  have mx_sub : ∀ x y z : Int, max x y - z = max (x - z) (y - z) := by omega
  simp only [mx_sub]
  refine ⟨?_, ?_, ?_, ?_, ?_, ?_⟩ <;> grind
end Go.Proofs.Ytfbjpenbpbpcaaa

/-
  Chapter 08: bands.Check, Cost, Mask, and the references'.
-/
namespace Go.Proofs.Ytfbjpenbpbpcaaa
open Go Den
set_option maxRecDepth 100000
set_option linter.unusedSimpArgs false
set_option linter.unusedVariables false

/-- What calls come to, as told; what is told is asked. -/
def tellC (T : FuncId → List Value → Option Value) (B : Oracle) : Oracle := fun f args H => match H with
  | [] => match T f args with
    | some v => some (v, [], 0)
    | none => B f args H
  | _ => B f args H
noncomputable def tellPre (T : FuncId → List Value → Option Value) (pre : Pre) : Pre := fun f args H => match H with
  | [] => match T f args with
    | some v => cdec (CallOk Try.prog f args [] v [] 0)
    | none => pre f args H
  | _ => pre f args H
theorem tell_sound {pre : Pre} {B : Oracle} (T : FuncId → List Value → Option Value) (h : Sound Try.prog (strict pre B)) : Sound Try.prog (strict (tellPre T pre) (tellC T B)) := by
  intro f args H v H' n hc
  unfold strict at hc
  split at hc
  case h_2 => simp at hc
  rename_i hp
  unfold tellPre at hp
  unfold tellC at hc
  split at hc
  · split at hc
    · rename_i v0 ht
      simp only [Option.some.injEq, Prod.mk.injEq] at hc
      obtain ⟨rfl, rfl, rfl⟩ := hc
      simp only [ht] at hp
      exact cdec_iff.1 hp
    · rename_i ht
      simp only [ht] at hp
      exact h f args _ v H' n (by unfold strict; rw [hp]; exact hc)
  · rename_i hne
    split at hp
    · exact absurd rfl hne
    · exact h f args H v H' n (by unfold strict; rw [hp]; exact hc)
theorem tell_ok {T : FuncId → List Value → Option Value} {pre : Pre} {f : FuncId} {args : List Value} {v : Value} (h : T f args = some v) (hc : CallOk Try.prog f args [] v [] 0) : tellPre T pre f args [] = true := by
  unfold tellPre
  simp only [h]
  exact cdec_iff.2 hc

/-- slices.Backward is run. -/
noncomputable def bkC : Oracle := fun f args H => match Nat.beq f 127 with
  | true => evFn Try.prog ext 300 (fun _ _ _ => none) f args H
  | false => none
theorem bkC_plain : Sound Try.prog bkC := by
  intro f args H v H' l h
  unfold bkC at h
  split at h
  · exact evFn_sound progOk extSound (fun f args H v H' l h => by simp at h) 300 f args H v H' l h
  · simp at h
theorem bkC_sound : Sound Try.prog (strict noPre bkC) := plain_sound bkC_plain

theorem six {p : List Int → Prop} (h : ∀ a b c d e g, p [a, b, c, d, e, g]) (xs : List Int) (hm : xs.length = 6) : p xs := by
  match xs, hm with
  | [a, b, c, d, e, g], _ => exact h a b c d e g

def chk8 (l : List Int) : Int := if okL l = true then 0 else 1

theorem held6 (v : Int) : mxG 0 (mnG v 255) = v ↔ okV v = true := by
  rw [okV_iff, mxG_eq, mnG_eq]; omega

theorem check_ok (xs : List Int) (hm : xs.length = 6) : CallOk Try.prog 82 [.agg (ints xs).toArray] [] (.int .i64 (chk8 xs)) [] 0 := by
  refine six (p := fun xs => CallOk Try.prog 82 [.agg (ints xs).toArray] [] (.int .i64 (chk8 xs)) [] 0) (fun a b c d e g => ?_) xs hm
  have key : ([mxG 0 (mnG a 255), mxG 0 (mnG b 255), mxG 0 (mnG c 255), mxG 0 (mnG d 255), mxG 0 (mnG e 255), mxG 0 (mnG g 255)] = [a, b, c, d, e, g]) ↔ okL [a, b, c, d, e, g] = true := by
    simp only [List.cons.injEq, held6, okL, List.all_cons, List.all_nil, Bool.and_true, Bool.and_eq_true, and_true]
  unfold chk8
  by_cases h : okL [a, b, c, d, e, g] = true
  · rw [if_pos h]
    exact pf_ok (N := 300) (L := noLoops) (os := [(7, false)]) (ob := [(!decide ([mxG 0 (mnG a 255), mxG 0 (mnG b 255), mxG 0 (mnG c 255), mxG 0 (mnG d 255), mxG 0 (mnG e 255), mxG 0 (mnG g 255)] = [a, b, c, d, e, g]), false)]) noC_sound noLoops_ok (by kernel_rfl) (by simp only [Holds, List.mem_singleton, forall_eq]; rw [decide_eq_true (key.2 h)]; rfl) rfl
  · rw [if_neg h]
    exact pf_ok (N := 300) (L := noLoops) (os := [(7, true)]) (ob := [(!decide ([mxG 0 (mnG a 255), mxG 0 (mnG b 255), mxG 0 (mnG c 255), mxG 0 (mnG d 255), mxG 0 (mnG e 255), mxG 0 (mnG g 255)] = [a, b, c, d, e, g]), true)]) noC_sound noLoops_ok (by kernel_rfl) (by simp only [Holds, List.mem_singleton, forall_eq]; rw [decide_eq_false (fun hh => h (key.1 hh))]; rfl) rfl

/-! ### rck (99) -/
def rckF (a : Value) (i : Nat) : Slots := [(5, a), (6, .int .i64 i)]
theorem rck_code : codeOk (loopAt Try.prog 99 0) = true := by kernel_rfl
theorem rck_loops : loopsOf (bodyOf Try.prog 99) = [loopAt Try.prog 99 0] := by kernel_rfl
theorem rck_good (x0 x1 x2 x3 x4 x5 : Int) (H : Heap) (lo : Nat) : (List.range' 0 6).map (fun (i : Nat) => evL Try.prog ext (nmPre noPre) (nbC [] [(10, false), (13, false)] noC) noLoops 300 16 (loopAt Try.prog 99 0) (rckF (.agg (ints [x0, x1, x2, x3, x4, x5]).toArray) i) H lo [] [5, 6]) =
  (List.range' 0 6).map fun (i : Nat) => some (.normal, rckF (.agg (ints [x0, x1, x2, x3, x4, x5]).toArray) (i + 1), H, lo, [(decide (([x0, x1, x2, x3, x4, x5].getD i 0) > 255), false), (decide (([x0, x1, x2, x3, x4, x5].getD i 0) < 0), false)]) := by kernel_rfl
theorem rck_bad0 (x0 x1 x2 x3 x4 x5 : Int) (H : Heap) (lo : Nat) : (List.range' 0 6).map (fun (i : Nat) => evL Try.prog ext (nmPre noPre) (nbC [] [(10, true)] noC) noLoops 300 16 (loopAt Try.prog 99 0) (rckF (.agg (ints [x0, x1, x2, x3, x4, x5]).toArray) i) H lo [] [2]) =
  (List.range' 0 6).map fun (i : Nat) => some (.ret, [(2, .int .i64 1)], H, lo, [(decide (([x0, x1, x2, x3, x4, x5].getD i 0) < 0), true)]) := by kernel_rfl
theorem rck_bad1 (x0 x1 x2 x3 x4 x5 : Int) (H : Heap) (lo : Nat) : (List.range' 0 6).map (fun (i : Nat) => evL Try.prog ext (nmPre noPre) (nbC [] [(10, false), (13, true)] noC) noLoops 300 16 (loopAt Try.prog 99 0) (rckF (.agg (ints [x0, x1, x2, x3, x4, x5]).toArray) i) H lo [] [2]) =
  (List.range' 0 6).map fun (i : Nat) => some (.ret, [(2, .int .i64 1)], H, lo, [(decide (([x0, x1, x2, x3, x4, x5].getD i 0) > 255), true), (decide (([x0, x1, x2, x3, x4, x5].getD i 0) < 0), false)]) := by kernel_rfl
theorem rck_end (x0 x1 x2 x3 x4 x5 : Int) (H : Heap) (lo : Nat) : evL Try.prog ext noPre noC noLoops 300 16 (loopAt Try.prog 99 0) (rckF (.agg (ints [x0, x1, x2, x3, x4, x5]).toArray) 6) H lo [] [] = some (.exit 0, [], H, lo, []) := by kernel_rfl
noncomputable def rckN (a : Value) (H : Heap) (lo : Nat) (x : Ex) (F : Slots) : Loops := { loop := sumL 2 ⟨rckF a 0, H, lo⟩ x ⟨F, H, lo⟩ }
theorem rck_fnt (x0 x1 x2 x3 x4 x5 : Int) : (evFnL Try.prog ext 300 noPre noC (rckN (.agg (ints [x0, x1, x2, x3, x4, x5]).toArray) [⟨true, none, ints [x0, x1, x2, x3, x4, x5]⟩] 0 (.exit 0) []) [] 99 [(.agg (ints [x0, x1, x2, x3, x4, x5]).toArray)] []).map (fun r => (r.1.1, r.2)) = some (.int .i64 0, [(cdec (rckF (.agg (ints [x0, x1, x2, x3, x4, x5]).toArray) 0 = rckF (.agg (ints [x0, x1, x2, x3, x4, x5]).toArray) 0), true), (cdec ([(⟨true, none, ints [x0, x1, x2, x3, x4, x5]⟩ : Blk)] = [⟨true, none, ints [x0, x1, x2, x3, x4, x5]⟩]), true), (cdec (0 = 0), true)]) := by kernel_rfl
theorem rck_fnf (x0 x1 x2 x3 x4 x5 : Int) : (evFnL Try.prog ext 300 noPre noC (rckN (.agg (ints [x0, x1, x2, x3, x4, x5]).toArray) [⟨true, none, ints [x0, x1, x2, x3, x4, x5]⟩] 0 .ret [(2, .int .i64 1)]) [] 99 [(.agg (ints [x0, x1, x2, x3, x4, x5]).toArray)] []).map (fun r => (r.1.1, r.2)) = some (.int .i64 1, [(cdec (rckF (.agg (ints [x0, x1, x2, x3, x4, x5]).toArray) 0 = rckF (.agg (ints [x0, x1, x2, x3, x4, x5]).toArray) 0), true), (cdec ([(⟨true, none, ints [x0, x1, x2, x3, x4, x5]⟩ : Blk)] = [⟨true, none, ints [x0, x1, x2, x3, x4, x5]⟩]), true), (cdec (0 = 0), true)]) := by kernel_rfl

theorem rck_ok (xs : List Int) (hm : xs.length = 6) : CallOk Try.prog 99 [.agg (ints xs).toArray] [] (bif xs.all (fun x => okV x) then .int .i64 0 else .int .i64 1) [] 0 := by
  obtain ⟨x0, x1, x2, x3, x4, x5, rfl⟩ : ∃ x0 x1 x2 x3 x4 x5, xs = [x0, x1, x2, x3, x4, x5] := by match xs, hm with | [x0, x1, x2, x3, x4, x5], _ => exact ⟨x0, x1, x2, x3, x4, x5, rfl⟩
  have hstep : ∀ i, i < 6 → (okV ([x0, x1, x2, x3, x4, x5].getD i 0)) = true → WP Try.prog 16 (loopAt Try.prog 99 0) ⟨rckF (.agg (ints [x0, x1, x2, x3, x4, x5]).toArray) i, [⟨true, none, ints [x0, x1, x2, x3, x4, x5]⟩], 0⟩ .normal ⟨rckF (.agg (ints [x0, x1, x2, x3, x4, x5]).toArray) (i + 1), [⟨true, none, ints [x0, x1, x2, x3, x4, x5]⟩], 0⟩ := by
    intro i hi hg
    refine WP.run progOk extSound (nb_sound [] [(10, false), (13, false)] noC_sound) rck_code noLoops_ok [5, 6] (of_list (rck_good x0 x1 x2 x3 x4 x5 _ _) (by omega) (by omega)) ?_
    revert hg
    generalize ([x0, x1, x2, x3, x4, x5].getD i 0) = y
    intro hg
    rw [okV_iff] at hg
    simp [Holds]
    omega
  have hbad : ∀ i, i < 6 → (okV ([x0, x1, x2, x3, x4, x5].getD i 0)) = false → WP Try.prog 16 (loopAt Try.prog 99 0) ⟨rckF (.agg (ints [x0, x1, x2, x3, x4, x5]).toArray) i, [⟨true, none, ints [x0, x1, x2, x3, x4, x5]⟩], 0⟩ .ret ⟨[(2, .int .i64 1)], [⟨true, none, ints [x0, x1, x2, x3, x4, x5]⟩], 0⟩ := by
    intro i hi hg
    by_cases hc0 : ([x0, x1, x2, x3, x4, x5].getD i 0) < 0
    · refine WP.run progOk extSound (nb_sound [] [(10, true)] noC_sound) rck_code noLoops_ok [2] (of_list (rck_bad0 x0 x1 x2 x3 x4 x5 _ _) (by omega) (by omega)) ?_
      revert hc0
      generalize ([x0, x1, x2, x3, x4, x5].getD i 0) = y
      intro hc0
      simp [Holds, hc0]
    refine WP.run progOk extSound (nb_sound [] [(10, false), (13, true)] noC_sound) rck_code noLoops_ok [2] (of_list (rck_bad1 x0 x1 x2 x3 x4 x5 _ _) (by omega) (by omega)) ?_
    revert hg hc0
    generalize ([x0, x1, x2, x3, x4, x5].getD i 0) = y
    intro hg hc0
    have hg2 : ¬ (0 ≤ y ∧ y ≤ 255) := fun h => by rw [okV_iff.2 h] at hg; simp at hg
    simp [Holds]
    omega
  have hend : WP Try.prog 16 (loopAt Try.prog 99 0) ⟨rckF (.agg (ints [x0, x1, x2, x3, x4, x5]).toArray) 6, [⟨true, none, ints [x0, x1, x2, x3, x4, x5]⟩], 0⟩ (.exit 0) ⟨[], [⟨true, none, ints [x0, x1, x2, x3, x4, x5]⟩], 0⟩ :=
    WP.run progOk extSound noC_sound rck_code noLoops_ok [] (rck_end x0 x1 x2 x3 x4 x5 _ _) (by simp [Holds])
  have hsum : ∀ x F, WP Try.prog 16 (.loop (loopAt Try.prog 99 0)) ⟨rckF (.agg (ints [x0, x1, x2, x3, x4, x5]).toArray) 0, [⟨true, none, ints [x0, x1, x2, x3, x4, x5]⟩], 0⟩ x ⟨F, [⟨true, none, ints [x0, x1, x2, x3, x4, x5]⟩], 0⟩ → LoopsOk Try.prog 16 (rckN (.agg (ints [x0, x1, x2, x3, x4, x5]).toArray) [⟨true, none, ints [x0, x1, x2, x3, x4, x5]⟩] 0 x F) (bodyOf Try.prog 99) := fun x F h => LoopsOk.sum rfl (by
    intro b hb _
    rw [rck_loops] at hb
    simp only [List.mem_singleton] at hb
    subst hb
    exact h)
  cases ha : [x0, x1, x2, x3, x4, x5].all (fun x => okV x) with
  | true =>
    have hl := WP.loop (fun i => ⟨rckF (.agg (ints [x0, x1, x2, x3, x4, x5]).toArray) i, [⟨true, none, ints [x0, x1, x2, x3, x4, x5]⟩], 0⟩) 6 (by simp) (fun i hi => hstep i hi (all_getD ha hi)) hend
    exact pf_ok noC_sound (hsum _ _ hl) (rck_fnt x0 x1 x2 x3 x4 x5) (by simp [Holds, cdec]) rfl
  | false =>
    obtain ⟨i, hi, hg, hj⟩ := first_bad _ _ ha
    have hi' : i < 6 := hi
    have hl := WP.loop (fun i => ⟨rckF (.agg (ints [x0, x1, x2, x3, x4, x5]).toArray) i, [⟨true, none, ints [x0, x1, x2, x3, x4, x5]⟩], 0⟩) i (by simp) (fun j hj' => hstep j (by omega) (hj j hj')) (hbad i hi' hg)
    exact pf_ok noC_sound (hsum _ _ hl) (rck_fnf x0 x1 x2 x3 x4 x5) (by simp [Holds, cdec]) rfl

theorem rcheck_ok (xs : List Int) (hm : xs.length = 6) : CallOk Try.prog 99 [.agg (ints xs).toArray] [] (.int .i64 (chk8 xs)) [] 0 := by
  have h := rck_ok xs hm
  unfold chk8 okL
  cases hb : xs.all okV with
  | true => rw [show (xs.all fun x => okV x) = true from hb] at h; simpa using h
  | false => rw [show (xs.all fun x => okV x) = false from hb] at h; simpa using h

/-! ### Cost -/
def costG : List Int → Int
  | [a, b, c, d, e, g] => W (W (W (W (W (W (0 + W (a * 1)) + W (b * 1)) + W (c * 2)) + W (d * 2)) + W (e * 4)) + W (g * 6))
  | _ => 0
theorem cost_ok (xs : List Int) (hm : xs.length = 6) : CallOk Try.prog 83 [.agg (ints xs).toArray] [] (.int .i64 (costG xs)) [] 0 := by
  refine six (p := fun xs => CallOk Try.prog 83 [.agg (ints xs).toArray] [] (.int .i64 (costG xs)) [] 0) (fun a b c d e g => ?_) xs hm
  exact pf_ok (N := 300) (L := noLoops) (os := []) (ob := []) (plain_sound (evFn_sound progOk extSound (C := noC) (fun f args H v H' l h => by simp [noC] at h) 300)) noLoops_ok (by kernel_rfl) (by simp [Holds]) rfl
theorem rcost_ok (xs : List Int) (hm : xs.length = 6) : CallOk Try.prog 128 [.agg (ints xs).toArray] [] (.int .i64 (costG xs)) [] 0 := by
  refine six (p := fun xs => CallOk Try.prog 128 [.agg (ints xs).toArray] [] (.int .i64 (costG xs)) [] 0) (fun a b c d e g => ?_) xs hm
  exact pf_ok (N := 300) (L := noLoops) (os := []) (ob := []) (plain_sound (evFn_sound progOk extSound (C := noC) (fun f args H v H' l h => by simp [noC] at h) 300)) noLoops_ok (by kernel_rfl) (by simp [Holds]) rfl

/-! ### Mask -/
def ckT (n : Int) : FuncId → List Value → Option Value := fun f args => match f, args with
  | 82, [_] => some (.int .i64 n)
  | 99, [_] => some (.int .i64 n)
  | _, _ => none
noncomputable abbrev ckC (n : Int) : Oracle := tellC (ckT n) bkC
noncomputable abbrev ckP (n : Int) : Pre := tellPre (ckT n) noPre
theorem ck_sound (n : Int) : Sound Try.prog (strict (ckP n) (ckC n)) := tell_sound _ bkC_sound
theorem mask_run (a b c d e g : Int) : (evFnL Try.prog ext 300 (ckP 0) (ckC 0) noLoops [(0, true)] 78 [.agg (ints [a, b, c, d, e, g]).toArray] []).map (fun r => (r.1.1, r.2)) = some (.tuple #[.agg (ints (maskZ [a, b, c, d, e, g])).toArray, .int .i64 0], [(ckP 0 82 [.agg (ints [a, b, c, d, e, g]).toArray] [], true)]) := by kernel_rfl
theorem mask_run1 (a b c d e g : Int) : (evFnL Try.prog ext 300 (ckP 1) (ckC 1) noLoops [(0, true)] 78 [.agg (ints [a, b, c, d, e, g]).toArray] []).map (fun r => (r.1.1, r.2)) = some (.tuple #[.agg (ints (List.replicate 6 0)).toArray, .int .i64 1], [(ckP 1 82 [.agg (ints [a, b, c, d, e, g]).toArray] [], true)]) := by kernel_rfl
def rm1 (acc v k : Int) : Int := mxG acc (W (W (v - k) - 8))
def rmaskZ : List Int → List Int
  | [a, b, c, d, e, g] => [(rm1 (rm1 (rm1 (rm1 (rm1 0 b 12) c 24) d 36) e 48) g 60), (rm1 (rm1 (rm1 (rm1 (rm1 0 a 12) c 12) d 24) e 36) g 48), (rm1 (rm1 (rm1 (rm1 (rm1 0 a 24) b 12) d 12) e 24) g 36), (rm1 (rm1 (rm1 (rm1 (rm1 0 a 36) b 24) c 12) e 12) g 24), (rm1 (rm1 (rm1 (rm1 (rm1 0 a 48) b 36) c 24) d 12) g 12), (rm1 (rm1 (rm1 (rm1 (rm1 0 a 60) b 48) c 36) d 24) e 12)]
  | _ => []
theorem rmask_run (a b c d e g : Int) : (evFnL Try.prog ext 300 (ckP 0) (ckC 0) noLoops [(0, true)] 79 [.agg (ints [a, b, c, d, e, g]).toArray] []).map (fun r => (r.1.1, r.2)) = some (.tuple #[.agg (ints (rmaskZ [a, b, c, d, e, g])).toArray, .int .i64 0], [(ckP 0 99 [.agg (ints [a, b, c, d, e, g]).toArray] [], true)]) := by kernel_rfl
theorem rmask_run1 (a b c d e g : Int) : (evFnL Try.prog ext 300 (ckP 1) (ckC 1) noLoops [(0, true)] 79 [.agg (ints [a, b, c, d, e, g]).toArray] []).map (fun r => (r.1.1, r.2)) = some (.tuple #[.agg (ints (List.replicate 6 0)).toArray, .int .i64 1], [(ckP 1 99 [.agg (ints [a, b, c, d, e, g]).toArray] [], true)]) := by kernel_rfl

theorem okL6 {a b c d e g : Int} (h : okL [a, b, c, d, e, g] = true) : (0 ≤ a ∧ a ≤ 255) ∧ (0 ≤ b ∧ b ≤ 255) ∧ (0 ≤ c ∧ c ≤ 255) ∧ (0 ≤ d ∧ d ≤ 255) ∧ (0 ≤ e ∧ e ≤ 255) ∧ (0 ≤ g ∧ g ≤ 255) := by
  simpa only [okL, List.all_cons, List.all_nil, Bool.and_true, Bool.and_eq_true, okV_iff] using h
theorem rm1_eq {acc v k : Int} (h1 : 0 ≤ v) (h2 : v ≤ 255) (h3 : 0 ≤ k) (h4 : k ≤ 60) : rm1 acc v k = max acc (v - (k + 8)) := by
  unfold rm1
  rw [W_in (n := v - k) (by omega) (by omega), W_in (by omega) (by omega), mxG_eq]; omega
theorem maskZ_eq {a b c d e g : Int} (h : okL [a, b, c, d, e, g] = true) : maskZ [a, b, c, d, e, g] = maskC [a, b, c, d, e, g] := by
  have hm : ∀ v ∈ [a, b, c, d, e, g], 0 ≤ v ∧ v ≤ 255 := fun v hv => okV_iff.1 (List.all_eq_true.1 h v hv)
  obtain ⟨ha, hb, hc, hd, he, hg⟩ := okL6 h
  unfold maskZ
  rw [fw_eq _ _ (by simp) (by omega) hm (by simp), bw_eq _ _ _ (by simp) (by omega) (fun v hv => hm v (List.mem_reverse.1 hv)) (by simp)]
  exact maskP_eq a b c d e g ha.1 hb.1 hc.1 hd.1 he.1 hg.1
theorem rmaskZ_eq {a b c d e g : Int} (h : okL [a, b, c, d, e, g] = true) : rmaskZ [a, b, c, d, e, g] = maskC [a, b, c, d, e, g] := by
  obtain ⟨ha, hb, hc, hd, he, hg⟩ := okL6 h
  have e1 : ∀ acc k, 0 ≤ k → k ≤ 60 → rm1 acc a k = max acc (a - (k + 8)) := fun acc k => rm1_eq ha.1 ha.2
  have e2 : ∀ acc k, 0 ≤ k → k ≤ 60 → rm1 acc b k = max acc (b - (k + 8)) := fun acc k => rm1_eq hb.1 hb.2
  have e3 : ∀ acc k, 0 ≤ k → k ≤ 60 → rm1 acc c k = max acc (c - (k + 8)) := fun acc k => rm1_eq hc.1 hc.2
  have e4 : ∀ acc k, 0 ≤ k → k ≤ 60 → rm1 acc d k = max acc (d - (k + 8)) := fun acc k => rm1_eq hd.1 hd.2
  have e5 : ∀ acc k, 0 ≤ k → k ≤ 60 → rm1 acc e k = max acc (e - (k + 8)) := fun acc k => rm1_eq he.1 he.2
  have e6 : ∀ acc k, 0 ≤ k → k ≤ 60 → rm1 acc g k = max acc (g - (k + 8)) := fun acc k => rm1_eq hg.1 hg.2
  unfold rmaskZ maskC
  simp only [e1 _ 12 (by omega) (by omega), e1 _ 24 (by omega) (by omega), e1 _ 36 (by omega) (by omega), e1 _ 48 (by omega) (by omega), e1 _ 60 (by omega) (by omega), e2 _ 12 (by omega) (by omega), e2 _ 24 (by omega) (by omega), e2 _ 36 (by omega) (by omega), e2 _ 48 (by omega) (by omega),
    e3 _ 12 (by omega) (by omega), e3 _ 24 (by omega) (by omega), e3 _ 36 (by omega) (by omega), e4 _ 12 (by omega) (by omega), e4 _ 24 (by omega) (by omega), e4 _ 36 (by omega) (by omega),
    e5 _ 12 (by omega) (by omega), e5 _ 24 (by omega) (by omega), e5 _ 36 (by omega) (by omega), e5 _ 48 (by omega) (by omega), e6 _ 12 (by omega) (by omega), e6 _ 24 (by omega) (by omega), e6 _ 36 (by omega) (by omega), e6 _ 48 (by omega) (by omega), e6 _ 60 (by omega) (by omega), Int.reduceAdd]

def maskO (l : List Int) : Value := if okL l = true then .tuple #[.agg (ints (maskC l)).toArray, .int .i64 0] else .tuple #[.agg (ints (List.replicate 6 0)).toArray, .int .i64 1]
theorem mask_ok (xs : List Int) (hm : xs.length = 6) : CallOk Try.prog 78 [.agg (ints xs).toArray] [] (maskO xs) [] 0 := by
  have hc := check_ok xs hm
  revert hc
  refine six (p := fun xs => CallOk Try.prog 82 [.agg (ints xs).toArray] [] (.int .i64 (chk8 xs)) [] 0 → CallOk Try.prog 78 [.agg (ints xs).toArray] [] (maskO xs) [] 0) (fun a b c d e g hc => ?_) xs hm
  unfold chk8 at hc
  unfold maskO
  by_cases h : okL [a, b, c, d, e, g] = true
  · rw [if_pos h] at hc ⊢
    rw [← maskZ_eq h]
    exact pf_ok (ck_sound 0) noLoops_ok (mask_run a b c d e g) (by simp only [Holds, List.mem_singleton, forall_eq]; exact tell_ok rfl hc) rfl
  · rw [if_neg h] at hc ⊢
    exact pf_ok (ck_sound 1) noLoops_ok (mask_run1 a b c d e g) (by simp only [Holds, List.mem_singleton, forall_eq]; exact tell_ok rfl hc) rfl
theorem rmask_ok (xs : List Int) (hm : xs.length = 6) : CallOk Try.prog 79 [.agg (ints xs).toArray] [] (maskO xs) [] 0 := by
  have hc := rcheck_ok xs hm
  revert hc
  refine six (p := fun xs => CallOk Try.prog 99 [.agg (ints xs).toArray] [] (.int .i64 (chk8 xs)) [] 0 → CallOk Try.prog 79 [.agg (ints xs).toArray] [] (maskO xs) [] 0) (fun a b c d e g hc => ?_) xs hm
  unfold chk8 at hc
  unfold maskO
  by_cases h : okL [a, b, c, d, e, g] = true
  · rw [if_pos h] at hc ⊢
    rw [← rmaskZ_eq h]
    exact pf_ok (ck_sound 0) noLoops_ok (rmask_run a b c d e g) (by simp only [Holds, List.mem_singleton, forall_eq]; exact tell_ok rfl hc) rfl
  · rw [if_neg h] at hc ⊢
    exact pf_ok (ck_sound 1) noLoops_ok (rmask_run1 a b c d e g) (by simp only [Holds, List.mem_singleton, forall_eq]; exact tell_ok rfl hc) rfl

end Go.Proofs.Ytfbjpenbpbpcaaa

/-
  Chapter 08: bands.Share, the walk.
-/
namespace Go.Proofs.Ytfbjpenbpbpcaaa
open Go Den
set_option maxRecDepth 100000
set_option linter.unusedSimpArgs false
set_option linter.unusedVariables false

def blkI (l : List Int) : Blk := ⟨true, none, ints l⟩
def ptI (b : Nat) : Value := .pointer (some ⟨b, 0, none⟩)

/-! ### what bands would have -/
def wantG (l m : Int) : Int := mxG 0 (mnG (W ((W (W (W (l - m) + 8) - 1)).tdiv 8)) 7)
def wantZ (l m : Int) : Int := if l ≤ m then 0 else wantG l m
def aS (l m : List Int) : Nat → List Int
  | 0 => [0, 0, 0, 0, 0, 0]
  | i + 1 => (aS l m i).set i (wantZ (l.getD i 0) (m.getD i 0))
def s1F (i : Nat) : Slots := [(2, ptI 0), (3, ptI 1), (4, ptI 2), (5, .int .i64 0), (6, ptI 3), (23, .int .i64 i)]
def s1H (l m : List Int) (bud : Int) (A : List Int) : Heap := [blkI l, ⟨true, none, [.int .i64 bud]⟩, blkI A, blkI m]
theorem s1_t (a b c d e g m0 m1 m2 m3 m4 m5 bud : Int) : (List.range' 0 6).map (fun (i : Nat) => evL Try.prog ext noPre noC noLoops 300 72 (loopAt Try.prog 80 0) (s1F i) (s1H [a, b, c, d, e, g] [m0, m1, m2, m3, m4, m5] bud (aS [a, b, c, d, e, g] [m0, m1, m2, m3, m4, m5] i)) 0 [(2, true)] [2, 3, 4, 5, 6, 23]) =
  (List.range' 0 6).map fun (i : Nat) => some (.normal, s1F (i + 1), s1H [a, b, c, d, e, g] [m0, m1, m2, m3, m4, m5] bud ((aS [a, b, c, d, e, g] [m0, m1, m2, m3, m4, m5] i).set i 0), 0, [(decide (([a, b, c, d, e, g].getD i 0) ≤ ([m0, m1, m2, m3, m4, m5].getD i 0)), true)]) := by kernel_rfl
theorem s1_f (a b c d e g m0 m1 m2 m3 m4 m5 bud : Int) : (List.range' 0 6).map (fun (i : Nat) => evL Try.prog ext noPre noC noLoops 300 72 (loopAt Try.prog 80 0) (s1F i) (s1H [a, b, c, d, e, g] [m0, m1, m2, m3, m4, m5] bud (aS [a, b, c, d, e, g] [m0, m1, m2, m3, m4, m5] i)) 0 [(2, false)] [2, 3, 4, 5, 6, 23]) =
  (List.range' 0 6).map fun (i : Nat) => some (.normal, s1F (i + 1), s1H [a, b, c, d, e, g] [m0, m1, m2, m3, m4, m5] bud ((aS [a, b, c, d, e, g] [m0, m1, m2, m3, m4, m5] i).set i (wantG ([a, b, c, d, e, g].getD i 0) ([m0, m1, m2, m3, m4, m5].getD i 0))), 0, [(decide (([a, b, c, d, e, g].getD i 0) ≤ ([m0, m1, m2, m3, m4, m5].getD i 0)), false)]) := by kernel_rfl
theorem s1_e (a b c d e g m0 m1 m2 m3 m4 m5 bud : Int) : evL Try.prog ext noPre noC noLoops 300 72 (loopAt Try.prog 80 0) (s1F 6) (s1H [a, b, c, d, e, g] [m0, m1, m2, m3, m4, m5] bud (aS [a, b, c, d, e, g] [m0, m1, m2, m3, m4, m5] 6)) 0 [] [2, 3, 4, 5, 6] =
  some (.exit 0, [(2, ptI 0), (3, ptI 1), (4, ptI 2), (5, .int .i64 0), (6, ptI 3)], s1H [a, b, c, d, e, g] [m0, m1, m2, m3, m4, m5] bud (aS [a, b, c, d, e, g] [m0, m1, m2, m3, m4, m5] 6), 0, []) := by kernel_rfl
theorem s1_code : codeOk (loopAt Try.prog 80 0) = true := by kernel_rfl
theorem s1_loop (a b c d e g m0 m1 m2 m3 m4 m5 bud : Int) : WP Try.prog 72 (.loop (loopAt Try.prog 80 0)) ⟨s1F 0, s1H [a, b, c, d, e, g] [m0, m1, m2, m3, m4, m5] bud [0, 0, 0, 0, 0, 0], 0⟩ (.exit 0)
    ⟨[(2, ptI 0), (3, ptI 1), (4, ptI 2), (5, .int .i64 0), (6, ptI 3)], s1H [a, b, c, d, e, g] [m0, m1, m2, m3, m4, m5] bud (aS [a, b, c, d, e, g] [m0, m1, m2, m3, m4, m5] 6), 0⟩ := by
  refine WP.loop (fun i => ⟨s1F i, s1H [a, b, c, d, e, g] [m0, m1, m2, m3, m4, m5] bud (aS [a, b, c, d, e, g] [m0, m1, m2, m3, m4, m5] i), 0⟩) 6 (by simp) (fun i hi => ?_) (WP.run progOk extSound noC_sound s1_code noLoops_ok _ (s1_e a b c d e g m0 m1 m2 m3 m4 m5 bud) (by simp [Holds]))
  by_cases h : ([a, b, c, d, e, g].getD i 0) ≤ ([m0, m1, m2, m3, m4, m5].getD i 0)
  · have e1 : aS [a, b, c, d, e, g] [m0, m1, m2, m3, m4, m5] (i + 1) = (aS [a, b, c, d, e, g] [m0, m1, m2, m3, m4, m5] i).set i 0 := by simp only [aS, wantZ]; rw [if_pos h]
    show WP _ _ _ _ _ ⟨_, s1H _ _ _ (aS _ _ (i + 1)), _⟩
    rw [e1]
    exact WP.run progOk extSound noC_sound s1_code noLoops_ok _ (of_list (s1_t a b c d e g m0 m1 m2 m3 m4 m5 bud) (by omega) (by omega)) (by simp only [Holds, List.mem_singleton, forall_eq]; exact decide_eq_true h)
  · have e1 : aS [a, b, c, d, e, g] [m0, m1, m2, m3, m4, m5] (i + 1) = (aS [a, b, c, d, e, g] [m0, m1, m2, m3, m4, m5] i).set i (wantG ([a, b, c, d, e, g].getD i 0) ([m0, m1, m2, m3, m4, m5].getD i 0)) := by simp only [aS, wantZ]; rw [if_neg h]
    show WP _ _ _ _ _ ⟨_, s1H _ _ _ (aS _ _ (i + 1)), _⟩
    rw [e1]
    exact WP.run progOk extSound noC_sound s1_code noLoops_ok _ (of_list (s1_f a b c d e g m0 m1 m2 m3 m4 m5 bud) (by omega) (by omega)) (by simp only [Holds, List.mem_singleton, forall_eq]; exact decide_eq_false h)

/-! ### the cut -/
def slB : Blk := ⟨true, none, [.slice (some ⟨2, 0, none⟩) 6 6]⟩
def topG : Nat → Heap
  | 0 => [⟨true, none, [.int .i64 7]⟩]
  | i + 1 => topG i ++ [slB, ⟨true, none, [.int .i64 (6 - (i : Int))]⟩]
def s2F (i : Nat) : Slots := [(3, ptI 1), (4, ptI 2), (5, .int .i64 0), (8, ptI (4 + 2 * i))]
def s2H (l m : List Int) (bud : Int) (i : Nat) (A : List Int) : Heap := [blkI l, ⟨true, none, [.int .i64 bud]⟩, blkI A, blkI m] ++ topG i
def rgF (i : Nat) : Slots := [(3, ptI 1), (4, ptI 2), (5, .int .i64 0), (8, ptI (4 + 2 * i)), (55, .func (.func 139) #[] #[ptI (5 + 2 * i)])]
def rbF (i : Nat) (k v : Int) : Slots := [(3, ptI 1), (4, ptI 2), (5, .int .i64 0), (8, ptI (4 + 2 * i)), (9, .int .i64 k), (10, .int .i64 v)]
def partsOf : Code → Operand × Array Tmp × Code × Code
  | .rangeFunc g ps a b => (g, ps, a, b)
  | _ => (.func 0, #[], .skip, .skip)
noncomputable def rgC : Code := (rangesOf (bodyOf Try.prog 80)).getD 0 .skip
noncomputable def asgC : Code := (partsOf rgC).2.2.1
noncomputable def bdyC : Code := (partsOf rgC).2.2.2
theorem rg_eq : rgC = .rangeFunc (.tmp 55) #[56, 57] asgC bdyC := by kernel_rfl

def coT : FuncId → List Value → Option Value := fun f args => match f, args with
  | 83, [.agg cs] => match intsOf .i64 cs.toList with
    | some xs => some (.int .i64 (costG xs))
    | none => none
  | _, _ => none
noncomputable abbrev coC : Oracle := tellC coT bkC
noncomputable abbrev coP : Pre := tellPre coT noPre
theorem co_sound : Sound Try.prog (strict coP coC) := tell_sound _ bkC_sound
theorem co_ok (a0 a1 a2 a3 a4 a5 : Int) : coP 83 [.agg (ints [a0, a1, a2, a3, a4, a5]).toArray] [] = true := tell_ok rfl (cost_ok [a0, a1, a2, a3, a4, a5] rfl)

theorem rg_asg (H : Heap) : (List.range' 0 42).map (fun (n : Nat) => fun (v : Int) => evL Try.prog ext noPre noC noLoops 300 72 asgC (putF 72 (putF 72 (rgF (n / 6)) (some 56) (.int .i64 (n % 6 : Nat))) (some 57) (.int .i64 v)) H 0 [] [3, 4, 5, 8, 9, 10]) =
  (List.range' 0 42).map fun (n : Nat) => fun (v : Int) => some (.normal, rbF (n / 6) (n % 6 : Nat) v, H, 0, []) := by kernel_rfl
theorem rg_exit (a b c d e g m0 m1 m2 m3 m4 m5 bud a0 a1 a2 a3 a4 a5 : Int) : (List.range' 0 42).map (fun (n : Nat) => evL Try.prog ext coP coC noLoops 300 72 bdyC (rbF (n / 6) (n % 6 : Nat) ([a0, a1, a2, a3, a4, a5].getD (n % 6) 0)) (s2H [a, b, c, d, e, g] [m0, m1, m2, m3, m4, m5] bud (n / 6) [a0, a1, a2, a3, a4, a5] ++ [slB]) 0 [(0, true), (0, true)] [4, 5]) =
  (List.range' 0 42).map fun (n : Nat) => some (.exit 2, [(4, ptI 2), (5, .int .i64 0)], s2H [a, b, c, d, e, g] [m0, m1, m2, m3, m4, m5] bud (n / 6) [a0, a1, a2, a3, a4, a5] ++ [slB], 0, [(decide (costG [a0, a1, a2, a3, a4, a5] ≤ bud), true), (coP 83 [.agg (ints [a0, a1, a2, a3, a4, a5]).toArray] [], true)]) := by kernel_rfl
theorem rg_keep (a b c d e g m0 m1 m2 m3 m4 m5 bud a0 a1 a2 a3 a4 a5 : Int) : (List.range' 0 42).map (fun (n : Nat) => evL Try.prog ext coP coC noLoops 300 72 bdyC (rbF (n / 6) (n % 6 : Nat) ([a0, a1, a2, a3, a4, a5].getD (n % 6) 0)) (s2H [a, b, c, d, e, g] [m0, m1, m2, m3, m4, m5] bud (n / 6) [a0, a1, a2, a3, a4, a5] ++ [slB]) 0 [(0, true), (0, false), (0, false)] []) =
  (List.range' 0 42).map fun (n : Nat) => some (.normal, [], s2H [a, b, c, d, e, g] [m0, m1, m2, m3, m4, m5] bud (n / 6) [a0, a1, a2, a3, a4, a5] ++ [slB], 0, [(([a0, a1, a2, a3, a4, a5].getD (n % 6) 0) == (7 - (n / 6 : Nat) : Int), false), (decide (costG [a0, a1, a2, a3, a4, a5] ≤ bud), false), (coP 83 [.agg (ints [a0, a1, a2, a3, a4, a5]).toArray] [], true)]) := by kernel_rfl
theorem rg_less (a b c d e g m0 m1 m2 m3 m4 m5 bud a0 a1 a2 a3 a4 a5 : Int) : (List.range' 0 42).map (fun (n : Nat) => evL Try.prog ext coP coC noLoops 300 72 bdyC (rbF (n / 6) (n % 6 : Nat) ([a0, a1, a2, a3, a4, a5].getD (n % 6) 0)) (s2H [a, b, c, d, e, g] [m0, m1, m2, m3, m4, m5] bud (n / 6) [a0, a1, a2, a3, a4, a5] ++ [slB]) 0 [(0, true), (0, false), (0, true)] []) =
  (List.range' 0 42).map fun (n : Nat) => some (.normal, [], s2H [a, b, c, d, e, g] [m0, m1, m2, m3, m4, m5] bud (n / 6) ([a0, a1, a2, a3, a4, a5].set (n % 6) (W ([a0, a1, a2, a3, a4, a5].getD (n % 6) 0 - 1))) ++ [slB], 0, [(([a0, a1, a2, a3, a4, a5].getD (n % 6) 0) == (7 - (n / 6 : Nat) : Int), true), (decide (costG [a0, a1, a2, a3, a4, a5] ≤ bud), false), (coP 83 [.agg (ints [a0, a1, a2, a3, a4, a5]).toArray] [], true)]) := by kernel_rfl

def stepIn (top : Int) (k : Nat) (A : List Int) : List Int := if A.getD k 0 = top then A.set k (W (A.getD k 0 - 1)) else A
def cutIn (bud top : Int) : Nat → List Int → Bool × List Int
  | 0, A => (false, A)
  | k + 1, A => if costG A ≤ bud then (true, A) else cutIn bud top k (stepIn top k A)
def cutOut (bud : Int) : Nat → List Int → List Int × Heap
  | 0, A => (A, topG 7)
  | j + 1, A => match cutIn bud (j + 1 : Nat) 6 A with
    | (true, A') => (A', topG (6 - j) ++ [slB])
    | (false, A') => cutOut bud j A'
theorem stepIn_len {top : Int} {k : Nat} {A : List Int} (h : A.length = 6) : (stepIn top k A).length = 6 := by
  unfold stepIn
  split
  · simpa using h
  · exact h
theorem cutIn_len {bud top : Int} : ∀ (k : Nat) (A : List Int), A.length = 6 → (cutIn bud top k A).2.length = 6 := by
  intro k
  induction k with
  | zero => intro A h; exact h
  | succ k ih =>
    intro A h
    simp only [cutIn]
    split
    · exact h
    · exact ih _ (stepIn_len h)
theorem cutOut_len {bud : Int} : ∀ (j : Nat) (A : List Int), A.length = 6 → (cutOut bud j A).1.length = 6 := by
  intro j
  induction j with
  | zero => intro A h; exact h
  | succ j ih =>
    intro A h
    have h2 := cutIn_len (bud := bud) (top := (j + 1 : Nat)) 6 A h
    simp only [cutOut]
    split
    · rename_i A' he
      rw [he] at h2
      exact h2
    · rename_i A' he
      rw [he] at h2
      exact ih _ h2

theorem rg_box (a b c d e g m0 m1 m2 m3 m4 m5 bud a0 a1 a2 a3 a4 a5 : Int) : (List.range' 0 7).map (fun (i : Nat) => boxed (s2H [a, b, c, d, e, g] [m0, m1, m2, m3, m4, m5] bud i [a0, a1, a2, a3, a4, a5] ++ [slB]) (5 + 2 * i)) = (List.range' 0 7).map fun (i : Nat) => some (2, 0, 6, 6) := by kernel_rfl
theorem rg_back (a b c d e g m0 m1 m2 m3 m4 m5 bud a0 a1 a2 a3 a4 a5 : Int) : (List.range' 0 7).map (fun (i : Nat) => backOf (rgF i) (s2H [a, b, c, d, e, g] [m0, m1, m2, m3, m4, m5] bud i [a0, a1, a2, a3, a4, a5] ++ [slB]) (.tmp 55)) = (List.range' 0 7).map fun (i : Nat) => some (139, 5 + 2 * i, 2, 0, 6, 6) := by kernel_rfl
theorem rg_cell (a b c d e g m0 m1 m2 m3 m4 m5 bud a0 a1 a2 a3 a4 a5 : Int) (i : Nat) : (List.range' 0 6).map (fun (k : Nat) => cellAt (s2H [a, b, c, d, e, g] [m0, m1, m2, m3, m4, m5] bud i [a0, a1, a2, a3, a4, a5] ++ [slB]) 2 (0 + k)) = (List.range' 0 6).map fun (k : Nat) => some (.int .i64 ([a0, a1, a2, a3, a4, a5].getD k 0)) := by kernel_rfl
theorem asg_code : (codeOk asgC && flatC asgC) = true := by kernel_rfl
theorem bdy_code : (codeOk bdyC && flatC bdyC) = true := by kernel_rfl

theorem six_ex (xs : List Int) (hm : xs.length = 6) : ∃ a b c d e g, xs = [a, b, c, d, e, g] := by
  match xs, hm with
  | [a, b, c, d, e, g], _ => exact ⟨a, b, c, d, e, g, rfl⟩

theorem rg_inner (a b c d e g m0 m1 m2 m3 m4 m5 bud : Int) (i : Nat) (hi : i < 7) (A : List Int) (hA : A.length = 6) : WP Try.prog 72 rgC ⟨rgF i, s2H [a, b, c, d, e, g] [m0, m1, m2, m3, m4, m5] bud i A ++ [slB], 0⟩ (bif (cutIn bud (7 - i : Int) 6 A).1 then .exit 2 else .normal) ⟨rgF i, s2H [a, b, c, d, e, g] [m0, m1, m2, m3, m4, m5] bud i (cutIn bud (7 - i : Int) 6 A).2 ++ [slB], 0⟩ := by
  obtain ⟨r, hr⟩ : ∃ r, cutIn bud (7 - i : Int) 6 A = r := ⟨_, rfl⟩
  rw [hr, rg_eq]
  refine range_rel progOk (p := 56) (q := 57) (f := 139) (bs := 5 + 2 * i) (b := 2) (o := 0) (len := 6) (cap := 6) (by rfl) ?_ (fun k H lo => ∃ A : List Int, A.length = 6 ∧ k ≤ 6 ∧ H = s2H [a, b, c, d, e, g] [m0, m1, m2, m3, m4, m5] bud i A ++ [slB] ∧ lo = 0 ∧ cutIn bud (7 - i : Int) k A = r) ⟨A, hA, by omega, rfl, rfl, hr⟩ ?_ ?_
  · obtain ⟨a0, a1, a2, a3, a4, a5, rfl⟩ := six_ex A hA
    exact of_list (rg_back a b c d e g m0 m1 m2 m3 m4 m5 bud a0 a1 a2 a3 a4 a5) (by omega) (by omega)
  · rintro k H lo ⟨B, hB, hk, rfl, rfl, hc⟩
    obtain ⟨a0, a1, a2, a3, a4, a5, rfl⟩ := six_ex B hB
    refine ⟨of_list (rg_box a b c d e g m0 m1 m2 m3 m4 m5 bud a0 a1 a2 a3 a4 a5) (by omega) (by omega), [a0, a1, a2, a3, a4, a5].getD k 0, of_list (rg_cell a b c d e g m0 m1 m2 m3 m4 m5 bud a0 a1 a2 a3 a4 a5 i) (by omega) (by omega), ?_⟩
    have hq : (6 * i + k) / 6 = i := by omega
    have hm : (6 * i + k) % 6 = k := by omega
    have t1 := congrFun (of_list (rg_asg (s2H [a, b, c, d, e, g] [m0, m1, m2, m3, m4, m5] bud i [a0, a1, a2, a3, a4, a5] ++ [slB])) (i := 6 * i + k) (by omega) (by omega)) ([a0, a1, a2, a3, a4, a5].getD k 0)
    have t2 := of_list (rg_exit a b c d e g m0 m1 m2 m3 m4 m5 bud a0 a1 a2 a3 a4 a5) (i := 6 * i + k) (by omega) (by omega)
    have t3 := of_list (rg_keep a b c d e g m0 m1 m2 m3 m4 m5 bud a0 a1 a2 a3 a4 a5) (i := 6 * i + k) (by omega) (by omega)
    have t4 := of_list (rg_less a b c d e g m0 m1 m2 m3 m4 m5 bud a0 a1 a2 a3 a4 a5) (i := 6 * i + k) (by omega) (by omega)
    rw [hq, hm] at t1 t2 t3 t4
    have hco := co_ok a0 a1 a2 a3 a4 a5
    simp only [cutIn] at hc
    have h1 : ∀ l, WPr (some l) Try.prog 72 asgC ⟨putF 72 (putF 72 (rgF i) (some 56) (.int .i64 (k : Nat))) (some 57) (.int .i64 ([a0, a1, a2, a3, a4, a5].getD k 0)), s2H [a, b, c, d, e, g] [m0, m1, m2, m3, m4, m5] bud i [a0, a1, a2, a3, a4, a5] ++ [slB], 0⟩ .normal ⟨rbF i k ([a0, a1, a2, a3, a4, a5].getD k 0), s2H [a, b, c, d, e, g] [m0, m1, m2, m3, m4, m5] bud i [a0, a1, a2, a3, a4, a5] ++ [slB], 0⟩ :=
      fun l => WPr.run progOk extSound noC_sound asg_code t1 (by simp [Holds])
    by_cases hcost : costG [a0, a1, a2, a3, a4, a5] ≤ bud
    · rw [if_pos hcost] at hc
      subst hc
      exact ⟨_, .exit 2, ⟨_, _, 0⟩, h1, fun l => WPr.run progOk extSound co_sound bdy_code t2 (by simp only [Holds, List.mem_cons, List.not_mem_nil, or_false, forall_eq_or_imp, forall_eq]; exact ⟨decide_eq_true hcost, hco⟩), .inr ⟨by simp, rfl, rfl, rfl⟩⟩
    · rw [if_neg hcost] at hc
      by_cases htop : ([a0, a1, a2, a3, a4, a5].getD k 0) = (7 - (i : Int))
      · refine ⟨_, .normal, ⟨_, _, 0⟩, h1, fun l => WPr.run progOk extSound co_sound bdy_code t4 (by simp only [Holds, List.mem_cons, List.not_mem_nil, or_false, forall_eq_or_imp, forall_eq]; exact ⟨by rw [htop]; simp, decide_eq_false hcost, hco⟩), .inl ⟨rfl, ?_⟩⟩
        refine ⟨_, ?_, by omega, rfl, rfl, ?_⟩
        · simp
        · rw [← hc]
          unfold stepIn
          rw [if_pos htop]
      · refine ⟨_, .normal, ⟨_, _, 0⟩, h1, fun l => WPr.run progOk extSound co_sound bdy_code t3 (by simp only [Holds, List.mem_cons, List.not_mem_nil, or_false, forall_eq_or_imp, forall_eq]; exact ⟨by simp only [beq_eq_false_iff_ne]; exact htop, decide_eq_false hcost, hco⟩), .inl ⟨rfl, ?_⟩⟩
        refine ⟨_, rfl, by omega, rfl, rfl, ?_⟩
        rw [← hc]
        unfold stepIn
        rw [if_neg htop]
  · rintro H lo ⟨B, hB, _, rfl, rfl, hc⟩
    simp only [cutIn] at hc
    subst hc
    exact ⟨rfl, rfl, rfl⟩

end Go.Proofs.Ytfbjpenbpbpcaaa

/-
  Chapter 08: bands.Share: the cut, and the function.
-/
namespace Go.Proofs.Ytfbjpenbpbpcaaa
open Go Den
set_option maxRecDepth 100000
set_option linter.unusedSimpArgs false
set_option linter.unusedVariables false

noncomputable def rgN (a b c d e g m0 m1 m2 m3 m4 m5 bud : Int) (i : Nat) (A B : List Int) (x : Ex) : Loops := { loop := sumL 15 ⟨rgF i, s2H [a, b, c, d, e, g] [m0, m1, m2, m3, m4, m5] bud i A ++ [slB], 0⟩ x ⟨rgF i, s2H [a, b, c, d, e, g] [m0, m1, m2, m3, m4, m5] bud i B ++ [slB], 0⟩ }
theorem c2_go (a b c d e g m0 m1 m2 m3 m4 m5 bud a0 a1 a2 a3 a4 a5 r0 r1 r2 r3 r4 r5 : Int) : (List.range' 0 7).map (fun (i : Nat) => evL Try.prog ext noPre bkC (rgN a b c d e g m0 m1 m2 m3 m4 m5 bud i [a0, a1, a2, a3, a4, a5] [r0, r1, r2, r3, r4, r5] .normal) 300 72 (loopAt Try.prog 80 1) (s2F i) (s2H [a, b, c, d, e, g] [m0, m1, m2, m3, m4, m5] bud i [a0, a1, a2, a3, a4, a5]) 0 [] [3, 4, 5, 8]) =
  (List.range' 0 7).map fun (i : Nat) => some (.normal, s2F (i + 1), s2H [a, b, c, d, e, g] [m0, m1, m2, m3, m4, m5] bud (i + 1) [r0, r1, r2, r3, r4, r5], 0, [(cdec (rgF i = rgF i), true), (cdec (s2H [a, b, c, d, e, g] [m0, m1, m2, m3, m4, m5] bud i [a0, a1, a2, a3, a4, a5] ++ [slB] = s2H [a, b, c, d, e, g] [m0, m1, m2, m3, m4, m5] bud i [a0, a1, a2, a3, a4, a5] ++ [slB]), true), (cdec (0 = 0), true)]) := by kernel_rfl
theorem c2_out (a b c d e g m0 m1 m2 m3 m4 m5 bud a0 a1 a2 a3 a4 a5 r0 r1 r2 r3 r4 r5 : Int) : (List.range' 0 7).map (fun (i : Nat) => evL Try.prog ext noPre bkC (rgN a b c d e g m0 m1 m2 m3 m4 m5 bud i [a0, a1, a2, a3, a4, a5] [r0, r1, r2, r3, r4, r5] (.exit 2)) 300 72 (loopAt Try.prog 80 1) (s2F i) (s2H [a, b, c, d, e, g] [m0, m1, m2, m3, m4, m5] bud i [a0, a1, a2, a3, a4, a5]) 0 [] [4, 5]) =
  (List.range' 0 7).map fun (i : Nat) => some (.exit 2, [(4, ptI 2), (5, .int .i64 0)], s2H [a, b, c, d, e, g] [m0, m1, m2, m3, m4, m5] bud i [r0, r1, r2, r3, r4, r5] ++ [slB], 0, [(cdec (rgF i = rgF i), true), (cdec (s2H [a, b, c, d, e, g] [m0, m1, m2, m3, m4, m5] bud i [a0, a1, a2, a3, a4, a5] ++ [slB] = s2H [a, b, c, d, e, g] [m0, m1, m2, m3, m4, m5] bud i [a0, a1, a2, a3, a4, a5] ++ [slB]), true), (cdec (0 = 0), true)]) := by kernel_rfl
theorem c2_end (a b c d e g m0 m1 m2 m3 m4 m5 bud a0 a1 a2 a3 a4 a5 : Int) : evL Try.prog ext noPre bkC noLoops 300 72 (loopAt Try.prog 80 1) (s2F 7) (s2H [a, b, c, d, e, g] [m0, m1, m2, m3, m4, m5] bud 7 [a0, a1, a2, a3, a4, a5]) 0 [] [4, 5] = some (.exit 2, [(4, ptI 2), (5, .int .i64 0)], s2H [a, b, c, d, e, g] [m0, m1, m2, m3, m4, m5] bud 7 [a0, a1, a2, a3, a4, a5], 0, []) := by kernel_rfl
theorem c2_code : codeOk (loopAt Try.prog 80 1) = true := by kernel_rfl
theorem c2_l : loopsOf (loopAt Try.prog 80 1) = [] := by kernel_rfl
theorem c2_r : rangesOf (loopAt Try.prog 80 1) = [rgC] := by kernel_rfl
theorem rgN_ok (a b c d e g m0 m1 m2 m3 m4 m5 bud : Int) (i : Nat) (A B : List Int) (y : Ex) (h : WP Try.prog 72 rgC ⟨rgF i, s2H [a, b, c, d, e, g] [m0, m1, m2, m3, m4, m5] bud i A ++ [slB], 0⟩ y ⟨rgF i, s2H [a, b, c, d, e, g] [m0, m1, m2, m3, m4, m5] bud i B ++ [slB], 0⟩) : LoopsOk Try.prog 72 (rgN a b c d e g m0 m1 m2 m3 m4 m5 bud i A B y) (loopAt Try.prog 80 1) := by
  refine ⟨fun b hb => by rw [c2_l] at hb; simp at hb, fun b hb s x s' o hs ho => ?_⟩
  rw [c2_r] at hb
  simp only [List.mem_singleton] at hb
  subst hb
  simp only [rgN] at hs
  exact sumL_ok h hs ho

theorem c2_loop (a b c d e g m0 m1 m2 m3 m4 m5 bud : Int) (j : Nat) (hj : j ≤ 7) (A : List Int) (hA : A.length = 6) : WP Try.prog 72 (.loop (loopAt Try.prog 80 1)) ⟨s2F (7 - j), s2H [a, b, c, d, e, g] [m0, m1, m2, m3, m4, m5] bud (7 - j) A, 0⟩ (.exit 2)
    ⟨[(4, ptI 2), (5, .int .i64 0)], s1H [a, b, c, d, e, g] [m0, m1, m2, m3, m4, m5] bud (cutOut bud j A).1 ++ (cutOut bud j A).2, 0⟩ := by
  obtain ⟨res, hres⟩ : ∃ r, cutOut bud j A = r := ⟨_, rfl⟩
  rw [hres]
  refine WP.while (α := Nat × List Int) (fun t => ⟨s2F (7 - t.1), s2H [a, b, c, d, e, g] [m0, m1, m2, m3, m4, m5] bud (7 - t.1) t.2, 0⟩) (fun t => t.1 ≤ 7 ∧ t.2.length = 6 ∧ cutOut bud t.1 t.2 = res) (fun t => t.1) (by simp) ?_ (j, A) ⟨hj, hA, hres⟩
  rintro ⟨j, A⟩ ⟨hj, hA, hres⟩
  obtain ⟨a0, a1, a2, a3, a4, a5, rfl⟩ := six_ex A hA
  cases j with
  | zero =>
    simp only [cutOut] at hres
    subst hres
    exact .inl (WP.run progOk extSound bkC_sound c2_code noLoops_ok _ (c2_end a b c d e g m0 m1 m2 m3 m4 m5 bud a0 a1 a2 a3 a4 a5) (by simp [Holds]))
  | succ j =>
    have hi : 6 - j < 7 := by omega
    have e1 : 7 - (j + 1) = 6 - j := by omega
    have e2 : (7 - ((6 - j : Nat) : Int)) = ((j + 1 : Nat) : Int) := by have : j + 1 ≤ 7 := hj; omega
    have hin := rg_inner a b c d e g m0 m1 m2 m3 m4 m5 bud (6 - j) hi [a0, a1, a2, a3, a4, a5] hA
    rw [e2] at hin
    simp only [cutOut] at hres
    have hlen := cutIn_len (bud := bud) (top := ((j + 1 : Nat) : Int)) 6 [a0, a1, a2, a3, a4, a5] hA
    dsimp only
    rw [e1]
    revert hres
    generalize hc : cutIn bud ((j + 1 : Nat) : Int) 6 [a0, a1, a2, a3, a4, a5] = r at hin hlen
    obtain ⟨t, B⟩ := r
    intro hres
    obtain ⟨r0, r1, r2, r3, r4, r5, rfl⟩ := six_ex B hlen
    cases t with
    | true =>
      simp only at hres
      subst hres
      left
      have ht := WP.run progOk extSound bkC_sound c2_code (rgN_ok a b c d e g m0 m1 m2 m3 m4 m5 bud (6 - j) [a0, a1, a2, a3, a4, a5] [r0, r1, r2, r3, r4, r5] (.exit 2) hin) _ (of_list (c2_out a b c d e g m0 m1 m2 m3 m4 m5 bud a0 a1 a2 a3 a4 a5 r0 r1 r2 r3 r4 r5) (i := 6 - j) (by omega) (by omega)) (by simp [Holds, cdec])
      have e4 : s1H [a, b, c, d, e, g] [m0, m1, m2, m3, m4, m5] bud [r0, r1, r2, r3, r4, r5] ++ (topG (6 - j) ++ [slB]) = s2H [a, b, c, d, e, g] [m0, m1, m2, m3, m4, m5] bud (6 - j) [r0, r1, r2, r3, r4, r5] ++ [slB] := by simp [s2H, s1H]
      dsimp only
      rw [e4]
      exact ht
    | false =>
      simp only at hres
      right
      refine ⟨(j, [r0, r1, r2, r3, r4, r5]), ⟨by dsimp only at hj ⊢; omega, rfl, hres⟩, by simp, ?_⟩
      have e3 : 7 - j = 6 - j + 1 := by dsimp only at hj; omega
      dsimp only
      rw [e3]
      exact WP.run progOk extSound bkC_sound c2_code (rgN_ok a b c d e g m0 m1 m2 m3 m4 m5 bud (6 - j) [a0, a1, a2, a3, a4, a5] [r0, r1, r2, r3, r4, r5] .normal hin) _ (of_list (c2_go a b c d e g m0 m1 m2 m3 m4 m5 bud a0 a1 a2 a3 a4 a5 r0 r1 r2 r3 r4 r5) (i := 6 - j) (by omega) (by omega)) (by simp [Holds, cdec])

/-! ### the function -/
noncomputable def sh1L (a b c d e g m0 m1 m2 m3 m4 m5 bud : Int) : Nat → St → Option (Ex × St × Obs) := sumL 5 ⟨s1F 0, s1H [a, b, c, d, e, g] [m0, m1, m2, m3, m4, m5] bud [0, 0, 0, 0, 0, 0], 0⟩ (.exit 0) ⟨[(2, ptI 0), (3, ptI 1), (4, ptI 2), (5, .int .i64 0), (6, ptI 3)], s1H [a, b, c, d, e, g] [m0, m1, m2, m3, m4, m5] bud (aS [a, b, c, d, e, g] [m0, m1, m2, m3, m4, m5] 6), 0⟩
noncomputable def sh2L (a b c d e g m0 m1 m2 m3 m4 m5 bud r0 r1 r2 r3 r4 r5 : Int) (G : Heap) : Nat → St → Option (Ex × St × Obs) := sumL 12 ⟨s2F 0, s2H [a, b, c, d, e, g] [m0, m1, m2, m3, m4, m5] bud 0 (aS [a, b, c, d, e, g] [m0, m1, m2, m3, m4, m5] 6), 0⟩ (.exit 2) ⟨[(4, ptI 2), (5, .int .i64 0)], s1H [a, b, c, d, e, g] [m0, m1, m2, m3, m4, m5] bud [r0, r1, r2, r3, r4, r5] ++ G, 0⟩
noncomputable def shN (a b c d e g m0 m1 m2 m3 m4 m5 bud r0 r1 r2 r3 r4 r5 : Int) (G : Heap) : Loops := { loop := orL (sh1L a b c d e g m0 m1 m2 m3 m4 m5 bud) (sh2L a b c d e g m0 m1 m2 m3 m4 m5 bud r0 r1 r2 r3 r4 r5 G) }
def shT (ms : List Int) (n : Int) : FuncId → List Value → Option Value := fun f args => match f, args with
  | 78, [_] => some (.tuple #[.agg (ints ms).toArray, .int .i64 n])
  | _, _ => none
noncomputable abbrev shP (ms : List Int) (n : Int) : Pre := tellPre (shT ms n) noPre
noncomputable abbrev shC (ms : List Int) (n : Int) : Oracle := tellC (shT ms n) noC
theorem sh_sound (ms : List Int) (n : Int) : Sound Try.prog (strict (shP ms n) (shC ms n)) := tell_sound _ noC_sound
theorem sh_run0 (a b c d e g m0 m1 m2 m3 m4 m5 bud r0 r1 r2 r3 r4 r5 : Int) : (List.range' 0 7).map (fun (i : Nat) => (evFnL Try.prog ext 300 (shP [m0, m1, m2, m3, m4, m5] 0) (shC [m0, m1, m2, m3, m4, m5] 0) (shN a b c d e g m0 m1 m2 m3 m4 m5 bud r0 r1 r2 r3 r4 r5 (topG i ++ [slB])) [(0, true), (2, false)] 80 [.agg (ints [a, b, c, d, e, g]).toArray, .int .i64 bud] []).map (fun r => (r.1.1, r.2))) = (List.range' 0 7).map fun (i : Nat) => some (.tuple #[.agg (ints [r0, r1, r2, r3, r4, r5]).toArray, .int .i64 0], [(cdec (s2F 0 = s2F 0), true), (cdec (s2H [a, b, c, d, e, g] [m0, m1, m2, m3, m4, m5] bud 0 (aS [a, b, c, d, e, g] [m0, m1, m2, m3, m4, m5] 6) = s2H [a, b, c, d, e, g] [m0, m1, m2, m3, m4, m5] bud 0 (aS [a, b, c, d, e, g] [m0, m1, m2, m3, m4, m5] 6)), true), (cdec (0 = 0), true),
    (cdec (s1F 0 = s1F 0), true), (cdec (s1H [a, b, c, d, e, g] [m0, m1, m2, m3, m4, m5] bud [0, 0, 0, 0, 0, 0] = s1H [a, b, c, d, e, g] [m0, m1, m2, m3, m4, m5] bud [0, 0, 0, 0, 0, 0]), true), (cdec (0 = 0), true), (decide (bud < 0), false), (shP [m0, m1, m2, m3, m4, m5] 0 78 [.agg (ints [a, b, c, d, e, g]).toArray] [], true)]) := by kernel_rfl
theorem sh_run7 (a b c d e g m0 m1 m2 m3 m4 m5 bud r0 r1 r2 r3 r4 r5 : Int) : (evFnL Try.prog ext 300 (shP [m0, m1, m2, m3, m4, m5] 0) (shC [m0, m1, m2, m3, m4, m5] 0) (shN a b c d e g m0 m1 m2 m3 m4 m5 bud r0 r1 r2 r3 r4 r5 (topG 7)) [(0, true), (2, false)] 80 [.agg (ints [a, b, c, d, e, g]).toArray, .int .i64 bud] []).map (fun r => (r.1.1, r.2)) = some (.tuple #[.agg (ints [r0, r1, r2, r3, r4, r5]).toArray, .int .i64 0], [(cdec (s2F 0 = s2F 0), true), (cdec (s2H [a, b, c, d, e, g] [m0, m1, m2, m3, m4, m5] bud 0 (aS [a, b, c, d, e, g] [m0, m1, m2, m3, m4, m5] 6) = s2H [a, b, c, d, e, g] [m0, m1, m2, m3, m4, m5] bud 0 (aS [a, b, c, d, e, g] [m0, m1, m2, m3, m4, m5] 6)), true), (cdec (0 = 0), true),
    (cdec (s1F 0 = s1F 0), true), (cdec (s1H [a, b, c, d, e, g] [m0, m1, m2, m3, m4, m5] bud [0, 0, 0, 0, 0, 0] = s1H [a, b, c, d, e, g] [m0, m1, m2, m3, m4, m5] bud [0, 0, 0, 0, 0, 0]), true), (cdec (0 = 0), true), (decide (bud < 0), false), (shP [m0, m1, m2, m3, m4, m5] 0 78 [.agg (ints [a, b, c, d, e, g]).toArray] [], true)]) := by kernel_rfl
theorem cut_garb {bud : Int} : ∀ (j : Nat) (A : List Int), j ≤ 7 → (cutOut bud j A).2 = topG 7 ∨ ∃ i, i < 7 ∧ (cutOut bud j A).2 = topG i ++ [slB] := by
  intro j
  induction j with
  | zero => intro A _; exact .inl rfl
  | succ j ih =>
    intro A hj
    simp only [cutOut]
    split
    · exact .inr ⟨6 - j, by omega, rfl⟩
    · exact ih _ (by omega)
theorem sh_run (a b c d e g m0 m1 m2 m3 m4 m5 bud r0 r1 r2 r3 r4 r5 : Int) (G : Heap) (hG : G = topG 7 ∨ ∃ i, i < 7 ∧ G = topG i ++ [slB]) : (evFnL Try.prog ext 300 (shP [m0, m1, m2, m3, m4, m5] 0) (shC [m0, m1, m2, m3, m4, m5] 0) (shN a b c d e g m0 m1 m2 m3 m4 m5 bud r0 r1 r2 r3 r4 r5 G) [(0, true), (2, false)] 80 [.agg (ints [a, b, c, d, e, g]).toArray, .int .i64 bud] []).map (fun r => (r.1.1, r.2)) =
  some (.tuple #[.agg (ints [r0, r1, r2, r3, r4, r5]).toArray, .int .i64 0], [(cdec (s2F 0 = s2F 0), true), (cdec (s2H [a, b, c, d, e, g] [m0, m1, m2, m3, m4, m5] bud 0 (aS [a, b, c, d, e, g] [m0, m1, m2, m3, m4, m5] 6) = s2H [a, b, c, d, e, g] [m0, m1, m2, m3, m4, m5] bud 0 (aS [a, b, c, d, e, g] [m0, m1, m2, m3, m4, m5] 6)), true), (cdec (0 = 0), true),
    (cdec (s1F 0 = s1F 0), true), (cdec (s1H [a, b, c, d, e, g] [m0, m1, m2, m3, m4, m5] bud [0, 0, 0, 0, 0, 0] = s1H [a, b, c, d, e, g] [m0, m1, m2, m3, m4, m5] bud [0, 0, 0, 0, 0, 0]), true), (cdec (0 = 0), true), (decide (bud < 0), false), (shP [m0, m1, m2, m3, m4, m5] 0 78 [.agg (ints [a, b, c, d, e, g]).toArray] [], true)]) := by
  rcases hG with rfl | ⟨i, hi, rfl⟩
  · exact sh_run7 a b c d e g m0 m1 m2 m3 m4 m5 bud r0 r1 r2 r3 r4 r5
  · exact of_list (sh_run0 a b c d e g m0 m1 m2 m3 m4 m5 bud r0 r1 r2 r3 r4 r5) (by omega) (by omega)
theorem sh_neg (a b c d e g m0 m1 m2 m3 m4 m5 bud : Int) : (evFnL Try.prog ext 300 (shP [m0, m1, m2, m3, m4, m5] 0) (shC [m0, m1, m2, m3, m4, m5] 0) noLoops [(0, true), (2, true)] 80 [.agg (ints [a, b, c, d, e, g]).toArray, .int .i64 bud] []).map (fun r => (r.1.1, r.2)) =
  some ((.tuple #[.agg (ints (List.replicate 6 0)).toArray, .int .i64 1]), [(decide (bud < 0), true), (shP [m0, m1, m2, m3, m4, m5] 0 78 [.agg (ints [a, b, c, d, e, g]).toArray] [], true)]) := by kernel_rfl
theorem sh_bad (a b c d e g bud : Int) : (evFnL Try.prog ext 300 (shP [0, 0, 0, 0, 0, 0] 1) (shC [0, 0, 0, 0, 0, 0] 1) noLoops [(0, true)] 80 [.agg (ints [a, b, c, d, e, g]).toArray, .int .i64 bud] []).map (fun r => (r.1.1, r.2)) =
  some ((.tuple #[.agg (ints (List.replicate 6 0)).toArray, .int .i64 1]), [(shP [0, 0, 0, 0, 0, 0] 1 78 [.agg (ints [a, b, c, d, e, g]).toArray] [], true)]) := by kernel_rfl
theorem sh_l : loopsOf (bodyOf Try.prog 80) = [loopAt Try.prog 80 0, loopAt Try.prog 80 1] := by kernel_rfl
theorem sh_i0 : firstId (loopAt Try.prog 80 0) = 5 := by kernel_rfl
theorem sh_i1 : firstId (loopAt Try.prog 80 1) = 12 := by kernel_rfl
theorem sh_r : rangesOf (bodyOf Try.prog 80) = [rgC] := by kernel_rfl
theorem sh_i2 : firstId rgC = 15 := by kernel_rfl

def shareG (l : List Int) (bud : Int) : List Int := (cutOut bud 7 (aS l (maskC l) 6)).1
def shareO (l : List Int) (bud : Int) : Value := if okL l = true ∧ 0 ≤ bud then .tuple #[.agg (ints (shareG l bud)).toArray, .int .i64 0] else (.tuple #[.agg (ints (List.replicate 6 0)).toArray, .int .i64 1])

theorem share_ok (xs : List Int) (hm : xs.length = 6) (bud : Int) : CallOk Try.prog 80 [.agg (ints xs).toArray, .int .i64 bud] [] (shareO xs bud) [] 0 := by
  obtain ⟨a, b, c, d, e, g, rfl⟩ := six_ex xs hm
  have hmask := mask_ok [a, b, c, d, e, g] rfl
  unfold maskO at hmask
  unfold shareO
  by_cases h : okL [a, b, c, d, e, g] = true
  · rw [if_pos h] at hmask
    obtain ⟨m0, m1, m2, m3, m4, m5, hM⟩ : ∃ m0 m1 m2 m3 m4 m5, maskC [a, b, c, d, e, g] = [m0, m1, m2, m3, m4, m5] := ⟨_, _, _, _, _, _, rfl⟩
    rw [hM] at hmask
    have hT : shP [m0, m1, m2, m3, m4, m5] 0 78 [.agg (ints [a, b, c, d, e, g]).toArray] [] = true := tell_ok rfl hmask
    by_cases hb : 0 ≤ bud
    · rw [if_pos ⟨h, hb⟩]
      unfold shareG
      rw [hM]
      have h1 := s1_loop a b c d e g m0 m1 m2 m3 m4 m5 bud
      have hlen : (aS [a, b, c, d, e, g] [m0, m1, m2, m3, m4, m5] 6).length = 6 := by simp [aS]
      have h2 := c2_loop a b c d e g m0 m1 m2 m3 m4 m5 bud 7 (by omega) (aS [a, b, c, d, e, g] [m0, m1, m2, m3, m4, m5] 6) hlen
      have hl2 := cutOut_len (bud := bud) 7 (aS [a, b, c, d, e, g] [m0, m1, m2, m3, m4, m5] 6) hlen
      have hg := cut_garb (bud := bud) 7 (aS [a, b, c, d, e, g] [m0, m1, m2, m3, m4, m5] 6) (by omega)
      generalize cutOut bud 7 (aS [a, b, c, d, e, g] [m0, m1, m2, m3, m4, m5] 6) = R at h2 hl2 hg
      obtain ⟨B, G⟩ := R
      obtain ⟨r0, r1, r2, r3, r4, r5, rfl⟩ := six_ex B hl2
      refine pf_ok (sh_sound [m0, m1, m2, m3, m4, m5] 0) ?_ (sh_run a b c d e g m0 m1 m2 m3 m4 m5 bud r0 r1 r2 r3 r4 r5 G hg) (by simp [Holds, cdec, hT]; omega) rfl
      refine ⟨fun b hb s x s' o hs ho => ?_, fun b hb s x s' o hs ho => ?_⟩
      · rw [sh_l] at hb
        simp only [shN, orL] at hs
        simp only [List.mem_cons, List.not_mem_nil, or_false] at hb
        split at hs
        · rename_i r hr
          injection hs with hs
          subst hs
          have hid := sumL_id hr
          rcases hb with rfl | rfl
          · exact sumL_ok h1 hr ho
          · rw [sh_i1] at hid; omega
        · have hid := sumL_id hs
          rcases hb with rfl | rfl
          · rw [sh_i0] at hid; omega
          · exact sumL_ok h2 hs ho
      · rw [sh_r] at hb
        simp only [shN, orL] at hs
        simp only [List.mem_singleton] at hb
        subst hb
        split at hs
        · rename_i r hr
          have hid := sumL_id hr
          rw [sh_i2] at hid; omega
        · have hid := sumL_id hs
          rw [sh_i2] at hid; omega
    · rw [if_neg (fun hh => hb hh.2)]
      exact pf_ok (sh_sound [m0, m1, m2, m3, m4, m5] 0) noLoops_ok (sh_neg a b c d e g m0 m1 m2 m3 m4 m5 bud) (by simp [Holds, hT]; omega) rfl
  · rw [if_neg h] at hmask
    rw [if_neg (fun hh => h hh.1)]
    exact pf_ok (sh_sound [0, 0, 0, 0, 0, 0] 1) noLoops_ok (sh_bad a b c d e g bud) (by simp only [Holds, List.mem_singleton, forall_eq]; exact tell_ok rfl hmask) rfl

end Go.Proofs.Ytfbjpenbpbpcaaa

