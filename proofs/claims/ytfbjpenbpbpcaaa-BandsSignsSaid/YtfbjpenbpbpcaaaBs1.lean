/-
  Chapter 08: the law BandsSigns as a call: signs a slice of any length.
-/
import Derived.Test.YtfbjpenbpbpcaaaZL
import Derived.Test.YtfbjpenbpbpcaaaFs1
import Derived.Test.YtfbjpenbpbpcaaaOuW
namespace Go.Proofs.Ytfbjpenbpbpcaaa
open Go Den
set_option maxRecDepth 100000
set_option linter.unusedSimpArgs false
set_option linter.unusedVariables false

theorem still_ok {N : Nat} {pre : Pre} {C : Oracle} {L : Loops} {os : Path} {f : FuncId} {args : List Value} {H : Heap} {v : Value} {ob : Obs} {l : Nat} (hC : Sound Try.prog (strict pre C))
    (hL : LoopsOk Try.prog (ntOf Try.prog f args.length) L (bodyOf Try.prog f)) (h : (evFnL Try.prog ext N pre C L os f args H).map (fun r => (r.1.1, r.1.2.2, r.2)) = some (v, l, ob)) (hl : l = H.length) (hh : Holds ob) (hv : pf 3 v = true) : CallOk Try.prog f args H v H H.length := by
  cases hr : evFnL Try.prog ext N pre C L os f args H with
  | none => rw [hr] at h; simp at h
  | some r =>
    obtain ⟨⟨v1, H1, l1⟩, ob1⟩ := r
    rw [hr] at h
    simp only [Option.map_some, Option.some.injEq, Prod.mk.injEq] at h
    obtain ⟨rfl, rfl, rfl⟩ := h
    exact CallOk.still (fnL_ok progOk extSound hC hL hr hh) hl hv

theorem splice_ints (l : List Int) (o : Nat) (v : Int) (h : o < l.length) : splice (ints l) o [Value.int .i64 v] = ints (l.set o v) := splice_map .i64 l o v h

def bsF (B fr to : Int) (n c i : Nat) : Slots := [(2, .int .i64 B), (3, .pointer (some ⟨1, 0, none⟩)), (7, .bool true), (8, .int .i64 fr), (9, .int .i64 to), (11, .pointer (some ⟨2, 0, none⟩)), (52, .slice (some ⟨0, 0, none⟩) n c), (53, .int .i64 n), (54, .int .i64 i)]
def bsG (B fr to : Int) : Slots := [(2, .int .i64 B), (3, .pointer (some ⟨1, 0, none⟩)), (7, .bool true), (8, .int .i64 fr), (9, .int .i64 to), (11, .pointer (some ⟨2, 0, none⟩))]
def bsH (ss : List Bool) (X : Blk) (ys : List Int) : Heap := [⟨false, none, ss.map .bool⟩, X, ⟨true, none, ints ys⟩]
def neg1 (x : Int) : Int := IntKind.wrap IntKind.i64 (0 - x)
/-- The numbers, the first i signs done. -/
def flipY (ss : List Bool) (xs : List Int) : Nat → List Int
  | 0 => xs
  | i + 1 => if i < 16 ∧ ss.getD i false = true then (flipY ss xs i).set i (neg1 ((flipY ss xs i).getD i 0)) else flipY ss xs i
theorem flip_len (ss : List Bool) (xs : List Int) : ∀ i, (flipY ss xs i).length = xs.length
  | 0 => rfl
  | i + 1 => by unfold flipY; split <;> simp [flip_len ss xs i]

theorem boolAt_map (l : List Bool) (i : Nat) : boolAt (l.map Value.bool) i = l.getD i false := by
  unfold boolAt
  rw [List.getElem?_map, List.getD_eq_getElem?_getD]
  cases l[i]? <;> rfl
theorem isBoolAt_map (l : List Bool) {i : Nat} (h : i < l.length) : isBoolAt (l.map Value.bool) i = true := by
  unfold isBoolAt
  rw [List.getElem?_map, List.getElem?_eq_getElem h]; rfl

theorem bs_code : codeOk (loopAt Try.prog 22 0) = true := by kernel_rfl
theorem bs_sound (b c : Bool) : Sound Try.prog (strict (nmPre (symPre [52, 57, 11, 66, 69] noPre)) (nbC [] [(60, b), (58, c)] noC)) := nb_sound _ _ (sym_sound _ noC_sound)
theorem bs_sound1 : Sound Try.prog (strict (nmPre (symPre [52, 57, 11, 66, 69] noPre)) (nbC [] [(60, false)] noC)) := nb_sound _ _ (sym_sound _ noC_sound)

theorem bs_step (B fr to : Int) (c i : Nat) (ss : List Bool) (X : Blk) (ys : List Int) (hi : i < ss.length) (hn : ss.length ≤ 9223372036854775807) (hy : ys.length = 16) :
    WP Try.prog 132 (loopAt Try.prog 22 0) ⟨bsF B fr to ss.length c i, bsH ss X ys, 1⟩ .normal ⟨bsF B fr to ss.length c (i + 1), bsH ss X (if i < 16 ∧ ss.getD i false = true then ys.set i (neg1 (ys.getD i 0)) else ys), 1⟩ := by
  have e2 : IntKind.i64.wrap ((i : Int) + 1) = ((i + 1 : Nat) : Int) := by rw [wrap_in (inI_iff.2 (by omega))]; omega
  have b1 : boolAt (ss.map Value.bool) (0 + Int.toNat (i : Int)) = ss.getD i false := by rw [boolAt_map, Nat.zero_add, Int.toNat_natCast]
  have b2 : isBoolAt (ss.map Value.bool) (0 + Int.toNat (i : Int)) = true := isBoolAt_map _ (by omega)
  have w : ∀ z : Int, z = ((i + 1 : Nat) : Int) → ∀ H2, WP Try.prog 132 (loopAt Try.prog 22 0) ⟨bsF B fr to ss.length c i, bsH ss X ys, 1⟩ .normal ⟨[(2, .int .i64 B), (3, .pointer (some ⟨1, 0, none⟩)), (7, .bool true), (8, .int .i64 fr), (9, .int .i64 to), (11, .pointer (some ⟨2, 0, none⟩)), (52, .slice (some ⟨0, 0, none⟩) ss.length c), (53, .int .i64 ss.length), (54, .int .i64 z)], H2, 1⟩ →
      WP Try.prog 132 (loopAt Try.prog 22 0) ⟨bsF B fr to ss.length c i, bsH ss X ys, 1⟩ .normal ⟨bsF B fr to ss.length c (i + 1), H2, 1⟩ := by
    rintro z rfl H2 h
    exact h
  by_cases h16 : i < 16
  · cases hs : ss.getD i false with
    | true =>
      have g1 : intAt (ints ys) (0 + Int.toNat (i : Int)) = ys.getD i 0 := by rw [intAt_ints, Nat.zero_add, Int.toNat_natCast]
      have g2 : isIntAt .i64 (ints ys) (0 + Int.toNat (i : Int)) = true := isIntAt_ints _ (by omega)
      rw [if_pos ⟨h16, rfl⟩]
      have h := WP.run (P := Try.prog) (X := ext) (L := noLoops) (N := 300) (nt := 132) progOk extSound (bs_sound true true) bs_code noLoops_ok (F := bsF B fr to ss.length c i) (H := bsH ss X ys) (lo := 1) (os := [(0, true), (0, true), (0, true), (2, true), (0, true), (0, true), (0, true)]) [2, 3, 7, 8, 9, 11, 52, 53, 54]
        (x := .normal) (F' := [(2, .int .i64 B), (3, .pointer (some ⟨1, 0, none⟩)), (7, .bool true), (8, .int .i64 fr), (9, .int .i64 to), (11, .pointer (some ⟨2, 0, none⟩)), (52, .slice (some ⟨0, 0, none⟩) ss.length c), (53, .int .i64 ss.length), (54, .int .i64 (IntKind.i64.wrap ((i : Int) + 1)))])
        (H' := [⟨false, none, ss.map .bool⟩, X, ⟨true, none, splice (ints ys) (0 + Int.toNat (i : Int)) [.int .i64 (neg1 (intAt (ints ys) (0 + Int.toNat (i : Int))))]⟩]) (lo' := 1)
        (ob := [(true && decide (0 + Int.toNat (i : Int) + 1 ≤ (ints ys).length), true), (decide (0 ≤ (i : Int) ∧ (i : Int) < ((16 : Nat) : Int)), true), (isIntAt .i64 (ints ys) (0 + Int.toNat (i : Int)), true), (decide (0 ≤ (i : Int) ∧ (i : Int) < ((16 : Nat) : Int)), true), (decide ((i : Int) < 16), true),
          (boolAt (ss.map Value.bool) (0 + Int.toNat (i : Int)), true), (isBoolAt (ss.map Value.bool) (0 + Int.toNat (i : Int)), true), (decide (0 ≤ (i : Int) ∧ (i : Int) < ss.length), true), (decide ((i : Int) < ss.length), true)]) (by kernel_rfl) (by
        rw [b1, b2, g2, hs]
        simp [Holds, ints, hy]
        omega)
      rw [g1, Nat.zero_add, Int.toNat_natCast, splice_ints _ _ _ (by omega)] at h
      exact w _ e2 _ h
    | false =>
      rw [if_neg (by simp)]
      have h := WP.run (P := Try.prog) (X := ext) (L := noLoops) (N := 300) (nt := 132) progOk extSound (bs_sound true false) bs_code noLoops_ok (F := bsF B fr to ss.length c i) (H := bsH ss X ys) (lo := 1) (os := [(0, true), (0, true), (0, true)]) [2, 3, 7, 8, 9, 11, 52, 53, 54]
        (x := .normal) (F' := [(2, .int .i64 B), (3, .pointer (some ⟨1, 0, none⟩)), (7, .bool true), (8, .int .i64 fr), (9, .int .i64 to), (11, .pointer (some ⟨2, 0, none⟩)), (52, .slice (some ⟨0, 0, none⟩) ss.length c), (53, .int .i64 ss.length), (54, .int .i64 (IntKind.i64.wrap ((i : Int) + 1)))])
        (H' := bsH ss X ys) (lo' := 1)
        (ob := [(decide ((i : Int) < 16), true), (boolAt (ss.map Value.bool) (0 + Int.toNat (i : Int)), false), (isBoolAt (ss.map Value.bool) (0 + Int.toNat (i : Int)), true), (decide (0 ≤ (i : Int) ∧ (i : Int) < ss.length), true), (decide ((i : Int) < ss.length), true)]) (by kernel_rfl) (by
        rw [b1, b2, hs]
        simp [Holds]
        omega)
      exact w _ e2 _ h
  · rw [if_neg (fun h => h16 h.1)]
    have h := WP.run (P := Try.prog) (X := ext) (L := noLoops) (N := 300) (nt := 132) progOk extSound bs_sound1 bs_code noLoops_ok (F := bsF B fr to ss.length c i) (H := bsH ss X ys) (lo := 1) (os := [(0, true), (0, true), (0, true)]) [2, 3, 7, 8, 9, 11, 52, 53, 54]
      (x := .normal) (F' := [(2, .int .i64 B), (3, .pointer (some ⟨1, 0, none⟩)), (7, .bool true), (8, .int .i64 fr), (9, .int .i64 to), (11, .pointer (some ⟨2, 0, none⟩)), (52, .slice (some ⟨0, 0, none⟩) ss.length c), (53, .int .i64 ss.length), (54, .int .i64 (IntKind.i64.wrap ((i : Int) + 1)))])
      (H' := bsH ss X ys) (lo' := 1)
      (ob := [(decide ((i : Int) < 16), false), (isBoolAt (ss.map Value.bool) (0 + Int.toNat (i : Int)), true), (decide (0 ≤ (i : Int) ∧ (i : Int) < ss.length), true), (decide ((i : Int) < ss.length), true)]) (by kernel_rfl) (by
      rw [b2]
      simp [Holds]
      omega)
    exact w _ e2 _ h

theorem bs_loop (B fr to : Int) (c : Nat) (ss : List Bool) (X : Blk) (xs : List Int) (hn : ss.length ≤ 9223372036854775807) (hx : xs.length = 16) :
    WP Try.prog 132 (.loop (loopAt Try.prog 22 0)) ⟨bsF B fr to ss.length c 0, bsH ss X xs, 1⟩ (.exit 0) ⟨bsG B fr to, bsH ss X (flipY ss xs ss.length), 1⟩ := by
  have h := WP.loop (P := Try.prog) (nt := 132) (b := loopAt Try.prog 22 0) (fun i => ⟨bsF B fr to ss.length c i, bsH ss X (flipY ss xs i), 1⟩) ss.length (x := .exit 0) (s' := ⟨bsG B fr to, bsH ss X (flipY ss xs ss.length), 1⟩) (by simp)
    (fun i hi => bs_step B fr to c i ss X (flipY ss xs i) hi hn (by rw [flip_len, hx]))
    (WP.run (P := Try.prog) (X := ext) (L := noLoops) (N := 300) (nt := 132) progOk extSound (pre := noPre) (C := noC) noC_sound bs_code noLoops_ok (os := [(0, false)]) [2, 3, 7, 8, 9, 11] (ob := [(decide ((ss.length : Int) < ss.length), false)]) (by kernel_rfl) (by simp [Holds]))
  exact h

theorem flip_pm (ss : List Bool) (xs : List Int) (hb : ∀ j, -67108864 ≤ xs.getD j 0 ∧ xs.getD j 0 ≤ 67108864) : ∀ i j, (flipY ss xs i).getD j 0 = xs.getD j 0 ∨ (flipY ss xs i).getD j 0 = -xs.getD j 0
  | 0, j => .inl rfl
  | i + 1, j => by
    have ih := flip_pm ss xs hb i j
    unfold flipY
    split
    · by_cases hij : i = j
      · subst hij
        have hbj := hb i
        rw [List.getD_eq_getElem?_getD, List.getElem?_set]
        rw [if_pos rfl]
        split
        · have e : neg1 ((flipY ss xs i).getD i 0) = -(flipY ss xs i).getD i 0 := by unfold neg1; rw [wrap_in (inI_iff.2 (by omega))]; omega
          rw [e]
          simp only [Option.getD_some]
          omega
        · rename_i hlt
          rw [flip_len] at hlt
          left
          rw [List.getD_eq_getElem?_getD, List.getElem?_eq_none (by omega)]
      · rw [List.getD_eq_getElem?_getD, List.getElem?_set, if_neg hij, ← List.getD_eq_getElem?_getD]
        exact ih
    · exact ih

def bsT (may : Bool) (l0 l1 l2 l3 l4 l5 : Int) : Tale := fun f args H => match f with
  | 75 => some (.bool true, H, H.length)
  | 74 => some (.bool may, H, H.length)
  | 76 => some (.tuple #[.agg (ints [l0, l1, l2, l3, l4, l5]).toArray, .int .i64 0], H, H.length)
  | _ => none
theorem bsT_sound (may : Bool) (l0 l1 l2 l3 l4 l5 B : Int) : Sound Try.prog (strict (nmPre (tellHPre (bsT may l0 l1 l2 l3 l4 l5) noPre)) (nbC [(29, B)] [(130, true)] (tellH (bsT may l0 l1 l2 l3 l4 l5) ofC))) := nb_sound _ _ (tellH_sound _ (plain_sound ofC_sound))
noncomputable def bsN (B fr to : Int) (n c : Nat) (ss : List Bool) (xs ys : List Int) : Loops := { loop := sumL 10 ⟨bsF B fr to n c 0, bsH ss ⟨true, none, ints xs⟩ xs, 1⟩ (.exit 0) ⟨bsG B fr to, bsH ss ⟨true, none, ints xs⟩ ys, 1⟩ }
theorem bs_loops : loopsOf (bodyOf Try.prog 22) = [loopAt Try.prog 22 0, loopAt Try.prog 22 1] := by kernel_rfl
theorem bs_first1 : firstId (loopAt Try.prog 22 1) = 19 := by kernel_rfl
theorem bs_nt : ntOf Try.prog 22 3 = 132 := by kernel_rfl
theorem bsN_ok (B fr to : Int) (c : Nat) (ss : List Bool) (xs : List Int) (hn : ss.length ≤ 9223372036854775807) (hx : xs.length = 16) {ys : List Int} (hy : flipY ss xs ss.length = ys) : LoopsOk Try.prog 132 (bsN B fr to ss.length c ss xs ys) (bodyOf Try.prog 22) := by
  subst hy
  exact LoopsOk.sum rfl (fun b' hb' hi => by
    rw [bs_loops] at hb'
    simp only [List.mem_cons, List.not_mem_nil, or_false] at hb'
    rcases hb' with rfl | rfl
    · exact bs_loop B fr to c ss ⟨true, none, ints xs⟩ xs hn hx
    · rw [bs_first1] at hi; omega)

theorem bs_run0 (b l0 l1 l2 l3 l4 l5 x0 x1 x2 x3 x4 x5 x6 x7 x8 x9 x10 x11 x12 x13 x14 x15 y0 y1 y2 y3 y4 y5 y6 y7 y8 y9 y10 y11 y12 y13 y14 y15 : Int) (n c : Nat) (ss : List Bool) : (evFnL Try.prog ext 300 (nmPre (tellHPre (bsT true l0 l1 l2 l3 l4 l5) noPre)) (nbC [(29, 0)] [(130, true)] (tellH (bsT true l0 l1 l2 l3 l4 l5) ofC)) (bsN 0 0 1 n c ss [x0, x1, x2, x3, x4, x5, x6, x7, x8, x9, x10, x11, x12, x13, x14, x15] [y0, y1, y2, y3, y4, y5, y6, y7, y8, y9, y10, y11, y12, y13, y14, y15]) [(0, true), (0, true), (12, true), (0, true)] 22 [.agg (ints [x0, x1, x2, x3, x4, x5, x6, x7, x8, x9, x10, x11, x12, x13, x14, x15]).toArray, .slice (some ⟨0, 0, none⟩) n c, .int .i64 b] [⟨false, none, ss.map .bool⟩]).map (fun r => (r.1.1, r.1.2.2, r.2)) =
  some (.bool true, 1, [(decide ([l0, l1, l2, l3, l4, l5] = [l0, l1, l2, l3, l4, l5]), true), (tellHPre (bsT true l0 l1 l2 l3 l4 l5) noPre 76 [.agg (ints [y0, y1, y2, y3, y4, y5, y6, y7, y8, y9, y10, y11, y12, y13, y14, y15]).toArray] [], true), (tellHPre (bsT true l0 l1 l2 l3 l4 l5) noPre 76 [.agg (ints [x0, x1, x2, x3, x4, x5, x6, x7, x8, x9, x10, x11, x12, x13, x14, x15]).toArray] [], true),
    (cdec (bsF 0 0 1 n c 0 = bsF 0 0 1 n c 0), true), (cdec (bsH ss ⟨true, none, ints [x0, x1, x2, x3, x4, x5, x6, x7, x8, x9, x10, x11, x12, x13, x14, x15]⟩ [x0, x1, x2, x3, x4, x5, x6, x7, x8, x9, x10, x11, x12, x13, x14, x15] = bsH ss ⟨true, none, ints [x0, x1, x2, x3, x4, x5, x6, x7, x8, x9, x10, x11, x12, x13, x14, x15]⟩ [x0, x1, x2, x3, x4, x5, x6, x7, x8, x9, x10, x11, x12, x13, x14, x15]), true), (cdec (1 = 1), true), (decide (Int.tmod (IntKind.wrap IntKind.i64 (Int.tmod b 6 + 6)) 6 = 0), true),
    (tellHPre (bsT true l0 l1 l2 l3 l4 l5) noPre 74 [.agg (ints [x0, x1, x2, x3, x4, x5, x6, x7, x8, x9, x10, x11, x12, x13, x14, x15]).toArray] [], true), (tellHPre (bsT true l0 l1 l2 l3 l4 l5) noPre 75 [] [], true)]) := by kernel_rfl

theorem bs_run1 (b l0 l1 l2 l3 l4 l5 x0 x1 x2 x3 x4 x5 x6 x7 x8 x9 x10 x11 x12 x13 x14 x15 y0 y1 y2 y3 y4 y5 y6 y7 y8 y9 y10 y11 y12 y13 y14 y15 : Int) (n c : Nat) (ss : List Bool) : (evFnL Try.prog ext 300 (nmPre (tellHPre (bsT true l0 l1 l2 l3 l4 l5) noPre)) (nbC [(29, 1)] [(130, true)] (tellH (bsT true l0 l1 l2 l3 l4 l5) ofC)) (bsN 1 1 2 n c ss [x0, x1, x2, x3, x4, x5, x6, x7, x8, x9, x10, x11, x12, x13, x14, x15] [y0, y1, y2, y3, y4, y5, y6, y7, y8, y9, y10, y11, y12, y13, y14, y15]) [(0, true), (0, true), (12, true), (0, true)] 22 [.agg (ints [x0, x1, x2, x3, x4, x5, x6, x7, x8, x9, x10, x11, x12, x13, x14, x15]).toArray, .slice (some ⟨0, 0, none⟩) n c, .int .i64 b] [⟨false, none, ss.map .bool⟩]).map (fun r => (r.1.1, r.1.2.2, r.2)) =
  some (.bool true, 1, [(decide ([l0, l1, l2, l3, l4, l5] = [l0, l1, l2, l3, l4, l5]), true), (tellHPre (bsT true l0 l1 l2 l3 l4 l5) noPre 76 [.agg (ints [y0, y1, y2, y3, y4, y5, y6, y7, y8, y9, y10, y11, y12, y13, y14, y15]).toArray] [], true), (tellHPre (bsT true l0 l1 l2 l3 l4 l5) noPre 76 [.agg (ints [x0, x1, x2, x3, x4, x5, x6, x7, x8, x9, x10, x11, x12, x13, x14, x15]).toArray] [], true),
    (cdec (bsF 1 1 2 n c 0 = bsF 1 1 2 n c 0), true), (cdec (bsH ss ⟨true, none, ints [x0, x1, x2, x3, x4, x5, x6, x7, x8, x9, x10, x11, x12, x13, x14, x15]⟩ [x0, x1, x2, x3, x4, x5, x6, x7, x8, x9, x10, x11, x12, x13, x14, x15] = bsH ss ⟨true, none, ints [x0, x1, x2, x3, x4, x5, x6, x7, x8, x9, x10, x11, x12, x13, x14, x15]⟩ [x0, x1, x2, x3, x4, x5, x6, x7, x8, x9, x10, x11, x12, x13, x14, x15]), true), (cdec (1 = 1), true), (decide (Int.tmod (IntKind.wrap IntKind.i64 (Int.tmod b 6 + 6)) 6 = 1), true),
    (tellHPre (bsT true l0 l1 l2 l3 l4 l5) noPre 74 [.agg (ints [x0, x1, x2, x3, x4, x5, x6, x7, x8, x9, x10, x11, x12, x13, x14, x15]).toArray] [], true), (tellHPre (bsT true l0 l1 l2 l3 l4 l5) noPre 75 [] [], true)]) := by kernel_rfl

theorem bs_run2 (b l0 l1 l2 l3 l4 l5 x0 x1 x2 x3 x4 x5 x6 x7 x8 x9 x10 x11 x12 x13 x14 x15 y0 y1 y2 y3 y4 y5 y6 y7 y8 y9 y10 y11 y12 y13 y14 y15 : Int) (n c : Nat) (ss : List Bool) : (evFnL Try.prog ext 300 (nmPre (tellHPre (bsT true l0 l1 l2 l3 l4 l5) noPre)) (nbC [(29, 2)] [(130, true)] (tellH (bsT true l0 l1 l2 l3 l4 l5) ofC)) (bsN 2 2 4 n c ss [x0, x1, x2, x3, x4, x5, x6, x7, x8, x9, x10, x11, x12, x13, x14, x15] [y0, y1, y2, y3, y4, y5, y6, y7, y8, y9, y10, y11, y12, y13, y14, y15]) [(0, true), (0, true), (12, true), (0, true)] 22 [.agg (ints [x0, x1, x2, x3, x4, x5, x6, x7, x8, x9, x10, x11, x12, x13, x14, x15]).toArray, .slice (some ⟨0, 0, none⟩) n c, .int .i64 b] [⟨false, none, ss.map .bool⟩]).map (fun r => (r.1.1, r.1.2.2, r.2)) =
  some (.bool true, 1, [(decide ([l0, l1, l2, l3, l4, l5] = [l0, l1, l2, l3, l4, l5]), true), (tellHPre (bsT true l0 l1 l2 l3 l4 l5) noPre 76 [.agg (ints [y0, y1, y3, y2, y4, y5, y6, y7, y8, y9, y10, y11, y12, y13, y14, y15]).toArray] [], true), (tellHPre (bsT true l0 l1 l2 l3 l4 l5) noPre 76 [.agg (ints [x0, x1, x2, x3, x4, x5, x6, x7, x8, x9, x10, x11, x12, x13, x14, x15]).toArray] [], true),
    (cdec (bsF 2 2 4 n c 0 = bsF 2 2 4 n c 0), true), (cdec (bsH ss ⟨true, none, ints [x0, x1, x2, x3, x4, x5, x6, x7, x8, x9, x10, x11, x12, x13, x14, x15]⟩ [x0, x1, x2, x3, x4, x5, x6, x7, x8, x9, x10, x11, x12, x13, x14, x15] = bsH ss ⟨true, none, ints [x0, x1, x2, x3, x4, x5, x6, x7, x8, x9, x10, x11, x12, x13, x14, x15]⟩ [x0, x1, x2, x3, x4, x5, x6, x7, x8, x9, x10, x11, x12, x13, x14, x15]), true), (cdec (1 = 1), true), (decide (Int.tmod (IntKind.wrap IntKind.i64 (Int.tmod b 6 + 6)) 6 = 2), true),
    (tellHPre (bsT true l0 l1 l2 l3 l4 l5) noPre 74 [.agg (ints [x0, x1, x2, x3, x4, x5, x6, x7, x8, x9, x10, x11, x12, x13, x14, x15]).toArray] [], true), (tellHPre (bsT true l0 l1 l2 l3 l4 l5) noPre 75 [] [], true)]) := by kernel_rfl

theorem bs_run3 (b l0 l1 l2 l3 l4 l5 x0 x1 x2 x3 x4 x5 x6 x7 x8 x9 x10 x11 x12 x13 x14 x15 y0 y1 y2 y3 y4 y5 y6 y7 y8 y9 y10 y11 y12 y13 y14 y15 : Int) (n c : Nat) (ss : List Bool) : (evFnL Try.prog ext 300 (nmPre (tellHPre (bsT true l0 l1 l2 l3 l4 l5) noPre)) (nbC [(29, 3)] [(130, true)] (tellH (bsT true l0 l1 l2 l3 l4 l5) ofC)) (bsN 3 4 6 n c ss [x0, x1, x2, x3, x4, x5, x6, x7, x8, x9, x10, x11, x12, x13, x14, x15] [y0, y1, y2, y3, y4, y5, y6, y7, y8, y9, y10, y11, y12, y13, y14, y15]) [(0, true), (0, true), (12, true), (0, true)] 22 [.agg (ints [x0, x1, x2, x3, x4, x5, x6, x7, x8, x9, x10, x11, x12, x13, x14, x15]).toArray, .slice (some ⟨0, 0, none⟩) n c, .int .i64 b] [⟨false, none, ss.map .bool⟩]).map (fun r => (r.1.1, r.1.2.2, r.2)) =
  some (.bool true, 1, [(decide ([l0, l1, l2, l3, l4, l5] = [l0, l1, l2, l3, l4, l5]), true), (tellHPre (bsT true l0 l1 l2 l3 l4 l5) noPre 76 [.agg (ints [y0, y1, y2, y3, y5, y4, y6, y7, y8, y9, y10, y11, y12, y13, y14, y15]).toArray] [], true), (tellHPre (bsT true l0 l1 l2 l3 l4 l5) noPre 76 [.agg (ints [x0, x1, x2, x3, x4, x5, x6, x7, x8, x9, x10, x11, x12, x13, x14, x15]).toArray] [], true),
    (cdec (bsF 3 4 6 n c 0 = bsF 3 4 6 n c 0), true), (cdec (bsH ss ⟨true, none, ints [x0, x1, x2, x3, x4, x5, x6, x7, x8, x9, x10, x11, x12, x13, x14, x15]⟩ [x0, x1, x2, x3, x4, x5, x6, x7, x8, x9, x10, x11, x12, x13, x14, x15] = bsH ss ⟨true, none, ints [x0, x1, x2, x3, x4, x5, x6, x7, x8, x9, x10, x11, x12, x13, x14, x15]⟩ [x0, x1, x2, x3, x4, x5, x6, x7, x8, x9, x10, x11, x12, x13, x14, x15]), true), (cdec (1 = 1), true), (decide (Int.tmod (IntKind.wrap IntKind.i64 (Int.tmod b 6 + 6)) 6 = 3), true),
    (tellHPre (bsT true l0 l1 l2 l3 l4 l5) noPre 74 [.agg (ints [x0, x1, x2, x3, x4, x5, x6, x7, x8, x9, x10, x11, x12, x13, x14, x15]).toArray] [], true), (tellHPre (bsT true l0 l1 l2 l3 l4 l5) noPre 75 [] [], true)]) := by kernel_rfl

theorem bs_run4 (b l0 l1 l2 l3 l4 l5 x0 x1 x2 x3 x4 x5 x6 x7 x8 x9 x10 x11 x12 x13 x14 x15 y0 y1 y2 y3 y4 y5 y6 y7 y8 y9 y10 y11 y12 y13 y14 y15 : Int) (n c : Nat) (ss : List Bool) : (evFnL Try.prog ext 300 (nmPre (tellHPre (bsT true l0 l1 l2 l3 l4 l5) noPre)) (nbC [(29, 4)] [(130, true)] (tellH (bsT true l0 l1 l2 l3 l4 l5) ofC)) (bsN 4 6 10 n c ss [x0, x1, x2, x3, x4, x5, x6, x7, x8, x9, x10, x11, x12, x13, x14, x15] [y0, y1, y2, y3, y4, y5, y6, y7, y8, y9, y10, y11, y12, y13, y14, y15]) [(0, true), (0, true), (12, true), (0, true)] 22 [.agg (ints [x0, x1, x2, x3, x4, x5, x6, x7, x8, x9, x10, x11, x12, x13, x14, x15]).toArray, .slice (some ⟨0, 0, none⟩) n c, .int .i64 b] [⟨false, none, ss.map .bool⟩]).map (fun r => (r.1.1, r.1.2.2, r.2)) =
  some (.bool true, 1, [(decide ([l0, l1, l2, l3, l4, l5] = [l0, l1, l2, l3, l4, l5]), true), (tellHPre (bsT true l0 l1 l2 l3 l4 l5) noPre 76 [.agg (ints [y0, y1, y2, y3, y4, y5, y9, y7, y8, y6, y10, y11, y12, y13, y14, y15]).toArray] [], true), (tellHPre (bsT true l0 l1 l2 l3 l4 l5) noPre 76 [.agg (ints [x0, x1, x2, x3, x4, x5, x6, x7, x8, x9, x10, x11, x12, x13, x14, x15]).toArray] [], true),
    (cdec (bsF 4 6 10 n c 0 = bsF 4 6 10 n c 0), true), (cdec (bsH ss ⟨true, none, ints [x0, x1, x2, x3, x4, x5, x6, x7, x8, x9, x10, x11, x12, x13, x14, x15]⟩ [x0, x1, x2, x3, x4, x5, x6, x7, x8, x9, x10, x11, x12, x13, x14, x15] = bsH ss ⟨true, none, ints [x0, x1, x2, x3, x4, x5, x6, x7, x8, x9, x10, x11, x12, x13, x14, x15]⟩ [x0, x1, x2, x3, x4, x5, x6, x7, x8, x9, x10, x11, x12, x13, x14, x15]), true), (cdec (1 = 1), true), (decide (Int.tmod (IntKind.wrap IntKind.i64 (Int.tmod b 6 + 6)) 6 = 4), true),
    (tellHPre (bsT true l0 l1 l2 l3 l4 l5) noPre 74 [.agg (ints [x0, x1, x2, x3, x4, x5, x6, x7, x8, x9, x10, x11, x12, x13, x14, x15]).toArray] [], true), (tellHPre (bsT true l0 l1 l2 l3 l4 l5) noPre 75 [] [], true)]) := by kernel_rfl

theorem bs_run5 (b l0 l1 l2 l3 l4 l5 x0 x1 x2 x3 x4 x5 x6 x7 x8 x9 x10 x11 x12 x13 x14 x15 y0 y1 y2 y3 y4 y5 y6 y7 y8 y9 y10 y11 y12 y13 y14 y15 : Int) (n c : Nat) (ss : List Bool) : (evFnL Try.prog ext 300 (nmPre (tellHPre (bsT true l0 l1 l2 l3 l4 l5) noPre)) (nbC [(29, 5)] [(130, true)] (tellH (bsT true l0 l1 l2 l3 l4 l5) ofC)) (bsN 5 10 16 n c ss [x0, x1, x2, x3, x4, x5, x6, x7, x8, x9, x10, x11, x12, x13, x14, x15] [y0, y1, y2, y3, y4, y5, y6, y7, y8, y9, y10, y11, y12, y13, y14, y15]) [(0, true), (0, true), (12, true), (0, true)] 22 [.agg (ints [x0, x1, x2, x3, x4, x5, x6, x7, x8, x9, x10, x11, x12, x13, x14, x15]).toArray, .slice (some ⟨0, 0, none⟩) n c, .int .i64 b] [⟨false, none, ss.map .bool⟩]).map (fun r => (r.1.1, r.1.2.2, r.2)) =
  some (.bool true, 1, [(decide ([l0, l1, l2, l3, l4, l5] = [l0, l1, l2, l3, l4, l5]), true), (tellHPre (bsT true l0 l1 l2 l3 l4 l5) noPre 76 [.agg (ints [y0, y1, y2, y3, y4, y5, y6, y7, y8, y9, y15, y11, y12, y13, y14, y10]).toArray] [], true), (tellHPre (bsT true l0 l1 l2 l3 l4 l5) noPre 76 [.agg (ints [x0, x1, x2, x3, x4, x5, x6, x7, x8, x9, x10, x11, x12, x13, x14, x15]).toArray] [], true),
    (cdec (bsF 5 10 16 n c 0 = bsF 5 10 16 n c 0), true), (cdec (bsH ss ⟨true, none, ints [x0, x1, x2, x3, x4, x5, x6, x7, x8, x9, x10, x11, x12, x13, x14, x15]⟩ [x0, x1, x2, x3, x4, x5, x6, x7, x8, x9, x10, x11, x12, x13, x14, x15] = bsH ss ⟨true, none, ints [x0, x1, x2, x3, x4, x5, x6, x7, x8, x9, x10, x11, x12, x13, x14, x15]⟩ [x0, x1, x2, x3, x4, x5, x6, x7, x8, x9, x10, x11, x12, x13, x14, x15]), true), (cdec (1 = 1), true), (decide (Int.tmod (IntKind.wrap IntKind.i64 (Int.tmod b 6 + 6)) 6 = 5), true),
    (tellHPre (bsT true l0 l1 l2 l3 l4 l5) noPre 74 [.agg (ints [x0, x1, x2, x3, x4, x5, x6, x7, x8, x9, x10, x11, x12, x13, x14, x15]).toArray] [], true), (tellHPre (bsT true l0 l1 l2 l3 l4 l5) noPre 75 [] [], true)]) := by kernel_rfl

end Go.Proofs.Ytfbjpenbpbpcaaa

