/-
  Chapter 07: the contracts of lapped.Back and of the reference's, over a row of any length.
-/
import Derived.Test.YtfbjpenbpbpcaaaLa4
import Derived.Test.YtfbjpenbpbpcaaaFs1
namespace Go.Proofs.Ytfbjpenbpbpcaaa
open Go Den
set_option maxRecDepth 100000
set_option linter.unusedSimpArgs false
set_option linter.unusedVariables false

def bI0 (k : Nat) (xs : List Int) : Int := (ivO xs).getD k 0
def bP0 (k : Nat) (t w : List Int) : Int := (lapP t w).getD k 0
def bN0 (k : Nat) (t w : List Int) : Int := (lapT t w).getD k 0
def bkR : Oracle := bkX bI0 ivE bP0 bN0 lapE

theorem ivO_len (xs : List Int) : (ivO xs).length = 32 := by unfold ivO; cases xs.all (inB 67108864) <;> simp [invG]
theorem lapP_len (t w : List Int) : (lapP t w).length = 16 := by unfold lapP; split <;> simp [lapG, zr16]
theorem lapT_len (t w : List Int) : (lapT t w).length = 16 := by unfold lapT; split <;> simp [lapN, zr16]
theorem T16_get {A : List Int} (h : A.length = 16) : T16 (fun k => A.getD k 0) = A := by
  obtain ⟨x0, x1, x2, x3, x4, x5, x6, x7, x8, x9, x10, x11, x12, x13, x14, x15, rfl⟩ := len16 A h
  rfl
theorem T32_get {A : List Int} (h : A.length = 32) : T32 (fun k => A.getD k 0) = A := by
  apply List.ext_getElem?
  intro i
  by_cases hi : i < 32
  · simp [T32, List.getElem?_map, List.getElem?_range hi, List.getD_eq_getElem?_getD, List.getElem?_eq_getElem (show i < A.length by omega)]
  · rw [List.getElem?_eq_none (by simp [T32]; omega), List.getElem?_eq_none (by omega)]
theorem T16_len (g : Nat → Int) : (T16 g).length = 16 := by simp [T16]

theorem bkR_plain : Sound Try.prog bkR := by
  intro f args H v H' l h
  unfold bkR bkX at h
  split at h
  case h_2 => simp at h
  split at h
  · rename_i cs hf
    split at h
    · rename_i xs hxs
      split at h
      · rename_i hn
        simp only [Option.some.injEq, Prod.mk.injEq] at h
        obtain ⟨rfl, rfl, rfl⟩ := h
        have e := intsI_eq _ _ hxs
        have e2 : cs = (ints xs).toArray := by rw [← e]
        rw [e2]
        have hk := inverses_ok f (by simp only [Bool.or_eq_true] at hf; rcases hf with h | h; exact .inl (Nat.eq_of_beq_eq_true h); exact .inr (Nat.eq_of_beq_eq_true h)) xs (Nat.eq_of_beq_eq_true hn)
        have : T32 (fun i => bI0 i xs) = ivO xs := T32_get (ivO_len xs)
        rw [this]
        exact hk
      · simp at h
    · simp at h
  · rename_i cs ds hf
    split at h
    · rename_i xs ys hxs hys
      split at h
      · rename_i hn
        simp only [Bool.and_eq_true] at hn
        simp only [Option.some.injEq, Prod.mk.injEq] at h
        obtain ⟨rfl, rfl, rfl⟩ := h
        have e := intsI_eq _ _ hxs
        have e2 : cs = (ints xs).toArray := by rw [← e]
        have e3 := intsI_eq _ _ hys
        have e4 : ds = (ints ys).toArray := by rw [← e3]
        rw [e2, e4]
        have t1 : T16 (fun i => bP0 i xs ys) = lapP xs ys := T16_get (lapP_len xs ys)
        have t2 : T16 (fun i => bN0 i xs ys) = lapT xs ys := T16_get (lapT_len xs ys)
        rw [t1, t2]
        simp only [Bool.or_eq_true] at hf
        rcases hf with h | h
        · rw [Nat.eq_of_beq_eq_true h]; exact lap_ok xs ys (Nat.eq_of_beq_eq_true hn.1) (Nat.eq_of_beq_eq_true hn.2)
        · rw [Nat.eq_of_beq_eq_true h]; exact rlap_ok xs ys (Nat.eq_of_beq_eq_true hn.1) (Nat.eq_of_beq_eq_true hn.2)
      · simp at h
    · simp at h
  · simp at h
theorem bkR_sound (ks : List Nat) : Sound Try.prog (strict (symPre ks noPre) (bkX bI0 ivE bP0 bN0 lapE)) := sym_sound ks (plain_sound bkR_plain)

/-- The tail, the samples, behind i frames; whether the i-th may be. -/
def tgR (L : List Int) (t0 : Nat → Int) : Nat → Nat → Int
  | 0 => t0
  | i + 1 => fun k => bN0 k (T16 (tgR L t0 i)) (wX bI0 (ints L) i)
def plR (L : List Int) (t0 : Nat → Int) : Nat → List Int
  | 0 => []
  | i + 1 => plR L t0 i ++ pX bI0 bP0 (tgR L t0 i) (ints L) i
def okR (L : List Int) (t0 : Nat → Int) (i : Nat) : Prop := ivE (specX (ints L) i) = 0 ∧ eX bI0 lapE (tgR L t0 i) (ints L) i = 0
instance (L : List Int) (t0 : Nat → Int) (i : Nat) : Decidable (okR L t0 i) := by unfold okR; infer_instance
theorem plR_len (L : List Int) (t0 : Nat → Int) : ∀ i, (plR L t0 i).length = i * 16
  | 0 => rfl
  | i + 1 => by rw [plR, List.length_append, plR_len L t0 i, pX, T16_len]; omega
theorem ivE_01 (xs : List Int) : ivE xs = 0 ∨ ivE xs = 1 := by unfold ivE; cases xs.all (inB 67108864) <;> simp
theorem lapE_01 (t w : List Int) : lapE t w = 0 ∨ lapE t w = 1 := by unfold lapE; split <;> simp

theorem spec_ints (L : List Int) {i n : Nat} (hi : i < n) (hL : L.length = n * 16) : (Nat.beq 16 16 && (Nat.blt 0 16 && (List.range 16).all fun j => isIntAt .i64 (ints L) (0 + Int.toNat ((i : Nat) : Int) * 16 + j))) = true := by
  show ((List.range 16).all fun j => isIntAt .i64 (ints L) (0 + Int.toNat ((i : Nat) : Int) * 16 + j)) = true
  refine List.all_eq_true.2 fun j hj => isIntAt_ints _ ?_
  have := List.mem_range.1 hj
  omega
theorem ints_app (a b : List Int) : ints (a ++ b) = ints a ++ ints b := by simp [ints]
theorem ints_pf (a : List Int) : (ints a).all (pf 3) = true := List.all_eq_true.2 fun v hv => by obtain ⟨x, _, rfl⟩ := List.mem_map.1 hv; rfl
theorem ints_length (a : List Int) : (ints a).length = a.length := by simp [ints]

theorem at_list {G F : Slots} {φ : Value → Option Value} (h : ∀ p ∈ G, ∃ u, at? p.1 F = some u ∧ φ u = some p.2) : ∀ t v, at? t G = some v → ∃ u, at? t F = some u ∧ φ u = some v := by
  induction G with
  | nil => intro t v hv; simp [at?] at hv
  | cons p G ih =>
    obtain ⟨k, x⟩ := p
    intro t v hv
    simp only [at?] at hv
    split at hv
    · rename_i hb
      injection hv with hv
      subst hv
      have : k = t := Nat.eq_of_beq_eq_true hb
      subst this
      exact h (k, x) (by simp)
    · exact ih (fun p hp => h p (by simp [hp])) t v hv
theorem codeOk88 : codeOk (loopAt Try.prog 88 0) = true := by kernel_rfl
theorem codeOk89 : codeOk (loopAt Try.prog 89 0) = true := by kernel_rfl
theorem nt88 : ntOf Try.prog 88 2 = 44 := by kernel_rfl
theorem nt89 : ntOf Try.prog 89 2 = 48 := by kernel_rfl
theorem loops88 : loopsOf (bodyOf Try.prog 88) = [loopAt Try.prog 88 0] := by kernel_rfl
theorem loops89 : loopsOf (bodyOf Try.prog 89) = [loopAt Try.prog 89 0] := by kernel_rfl

def S88 (ow : Bool) (gr : Option Nat) (L : List Int) (t0 : Nat → Int) (n c : Nat) : Nat → St
  | 0 => ⟨[(2, lpt 1), (5, lpt 2), (7, .slice none 0 0), (13, .slice (some ⟨0, 0, none⟩) n c), (14, .int .i64 n), (15, .int .i64 ((0 : Nat) : Int))], [⟨ow, gr, ints L⟩, lbk (T16 t0), lbk zr16], 1⟩
  | i + 1 => ⟨[(2, lpt 1), (5, lpt 2), (7, .slice (some ⟨3, 0, none⟩) (i + 1) 0), (13, .slice (some ⟨0, 0, none⟩) n c), (14, .int .i64 n), (15, .int .i64 ((i + 1 : Nat) : Int))], [⟨ow, gr, ints L⟩, lbk (T16 (tgR L t0 (i + 1))), lbk zr16, ⟨true, some 16, ints (plR L t0 (i + 1))⟩], 1⟩
def T88 (ow : Bool) (gr : Option Nat) (L : List Int) (t0 : Nat → Int) (n c : Nat) : Nat → St
  | 0 => ⟨[(2, lpt 1), (5, lpt 2), (7, .slice (some ⟨7, 0, none⟩) 1 0), (13, .slice (some ⟨0, 0, none⟩) n c), (14, .int .i64 n), (15, .int .i64 ((0 + 1 : Nat) : Int))], [⟨ow, gr, ints L⟩, lbk (T16 (tgR L t0 1)), lbk zr16, lbk (specX (ints L) 0), lbk (wX bI0 (ints L) 0), lbk (pX bI0 bP0 (tgR L t0 0) (ints L) 0), lbk (pX bI0 bP0 (tgR L t0 0) (ints L) 0), ⟨true, some 16, ints (plR L t0 1)⟩], 1⟩
  | i + 1 => ⟨[(2, lpt 1), (5, lpt 2), (7, .slice (some ⟨8, 0, none⟩) (i + 1 + 1) 0), (13, .slice (some ⟨0, 0, none⟩) n c), (14, .int .i64 n), (15, .int .i64 ((i + 1 + 1 : Nat) : Int))], [⟨ow, gr, ints L⟩, lbk (T16 (tgR L t0 (i + 1 + 1))), lbk zr16, ⟨false, none, []⟩, lbk (specX (ints L) (i + 1)), lbk (wX bI0 (ints L) (i + 1)), lbk (pX bI0 bP0 (tgR L t0 (i + 1)) (ints L) (i + 1)), lbk (pX bI0 bP0 (tgR L t0 (i + 1)) (ints L) (i + 1)), ⟨true, some 16, ints (plR L t0 (i + 1 + 1))⟩], 1⟩

theorem step88 (ow : Bool) (gr : Option Nat) (L : List Int) (t0 : Nat → Int) (n c : Nat) (hL : L.length = n * 16) (hn : n ≤ 1000) (i : Nat) (hi : i < n) (hok : okR L t0 i) :
    WP Try.prog 44 (loopAt Try.prog 88 0) (S88 ow gr L t0 n c i) .normal (T88 ow gr L t0 n c i) := by
  obtain ⟨o1, o2⟩ := hok
  cases i with
  | zero =>
    have h := WP.run (P := Try.prog) (nt := 44) progOk extSound (bkR_sound [13, 17, 39]) codeOk88 noLoops_ok [2, 5, 7, 13, 14, 15] (bk88_ns bI0 ivE bP0 bN0 lapE n c ow gr (ints L) t0) (by
      rw [spec_ints L hi hL, o1, show eX bI0 lapE t0 (ints L) 0 = 0 from o2]
      simp [Holds]
      omega)
    rw [show IntKind.wrap IntKind.i64 (((0 : Nat) : Int) + 1) = ((0 + 1 : Nat) : Int) by rfl] at h
    exact h
  | succ i =>
    have h := WP.run (P := Try.prog) (nt := 44) progOk extSound (bkR_sound [13, 17, 39]) codeOk88 noLoops_ok [2, 5, 7, 13, 14, 15] (bk88_gs bI0 ivE bP0 bN0 lapE n c i ow gr (ints L) (ints (plR L t0 (i + 1))) (tgR L t0 (i + 1))) (by
      rw [spec_ints L hi hL, o1, o2, ints_length, plR_len]
      simp [Holds]
      omega)
    rw [show IntKind.wrap IntKind.i64 (((i + 1 : Nat) : Int) + 1) = ((i + 1 + 1 : Nat) : Int) by rw [wrap_in (inI_iff.2 (by omega))]; omega, ← ints_app] at h
    exact h

theorem gc88 (ow : Bool) (gr : Option Nat) (L : List Int) (t0 : Nat → Int) (n c : Nat) (i : Nat) : GcOk 3 (T88 ow gr L t0 n c i) (S88 ow gr L t0 n c (i + 1)) := by
  have flat : ∀ (i j : Nat) (b : Blk), (S88 ow gr L t0 n c (i + 1)).H[j]? = some b → b.cells.all (pf 3) = true := by
    intro i j b hb
    have hm := List.mem_of_getElem? hb
    simp only [S88, List.mem_cons, List.not_mem_nil, or_false] at hm
    rcases hm with rfl | rfl | rfl | rfl <;> exact ints_pf _
  cases i with
  | zero =>
    refine ⟨rfl, by simp [T88], [7], by simp, by simp [T88], rfl, fun i hi => ?_, fun j i hj => ?_, flat 0, at_list ?_⟩
    · match i, hi with
      | 0, _ | 1, _ | 2, _ => rfl
    · match j, hj with
      | 0, hj => injection hj with hj; subst hj; rfl
    · intro p hp
      simp only [S88, List.mem_cons, List.not_mem_nil, or_false] at hp
      rcases hp with rfl | rfl | rfl | rfl | rfl | rfl <;> exact ⟨_, rfl, rfl⟩
  | succ i =>
    refine ⟨rfl, by simp [T88], [8], by simp, by simp [T88], rfl, fun i hi => ?_, fun j i hj => ?_, flat (i + 1), at_list ?_⟩
    · match i, hi with
      | 0, _ | 1, _ | 2, _ => rfl
    · match j, hj with
      | 0, hj => injection hj with hj; subst hj; rfl
    · intro p hp
      simp only [S88, List.mem_cons, List.not_mem_nil, or_false] at hp
      rcases hp with rfl | rfl | rfl | rfl | rfl | rfl <;> exact ⟨_, rfl, rfl⟩

theorem end88 (ow : Bool) (gr : Option Nat) (L : List Int) (t0 : Nat → Int) (n c : Nat) : WP Try.prog 44 (loopAt Try.prog 88 0) (S88 ow gr L t0 n c n) (.exit 0) (S88 ow gr L t0 n c n) := by
  cases n with
  | zero => exact WP.run (P := Try.prog) (X := ext) (pre := noPre) (C := noC) (L := noLoops) (N := 300) (nt := 44) progOk extSound noC_sound codeOk88 noLoops_ok (os := [(0, false)]) [2, 5, 7, 13, 14, 15] (ob := [(decide (((0 : Nat) : Int) < ((0 : Nat) : Int)), false)]) (by kernel_rfl) (by simp [Holds])
  | succ n => exact WP.run (P := Try.prog) (X := ext) (pre := noPre) (C := noC) (L := noLoops) (N := 300) (nt := 44) progOk extSound noC_sound codeOk88 noLoops_ok (os := [(0, false)]) [2, 5, 7, 13, 14, 15] (ob := [(decide (((n + 1 : Nat) : Int) < ((n + 1 : Nat) : Int)), false)]) (by kernel_rfl) (by simp [Holds])

theorem bad88 (ow : Bool) (gr : Option Nat) (L : List Int) (t0 : Nat → Int) (n c : Nat) (hL : L.length = n * 16) (i : Nat) (hi : i < n) (hok : ¬ okR L t0 i) :
    ∃ e T R, e = 1 ∧ WP Try.prog 44 (loopAt Try.prog 88 0) (S88 ow gr L t0 n c i) .ret ⟨[(4, .slice none 0 0), (5, lpt 2), (6, .int .i64 e)], ⟨ow, gr, ints L⟩ :: T :: lbk zr16 :: R, 1⟩ := by
  by_cases o1 : ivE (specX (ints L) i) = 0
  · have o2 : eX bI0 lapE (tgR L t0 i) (ints L) i ≠ 0 := fun h => hok ⟨o1, h⟩
    have o3 : eX bI0 lapE (tgR L t0 i) (ints L) i = 1 := (lapE_01 _ _).resolve_left o2
    cases i with
    | zero => exact ⟨_, _, _, o3, WP.run (P := Try.prog) (nt := 44) progOk extSound (bkR_sound [13, 17, 39]) codeOk88 noLoops_ok [4, 5, 6] (bk88_nl bI0 ivE bP0 bN0 lapE n c ow gr (ints L) t0) (by
        rw [spec_ints L hi hL, o1, show eX bI0 lapE t0 (ints L) 0 = 1 from o3]
        simp [Holds]
        omega)⟩
    | succ i => exact ⟨_, _, _, o3, WP.run (P := Try.prog) (nt := 44) progOk extSound (bkR_sound [13, 17, 39]) codeOk88 noLoops_ok [4, 5, 6] (bk88_gl bI0 ivE bP0 bN0 lapE n c i ow gr (ints L) (ints (plR L t0 (i + 1))) (tgR L t0 (i + 1))) (by
        rw [spec_ints L hi hL, o1, o3]
        simp [Holds]
        omega)⟩
  · have o3 : ivE (specX (ints L) i) = 1 := (ivE_01 _).resolve_left o1
    cases i with
    | zero => exact ⟨_, _, _, o3, WP.run (P := Try.prog) (nt := 44) progOk extSound (bkR_sound [13, 17, 39]) codeOk88 noLoops_ok [4, 5, 6] (bk88_ni bI0 ivE bP0 bN0 lapE n c ow gr (ints L) t0) (by
        rw [spec_ints L hi hL, o3]
        simp [Holds]
        omega)⟩
    | succ i => exact ⟨_, _, _, o3, WP.run (P := Try.prog) (nt := 44) progOk extSound (bkR_sound [13, 17, 39]) codeOk88 noLoops_ok [4, 5, 6] (bk88_gi bI0 ivE bP0 bN0 lapE n c i ow gr (ints L) (ints (plR L t0 (i + 1))) (tgR L t0 (i + 1))) (by
        rw [spec_ints L hi hL, o3]
        simp [Holds]
        omega)⟩

def S89 (ow : Bool) (gr : Option Nat) (L : List Int) (t0 : Nat → Int) (n c : Nat) : Nat → St
  | 0 => ⟨[(2, lpt 1), (5, lpt 2), (7, .slice none 0 0), (14, .slice (some ⟨0, 0, none⟩) n c), (15, .int .i64 n), (16, .int .i64 ((0 : Nat) : Int))], [⟨ow, gr, ints L⟩, lbk (T16 t0), lbk zr16], 1⟩
  | i + 1 => ⟨[(2, lpt 1), (5, lpt 2), (7, .slice (some ⟨3, 0, none⟩) (i + 1) 0), (14, .slice (some ⟨0, 0, none⟩) n c), (15, .int .i64 n), (16, .int .i64 ((i + 1 : Nat) : Int))], [⟨ow, gr, ints L⟩, lbk (T16 (tgR L t0 (i + 1))), lbk zr16, ⟨true, some 16, ints (plR L t0 (i + 1))⟩], 1⟩
def T89 (ow : Bool) (gr : Option Nat) (L : List Int) (t0 : Nat → Int) (n c : Nat) : Nat → St
  | 0 => ⟨[(2, lpt 1), (5, lpt 2), (7, .slice (some ⟨8, 0, none⟩) 1 0), (14, .slice (some ⟨0, 0, none⟩) n c), (15, .int .i64 n), (16, .int .i64 ((0 + 1 : Nat) : Int))], [⟨ow, gr, ints L⟩, lbk (T16 (tgR L t0 1)), lbk zr16, lbk (specX (ints L) 0), lbk (wX bI0 (ints L) 0), lbk (pX bI0 bP0 (tgR L t0 0) (ints L) 0), lbk (T16 (tgR L t0 (0 + 1))), lbk (pX bI0 bP0 (tgR L t0 0) (ints L) 0), ⟨true, some 16, ints (plR L t0 1)⟩], 1⟩
  | i + 1 => ⟨[(2, lpt 1), (5, lpt 2), (7, .slice (some ⟨9, 0, none⟩) (i + 1 + 1) 0), (14, .slice (some ⟨0, 0, none⟩) n c), (15, .int .i64 n), (16, .int .i64 ((i + 1 + 1 : Nat) : Int))], [⟨ow, gr, ints L⟩, lbk (T16 (tgR L t0 (i + 1 + 1))), lbk zr16, ⟨false, none, []⟩, lbk (specX (ints L) (i + 1)), lbk (wX bI0 (ints L) (i + 1)), lbk (pX bI0 bP0 (tgR L t0 (i + 1)) (ints L) (i + 1)), lbk (T16 (tgR L t0 ((i + 1) + 1))), lbk (pX bI0 bP0 (tgR L t0 (i + 1)) (ints L) (i + 1)), ⟨true, some 16, ints (plR L t0 (i + 1 + 1))⟩], 1⟩

theorem step89 (ow : Bool) (gr : Option Nat) (L : List Int) (t0 : Nat → Int) (n c : Nat) (hL : L.length = n * 16) (hn : n ≤ 1000) (i : Nat) (hi : i < n) (hok : okR L t0 i) :
    WP Try.prog 48 (loopAt Try.prog 89 0) (S89 ow gr L t0 n c i) .normal (T89 ow gr L t0 n c i) := by
  obtain ⟨o1, o2⟩ := hok
  cases i with
  | zero =>
    have h := WP.run (P := Try.prog) (nt := 48) progOk extSound (bkR_sound [14, 18, 42]) codeOk89 noLoops_ok [2, 5, 7, 14, 15, 16] (bk89_ns bI0 ivE bP0 bN0 lapE n c ow gr (ints L) t0) (by
      rw [spec_ints L hi hL, o1, show eX bI0 lapE t0 (ints L) 0 = 0 from o2]
      simp [Holds]
      omega)
    rw [show IntKind.wrap IntKind.i64 (((0 : Nat) : Int) + 1) = ((0 + 1 : Nat) : Int) by rfl] at h
    exact h
  | succ i =>
    have h := WP.run (P := Try.prog) (nt := 48) progOk extSound (bkR_sound [14, 18, 42]) codeOk89 noLoops_ok [2, 5, 7, 14, 15, 16] (bk89_gs bI0 ivE bP0 bN0 lapE n c i ow gr (ints L) (ints (plR L t0 (i + 1))) (tgR L t0 (i + 1))) (by
      rw [spec_ints L hi hL, o1, o2, ints_length, plR_len]
      simp [Holds]
      omega)
    rw [show IntKind.wrap IntKind.i64 (((i + 1 : Nat) : Int) + 1) = ((i + 1 + 1 : Nat) : Int) by rw [wrap_in (inI_iff.2 (by omega))]; omega, ← ints_app] at h
    exact h

theorem gc89 (ow : Bool) (gr : Option Nat) (L : List Int) (t0 : Nat → Int) (n c : Nat) (i : Nat) : GcOk 3 (T89 ow gr L t0 n c i) (S89 ow gr L t0 n c (i + 1)) := by
  have flat : ∀ (i j : Nat) (b : Blk), (S89 ow gr L t0 n c (i + 1)).H[j]? = some b → b.cells.all (pf 3) = true := by
    intro i j b hb
    have hm := List.mem_of_getElem? hb
    simp only [S89, List.mem_cons, List.not_mem_nil, or_false] at hm
    rcases hm with rfl | rfl | rfl | rfl <;> exact ints_pf _
  cases i with
  | zero =>
    refine ⟨rfl, by simp [T89], [8], by simp, by simp [T89], rfl, fun i hi => ?_, fun j i hj => ?_, flat 0, at_list ?_⟩
    · match i, hi with
      | 0, _ | 1, _ | 2, _ => rfl
    · match j, hj with
      | 0, hj => injection hj with hj; subst hj; rfl
    · intro p hp
      simp only [S89, List.mem_cons, List.not_mem_nil, or_false] at hp
      rcases hp with rfl | rfl | rfl | rfl | rfl | rfl <;> exact ⟨_, rfl, rfl⟩
  | succ i =>
    refine ⟨rfl, by simp [T89], [9], by simp, by simp [T89], rfl, fun i hi => ?_, fun j i hj => ?_, flat (i + 1), at_list ?_⟩
    · match i, hi with
      | 0, _ | 1, _ | 2, _ => rfl
    · match j, hj with
      | 0, hj => injection hj with hj; subst hj; rfl
    · intro p hp
      simp only [S89, List.mem_cons, List.not_mem_nil, or_false] at hp
      rcases hp with rfl | rfl | rfl | rfl | rfl | rfl <;> exact ⟨_, rfl, rfl⟩

theorem end89 (ow : Bool) (gr : Option Nat) (L : List Int) (t0 : Nat → Int) (n c : Nat) : WP Try.prog 48 (loopAt Try.prog 89 0) (S89 ow gr L t0 n c n) (.exit 0) (S89 ow gr L t0 n c n) := by
  cases n with
  | zero => exact WP.run (P := Try.prog) (X := ext) (pre := noPre) (C := noC) (L := noLoops) (N := 300) (nt := 48) progOk extSound noC_sound codeOk89 noLoops_ok (os := [(0, false)]) [2, 5, 7, 14, 15, 16] (ob := [(decide (((0 : Nat) : Int) < ((0 : Nat) : Int)), false)]) (by kernel_rfl) (by simp [Holds])
  | succ n => exact WP.run (P := Try.prog) (X := ext) (pre := noPre) (C := noC) (L := noLoops) (N := 300) (nt := 48) progOk extSound noC_sound codeOk89 noLoops_ok (os := [(0, false)]) [2, 5, 7, 14, 15, 16] (ob := [(decide (((n + 1 : Nat) : Int) < ((n + 1 : Nat) : Int)), false)]) (by kernel_rfl) (by simp [Holds])

theorem bad89 (ow : Bool) (gr : Option Nat) (L : List Int) (t0 : Nat → Int) (n c : Nat) (hL : L.length = n * 16) (i : Nat) (hi : i < n) (hok : ¬ okR L t0 i) :
    ∃ e T R, e = 1 ∧ WP Try.prog 48 (loopAt Try.prog 89 0) (S89 ow gr L t0 n c i) .ret ⟨[(4, .slice none 0 0), (5, lpt 2), (6, .int .i64 e)], ⟨ow, gr, ints L⟩ :: T :: lbk zr16 :: R, 1⟩ := by
  by_cases o1 : ivE (specX (ints L) i) = 0
  · have o2 : eX bI0 lapE (tgR L t0 i) (ints L) i ≠ 0 := fun h => hok ⟨o1, h⟩
    have o3 : eX bI0 lapE (tgR L t0 i) (ints L) i = 1 := (lapE_01 _ _).resolve_left o2
    cases i with
    | zero => exact ⟨_, _, _, o3, WP.run (P := Try.prog) (nt := 48) progOk extSound (bkR_sound [14, 18, 42]) codeOk89 noLoops_ok [4, 5, 6] (bk89_nl bI0 ivE bP0 bN0 lapE n c ow gr (ints L) t0) (by
        rw [spec_ints L hi hL, o1, show eX bI0 lapE t0 (ints L) 0 = 1 from o3]
        simp [Holds]
        omega)⟩
    | succ i => exact ⟨_, _, _, o3, WP.run (P := Try.prog) (nt := 48) progOk extSound (bkR_sound [14, 18, 42]) codeOk89 noLoops_ok [4, 5, 6] (bk89_gl bI0 ivE bP0 bN0 lapE n c i ow gr (ints L) (ints (plR L t0 (i + 1))) (tgR L t0 (i + 1))) (by
        rw [spec_ints L hi hL, o1, o3]
        simp [Holds]
        omega)⟩
  · have o3 : ivE (specX (ints L) i) = 1 := (ivE_01 _).resolve_left o1
    cases i with
    | zero => exact ⟨_, _, _, o3, WP.run (P := Try.prog) (nt := 48) progOk extSound (bkR_sound [14, 18, 42]) codeOk89 noLoops_ok [4, 5, 6] (bk89_ni bI0 ivE bP0 bN0 lapE n c ow gr (ints L) t0) (by
        rw [spec_ints L hi hL, o3]
        simp [Holds]
        omega)⟩
    | succ i => exact ⟨_, _, _, o3, WP.run (P := Try.prog) (nt := 48) progOk extSound (bkR_sound [14, 18, 42]) codeOk89 noLoops_ok [4, 5, 6] (bk89_gi bI0 ivE bP0 bN0 lapE n c i ow gr (ints L) (ints (plR L t0 (i + 1))) (tgR L t0 (i + 1))) (by
        rw [spec_ints L hi hL, o3]
        simp [Holds]
        omega)⟩

end Go.Proofs.Ytfbjpenbpbpcaaa

