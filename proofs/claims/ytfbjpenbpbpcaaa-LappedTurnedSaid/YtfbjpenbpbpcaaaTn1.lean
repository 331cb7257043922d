/-
  Chapter 07: numbers turned over: the plain law.
-/
import Derived.Test.YtfbjpenbpbpcaaaTn0
import Derived.Test.YtfbjpenbpbpcaaaLp12
namespace Go.Proofs.Ytfbjpenbpbpcaaa
open Go Den
set_option maxRecDepth 100000
set_option linter.unusedSimpArgs false
set_option linter.unusedVariables false

/-- Two numbers that are, but for e, each other's turned over. -/
structure RT (e x x' : Int) : Prop where
  a : -67108864 ≤ x ∧ x ≤ 67108864
  b : -67108864 ≤ x' ∧ x' ≤ 67108864
  c : 0 ≤ x + x' ∧ x + x' ≤ e
inductive RTs (e : Int) : List Int → List Int → Prop
  | nil : RTs e [] []
  | cons {x x' : Int} {xs xs' : List Int} : RT e x x' → RTs e xs xs' → RTs e (x :: xs) (x' :: xs')
theorem wrap_in7 {n : Int} (h1 : -9223372036854775808 ≤ n) (h2 : n ≤ 9223372036854775807) : IntKind.wrap IntKind.i64 n = n := wrap_in (inI_iff.2 ⟨h1, h2⟩)
theorem mul_bd {x c : Int} (hx : -67108864 ≤ x ∧ x ≤ 67108864) (hc : -16777216 ≤ c ∧ c ≤ 16777216) : -1125899906842624 ≤ x * c ∧ x * c ≤ 1125899906842624 := by
  have h1 : x.natAbs ≤ 67108864 := by omega
  have h2 : c.natAbs ≤ 16777216 := by omega
  have h3 := Nat.mul_le_mul h1 h2
  rw [← Int.natAbs_mul] at h3
  omega
theorem fold_turn {e : Int} (he : e = 0 ∨ e = 1) : ∀ {xs xs' : List Int}, RTs e xs xs' → ∀ (cs : List Int) (s s' : Int) (k : Nat), (∀ c ∈ cs, -16777216 ≤ c ∧ c ≤ 16777216) →
    (-(k * 1125899906842624) ≤ s ∧ s ≤ k * 1125899906842624) → (-(k * 1125899906842624) ≤ s' ∧ s' ≤ k * 1125899906842624) → (-(e * k * 16777216) ≤ s + s' ∧ s + s' ≤ e * k * 16777216) → k + xs.length ≤ 32 →
    let r := (List.zip xs cs).foldl (fun s p => IntKind.wrap IntKind.i64 (s + IntKind.wrap IntKind.i64 (p.1 * p.2))) s
    let r' := (List.zip xs' cs).foldl (fun s p => IntKind.wrap IntKind.i64 (s + IntKind.wrap IntKind.i64 (p.1 * p.2))) s'
    (-(e * 536870912) ≤ r + r' ∧ r + r' ≤ e * 536870912) ∧ (-36028797018963968 ≤ r ∧ r ≤ 36028797018963968) ∧ (-36028797018963968 ≤ r' ∧ r' ≤ 36028797018963968) := by
  intro xs xs' h
  induction h with
  | nil =>
    intro cs s s' k _ h1 h2 h3 hk
    simp only [List.zip_nil_left, List.foldl_nil]
    simp only [List.length_nil] at hk
    rcases he with rfl | rfl <;> omega
  | @cons x x' xs xs' hx hxs ih =>
    intro cs s s' k hc h1 h2 h3 hk
    cases cs with
    | nil =>
      simp only [List.zip_nil_right, List.foldl_nil]
      simp only [List.length_cons] at hk
      rcases he with rfl | rfl <;> omega
    | cons c cs =>
      simp only [List.zip_cons_cons, List.foldl_cons]
      simp only [List.length_cons] at hk
      have hcc := hc c (by simp)
      have p1 := mul_bd hx.a hcc
      have p2 := mul_bd hx.b hcc
      have hsum : x * c + x' * c = (x + x') * c := (Int.add_mul x x' c).symm
      have hδ : x + x' = 0 ∨ (x + x' = 1 ∧ e = 1) := by have := hx.c; rcases he with rfl | rfl <;> omega
      have hd : (x * c + x' * c = 0) ∨ (x * c + x' * c = c ∧ e = 1) := by
        rcases hδ with h | ⟨h, h'⟩
        · left; rw [hsum, h, Int.zero_mul]
        · right; exact ⟨by rw [hsum, h, Int.one_mul], h'⟩
      generalize x * c = p at *
      generalize x' * c = p' at *
      rw [wrap_in7 (n := p) (by omega) (by omega), wrap_in7 (n := p') (by omega) (by omega), wrap_in7 (n := s + p) (by omega) (by omega), wrap_in7 (n := s' + p') (by omega) (by omega)]
      refine ih cs (s + p) (s' + p') (k + 1) (fun c h => hc c (by simp [h])) (by omega) (by omega) ?_ (by omega)
      rcases he with rfl | rfl <;> rcases hd with h | ⟨h, h'⟩ <;> omega
theorem dot_turn {e : Int} (he : e = 0 ∨ e = 1) {xs xs' cs : List Int} (h : RTs e xs xs') (hc : ∀ c ∈ cs, -16777216 ≤ c ∧ c ≤ 16777216) (hl : xs.length ≤ 32) :
    (-(e * 536870912) ≤ dotW xs cs + dotW xs' cs ∧ dotW xs cs + dotW xs' cs ≤ e * 536870912) ∧ (-36028797018963968 ≤ dotW xs cs ∧ dotW xs cs ≤ 36028797018963968) ∧ (-36028797018963968 ≤ dotW xs' cs ∧ dotW xs' cs ≤ 36028797018963968) :=
  fold_turn he h cs 0 0 0 hc (by omega) (by omega) (by rcases he with rfl | rfl <;> omega) (by omega)

/-! ### Forward -/
inductive Ng : List Int → List Int → Prop
  | nil : Ng [] []
  | cons {x : Int} {xs xs' : List Int} : -32767 ≤ x ∧ x ≤ 32767 → Ng xs xs' → Ng (x :: xs) (-x :: xs')
theorem Ng.len {xs xs' : List Int} (h : Ng xs xs') : xs.length = xs'.length := by induction h <;> simp_all
theorem win_turn : ∀ {xs xs' : List Int}, Ng xs xs' → ∀ ws : List Int, (∀ w ∈ ws, 0 ≤ w ∧ w ≤ 16777216) →
    RTs 1 (List.zipWith (fun x w => roundZ (IntKind.wrap IntKind.i64 (x * w)) 16) xs ws) (List.zipWith (fun x w => roundZ (IntKind.wrap IntKind.i64 (x * w)) 16) xs' ws) := by
  intro xs xs' h
  induction h with
  | nil => intro ws _; exact .nil
  | @cons x xs xs' hx hxs ih =>
    intro ws hw
    cases ws with
    | nil => exact .nil
    | cons w ws =>
      simp only [List.zipWith_cons_cons]
      have hww := hw w (by simp)
      have h1 : x * w ≤ 32767 * w := Int.mul_le_mul_of_nonneg_right hx.2 hww.1
      have h2 : -32767 * w ≤ x * w := Int.mul_le_mul_of_nonneg_right hx.1 hww.1
      refine .cons ?_ (ih ws fun v hv => hw v (by simp [hv]))
      rw [Int.neg_mul]
      generalize x * w = p at *
      rw [wrap_in7 (n := p) (by omega) (by omega), wrap_in7 (n := -p) (by omega) (by omega)]
      have r := round_neg p 16 (by omega)
      have hb : -67108864 ≤ roundZ p 16 ∧ roundZ p 16 ≤ 67108864 ∧ -67108864 ≤ roundZ (-p) 16 ∧ roundZ (-p) 16 ≤ 67108864 := by
        unfold roundZ
        rw [if_neg (by omega), if_neg (by omega), if_neg (by omega), if_neg (by omega), show (2 : Int) ^ ((16 : Int).toNat - 1) = 32768 by decide, show (2 : Int) ^ (16 : Int).toNat = 65536 by decide]
        omega
      exact ⟨⟨hb.1, hb.2.1⟩, ⟨hb.2.2.1, hb.2.2.2⟩, r⟩
theorem win_ok : (winL.all fun w => decide (0 ≤ w) && decide (w ≤ 16777216)) = true := by kernel_rfl
theorem rows_ok : (rowsL.all fun r => r.all fun c => decide (-16777216 ≤ c) && decide (c ≤ 16777216)) = true := by kernel_rfl
theorem zip_len (f : Int → Int → Int) (xs ws : List Int) (h : xs.length ≤ 32) : (List.zipWith f xs ws).length ≤ 32 := by
  rw [List.length_zipWith]; omega
theorem round28 {D D' : Int} (h : -536870912 ≤ D + D' ∧ D + D' ≤ 536870912) : -4 ≤ roundZ D 28 + roundZ D' 28 ∧ roundZ D 28 + roundZ D' 28 ≤ 4 := by
  unfold roundZ
  rw [if_neg (by omega), if_neg (by omega), if_neg (by omega), if_neg (by omega), show (2 : Int) ^ ((28 : Int).toNat - 1) = 134217728 by decide, show (2 : Int) ^ (28 : Int).toNat = 268435456 by decide]
  omega
theorem fwd_turn {xs xs' : List Int} (h : Ng xs xs') (hl : xs.length = 32) {i : Nat} (hi : i < 16) : -4 ≤ (fwdG roundZ xs).getD i 0 + (fwdG roundZ xs').getD i 0 ∧ (fwdG roundZ xs).getD i 0 + (fwdG roundZ xs').getD i 0 ≤ 4 := by
  have hr : rowsL.length = 16 := rfl
  have hget : ∀ f : List Int → Int, (rowsL.map f).getD i 0 = f (rowsL.getD i []) := fun f => by
    rw [List.getD_eq_getElem?_getD, List.getElem?_map, List.getD_eq_getElem?_getD, List.getElem?_eq_getElem (by omega)]
    rfl
  unfold fwdG
  rw [hget, hget]
  have hmem : rowsL.getD i [] ∈ rowsL := by
    rw [List.getD_eq_getElem?_getD, List.getElem?_eq_getElem (by omega)]
    exact List.getElem_mem _
  have hrow := List.all_eq_true.1 (List.all_eq_true.1 rows_ok _ hmem)
  generalize rowsL.getD i [] = cs at hrow
  have hw : ∀ w ∈ winL, 0 ≤ w ∧ w ≤ 16777216 := fun w hw => by
    have := List.all_eq_true.1 win_ok w hw
    simpa using this
  have d := dot_turn (e := 1) (.inr rfl) (win_turn h winL hw) (cs := cs) (fun c hc => by have := hrow c hc; simpa using this) (zip_len _ _ _ (by omega))
  exact round28 (by omega)

/-! ### Inverse -/
inductive Nx : List Int → List Int → Prop
  | nil : Nx [] []
  | cons {x : Int} {xs xs' : List Int} : -67108864 ≤ x ∧ x ≤ 67108864 → Nx xs xs' → Nx (x :: xs) (-x :: xs')
theorem Nx.rt {xs xs' : List Int} (h : Nx xs xs') : RTs 0 xs xs' := by
  induction h with
  | nil => exact .nil
  | cons hx _ ih => exact .cons ⟨hx, by omega, by omega⟩ ih
theorem round20 {D : Int} (h : -36028797018963968 ≤ D ∧ D ≤ 36028797018963968) : -34359738369 ≤ roundZ D 20 ∧ roundZ D 20 ≤ 34359738369 := by
  unfold roundZ
  rw [if_neg (by omega), if_neg (by omega), show (2 : Int) ^ ((20 : Int).toNat - 1) = 524288 by decide, show (2 : Int) ^ (20 : Int).toNat = 1048576 by decide]
  omega
theorem round27 {D D' : Int} (h : 0 ≤ D + D' ∧ D + D' ≤ 16777216) : -2 ≤ roundZ D 27 + roundZ D' 27 ∧ roundZ D 27 + roundZ D' 27 ≤ 2 := by
  unfold roundZ
  rw [if_neg (by omega), if_neg (by omega), if_neg (by omega), if_neg (by omega), show (2 : Int) ^ ((27 : Int).toNat - 1) = 67108864 by decide, show (2 : Int) ^ (27 : Int).toNat = 134217728 by decide]
  omega
theorem inv_turn {xs xs' : List Int} (h : Nx xs xs') (hl : xs.length = 16) {n : Nat} (hn : n < 32) : -2 ≤ (invG roundZ xs).getD n 0 + (invG roundZ xs').getD n 0 ∧ (invG roundZ xs).getD n 0 + (invG roundZ xs').getD n 0 ≤ 2 := by
  have hget : ∀ f : Nat → Int, ((List.range 32).map f).getD n 0 = f n := fun f => by
    rw [List.getD_eq_getElem?_getD, List.getElem?_map, List.getElem?_range hn]; rfl
  unfold invG
  rw [hget, hget]
  have hcol : ∀ c ∈ colL n, -16777216 ≤ c ∧ c ≤ 16777216 := by
    intro c hc
    unfold colL at hc
    obtain ⟨r, hr, rfl⟩ := List.mem_map.1 hc
    have hrow := List.all_eq_true.1 (List.all_eq_true.1 rows_ok r hr)
    rw [List.getD_eq_getElem?_getD]
    by_cases hh : n < r.length
    · rw [List.getElem?_eq_getElem hh]
      have := hrow _ (List.getElem_mem hh)
      simpa using this
    · rw [List.getElem?_eq_none (by omega)]
      simp
  have d := dot_turn (e := 0) (.inl rfl) h.rt hcol (by omega)
  have hw : 0 ≤ winL.getD n 0 ∧ winL.getD n 0 ≤ 16777216 := by
    rw [List.getD_eq_getElem?_getD, List.getElem?_eq_getElem (show n < winL.length from hn)]
    have := List.all_eq_true.1 win_ok _ (List.getElem_mem (show n < winL.length from hn))
    simpa using this
  have hneg : dotW xs' (colL n) = -dotW xs (colL n) := by omega
  rw [hneg]
  have hr := round_neg (dotW xs (colL n)) 20 (by omega)
  have b1 := round20 d.2.1
  have b2 := round20 (D := -dotW xs (colL n)) (by omega)
  have e20 : ((20 : Nat) : Int) = 20 := rfl
  rw [e20] at hr
  generalize roundZ (dotW xs (colL n)) 20 = r at *
  generalize roundZ (-dotW xs (colL n)) 20 = r' at *
  generalize winL.getD n 0 = w at *
  have p1 : r * w ≤ 34359738369 * w := Int.mul_le_mul_of_nonneg_right (by omega) hw.1
  have p2 : -34359738369 * w ≤ r * w := Int.mul_le_mul_of_nonneg_right (by omega) hw.1
  have hs : r * w + r' * w = (r + r') * w := (Int.add_mul r r' w).symm
  have hd : r * w + r' * w = 0 ∨ r * w + r' * w = w := by
    rcases (show r + r' = 0 ∨ r + r' = 1 by omega) with h | h
    · left; rw [hs, h, Int.zero_mul]
    · right; rw [hs, h, Int.one_mul]
  generalize r * w = P at *
  generalize r' * w = P' at *
  rw [wrap_in7 (n := P) (by omega) (by omega), wrap_in7 (n := P') (by omega) (by omega)]
  exact round27 (by omega)
end Go.Proofs.Ytfbjpenbpbpcaaa

