/-
  The product of two words (math/bits.Mul64), and a loop's step in places that are not computed.
-/
import Derived.Test.YtfbjpenbpbpcaaaZD
namespace Go.Proofs.Ytfbjpenbpbpcaaa
open Go Den
set_option maxRecDepth 100000
set_option linter.unusedSimpArgs false

theorem and32 (x : Int) (h0 : 0 ≤ x) (h1 : x ≤ 18446744073709551615) : IntKind.u64.wrap ((BitVec.toNat (BitVec.ofInt (IntKind.bits IntKind.u64) x &&& BitVec.ofInt (IntKind.bits IntKind.u64) 4294967295) : Nat) : Int) = x % 4294967296 := by
  obtain ⟨m, rfl⟩ : ∃ m : Nat, x = m := ⟨x.toNat, by omega⟩
  have e : (BitVec.toNat (BitVec.ofInt (IntKind.bits IntKind.u64) (m : Int) &&& BitVec.ofInt (IntKind.bits IntKind.u64) 4294967295)) = m % 4294967296 := by
    show BitVec.toNat (BitVec.ofInt 64 (m : Int) &&& BitVec.ofInt 64 4294967295) = m % 4294967296
    rw [BitVec.toNat_and]
    have e1 : (BitVec.ofInt 64 4294967295).toNat = 2 ^ 32 - 1 := by decide
    have e2 : (BitVec.ofInt 64 (m : Int)).toNat = m := by
      rw [BitVec.toNat_ofInt]
      have : ((2 ^ 64 : Nat) : Int) = 18446744073709551616 := by decide
      rw [this]
      omega
    rw [e1, e2, Nat.and_two_pow_sub_one_eq_mod]
  rw [e, wrapU_in (by omega) (by omega)]
  omega

theorem prod32 {a b : Int} (ha : 0 ≤ a) (ha' : a ≤ 4294967295) (hb : 0 ≤ b) (hb' : b ≤ 4294967295) : 0 ≤ a * b ∧ a * b ≤ 18446744065119617025 := by
  refine ⟨Int.mul_nonneg ha hb, ?_⟩
  have : a * b ≤ 4294967295 * 4294967295 := Int.mul_le_mul ha' hb' hb (by decide)
  omega

def m64N (X0 X1 Y0 Y1 W0 T W1 W2 W1' : Int) : Loops := { renF := fun id => match id with
  | 5 => [(6, X0), (7, X1), (8, Y0), (9, Y1)]
  | 6 => [(10, W0)]
  | 7 => [(11, T)]
  | 9 => [(12, W1), (13, W2)]
  | 10 => [(12, W1')]
  | _ => [] }

theorem wrapU_eq (n : Int) : IntKind.u64.wrap n = n % 18446744073709551616 := by
  unfold IntKind.wrap
  simp [IntKind.bits, IntKind.signed]

theorem mul64_ok (x y : Int) (hx : isU x = true) (hy : isU y = true) : CallOk Try.prog 137 [.int .u64 x, .int .u64 y] [] (.tuple #[.int .u64 (x * y / 18446744073709551616), .int .u64 (x * y % 18446744073709551616)]) [] 0 := by
  obtain ⟨x0, x1⟩ := isU_iff.1 hx
  obtain ⟨y0, y1⟩ := isU_iff.1 hy
  have s32 : ∀ x : Int, x.fdiv (2 ^ min (Int.toNat 32) (IntKind.bits IntKind.u64)) = x / 4294967296 := fun x => shr_lit x 32 (by decide)
  have aX := and32 x x0 x1
  have aY := and32 y y0 y1
  have dX : x = (x / 4294967296) * 4294967296 + x % 4294967296 := by omega
  have dY : y = (y / 4294967296) * 4294967296 + y % 4294967296 := by omega
  generalize hX0 : x % 4294967296 = X0 at *
  generalize hX1 : x / 4294967296 = X1 at *
  generalize hY0 : y % 4294967296 = Y0 at *
  generalize hY1 : y / 4294967296 = Y1 at *
  have p00 := prod32 (a := X0) (b := Y0) (by omega) (by omega) (by omega) (by omega)
  have p10 := prod32 (a := X1) (b := Y0) (by omega) (by omega) (by omega) (by omega)
  have p01 := prod32 (a := X0) (b := Y1) (by omega) (by omega) (by omega) (by omega)
  have p11 := prod32 (a := X1) (b := Y1) (by omega) (by omega) (by omega) (by omega)
  have hp : x * y = X1 * Y1 * 18446744073709551616 + (X1 * Y0 + X0 * Y1) * 4294967296 + X0 * Y0 := by
    rw [dX, dY]
    simp only [Int.add_mul, Int.mul_add]
    have e1 : X1 * 4294967296 * (Y1 * 4294967296) = X1 * Y1 * 18446744073709551616 := by
      rw [Int.mul_assoc, Int.mul_left_comm 4294967296, ← Int.mul_assoc]; omega
    have e2 : X1 * 4294967296 * Y0 = X1 * Y0 * 4294967296 := by rw [Int.mul_right_comm]
    have e3 : X0 * (Y1 * 4294967296) = X0 * Y1 * 4294967296 := by rw [Int.mul_assoc]
    rw [e1, e2, e3]
    omega
  have h := fnL_ok (N := 300) (pre := noPre) (C := noC) (L := m64N X0 X1 Y0 Y1 (X0 * Y0) (X1 * Y0 + X0 * Y0 / 4294967296) ((X1 * Y0 + X0 * Y0 / 4294967296) % 4294967296) ((X1 * Y0 + X0 * Y0 / 4294967296) / 4294967296) ((X1 * Y0 + X0 * Y0 / 4294967296) % 4294967296 + X0 * Y1)) (f := 137) (args := [.int .u64 x, .int .u64 y]) (H := []) (os := [])
    (v := .tuple #[.int .u64 (IntKind.wrap IntKind.u64 (IntKind.wrap IntKind.u64 (IntKind.wrap IntKind.u64 (X1 * Y1) + (X1 * Y0 + X0 * Y0 / 4294967296) / 4294967296) + Int.fdiv ((X1 * Y0 + X0 * Y0 / 4294967296) % 4294967296 + X0 * Y1) (2 ^ min (Int.toNat 32) (IntKind.bits IntKind.u64)))), .int .u64 (IntKind.wrap IntKind.u64 (x * y))])
    (H' := []) (l := 0)
    (ob := [(decide (IntKind.wrap IntKind.u64 ((X1 * Y0 + X0 * Y0 / 4294967296) % 4294967296 + IntKind.wrap IntKind.u64 (X0 * Y1)) = (X1 * Y0 + X0 * Y0 / 4294967296) % 4294967296 + X0 * Y1), true),
      (decide (Int.fdiv (X1 * Y0 + X0 * Y0 / 4294967296) (2 ^ min (Int.toNat 32) (IntKind.bits IntKind.u64)) = (X1 * Y0 + X0 * Y0 / 4294967296) / 4294967296), true),
      (decide (IntKind.wrap IntKind.u64 ↑(BitVec.toNat (BitVec.ofInt (IntKind.bits IntKind.u64) (X1 * Y0 + X0 * Y0 / 4294967296) &&& BitVec.ofInt (IntKind.bits IntKind.u64) 4294967295)) = (X1 * Y0 + X0 * Y0 / 4294967296) % 4294967296), true),
      (decide (IntKind.wrap IntKind.u64 (IntKind.wrap IntKind.u64 (X1 * Y0) + Int.fdiv (X0 * Y0) (2 ^ min (Int.toNat 32) (IntKind.bits IntKind.u64))) = X1 * Y0 + X0 * Y0 / 4294967296), true),
      (decide (IntKind.wrap IntKind.u64 (X0 * Y0) = X0 * Y0), true),
      (decide (Int.fdiv y (2 ^ min (Int.toNat 32) (IntKind.bits IntKind.u64)) = Y1), true),
      (decide (IntKind.wrap IntKind.u64 ↑(BitVec.toNat (BitVec.ofInt (IntKind.bits IntKind.u64) y &&& BitVec.ofInt (IntKind.bits IntKind.u64) 4294967295)) = Y0), true),
      (decide (Int.fdiv x (2 ^ min (Int.toNat 32) (IntKind.bits IntKind.u64)) = X1), true),
      (decide (IntKind.wrap IntKind.u64 ↑(BitVec.toNat (BitVec.ofInt (IntKind.bits IntKind.u64) x &&& BitVec.ofInt (IntKind.bits IntKind.u64) 4294967295)) = X0), true)])
    progOk extSound noC_sound (LoopsOk.names rfl) (by kernel_rfl) (by
      simp only [s32, aX, aY, hX1, hY1]
      rw [and32 _ (by omega) (by omega), wrapU_in (n := X0 * Y1) (by omega) (by omega), wrapU_in (n := X1 * Y0) (by omega) (by omega), wrapU_in (n := X0 * Y0) (by omega) (by omega),
        wrapU_in (n := X1 * Y0 + X0 * Y0 / 4294967296) (by omega) (by omega), wrapU_in (n := (X1 * Y0 + X0 * Y0 / 4294967296) % 4294967296 + X0 * Y1) (by omega) (by omega)]
      simp [Holds])
  rw [s32, wrapU_in (n := X1 * Y1) (by omega) (by omega), wrapU_in (n := X1 * Y1 + (X1 * Y0 + X0 * Y0 / 4294967296) / 4294967296) (by omega) (by omega), wrapU_in (n := X1 * Y1 + (X1 * Y0 + X0 * Y0 / 4294967296) / 4294967296 + ((X1 * Y0 + X0 * Y0 / 4294967296) % 4294967296 + X0 * Y1) / 4294967296) (by omega) (by omega), wrapU_eq] at h
  rw [show x * y / 18446744073709551616 = X1 * Y1 + (X1 * Y0 + X0 * Y0 / 4294967296) / 4294967296 + ((X1 * Y0 + X0 * Y0 / 4294967296) % 4294967296 + X0 * Y1) / 4294967296 by rw [hp]; omega]
  exact h

end Go.Proofs.Ytfbjpenbpbpcaaa

/-
  Numbers of several digits, plainly: what the school's way of squaring comes to.
-/
namespace Go.Proofs.Ytfbjpenbpbpcaaa
set_option linter.unusedSimpArgs false
set_option linter.unusedVariables false

/-- What a list of digits stands for, the lowest first. -/
def valD (D : Int) : List Int → Int
  | [] => 0
  | x :: l => x + D * valD D l

def inD (D : Int) (l : List Int) : Prop := ∀ j, 0 ≤ l.getD j 0 ∧ l.getD j 0 < D

theorem valD_set (D : Int) : ∀ (l : List Int) (j : Nat) (v : Int), j < l.length → valD D (l.set j v) = valD D l + (v - l.getD j 0) * D ^ j := by
  intro l
  induction l with
  | nil => intro j v h; simp at h
  | cons x l ih =>
    intro j v h
    cases j with
    | zero => simp [valD]; omega
    | succ j =>
      have := ih j v (by simpa using h)
      simp only [List.set_cons_succ, valD, List.getD_cons_succ, this]
      grind

theorem valD_take (D : Int) : ∀ (l : List Int) (k : Nat), k < l.length → valD D (l.take (k + 1)) = valD D (l.take k) + l.getD k 0 * D ^ k := by
  intro l
  induction l with
  | nil => intro k h; simp at h
  | cons x l ih =>
    intro k h
    cases k with
    | zero => simp [valD]
    | succ k =>
      have := ih k (by simpa using h)
      simp only [List.take_succ_cons, valD, List.getD_cons_succ, this]
      grind

theorem getD_set (l : List Int) (i j : Nat) (v : Int) (hi : i < l.length) : (l.set i v).getD j 0 = if i = j then v else l.getD j 0 := by
  simp only [List.getD_eq_getElem?_getD, List.getElem?_set]
  split
  · rename_i h
    subst h
    simp [hi]
  · rfl

/-- The digits are the number's. -/
theorem valD_dig (D : Int) (hD : 0 < D) : ∀ (l : List Int), inD D l → ∀ j, j < l.length → l.getD j 0 = valD D l / D ^ j % D := by
  intro l
  induction l with
  | nil => intro _ j h; simp at h
  | cons x l ih =>
    intro hl j h
    have hx := hl 0
    simp at hx
    have ht : inD D l := fun j => by have := hl (j + 1); simpa using this
    cases j with
    | zero =>
      simp only [List.getD_cons_zero, valD, Int.pow_zero, Int.ediv_one]
      rw [Int.add_mul_emod_self_left, Int.emod_eq_of_lt hx.1 hx.2]
    | succ j =>
      rw [List.getD_cons_succ, ih ht j (by simpa using h)]
      simp only [valD]
      rw [Int.pow_succ, Int.mul_comm (D ^ j) D, ← Int.ediv_ediv_of_nonneg (Int.le_of_lt hD), Int.add_mul_ediv_left _ _ (Int.ne_of_gt hD), Int.ediv_eq_zero_of_lt hx.1 hx.2, Int.zero_add]

def rowS (D a : Int) (xs : List Int) (i : Nat) (o : List Int) : Nat → List Int × Int
  | 0 => (o, 0)
  | k + 1 => ((rowS D a xs i o k).1.set (i + k) ((a * xs.getD k 0 + (rowS D a xs i o k).1.getD (i + k) 0 + (rowS D a xs i o k).2) % D), (a * xs.getD k 0 + (rowS D a xs i o k).1.getD (i + k) 0 + (rowS D a xs i o k).2) / D)

def rowD (D a : Int) (xs : List Int) (i : Nat) (o : List Int) : List Int :=
  (rowS D a xs i o xs.length).1.set (i + xs.length) ((rowS D a xs i o xs.length).1.getD (i + xs.length) 0 + (rowS D a xs i o xs.length).2)

def sqS (D : Int) (xs : List Int) (o : List Int) : Nat → List Int
  | 0 => o
  | i + 1 => rowD D (xs.getD i 0) xs i (sqS D xs o i)

theorem mac_le {D a b o c : Int} (hD : 0 < D) (ha : 0 ≤ a ∧ a < D) (hb : 0 ≤ b ∧ b < D) (ho : 0 ≤ o ∧ o < D) (hc : 0 ≤ c ∧ c < D) : 0 ≤ a * b ∧ a * b ≤ (D - 1) * (D - 1) ∧ 0 ≤ a * b + o + c ∧ 0 ≤ (a * b + o + c) / D ∧ (a * b + o + c) / D < D := by
  have h0 : 0 ≤ a * b := Int.mul_nonneg ha.1 hb.1
  have h1 : a * b ≤ (D - 1) * (D - 1) := Int.mul_le_mul (by omega) (by omega) hb.1 (by omega)
  have h2 : (D - 1) * (D - 1) = D * D - 2 * D + 1 := by grind
  refine ⟨h0, h1, by omega, Int.ediv_nonneg (by omega) (by omega), Int.ediv_lt_of_lt_mul hD (by omega)⟩

theorem rowS_inv (D a : Int) (xs : List Int) (i : Nat) (o : List Int) (hD : 0 < D) (ha : 0 ≤ a ∧ a < D) (hx : inD D xs) (ho : inD D o) (hi : i + xs.length < o.length) : ∀ k, k ≤ xs.length →
    (rowS D a xs i o k).1.length = o.length ∧ inD D (rowS D a xs i o k).1 ∧ (0 ≤ (rowS D a xs i o k).2 ∧ (rowS D a xs i o k).2 < D) ∧ (∀ j, i + xs.length ≤ j → (rowS D a xs i o k).1.getD j 0 = o.getD j 0) ∧
      valD D (rowS D a xs i o k).1 + (rowS D a xs i o k).2 * D ^ (i + k) = valD D o + a * D ^ i * valD D (xs.take k) := by
  intro k
  induction k with
  | zero => intro _; exact ⟨rfl, ho, ⟨Int.le_refl _, hD⟩, fun j _ => rfl, by simp [rowS, valD]⟩
  | succ k ih =>
    intro hk
    obtain ⟨h1, h2, h3, h4, h5⟩ := ih (by omega)
    simp only [rowS]
    generalize rowS D a xs i o k = r at *
    obtain ⟨l, c⟩ := r
    simp only at *
    have hb := hx k
    have hl := h2 (i + k)
    obtain ⟨m0, m1, m2, m3, m4⟩ := mac_le hD ha hb hl h3
    have e := Int.mul_ediv_add_emod (a * xs.getD k 0 + l.getD (i + k) 0 + c) D
    have e1 := Int.emod_nonneg (a * xs.getD k 0 + l.getD (i + k) 0 + c) (Int.ne_of_gt hD)
    have e2 := Int.emod_lt_of_pos (a * xs.getD k 0 + l.getD (i + k) 0 + c) hD
    refine ⟨by rw [List.length_set]; exact h1, ?_, ⟨m3, m4⟩, ?_, ?_⟩
    · intro j
      rw [getD_set _ _ _ _ (by omega)]
      split
      · exact ⟨e1, e2⟩
      · exact h2 j
    · intro j hj
      rw [getD_set _ _ _ _ (by omega), if_neg (by omega)]
      exact h4 j hj
    · rw [valD_set _ _ _ _ (by omega), valD_take _ _ _ (by omega)]
      generalize (a * xs.getD k 0 + l.getD (i + k) 0 + c) % D = p at *
      generalize hq : (a * xs.getD k 0 + l.getD (i + k) 0 + c) / D = q at *
      have e3 : p = a * xs.getD k 0 + l.getD (i + k) 0 + c - D * q := by omega
      rw [e3, show i + (k + 1) = (i + k) + 1 by omega, Int.pow_succ]
      have e4 : (D : Int) ^ (i + k) = D ^ i * D ^ k := Int.pow_add ..
      rw [e4] at *
      grind

theorem rowD_inv (D a : Int) (xs : List Int) (i : Nat) (o : List Int) (hD : 0 < D) (ha : 0 ≤ a ∧ a < D) (hx : inD D xs) (ho : inD D o) (hi : i + xs.length < o.length) (hz : ∀ j, i + xs.length ≤ j → o.getD j 0 = 0) :
    (rowD D a xs i o).length = o.length ∧ inD D (rowD D a xs i o) ∧ (∀ j, i + 1 + xs.length ≤ j → (rowD D a xs i o).getD j 0 = 0) ∧ valD D (rowD D a xs i o) = valD D o + a * D ^ i * valD D xs := by
  obtain ⟨h1, h2, h3, h4, h5⟩ := rowS_inv D a xs i o hD ha hx ho hi xs.length (Nat.le_refl _)
  unfold rowD
  generalize rowS D a xs i o xs.length = r at *
  obtain ⟨l, c⟩ := r
  simp only at *
  have hzz : l.getD (i + xs.length) 0 = 0 := by rw [h4 _ (by omega), hz _ (by omega)]
  rw [hzz, Int.zero_add]
  refine ⟨by rw [List.length_set]; exact h1, ?_, ?_, ?_⟩
  · intro j
    rw [getD_set _ _ _ _ (by omega)]
    split
    · exact h3
    · exact h2 j
  · intro j hj
    rw [getD_set _ _ _ _ (by omega), if_neg (by omega), h4 _ (by omega), hz _ (by omega)]
  · rw [valD_set _ _ _ _ (by omega), hzz]
    simp only [List.take_length] at h5
    rw [Int.sub_zero]
    exact h5

theorem sqS_inv (D : Int) (xs : List Int) (o : List Int) (hD : 0 < D) (hx : inD D xs) (ho : ∀ j, o.getD j 0 = 0) (hl : o.length = 2 * xs.length) (hv : valD D o = 0) : ∀ i, i ≤ xs.length →
    (sqS D xs o i).length = 2 * xs.length ∧ inD D (sqS D xs o i) ∧ (∀ j, i + xs.length ≤ j → (sqS D xs o i).getD j 0 = 0) ∧ valD D (sqS D xs o i) = valD D (xs.take i) * valD D xs := by
  intro i
  induction i with
  | zero => intro _; exact ⟨hl, fun j => by simp only [sqS]; rw [ho]; exact ⟨Int.le_refl _, hD⟩, fun j _ => ho j, by simp [sqS, valD, hv]⟩
  | succ i ih =>
    intro hi
    obtain ⟨h1, h2, h3, h4⟩ := ih (by omega)
    obtain ⟨g1, g2, g3, g4⟩ := rowD_inv D (xs.getD i 0) xs i (sqS D xs o i) hD (hx i) hx h2 (by omega) h3
    simp only [sqS]
    refine ⟨by rw [g1, h1], g2, fun j hj => g3 j (by omega), ?_⟩
    rw [g4, h4, valD_take _ _ _ (by omega), Int.add_mul]

/-- The digits of a number. -/
def digs (D V : Int) (k : Nat) : List Int := (List.range k).map fun j => V / D ^ j % D

theorem square_eq (D : Int) (xs : List Int) (hD : 0 < D) (hx : inD D xs) : sqS D xs (List.replicate (2 * xs.length) 0) xs.length = digs D (valD D xs * valD D xs) (2 * xs.length) := by
  have hz : ∀ n j, (List.replicate n (0 : Int)).getD j 0 = 0 := by
    intro n j
    simp only [List.getD_eq_getElem?_getD, List.getElem?_replicate]
    split <;> rfl
  have hv : ∀ n, valD D (List.replicate n 0) = 0 := by
    intro n
    induction n with
    | zero => rfl
    | succ n ih => simp [List.replicate_succ, valD, ih]
  obtain ⟨h1, h2, h3, h4⟩ := sqS_inv D xs (List.replicate (2 * xs.length) 0) hD hx (hz _) (by simp) (hv _) xs.length (Nat.le_refl _)
  rw [List.take_length] at h4
  apply List.ext_getElem?
  intro j
  by_cases hj : j < 2 * xs.length
  · have e := valD_dig D hD _ h2 j (by omega)
    rw [h4, List.getD_eq_getElem?_getD] at e
    have hs : (sqS D xs (List.replicate (2 * xs.length) 0) xs.length)[j]? = some ((sqS D xs (List.replicate (2 * xs.length) 0) xs.length)[j]'(by omega)) := by simp [h1, hj]
    rw [hs] at e ⊢
    simp only [Option.getD_some] at e
    rw [e]
    simp [digs, hj]
  · rw [List.getElem?_eq_none (by omega)]
    simp [digs, hj]

end Go.Proofs.Ytfbjpenbpbpcaaa

/-
  The square of a number of several words: the inner loop (fixed.square).
-/
namespace Go.Proofs.Ytfbjpenbpbpcaaa
open Go Den
set_option maxRecDepth 100000
set_option linter.unusedSimpArgs false
set_option linter.unusedVariables false

def sqPre   : Pre := fun f args _ => match f, args with
  | 1000000, _ => false
  | 137, [.int .u64 x, .int .u64 y] => isU x && isU y
  | _, _ => true
def sqC : Oracle := fun f args H => match H with
  | [] => match f, args with
    | 137, [.int .u64 x, .int .u64 y] => some (.tuple #[.int .u64 (x * y / 18446744073709551616), .int .u64 (x * y % 18446744073709551616)], [], 0)
    | _, _ => none
  | _ => none
theorem sqC_sound : Sound Try.prog (strict sqPre sqC) := by
  refine Sound.strict fun f args H v H' l hp h => ?_
  unfold sqC at h
  split at h
  · split at h
    · simp only [Option.some.injEq, Prod.mk.injEq] at h; obtain ⟨rfl, rfl, rfl⟩ := h
      simp only [sqPre, Bool.and_eq_true] at hp
      exact mul64_ok _ _ hp.1 hp.2
    · simp at h
  · simp at h

theorem intAt_map (k : IntKind) (l : List Int) (o : Nat) : intAt (l.map (Value.int k)) o = l.getD o 0 := by
  unfold intAt
  rw [List.getElem?_map, List.getD_eq_getElem?_getD]
  cases l[o]? <;> rfl

theorem isIntAt_map (l : List Int) (o : Nat) (h : o < l.length) : isIntAt .u64 (l.map (Value.int .u64)) o = true := by
  unfold isIntAt
  rw [List.getElem?_map]
  simp [h, eqK]

theorem splice_map (k : IntKind) (l : List Int) (o : Nat) (v : Int) (h : o < l.length) : splice (l.map (Value.int k)) o [Value.int k v] = (l.set o v).map (Value.int k) := by
  unfold splice
  rw [List.map_set, List.set_eq_take_append_cons_drop, if_pos (by simpa using h)]
  simp

abbrev DD : Int := 18446744073709551616

def inF (j m i k : Nat) (a c : Int) : Slots := [(0, .slice (some ⟨j, 0, none⟩) m m), (3, .slice (some ⟨j + 1, 0, none⟩) (2 * m) (2 * m)), (4, .int .i64 i), (5, .int .u64 a), (6, .int .u64 c), (16, .slice (some ⟨j, 0, none⟩) m m), (17, .int .i64 m), (18, .int .i64 i), (23, .slice (some ⟨j, 0, none⟩) m m), (24, .int .i64 m), (25, .int .i64 k)]

def inN (B HI LO LO2 C1 HI2 C2 : Int) : Loops := { renF := fun id => match id with
  | 9 => [(8, B)]
  | 10 => [(9, HI), (10, LO)]
  | 11 => [(10, LO2), (11, C1)]
  | 12 => [(9, HI2)]
  | 13 => [(11, C2)]
  | _ => [] }

theorem codeOk116 : codeOk (loopAt Try.prog 116 1) = true := by kernel_rfl
theorem loops116 : loopsOf (loopAt Try.prog 116 1) = [] := by kernel_rfl


/-- One step of the inner loop. -/
theorem in_step (Hp : Heap) (hHp : Hp.length ≤ 2) (b0 : Bool) (h1 h2 : Option Nat) (lo m i k : Nat) (a c : Int) (xs zs : List Int) (ha : isU a = true) (hx : inD DD xs) (hz : inD DD zs) (hc : 0 ≤ c ∧ c < DD)
    (hm : xs.length = m) (hzl : zs.length = 2 * m) (hi : i < m) (hk : k < m) (hm2 : m ≤ 1000) (hlo : lo ≤ Hp.length + 1) :
    WP Try.prog 77 (loopAt Try.prog 116 1) ⟨inF Hp.length m i k a c, Hp ++ [⟨b0, h1, xs.map (.int .u64)⟩, ⟨true, h2, zs.map (.int .u64)⟩], lo⟩ .normal
      ⟨inF Hp.length m i (k + 1) a ((a * xs.getD k 0 + zs.getD (i + k) 0 + c) / DD), Hp ++ [⟨b0, h1, xs.map (.int .u64)⟩, ⟨true, h2, (zs.set (i + k) ((a * xs.getD k 0 + zs.getD (i + k) 0 + c) % DD)).map (.int .u64)⟩], lo⟩ := by
  obtain ⟨a0, a1⟩ := isU_iff.1 ha
  have hb := hx k
  have ho := hz (i + k)
  have iB : isU (xs.getD k 0) = true := isU_iff.2 (by simp only [DD] at hb; omega)
  obtain ⟨m0, m1, m2, m3, m4⟩ := mac_le (D := DD) (by decide) ⟨a0, by simp only [DD]; omega⟩ hb ho hc
  have wi : IntKind.i64.wrap ((i : Int) + k) = ((i + k : Nat) : Int) := by rw [wrap_in (inI_iff.2 (by omega))]; omega
  have wk : IntKind.i64.wrap ((k : Int) + 1) = ((k + 1 : Nat) : Int) := by rw [wrap_in (inI_iff.2 (by omega))]; omega
  have e64 : Extern.MathBitsCarry.m64 = 18446744073709551616 := by decide
  -- the names
  generalize hP : a * xs.getD k 0 = P at *
  generalize hO : zs.getD (i + k) 0 = O at *
  generalize hBB : xs.getD k 0 = B at *
  have hmax : (DD - 1) * (DD - 1) = 340282366920938463426481119284349108225 := by decide
  rw [hmax] at m1
  simp only [DD] at m1 m2 m3 m4 ho hc hb ⊢
  have f1 : Int.ofNat ((Int.toNat (P % 18446744073709551616) + Int.toNat c + 0) % Extern.MathBitsCarry.m64) = (P % 18446744073709551616 + c) % 18446744073709551616 := by rw [e64]; simp; omega
  have f2 : Int.ofNat ((Int.toNat (P % 18446744073709551616) + Int.toNat c + 0) / Extern.MathBitsCarry.m64) = (P % 18446744073709551616 + c) / 18446744073709551616 := by rw [e64]; simp; omega
  have f3 : IntKind.u64.wrap (P / 18446744073709551616 + (P % 18446744073709551616 + c) / 18446744073709551616) = P / 18446744073709551616 + (P % 18446744073709551616 + c) / 18446744073709551616 := wrapU_in (by omega) (by omega)
  have f4 : Int.ofNat ((Int.toNat O + Int.toNat ((P % 18446744073709551616 + c) % 18446744073709551616) + 0) / Extern.MathBitsCarry.m64) = (O + (P % 18446744073709551616 + c) % 18446744073709551616) / 18446744073709551616 := by rw [e64]; simp; omega
  have f5 : Int.ofNat ((Int.toNat O + Int.toNat ((P % 18446744073709551616 + c) % 18446744073709551616) + 0) % Extern.MathBitsCarry.m64) = (P + O + c) % 18446744073709551616 := by rw [e64]; simp; omega
  have f6 : IntKind.u64.wrap (P / 18446744073709551616 + (P % 18446744073709551616 + c) / 18446744073709551616 + (O + (P % 18446744073709551616 + c) % 18446744073709551616) / 18446744073709551616) = (P + O + c) / 18446744073709551616 := by rw [wrapU_in (by omega) (by omega)]; omega
  have g1 : intAt (xs.map (Value.int .u64)) (0 + Int.toNat (k : Int)) = B := by rw [intAt_map, Nat.zero_add, Int.toNat_natCast, hBB]
  have g2 : isIntAt .u64 (xs.map (Value.int .u64)) (0 + Int.toNat (k : Int)) = true := isIntAt_map _ _ (by omega)
  have g3 : intAt (zs.map (Value.int .u64)) (0 + Int.toNat ((i + k : Nat) : Int)) = O := by rw [intAt_map, Nat.zero_add, Int.toNat_natCast, hO]
  have g4 : isIntAt .u64 (zs.map (Value.int .u64)) (0 + Int.toNat ((i + k : Nat) : Int)) = true := isIntAt_map _ _ (by omega)
  have key : ∀ j, j = Hp.length → WP Try.prog 77 (loopAt Try.prog 116 1) ⟨inF j m i k a c, Hp ++ [⟨b0, h1, xs.map (.int .u64)⟩, ⟨true, h2, zs.map (.int .u64)⟩], lo⟩ .normal
      ⟨[(0, .slice (some ⟨j, 0, none⟩) m m), (3, .slice (some ⟨j + 1, 0, none⟩) (2 * m) (2 * m)), (4, .int .i64 i), (5, .int .u64 a), (6, .int .u64 (IntKind.wrap IntKind.u64 (P / 18446744073709551616 + (P % 18446744073709551616 + c) / 18446744073709551616 + (O + (P % 18446744073709551616 + c) % 18446744073709551616) / 18446744073709551616))), (16, .slice (some ⟨j, 0, none⟩) m m), (17, .int .i64 m), (18, .int .i64 i), (23, .slice (some ⟨j, 0, none⟩) m m), (24, .int .i64 m), (25, .int .i64 (IntKind.i64.wrap ((k : Int) + 1)))],
        Hp ++ [⟨b0, h1, xs.map (.int .u64)⟩, ⟨true, h2, splice (zs.map (.int .u64)) (0 + Int.toNat (IntKind.i64.wrap ((i : Int) + k))) [.int .u64 (Int.ofNat ((Int.toNat (intAt (zs.map (Value.int .u64)) (0 + Int.toNat (IntKind.i64.wrap ((i : Int) + k)))) + Int.toNat ((P % 18446744073709551616 + c) % 18446744073709551616) + 0) % Extern.MathBitsCarry.m64))]⟩], min lo (j + 1)⟩ := by
    intro j hj
    rcases Hp with _ | ⟨p, _ | ⟨q, _ | ⟨r, Hp⟩⟩⟩
    case cons.cons.cons => simp at hHp
    all_goals
      subst hj
      refine WP.run (P := Try.prog) (X := ext) (pre := sqPre) (C := sqC) (L := inN B (P / 18446744073709551616) (P % 18446744073709551616) ((P % 18446744073709551616 + c) % 18446744073709551616) ((P % 18446744073709551616 + c) / 18446744073709551616) (P / 18446744073709551616 + (P % 18446744073709551616 + c) / 18446744073709551616) ((O + (P % 18446744073709551616 + c) % 18446744073709551616) / 18446744073709551616)) (N := 300) (nt := 77) progOk extSound sqC_sound codeOk116 (LoopsOk.names rfl) (os := [(0, true), (0, true), (0, true), (0, true), (0, true), (0, true), (0, true), (1, true), (0, true)]) [0, 3, 4, 5, 6, 16, 17, 18, 23, 24, 25]
        (ob := [(decide (Int.ofNat ((Int.toNat (intAt (zs.map (Value.int .u64)) (0 + Int.toNat (IntKind.i64.wrap ((i : Int) + k)))) + Int.toNat ((P % 18446744073709551616 + c) % 18446744073709551616) + 0) / Extern.MathBitsCarry.m64) = (O + (P % 18446744073709551616 + c) % 18446744073709551616) / 18446744073709551616), true),
          (true && decide (0 + Int.toNat (IntKind.i64.wrap ((i : Int) + k)) + 1 ≤ (zs.map (Value.int .u64)).length), true),
          (decide (0 ≤ IntKind.i64.wrap ((i : Int) + k) ∧ IntKind.i64.wrap ((i : Int) + k) < ((2 * m : Nat) : Int)), true),
          (isIntAt .u64 (zs.map (Value.int .u64)) (0 + Int.toNat (IntKind.i64.wrap ((i : Int) + k))), true),
          (decide (0 ≤ IntKind.i64.wrap ((i : Int) + k) ∧ IntKind.i64.wrap ((i : Int) + k) < ((2 * m : Nat) : Int)), true),
          (decide (IntKind.u64.wrap (P / 18446744073709551616 + (P % 18446744073709551616 + c) / 18446744073709551616) = P / 18446744073709551616 + (P % 18446744073709551616 + c) / 18446744073709551616), true),
          (decide (Int.ofNat ((Int.toNat (P % 18446744073709551616) + Int.toNat c + 0) / Extern.MathBitsCarry.m64) = (P % 18446744073709551616 + c) / 18446744073709551616), true),
          (decide (Int.ofNat ((Int.toNat (P % 18446744073709551616) + Int.toNat c + 0) % Extern.MathBitsCarry.m64) = (P % 18446744073709551616 + c) % 18446744073709551616), true),
          (sqPre 138 [Value.int IntKind.u64 (P % 18446744073709551616), Value.int IntKind.u64 c, Value.int IntKind.u64 0] [], true),
          (decide (a * B % 18446744073709551616 = P % 18446744073709551616), true), (decide (a * B / 18446744073709551616 = P / 18446744073709551616), true),
          (sqPre 137 [Value.int IntKind.u64 a, Value.int IntKind.u64 B] [], true),
          (decide (intAt (xs.map (Value.int .u64)) (0 + Int.toNat (k : Int)) = B), true),
          (isIntAt .u64 (xs.map (Value.int .u64)) (0 + Int.toNat (k : Int)), true),
          (decide (0 ≤ (k : Int) ∧ (k : Int) < m), true), (decide ((k : Int) < m), true)]) (by kernel_rfl) ?_
      rw [wi, g1, g2, g3, g4, f1, f2, f3, f4, hP]
      simp [Holds, sqPre, ha, iB]
      omega
  have h := key _ rfl
  rw [wi, wk, g3, f5, f6, Nat.zero_add, Int.toNat_natCast, splice_map _ _ _ _ (by omega), Nat.min_eq_left hlo] at h
  exact h

end Go.Proofs.Ytfbjpenbpbpcaaa

/-
  The square of a number of several words: the inner loop whole (fixed.square).
-/
namespace Go.Proofs.Ytfbjpenbpbpcaaa
open Go Den
set_option maxRecDepth 100000
set_option linter.unusedSimpArgs false
set_option linter.unusedVariables false

theorem in_end (Hp : Heap) (hHp : Hp.length ≤ 2) (b0 : Bool) (h1 h2 : Option Nat) (lo m i : Nat) (a c : Int) (xs zs : List Int) :
    WP Try.prog 77 (loopAt Try.prog 116 1) ⟨inF Hp.length m i m a c, Hp ++ [⟨b0, h1, xs.map (.int .u64)⟩, ⟨true, h2, zs.map (.int .u64)⟩], lo⟩ (.exit 2)
      ⟨inF Hp.length m i m a c, Hp ++ [⟨b0, h1, xs.map (.int .u64)⟩, ⟨true, h2, zs.map (.int .u64)⟩], lo⟩ := by
  have key : ∀ j, j = Hp.length → WP Try.prog 77 (loopAt Try.prog 116 1) ⟨inF j m i m a c, Hp ++ [⟨b0, h1, xs.map (.int .u64)⟩, ⟨true, h2, zs.map (.int .u64)⟩], lo⟩ (.exit 2)
      ⟨inF j m i m a c, Hp ++ [⟨b0, h1, xs.map (.int .u64)⟩, ⟨true, h2, zs.map (.int .u64)⟩], lo⟩ := by
    intro j hj
    rcases Hp with _ | ⟨p, _ | ⟨q, _ | ⟨r, Hp⟩⟩⟩
    case cons.cons.cons => simp at hHp
    all_goals
      exact WP.run (P := Try.prog) (X := ext) (pre := sqPre) (C := sqC) (L := noLoops) (N := 300) (nt := 77) progOk extSound sqC_sound codeOk116 noLoops_ok (os := [(0, false)]) [0, 3, 4, 5, 6, 16, 17, 18, 23, 24, 25]
        (ob := [(decide ((m : Int) < m), false)]) (by kernel_rfl) (by simp [Holds])
  exact key _ rfl

theorem in_loop (Hp : Heap) (hHp : Hp.length ≤ 2) (b0 : Bool) (h1 h2 : Option Nat) (lo m i : Nat) (a : Int) (xs zs : List Int) (ha : isU a = true) (hx : inD DD xs) (hz : inD DD zs)
    (hm : xs.length = m) (hzl : zs.length = 2 * m) (hi : i < m) (hm2 : m ≤ 1000) (hlo : lo ≤ Hp.length + 1) :
    WP Try.prog 77 (.loop (loopAt Try.prog 116 1)) ⟨inF Hp.length m i 0 a 0, Hp ++ [⟨b0, h1, xs.map (.int .u64)⟩, ⟨true, h2, zs.map (.int .u64)⟩], lo⟩ (.exit 2)
      ⟨inF Hp.length m i m a (rowS DD a xs i zs m).2, Hp ++ [⟨b0, h1, xs.map (.int .u64)⟩, ⟨true, h2, (rowS DD a xs i zs m).1.map (.int .u64)⟩], lo⟩ := by
  have hA := isU_iff.1 ha
  have inv := rowS_inv DD a xs i zs (by decide) ⟨hA.1, by simp only [DD]; omega⟩ hx hz (by omega)
  exact WP.loop (P := Try.prog) (nt := 77) (b := loopAt Try.prog 116 1)
    (fun k => ⟨inF Hp.length m i k a (rowS DD a xs i zs k).2, Hp ++ [⟨b0, h1, xs.map (.int .u64)⟩, ⟨true, h2, (rowS DD a xs i zs k).1.map (.int .u64)⟩], lo⟩) m (x := .exit 2) (by simp)
    (fun k hk => by
      obtain ⟨i1, i2, i3, i4, i5⟩ := inv k (by omega)
      exact in_step Hp hHp b0 h1 h2 lo m i k a _ xs _ ha hx i2 i3 hm (by omega) hi hk hm2 hlo)
    (in_end Hp hHp b0 h1 h2 lo m i a _ xs _)

end Go.Proofs.Ytfbjpenbpbpcaaa

/-
  The square of a number of several words: the outer loop (fixed.square).
-/
namespace Go.Proofs.Ytfbjpenbpbpcaaa
open Go Den
set_option maxRecDepth 100000
set_option linter.unusedSimpArgs false
set_option linter.unusedVariables false

def outF (j m i : Nat) : Slots := [(0, .slice (some ⟨j, 0, none⟩) m m), (3, .slice (some ⟨j + 1, 0, none⟩) (2 * m) (2 * m)), (16, .slice (some ⟨j, 0, none⟩) m m), (17, .int .i64 m), (18, .int .i64 i)]

noncomputable def outN (a : Int) (S0 S1 : St) : Loops := { loop := sumL 7 S0 (.exit 2) S1, renF := fun id => match id with
  | 5 => [(5, a)]
  | _ => [] }

theorem codeOk116o : codeOk (loopAt Try.prog 116 0) = true := by kernel_rfl
theorem loops116o : loopsOf (loopAt Try.prog 116 0) = [loopAt Try.prog 116 1] := by kernel_rfl

theorem out_step (Hp : Heap) (hHp : Hp.length ≤ 2) (b0 : Bool) (h1 h2 : Option Nat) (lo m i : Nat) (xs zs : List Int) (hx : inD DD xs) (hz : inD DD zs)
    (hm : xs.length = m) (hzl : zs.length = 2 * m) (hi : i < m) (hm2 : m ≤ 1000) (hlo : lo ≤ Hp.length + 1) (hz0 : ∀ j, i + m ≤ j → zs.getD j 0 = 0) :
    WP Try.prog 77 (loopAt Try.prog 116 0) ⟨outF Hp.length m i, Hp ++ [⟨b0, h1, xs.map (.int .u64)⟩, ⟨true, h2, zs.map (.int .u64)⟩], lo⟩ .normal
      ⟨outF Hp.length m (i + 1), Hp ++ [⟨b0, h1, xs.map (.int .u64)⟩, ⟨true, h2, (rowD DD (xs.getD i 0) xs i zs).map (.int .u64)⟩], lo⟩ := by
  have hb := hx i
  have ha : isU (xs.getD i 0) = true := isU_iff.2 (by simp only [DD] at hb; omega)
  obtain ⟨r1, r2, r3, r4, r5⟩ := rowS_inv DD (xs.getD i 0) xs i zs (by decide) hb hx hz (by omega) m (by omega)
  have hin := in_loop Hp hHp b0 h1 h2 lo m i (xs.getD i 0) xs zs ha hx hz hm hzl hi hm2 hlo
  have e0 : (rowS DD (xs.getD i 0) xs i zs m).1.getD (i + m) 0 = 0 := by rw [r4 _ (by omega)]; exact hz0 _ (Nat.le_refl _)
  have hrow : rowD DD (xs.getD i 0) xs i zs = (rowS DD (xs.getD i 0) xs i zs m).1.set (i + m) (0 + (rowS DD (xs.getD i 0) xs i zs m).2) := by unfold rowD; rw [hm, e0]
  rw [hrow]
  generalize hA : xs.getD i 0 = a at *
  generalize hS : rowS DD a xs i zs m = r at *
  obtain ⟨ws, c⟩ := r
  simp only at r1 r2 r3 e0 hin ⊢
  simp only [DD] at r3
  have wi : IntKind.i64.wrap ((i : Int) + m) = ((i + m : Nat) : Int) := by rw [wrap_in (inI_iff.2 (by omega))]; omega
  have wk : IntKind.i64.wrap ((i : Int) + 1) = ((i + 1 : Nat) : Int) := by rw [wrap_in (inI_iff.2 (by omega))]; omega
  have g1 : intAt (xs.map (Value.int .u64)) (0 + Int.toNat (i : Int)) = a := by rw [intAt_map, Nat.zero_add, Int.toNat_natCast, hA]
  have g2 : isIntAt .u64 (xs.map (Value.int .u64)) (0 + Int.toNat (i : Int)) = true := isIntAt_map _ _ (by omega)
  have g3 : intAt (ws.map (Value.int .u64)) (0 + Int.toNat ((i + m : Nat) : Int)) = 0 := by rw [intAt_map, Nat.zero_add, Int.toNat_natCast, e0]
  have g4 : isIntAt .u64 (ws.map (Value.int .u64)) (0 + Int.toNat ((i + m : Nat) : Int)) = true := isIntAt_map _ _ (by omega)
  have hsum : LoopsOk Try.prog 77 (outN a ⟨inF Hp.length m i 0 a 0, Hp ++ [⟨b0, h1, xs.map (.int .u64)⟩, ⟨true, h2, zs.map (.int .u64)⟩], lo⟩ ⟨inF Hp.length m i m a c, Hp ++ [⟨b0, h1, xs.map (.int .u64)⟩, ⟨true, h2, ws.map (.int .u64)⟩], lo⟩) (loopAt Try.prog 116 0) := LoopsOk.sum rfl (by
    intro b hb _
    rw [loops116o] at hb
    simp only [List.mem_singleton] at hb
    subst hb
    exact hin)
  have hrun : evL Try.prog ext sqPre sqC (outN a ⟨inF Hp.length m i 0 a 0, Hp ++ [⟨b0, h1, xs.map (.int .u64)⟩, ⟨true, h2, zs.map (.int .u64)⟩], lo⟩ ⟨inF Hp.length m i m a c, Hp ++ [⟨b0, h1, xs.map (.int .u64)⟩, ⟨true, h2, ws.map (.int .u64)⟩], lo⟩) 300 77 (loopAt Try.prog 116 0) (outF Hp.length m i) (Hp ++ [⟨b0, h1, xs.map (.int .u64)⟩, ⟨true, h2, zs.map (.int .u64)⟩]) lo [(0, true), (0, true), (0, true), (0, true), (0, true), (0, true), (0, true)] [0, 3, 16, 17, 18]
      = some (.normal, [(0, .slice (some ⟨Hp.length, 0, none⟩) m m), (3, .slice (some ⟨Hp.length + 1, 0, none⟩) (2 * m) (2 * m)), (16, .slice (some ⟨Hp.length, 0, none⟩) m m), (17, .int .i64 m), (18, .int .i64 (IntKind.i64.wrap ((i : Int) + 1)))],
        Hp ++ [⟨b0, h1, xs.map (.int .u64)⟩, ⟨true, h2, splice (ws.map (.int .u64)) (0 + Int.toNat (IntKind.i64.wrap ((i : Int) + m))) [.int .u64 (IntKind.u64.wrap (intAt (ws.map (Value.int .u64)) (0 + Int.toNat (IntKind.i64.wrap ((i : Int) + m))) + c))]⟩], min lo (Hp.length + 1),
        [(true && decide (0 + Int.toNat (IntKind.i64.wrap ((i : Int) + m)) + 1 ≤ (ws.map (Value.int .u64)).length), true),
          (decide (0 ≤ IntKind.i64.wrap ((i : Int) + m) ∧ IntKind.i64.wrap ((i : Int) + m) < ((2 * m : Nat) : Int)), true),
          (isIntAt .u64 (ws.map (Value.int .u64)) (0 + Int.toNat (IntKind.i64.wrap ((i : Int) + m))), true),
          (decide (0 ≤ IntKind.i64.wrap ((i : Int) + m) ∧ IntKind.i64.wrap ((i : Int) + m) < ((2 * m : Nat) : Int)), true),
          (cdec (inF Hp.length m i 0 a 0 = inF Hp.length m i 0 a 0), true),
          (cdec (Hp ++ [⟨b0, h1, xs.map (.int .u64)⟩, ⟨true, h2, zs.map (.int .u64)⟩] = Hp ++ [⟨b0, h1, xs.map (.int .u64)⟩, ⟨true, h2, zs.map (.int .u64)⟩]), true), (cdec (lo = lo), true),
          (decide (intAt (xs.map (Value.int .u64)) (0 + Int.toNat (i : Int)) = a), true),
          (isIntAt .u64 (xs.map (Value.int .u64)) (0 + Int.toNat (i : Int)), true),
          (decide (0 ≤ (i : Int) ∧ (i : Int) < m), true), (decide ((i : Int) < m), true)]) := by
    rcases Hp with _ | ⟨p, _ | ⟨q, _ | ⟨r, Hp⟩⟩⟩
    case cons.cons.cons => simp at hHp
    all_goals kernel_rfl
  have h := WP.run (P := Try.prog) (X := ext) (pre := sqPre) (C := sqC) (N := 300) (nt := 77) progOk extSound sqC_sound codeOk116o hsum [0, 3, 16, 17, 18] hrun (by
    rw [wi, g1, g2, g4]
    simp [Holds, cdec]
    omega)
  rw [wi, wk, g3, Int.zero_add, Nat.zero_add, Int.toNat_natCast, wrapU_in (by omega) (by omega), splice_map _ _ _ _ (by omega), Nat.min_eq_left hlo] at h
  rw [Int.zero_add]
  exact h

end Go.Proofs.Ytfbjpenbpbpcaaa

/-
  The square of a number of several words: the outer loop whole (fixed.square).
-/
namespace Go.Proofs.Ytfbjpenbpbpcaaa
open Go Den
set_option maxRecDepth 100000
set_option linter.unusedSimpArgs false
set_option linter.unusedVariables false

theorem out_loop (Hp : Heap) (hHp : Hp.length ≤ 2) (b0 : Bool) (h1 h2 : Option Nat) (lo m : Nat) (xs zs : List Int) (hx : inD DD xs) (hz : ∀ j, zs.getD j 0 = 0) (hv : valD DD zs = 0)
    (hm : xs.length = m) (hzl : zs.length = 2 * m) (hm2 : m ≤ 1000) (hlo : lo ≤ Hp.length + 1) :
    WP Try.prog 77 (.loop (loopAt Try.prog 116 0)) ⟨outF Hp.length m 0, Hp ++ [⟨b0, h1, xs.map (.int .u64)⟩, ⟨true, h2, zs.map (.int .u64)⟩], lo⟩ (.exit 0)
      ⟨outF Hp.length m m, Hp ++ [⟨b0, h1, xs.map (.int .u64)⟩, ⟨true, h2, (sqS DD xs zs m).map (.int .u64)⟩], lo⟩ := by
  have inv := sqS_inv DD xs zs (by decide) hx hz (by omega) hv
  refine WP.loop (P := Try.prog) (nt := 77) (b := loopAt Try.prog 116 0)
    (fun i => ⟨outF Hp.length m i, Hp ++ [⟨b0, h1, xs.map (.int .u64)⟩, ⟨true, h2, (sqS DD xs zs i).map (.int .u64)⟩], lo⟩) m (x := .exit 0) (by simp)
    (fun i hi => by
      obtain ⟨i1, i2, i3, i4⟩ := inv i (by omega)
      exact out_step Hp hHp b0 h1 h2 lo m i xs _ hx i2 hm (by omega) hi hm2 hlo (fun j hj => i3 j (by omega))) ?_
  have hrun : evL Try.prog ext sqPre sqC noLoops 300 77 (loopAt Try.prog 116 0) (outF Hp.length m m) (Hp ++ [⟨b0, h1, xs.map (.int .u64)⟩, ⟨true, h2, (sqS DD xs zs m).map (.int .u64)⟩]) lo [(0, false)] [0, 3, 16, 17, 18]
      = some (.exit 0, outF Hp.length m m, Hp ++ [⟨b0, h1, xs.map (.int .u64)⟩, ⟨true, h2, (sqS DD xs zs m).map (.int .u64)⟩], lo, [(decide ((m : Int) < m), false)]) := by
    generalize sqS DD xs zs m = ws
    rcases Hp with _ | ⟨p, _ | ⟨q, _ | ⟨r, Hp⟩⟩⟩
    case cons.cons.cons => simp at hHp
    all_goals kernel_rfl
  exact WP.run (P := Try.prog) (X := ext) (pre := sqPre) (C := sqC) (N := 300) (nt := 77) progOk extSound sqC_sound codeOk116o noLoops_ok [0, 3, 16, 17, 18] hrun (by simp [Holds])

noncomputable def sqN (S0 S1 : St) : Loops := { loop := sumL 3 S0 (.exit 0) S1 }
theorem loops116f : loopsOf (bodyOf Try.prog 116) = [loopAt Try.prog 116 0, loopAt Try.prog 116 1] := by kernel_rfl
theorem first116 : firstId (loopAt Try.prog 116 1) = 7 := by kernel_rfl

theorem square_ok (Hp : Heap) (hHp : Hp.length ≤ 2) (b0 : Bool) (h1 : Option Nat) (m : Nat) (xs : List Int) (hm4 : m = 1 ∨ m = 2 ∨ m = 4) (hx : inD DD xs) (hm : xs.length = m) :
    CallOk Try.prog 116 [.slice (some ⟨Hp.length, 0, none⟩) m m] (Hp ++ [⟨b0, h1, xs.map (.int .u64)⟩]) (.slice (some ⟨Hp.length + 1, 0, none⟩) (2 * m) (2 * m))
      (Hp ++ [⟨b0, h1, xs.map (.int .u64)⟩, ⟨true, none, (digs DD (valD DD xs * valD DD xs) (2 * m)).map (.int .u64)⟩]) (Hp.length + 1) := by
  have hz : ∀ n j, (List.replicate n (0 : Int)).getD j 0 = 0 := by
    intro n j
    simp only [List.getD_eq_getElem?_getD, List.getElem?_replicate]
    split <;> rfl
  have hv : ∀ n, valD DD (List.replicate n 0) = 0 := by
    intro n
    induction n with
    | zero => rfl
    | succ n ih => simp [List.replicate_succ, valD, ih]
  have hl := out_loop Hp hHp b0 h1 none (Hp.length + 1) m xs (List.replicate (2 * m) 0) hx (hz _) (hv _) hm (by simp) (by omega) (Nat.le_refl _)
  rw [show sqS DD xs (List.replicate (2 * m) 0) m = digs DD (valD DD xs * valD DD xs) (2 * m) by rw [← hm]; exact square_eq DD xs (by decide) hx] at hl
  generalize digs DD (valD DD xs * valD DD xs) (2 * m) = ds at *
  have hsum : LoopsOk Try.prog 77 (sqN ⟨outF Hp.length m 0, Hp ++ [⟨b0, h1, xs.map (.int .u64)⟩, ⟨true, none, (List.replicate (2 * m) 0).map (.int .u64)⟩], Hp.length + 1⟩ ⟨outF Hp.length m m, Hp ++ [⟨b0, h1, xs.map (.int .u64)⟩, ⟨true, none, ds.map (.int .u64)⟩], Hp.length + 1⟩) (bodyOf Try.prog 116) := LoopsOk.sum rfl (by
    intro b hb hid
    rw [loops116f] at hb
    simp only [List.mem_cons, List.not_mem_nil, or_false] at hb
    rcases hb with rfl | rfl
    · exact hl
    · rw [first116] at hid; simp at hid)
  have hrun : evFnL Try.prog ext 300 sqPre sqC (sqN ⟨outF Hp.length m 0, Hp ++ [⟨b0, h1, xs.map (.int .u64)⟩, ⟨true, none, (List.replicate (2 * m) 0).map (.int .u64)⟩], Hp.length + 1⟩ ⟨outF Hp.length m m, Hp ++ [⟨b0, h1, xs.map (.int .u64)⟩, ⟨true, none, ds.map (.int .u64)⟩], Hp.length + 1⟩) [] 116 [.slice (some ⟨Hp.length, 0, none⟩) m m] (Hp ++ [⟨b0, h1, xs.map (.int .u64)⟩])
      = some ((.slice (some ⟨Hp.length + 1, 0, none⟩) (2 * m) (2 * m), Hp ++ [⟨b0, h1, xs.map (.int .u64)⟩, ⟨true, none, ds.map (.int .u64)⟩], Hp.length + 1),
        [(cdec (outF Hp.length m 0 = outF Hp.length m 0), true), (cdec (Hp ++ [⟨b0, h1, xs.map (.int .u64)⟩, ⟨true, none, (List.replicate (2 * m) 0).map (.int .u64)⟩] = Hp ++ [⟨b0, h1, xs.map (.int .u64)⟩, ⟨true, none, (List.replicate (2 * m) 0).map (.int .u64)⟩]), true), (cdec (Hp.length + 1 = Hp.length + 1), true)]) := by
    clear hsum hl hm
    rcases hm4 with rfl | rfl | rfl <;> rcases Hp with _ | ⟨p, _ | ⟨q, _ | ⟨r, Hp⟩⟩⟩
    case inl.cons.cons.cons => simp at hHp
    case inr.inl.cons.cons.cons => simp at hHp
    case inr.inr.cons.cons.cons => simp at hHp
    all_goals kernel_rfl
  exact fnL_ok progOk extSound sqC_sound hsum hrun (by simp [Holds, cdec])

end Go.Proofs.Ytfbjpenbpbpcaaa

