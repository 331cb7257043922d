/-
  Numbers of several digits, plainly: what the school's way of squaring comes to.
-/
import Derived.Test.YtfbjpenbpbpcaaaFx8
namespace Go.Proofs.Ytfbjpenbpbpcaaa
set_option linter.unusedSimpArgs false
set_option linter.unusedVariables false

/-- What a list of digits stands for, the lowest first. -/
def valD (D : Int) : List Int → Int
  | [] => 0
  | x :: l => x + D * valD D l

def inD (D : Int) (l : List Int) : Prop := ∀ j, 0 ≤ l.getD j 0 ∧ l.getD j 0 < D

theorem valD_set (D : Int) : ∀ (l : List Int) (j : Nat) (v : Int), j < l.length → valD D (l.set j v) = valD D l + (v - l.getD j 0) * D ^ j := by
  intro l
  induction l with
  | nil => intro j v h; simp at h
  | cons x l ih =>
    intro j v h
    cases j with
    | zero => simp [valD]; omega
    | succ j =>
      have := ih j v (by simpa using h)
      simp only [List.set_cons_succ, valD, List.getD_cons_succ, this]
      grind

theorem valD_take (D : Int) : ∀ (l : List Int) (k : Nat), k < l.length → valD D (l.take (k + 1)) = valD D (l.take k) + l.getD k 0 * D ^ k := by
  intro l
  induction l with
  | nil => intro k h; simp at h
  | cons x l ih =>
    intro k h
    cases k with
    | zero => simp [valD]
    | succ k =>
      have := ih k (by simpa using h)
      simp only [List.take_succ_cons, valD, List.getD_cons_succ, this]
      grind

theorem getD_set (l : List Int) (i j : Nat) (v : Int) (hi : i < l.length) : (l.set i v).getD j 0 = if i = j then v else l.getD j 0 := by
  simp only [List.getD_eq_getElem?_getD, List.getElem?_set]
  split
  · rename_i h
    subst h
    simp [hi]
  · rfl

/-- The digits are the number's. -/
theorem valD_dig (D : Int) (hD : 0 < D) : ∀ (l : List Int), inD D l → ∀ j, j < l.length → l.getD j 0 = valD D l / D ^ j % D := by
  intro l
  induction l with
  | nil => intro _ j h; simp at h
  | cons x l ih =>
    intro hl j h
    have hx := hl 0
    simp at hx
    have ht : inD D l := fun j => by have := hl (j + 1); simpa using this
    cases j with
    | zero =>
      simp only [List.getD_cons_zero, valD, Int.pow_zero, Int.ediv_one]
      rw [Int.add_mul_emod_self_left, Int.emod_eq_of_lt hx.1 hx.2]
    | succ j =>
      rw [List.getD_cons_succ, ih ht j (by simpa using h)]
      simp only [valD]
      rw [Int.pow_succ, Int.mul_comm (D ^ j) D, ← Int.ediv_ediv_of_nonneg (Int.le_of_lt hD), Int.add_mul_ediv_left _ _ (Int.ne_of_gt hD), Int.ediv_eq_zero_of_lt hx.1 hx.2, Int.zero_add]

def rowS (D a : Int) (xs : List Int) (i : Nat) (o : List Int) : Nat → List Int × Int
  | 0 => (o, 0)
  | k + 1 => ((rowS D a xs i o k).1.set (i + k) ((a * xs.getD k 0 + (rowS D a xs i o k).1.getD (i + k) 0 + (rowS D a xs i o k).2) % D), (a * xs.getD k 0 + (rowS D a xs i o k).1.getD (i + k) 0 + (rowS D a xs i o k).2) / D)

def rowD (D a : Int) (xs : List Int) (i : Nat) (o : List Int) : List Int :=
  (rowS D a xs i o xs.length).1.set (i + xs.length) ((rowS D a xs i o xs.length).1.getD (i + xs.length) 0 + (rowS D a xs i o xs.length).2)

def sqS (D : Int) (xs : List Int) (o : List Int) : Nat → List Int
  | 0 => o
  | i + 1 => rowD D (xs.getD i 0) xs i (sqS D xs o i)

theorem mac_le {D a b o c : Int} (hD : 0 < D) (ha : 0 ≤ a ∧ a < D) (hb : 0 ≤ b ∧ b < D) (ho : 0 ≤ o ∧ o < D) (hc : 0 ≤ c ∧ c < D) : 0 ≤ a * b ∧ a * b ≤ (D - 1) * (D - 1) ∧ 0 ≤ a * b + o + c ∧ 0 ≤ (a * b + o + c) / D ∧ (a * b + o + c) / D < D := by
  have h0 : 0 ≤ a * b := Int.mul_nonneg ha.1 hb.1
  have h1 : a * b ≤ (D - 1) * (D - 1) := Int.mul_le_mul (by omega) (by omega) hb.1 (by omega)
  have h2 : (D - 1) * (D - 1) = D * D - 2 * D + 1 := by grind
  refine ⟨h0, h1, by omega, Int.ediv_nonneg (by omega) (by omega), Int.ediv_lt_of_lt_mul hD (by omega)⟩

theorem rowS_inv (D a : Int) (xs : List Int) (i : Nat) (o : List Int) (hD : 0 < D) (ha : 0 ≤ a ∧ a < D) (hx : inD D xs) (ho : inD D o) (hi : i + xs.length < o.length) : ∀ k, k ≤ xs.length →
    (rowS D a xs i o k).1.length = o.length ∧ inD D (rowS D a xs i o k).1 ∧ (0 ≤ (rowS D a xs i o k).2 ∧ (rowS D a xs i o k).2 < D) ∧ (∀ j, i + xs.length ≤ j → (rowS D a xs i o k).1.getD j 0 = o.getD j 0) ∧
      valD D (rowS D a xs i o k).1 + (rowS D a xs i o k).2 * D ^ (i + k) = valD D o + a * D ^ i * valD D (xs.take k) := by
  intro k
  induction k with
  | zero => intro _; exact ⟨rfl, ho, ⟨Int.le_refl _, hD⟩, fun j _ => rfl, by simp [rowS, valD]⟩
  | succ k ih =>
    intro hk
    obtain ⟨h1, h2, h3, h4, h5⟩ := ih (by omega)
    simp only [rowS]
    generalize rowS D a xs i o k = r at *
    obtain ⟨l, c⟩ := r
    simp only at *
    have hb := hx k
    have hl := h2 (i + k)
    obtain ⟨m0, m1, m2, m3, m4⟩ := mac_le hD ha hb hl h3
    have e := Int.mul_ediv_add_emod (a * xs.getD k 0 + l.getD (i + k) 0 + c) D
    have e1 := Int.emod_nonneg (a * xs.getD k 0 + l.getD (i + k) 0 + c) (Int.ne_of_gt hD)
    have e2 := Int.emod_lt_of_pos (a * xs.getD k 0 + l.getD (i + k) 0 + c) hD
    refine ⟨by rw [List.length_set]; exact h1, ?_, ⟨m3, m4⟩, ?_, ?_⟩
    · intro j
      rw [getD_set _ _ _ _ (by omega)]
      split
      · exact ⟨e1, e2⟩
      · exact h2 j
    · intro j hj
      rw [getD_set _ _ _ _ (by omega), if_neg (by omega)]
      exact h4 j hj
    · rw [valD_set _ _ _ _ (by omega), valD_take _ _ _ (by omega)]
      generalize (a * xs.getD k 0 + l.getD (i + k) 0 + c) % D = p at *
      generalize hq : (a * xs.getD k 0 + l.getD (i + k) 0 + c) / D = q at *
      have e3 : p = a * xs.getD k 0 + l.getD (i + k) 0 + c - D * q := by omega
      rw [e3, show i + (k + 1) = (i + k) + 1 by omega, Int.pow_succ]
      have e4 : (D : Int) ^ (i + k) = D ^ i * D ^ k := Int.pow_add ..
      rw [e4] at *
      grind

theorem rowD_inv (D a : Int) (xs : List Int) (i : Nat) (o : List Int) (hD : 0 < D) (ha : 0 ≤ a ∧ a < D) (hx : inD D xs) (ho : inD D o) (hi : i + xs.length < o.length) (hz : ∀ j, i + xs.length ≤ j → o.getD j 0 = 0) :
    (rowD D a xs i o).length = o.length ∧ inD D (rowD D a xs i o) ∧ (∀ j, i + 1 + xs.length ≤ j → (rowD D a xs i o).getD j 0 = 0) ∧ valD D (rowD D a xs i o) = valD D o + a * D ^ i * valD D xs := by
  obtain ⟨h1, h2, h3, h4, h5⟩ := rowS_inv D a xs i o hD ha hx ho hi xs.length (Nat.le_refl _)
  unfold rowD
  generalize rowS D a xs i o xs.length = r at *
  obtain ⟨l, c⟩ := r
  simp only at *
  have hzz : l.getD (i + xs.length) 0 = 0 := by rw [h4 _ (by omega), hz _ (by omega)]
  rw [hzz, Int.zero_add]
  refine ⟨by rw [List.length_set]; exact h1, ?_, ?_, ?_⟩
  · intro j
    rw [getD_set _ _ _ _ (by omega)]
    split
    · exact h3
    · exact h2 j
  · intro j hj
    rw [getD_set _ _ _ _ (by omega), if_neg (by omega), h4 _ (by omega), hz _ (by omega)]
  · rw [valD_set _ _ _ _ (by omega), hzz]
    simp only [List.take_length] at h5
    rw [Int.sub_zero]
    exact h5

theorem sqS_inv (D : Int) (xs : List Int) (o : List Int) (hD : 0 < D) (hx : inD D xs) (ho : ∀ j, o.getD j 0 = 0) (hl : o.length = 2 * xs.length) (hv : valD D o = 0) : ∀ i, i ≤ xs.length →
    (sqS D xs o i).length = 2 * xs.length ∧ inD D (sqS D xs o i) ∧ (∀ j, i + xs.length ≤ j → (sqS D xs o i).getD j 0 = 0) ∧ valD D (sqS D xs o i) = valD D (xs.take i) * valD D xs := by
  intro i
  induction i with
  | zero => intro _; exact ⟨hl, fun j => by simp only [sqS]; rw [ho]; exact ⟨Int.le_refl _, hD⟩, fun j _ => ho j, by simp [sqS, valD, hv]⟩
  | succ i ih =>
    intro hi
    obtain ⟨h1, h2, h3, h4⟩ := ih (by omega)
    obtain ⟨g1, g2, g3, g4⟩ := rowD_inv D (xs.getD i 0) xs i (sqS D xs o i) hD (hx i) hx h2 (by omega) h3
    simp only [sqS]
    refine ⟨by rw [g1, h1], g2, fun j hj => g3 j (by omega), ?_⟩
    rw [g4, h4, valD_take _ _ _ (by omega), Int.add_mul]

/-- The digits of a number. -/
def digs (D V : Int) (k : Nat) : List Int := (List.range k).map fun j => V / D ^ j % D

theorem square_eq (D : Int) (xs : List Int) (hD : 0 < D) (hx : inD D xs) : sqS D xs (List.replicate (2 * xs.length) 0) xs.length = digs D (valD D xs * valD D xs) (2 * xs.length) := by
  have hz : ∀ n j, (List.replicate n (0 : Int)).getD j 0 = 0 := by
    intro n j
    simp only [List.getD_eq_getElem?_getD, List.getElem?_replicate]
    split <;> rfl
  have hv : ∀ n, valD D (List.replicate n 0) = 0 := by
    intro n
    induction n with
    | zero => rfl
    | succ n ih => simp [List.replicate_succ, valD, ih]
  obtain ⟨h1, h2, h3, h4⟩ := sqS_inv D xs (List.replicate (2 * xs.length) 0) hD hx (hz _) (by simp) (hv _) xs.length (Nat.le_refl _)
  rw [List.take_length] at h4
  apply List.ext_getElem?
  intro j
  by_cases hj : j < 2 * xs.length
  · have e := valD_dig D hD _ h2 j (by omega)
    rw [h4, List.getD_eq_getElem?_getD] at e
    have hs : (sqS D xs (List.replicate (2 * xs.length) 0) xs.length)[j]? = some ((sqS D xs (List.replicate (2 * xs.length) 0) xs.length)[j]'(by omega)) := by simp [h1, hj]
    rw [hs] at e ⊢
    simp only [Option.getD_some] at e
    rw [e]
    simp [digs, hj]
  · rw [List.getElem?_eq_none (by omega)]
    simp [digs, hj]

end Go.Proofs.Ytfbjpenbpbpcaaa
