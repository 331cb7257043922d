/-
  The reference's square, digit by digit of 32 bits.
-/
import Derived.Test.YtfbjpenbpbpcaaaLg1
namespace Go.Proofs.Ytfbjpenbpbpcaaa
open Go Den
set_option maxRecDepth 100000
set_option linter.unusedSimpArgs false
set_option linter.unusedVariables false

abbrev D32 : Int := 4294967296

def lowW (x : Int) : Int := IntKind.wrap IntKind.u64 ((BitVec.ofInt (IntKind.bits IntKind.u64) x &&& BitVec.ofInt (IntKind.bits IntKind.u64) 4294967295).toNat : Int)
def macW (a b o c : Int) : Int := IntKind.wrap IntKind.u64 (IntKind.wrap IntKind.u64 (IntKind.wrap IntKind.u64 (a * b) + o) + c)

def rowW (a : Int) (xs : List Int) (i : Nat) (o : List Int) : Nat → List Int × Int
  | 0 => (o, 0)
  | k + 1 => ((rowW a xs i o k).1.set (i + k) (lowW (macW a (xs.getD k 0) ((rowW a xs i o k).1.getD (i + k) 0) (rowW a xs i o k).2)), (macW a (xs.getD k 0) ((rowW a xs i o k).1.getD (i + k) 0) (rowW a xs i o k).2).fdiv (2 ^ 32))

def rowWD (a : Int) (xs : List Int) (i : Nat) (o : List Int) : List Int :=
  (rowW a xs i o xs.length).1.set (i + xs.length) (IntKind.wrap IntKind.u64 ((rowW a xs i o xs.length).1.getD (i + xs.length) 0 + (rowW a xs i o xs.length).2))

def sqW (xs : List Int) (o : List Int) : Nat → List Int
  | 0 => o
  | i + 1 => rowWD (xs.getD i 0) xs i (sqW xs o i)

theorem lowW_eq {x : Int} (h0 : 0 ≤ x) (h1 : x ≤ 18446744073709551615) : lowW x = x % D32 := by
  unfold lowW
  have h2 : (BitVec.ofInt (IntKind.bits IntKind.u64) 4294967295).toNat = 2 ^ 32 - 1 := by decide
  rw [BitVec.toNat_and, h2, Nat.and_two_pow_sub_one_eq_mod, BitVec.toNat_ofInt]
  have : ((2 ^ IntKind.bits IntKind.u64 : Nat) : Int) = 18446744073709551616 := by decide
  rw [this]
  simp only [D32]
  rw [wrapU_in (by omega) (by omega)]
  omega

theorem macW_eq {a b o c : Int} (ha : 0 ≤ a ∧ a < D32) (hb : 0 ≤ b ∧ b < D32) (ho : 0 ≤ o ∧ o < D32) (hc : 0 ≤ c ∧ c < D32) : macW a b o c = a * b + o + c ∧ 0 ≤ a * b + o + c ∧ a * b + o + c ≤ 18446744073709551615 := by
  obtain ⟨m0, m1, m2, m3, m4⟩ := mac_le (D := D32) (by decide) ha hb ho hc
  have e : (D32 - 1) * (D32 - 1) = 18446744065119617025 := by decide
  rw [e] at m1
  simp only [D32] at *
  unfold macW
  rw [wrapU_in (n := a * b) (by omega) (by omega), wrapU_in (n := a * b + o) (by omega) (by omega), wrapU_in (by omega) (by omega)]
  exact ⟨rfl, by omega, by omega⟩

theorem rowW_eq (a : Int) (xs : List Int) (i : Nat) (o : List Int) (ha : 0 ≤ a ∧ a < D32) (hx : inD D32 xs) (ho : inD D32 o) (hi : i + xs.length < o.length) : ∀ k, k ≤ xs.length → rowW a xs i o k = rowS D32 a xs i o k := by
  intro k
  induction k with
  | zero => intro _; rfl
  | succ k ih =>
    intro hk
    obtain ⟨h1, h2, h3, h4, h5⟩ := rowS_inv D32 a xs i o (by decide) ha hx ho hi k (by omega)
    obtain ⟨e1, e2, e3⟩ := macW_eq ha (hx k) (h2 (i + k)) h3
    have e4 : (2 : Int) ^ 32 = D32 := by decide
    simp only [rowW, rowS, ih (by omega)]
    rw [e1, lowW_eq e2 e3, e4, Int.fdiv_eq_ediv_of_nonneg _ (by decide)]

theorem sqW_eq (xs : List Int) (o : List Int) (hx : inD D32 xs) (ho : ∀ j, o.getD j 0 = 0) (hl : o.length = 2 * xs.length) (hv : valD D32 o = 0) : ∀ i, i ≤ xs.length → sqW xs o i = sqS D32 xs o i := by
  intro i
  induction i with
  | zero => intro _; rfl
  | succ i ih =>
    intro hi
    obtain ⟨h1, h2, h3, h4⟩ := sqS_inv D32 xs o (by decide) hx ho hl hv i (by omega)
    simp only [sqW, sqS, ih (by omega)]
    unfold rowWD rowD
    rw [rowW_eq _ _ _ _ (hx i) hx h2 (by omega) _ (Nat.le_refl _)]
    obtain ⟨g1, g2, g3, g4, g5⟩ := rowS_inv D32 (xs.getD i 0) xs i _ (by decide) (hx i) hx h2 (by omega) xs.length (Nat.le_refl _)
    have hz : (rowS D32 (xs.getD i 0) xs i (sqS D32 xs o i) xs.length).1.getD (i + xs.length) 0 = 0 := by rw [g4 _ (by omega)]; exact h3 _ (by omega)
    rw [hz]
    simp only [D32] at g3
    rw [wrapU_in (by simp only [D32]; omega) (by simp only [D32]; omega)]

theorem refsq_run (b0 : Bool) (h1 : Option Nat) (m : Nat) (xs : List Int) (hm4 : m = 2 ∨ m = 4 ∨ m = 8) (hm : xs.length = m) :
    CallOk Try.prog 118 [.slice (some ⟨0, 0, none⟩) m m] [⟨b0, h1, xs.map (.int .u64)⟩] (.slice (some ⟨1, 0, none⟩) (2 * m) (2 * m))
      [⟨b0, h1, xs.map (.int .u64)⟩, ⟨true, none, (sqW xs (List.replicate (2 * m) 0) m).map (.int .u64)⟩] 1 := by
  refine evFnL_plain (N := 300) (pre := noPre) (C := noC) (os := []) (ob := []) progOk extSound noC_sound ?_ (by simp [Holds])
  rcases hm4 with rfl | rfl | rfl
  · obtain ⟨x0, x1, rfl⟩ : ∃ x0 x1, xs = [x0, x1] := by match xs, hm with | [a, b], _ => exact ⟨a, b, rfl⟩
    kernel_rfl
  · obtain ⟨x0, x1, x2, x3, rfl⟩ : ∃ x0 x1 x2 x3, xs = [x0, x1, x2, x3] := by match xs, hm with | [a, b, c, d], _ => exact ⟨a, b, c, d, rfl⟩
    kernel_rfl
  · obtain ⟨x0, x1, x2, x3, x4, x5, x6, x7, rfl⟩ : ∃ x0 x1 x2 x3 x4 x5 x6 x7, xs = [x0, x1, x2, x3, x4, x5, x6, x7] := by match xs, hm with | [a, b, c, d, e, f, g, h], _ => exact ⟨a, b, c, d, e, f, g, h, rfl⟩
    kernel_rfl

theorem refsq_ok (b0 : Bool) (h1 : Option Nat) (m : Nat) (xs : List Int) (hm4 : m = 2 ∨ m = 4 ∨ m = 8) (hx : inD D32 xs) (hm : xs.length = m) :
    CallOk Try.prog 118 [.slice (some ⟨0, 0, none⟩) m m] [⟨b0, h1, xs.map (.int .u64)⟩] (.slice (some ⟨1, 0, none⟩) (2 * m) (2 * m))
      [⟨b0, h1, xs.map (.int .u64)⟩, ⟨true, none, (digs D32 (valD D32 xs * valD D32 xs) (2 * m)).map (.int .u64)⟩] 1 := by
  have hz : ∀ n j, (List.replicate n (0 : Int)).getD j 0 = 0 := by
    intro n j
    simp only [List.getD_eq_getElem?_getD, List.getElem?_replicate]
    split <;> rfl
  have hv : ∀ n, valD D32 (List.replicate n 0) = 0 := by
    intro n
    induction n with
    | zero => rfl
    | succ n ih => simp [List.replicate_succ, valD, ih]
  have h := refsq_run b0 h1 m xs hm4 hm
  subst hm
  rw [sqW_eq xs _ hx (hz _) (by simp) (hv _) _ (Nat.le_refl _), square_eq D32 xs (by decide) hx] at h
  exact h

end Go.Proofs.Ytfbjpenbpbpcaaa
