/-
  Chapter 05's logarithm: the contract of square as an oracle.
-/
import Derived.Test.YtfbjpenbpbpcaaaZH
import Derived.Test.YtfbjpenbpbpcaaaZE
namespace Go.Proofs.Ytfbjpenbpbpcaaa
open Go Den
set_option maxRecDepth 100000
set_option linter.unusedSimpArgs false
set_option linter.unusedVariables false

def intsU : List Value → Option (List Int)
  | [] => some []
  | .int .u64 n :: r => match intsU r with
    | some l => some (n :: l)
    | none => none
  | _ => none

theorem intsU_eq : ∀ (cs : List Value) (xs : List Int), intsU cs = some xs → cs = xs.map (Value.int .u64) := by
  intro cs
  induction cs with
  | nil => intro xs h; simp [intsU] at h; subst h; rfl
  | cons c cs ih =>
    intro xs h
    unfold intsU at h
    split at h
    · rename_i he; cases he
    · rename_i n r he
      cases he
      split at h
      · rename_i l hl
        simp only [Option.some.injEq] at h
        subst h
        rw [ih l hl]
        rfl
      · simp at h
    · simp at h

def sqGo (D : Int) (ms : List Nat) (Hp : Heap) (x : Blk) (j m m' : Nat) : Option (Value × Heap × Nat) := match intsU x.cells with
  | some xs => match Nat.beq j Hp.length && (Nat.beq xs.length m && (Nat.beq m m' && ms.contains m)) with
    | true => some (.slice (some ⟨j + 1, 0, none⟩) (2 * m) (2 * m), Hp ++ [x, ⟨true, none, (digs D (valD D xs * valD D xs) (2 * m)).map (.int .u64)⟩], j + 1)
    | false => none
  | none => none

def sqHp (D : Int) (ms : List Nat) (args : List Value) (H : Heap) : Option (Value × Heap × Nat) := match args with
  | [.slice (some ⟨j, 0, none⟩) m m'] => match H with
    | [x] => sqGo D ms [] x j m m'
    | [p, x] => sqGo D ms [p] x j m m'
    | [p, q, x] => sqGo D ms [p, q] x j m m'
    | _ => none
  | _ => none

theorem digs_inD (D V : Int) (k : Nat) (hD : 0 < D) : inD D (digs D V k) := by
  intro j
  simp only [digs, List.getD_eq_getElem?_getD, List.getElem?_map]
  cases h : (List.range k)[j]? with
  | none => simp; exact hD
  | some i => simp; exact ⟨Int.emod_nonneg _ (Int.ne_of_gt hD), Int.emod_lt_of_pos _ hD⟩

/-- Are the cells of a slice digits? -/
def cellsIn (D : Int) (args : List Value) (H : Heap) : Bool := match args with
  | [.slice (some ⟨j, _, _⟩) _ _] => match H[j]? with
    | some b => match intsU b.cells with
      | some xs => xs.all fun x => decide (0 ≤ x) && decide (x < D)
      | none => true
    | none => true
  | _ => true

theorem inD_of_all {D : Int} {xs : List Int} (hD : 0 < D) (h : (xs.all fun x => decide (0 ≤ x) && decide (x < D)) = true) : inD D xs := by
  intro j
  rw [List.getD_eq_getElem?_getD]
  cases hj : xs[j]? with
  | none => simp; exact hD
  | some x =>
    have := List.all_eq_true.1 h x (List.mem_of_getElem? hj)
    simpa using this

theorem sqGo_ok {ms : List Nat} (hms : ∀ m, ms.contains m = true → m = 1 ∨ m = 2 ∨ m = 4) {Hp : Heap} (hHp : Hp.length ≤ 2) {x : Blk} {j m m' : Nat} {v : Value} {H' : Heap} {l : Nat} (h : sqGo DD ms Hp x j m m' = some (v, H', l))
    (hp : cellsIn DD [.slice (some ⟨j, 0, none⟩) m m'] (Hp ++ [x]) = true) : CallOk Try.prog 116 [.slice (some ⟨j, 0, none⟩) m m'] (Hp ++ [x]) v H' l := by
  unfold sqGo at h
  split at h
  · rename_i xs hxs
    split at h
    · rename_i hc
      simp only [Bool.and_eq_true] at hc
      obtain ⟨c1, c2, c3, c4⟩ := hc
      have e1 := Nat.eq_of_beq_eq_true c1
      have e2 := Nat.eq_of_beq_eq_true c2
      have e3 := Nat.eq_of_beq_eq_true c3
      subst e1 e3
      simp only [Option.some.injEq, Prod.mk.injEq] at h
      obtain ⟨rfl, rfl, rfl⟩ := h
      have hin : inD DD xs := by
        simp only [cellsIn, List.getElem?_append_right (Nat.le_refl _), Nat.sub_self, List.getElem?_cons_zero, hxs] at hp
        exact inD_of_all (by decide) hp
      obtain ⟨own, grown, cells⟩ := x
      simp only at hxs
      have hcells := intsU_eq _ _ hxs
      subst hcells
      exact square_ok Hp hHp own grown m xs (hms _ c4) hin e2
    · simp at h
  · simp at h

def lgC : Oracle := fun f args H => match f with
  | 116 => sqHp DD [1, 2, 4] args H
  | 115 => match H, args with
    | [], [.int .u64 n] => some (.int .i64 (lenZ n), [], 0)
    | _, _ => none
  | _ => none
def lgPre : Pre := fun f args H => match f with
  | 116 => cellsIn DD args H
  | 115 => match args with
    | [.int .u64 n] => isU n
    | _ => true
  | _ => true

theorem lgC_sound : Sound Try.prog (strict lgPre lgC) := by
  refine Sound.strict fun f args H v H' l hp h => ?_
  unfold lgC at h
  split at h
  · simp only [lgPre] at hp
    have hms : ∀ m, [1, 2, 4].contains m = true → m = 1 ∨ m = 2 ∨ m = 4 := fun m hm => by simpa using hm
    unfold sqHp at h
    split at h
    · split at h
      · exact sqGo_ok hms (Hp := []) (by simp) h hp
      · rename_i p x
        exact sqGo_ok hms (Hp := [p]) (by simp) h hp
      · rename_i p q x
        exact sqGo_ok hms (Hp := [p, q]) (by simp) h hp
      · simp at h
    · simp at h
  · split at h
    · simp only [Option.some.injEq, Prod.mk.injEq] at h
      obtain ⟨rfl, rfl, rfl⟩ := h
      have := isU_iff.1 hp
      exact len64_ok _ this.1 this.2
    · simp at h
  · simp at h

end Go.Proofs.Ytfbjpenbpbpcaaa

/-
  The reference's square, digit by digit of 32 bits.
-/
namespace Go.Proofs.Ytfbjpenbpbpcaaa
open Go Den
set_option maxRecDepth 100000
set_option linter.unusedSimpArgs false
set_option linter.unusedVariables false

abbrev D32 : Int := 4294967296

def lowW (x : Int) : Int := IntKind.wrap IntKind.u64 ((BitVec.ofInt (IntKind.bits IntKind.u64) x &&& BitVec.ofInt (IntKind.bits IntKind.u64) 4294967295).toNat : Int)
def macW (a b o c : Int) : Int := IntKind.wrap IntKind.u64 (IntKind.wrap IntKind.u64 (IntKind.wrap IntKind.u64 (a * b) + o) + c)

def rowW (a : Int) (xs : List Int) (i : Nat) (o : List Int) : Nat → List Int × Int
  | 0 => (o, 0)
  | k + 1 => ((rowW a xs i o k).1.set (i + k) (lowW (macW a (xs.getD k 0) ((rowW a xs i o k).1.getD (i + k) 0) (rowW a xs i o k).2)), (macW a (xs.getD k 0) ((rowW a xs i o k).1.getD (i + k) 0) (rowW a xs i o k).2).fdiv (2 ^ 32))

def rowWD (a : Int) (xs : List Int) (i : Nat) (o : List Int) : List Int :=
  (rowW a xs i o xs.length).1.set (i + xs.length) (IntKind.wrap IntKind.u64 ((rowW a xs i o xs.length).1.getD (i + xs.length) 0 + (rowW a xs i o xs.length).2))

def sqW (xs : List Int) (o : List Int) : Nat → List Int
  | 0 => o
  | i + 1 => rowWD (xs.getD i 0) xs i (sqW xs o i)

theorem lowW_eq {x : Int} (h0 : 0 ≤ x) (h1 : x ≤ 18446744073709551615) : lowW x = x % D32 := by
  unfold lowW
  have h2 : (BitVec.ofInt (IntKind.bits IntKind.u64) 4294967295).toNat = 2 ^ 32 - 1 := by decide
  rw [BitVec.toNat_and, h2, Nat.and_two_pow_sub_one_eq_mod, BitVec.toNat_ofInt]
  have : ((2 ^ IntKind.bits IntKind.u64 : Nat) : Int) = 18446744073709551616 := by decide
  rw [this]
  simp only [D32]
  rw [wrapU_in (by omega) (by omega)]
  omega

theorem macW_eq {a b o c : Int} (ha : 0 ≤ a ∧ a < D32) (hb : 0 ≤ b ∧ b < D32) (ho : 0 ≤ o ∧ o < D32) (hc : 0 ≤ c ∧ c < D32) : macW a b o c = a * b + o + c ∧ 0 ≤ a * b + o + c ∧ a * b + o + c ≤ 18446744073709551615 := by
  obtain ⟨m0, m1, m2, m3, m4⟩ := mac_le (D := D32) (by decide) ha hb ho hc
  have e : (D32 - 1) * (D32 - 1) = 18446744065119617025 := by decide
  rw [e] at m1
  simp only [D32] at *
  unfold macW
  rw [wrapU_in (n := a * b) (by omega) (by omega), wrapU_in (n := a * b + o) (by omega) (by omega), wrapU_in (by omega) (by omega)]
  exact ⟨rfl, by omega, by omega⟩

theorem rowW_eq (a : Int) (xs : List Int) (i : Nat) (o : List Int) (ha : 0 ≤ a ∧ a < D32) (hx : inD D32 xs) (ho : inD D32 o) (hi : i + xs.length < o.length) : ∀ k, k ≤ xs.length → rowW a xs i o k = rowS D32 a xs i o k := by
  intro k
  induction k with
  | zero => intro _; rfl
  | succ k ih =>
    intro hk
    obtain ⟨h1, h2, h3, h4, h5⟩ := rowS_inv D32 a xs i o (by decide) ha hx ho hi k (by omega)
    obtain ⟨e1, e2, e3⟩ := macW_eq ha (hx k) (h2 (i + k)) h3
    have e4 : (2 : Int) ^ 32 = D32 := by decide
    simp only [rowW, rowS, ih (by omega)]
    rw [e1, lowW_eq e2 e3, e4, Int.fdiv_eq_ediv_of_nonneg _ (by decide)]

theorem sqW_eq (xs : List Int) (o : List Int) (hx : inD D32 xs) (ho : ∀ j, o.getD j 0 = 0) (hl : o.length = 2 * xs.length) (hv : valD D32 o = 0) : ∀ i, i ≤ xs.length → sqW xs o i = sqS D32 xs o i := by
  intro i
  induction i with
  | zero => intro _; rfl
  | succ i ih =>
    intro hi
    obtain ⟨h1, h2, h3, h4⟩ := sqS_inv D32 xs o (by decide) hx ho hl hv i (by omega)
    simp only [sqW, sqS, ih (by omega)]
    unfold rowWD rowD
    rw [rowW_eq _ _ _ _ (hx i) hx h2 (by omega) _ (Nat.le_refl _)]
    obtain ⟨g1, g2, g3, g4, g5⟩ := rowS_inv D32 (xs.getD i 0) xs i _ (by decide) (hx i) hx h2 (by omega) xs.length (Nat.le_refl _)
    have hz : (rowS D32 (xs.getD i 0) xs i (sqS D32 xs o i) xs.length).1.getD (i + xs.length) 0 = 0 := by rw [g4 _ (by omega)]; exact h3 _ (by omega)
    rw [hz]
    simp only [D32] at g3
    rw [wrapU_in (by simp only [D32]; omega) (by simp only [D32]; omega)]

theorem refsq_run (b0 : Bool) (h1 : Option Nat) (m : Nat) (xs : List Int) (hm4 : m = 2 ∨ m = 4 ∨ m = 8) (hm : xs.length = m) :
    CallOk Try.prog 118 [.slice (some ⟨0, 0, none⟩) m m] [⟨b0, h1, xs.map (.int .u64)⟩] (.slice (some ⟨1, 0, none⟩) (2 * m) (2 * m))
      [⟨b0, h1, xs.map (.int .u64)⟩, ⟨true, none, (sqW xs (List.replicate (2 * m) 0) m).map (.int .u64)⟩] 1 := by
  refine evFnL_plain (N := 300) (pre := noPre) (C := noC) (os := []) (ob := []) progOk extSound noC_sound ?_ (by simp [Holds])
  rcases hm4 with rfl | rfl | rfl
  · obtain ⟨x0, x1, rfl⟩ : ∃ x0 x1, xs = [x0, x1] := by match xs, hm with | [a, b], _ => exact ⟨a, b, rfl⟩
    kernel_rfl
  · obtain ⟨x0, x1, x2, x3, rfl⟩ : ∃ x0 x1 x2 x3, xs = [x0, x1, x2, x3] := by match xs, hm with | [a, b, c, d], _ => exact ⟨a, b, c, d, rfl⟩
    kernel_rfl
  · obtain ⟨x0, x1, x2, x3, x4, x5, x6, x7, rfl⟩ : ∃ x0 x1 x2 x3 x4 x5 x6 x7, xs = [x0, x1, x2, x3, x4, x5, x6, x7] := by match xs, hm with | [a, b, c, d, e, f, g, h], _ => exact ⟨a, b, c, d, e, f, g, h, rfl⟩
    kernel_rfl

theorem refsq_ok (b0 : Bool) (h1 : Option Nat) (m : Nat) (xs : List Int) (hm4 : m = 2 ∨ m = 4 ∨ m = 8) (hx : inD D32 xs) (hm : xs.length = m) :
    CallOk Try.prog 118 [.slice (some ⟨0, 0, none⟩) m m] [⟨b0, h1, xs.map (.int .u64)⟩] (.slice (some ⟨1, 0, none⟩) (2 * m) (2 * m))
      [⟨b0, h1, xs.map (.int .u64)⟩, ⟨true, none, (digs D32 (valD D32 xs * valD D32 xs) (2 * m)).map (.int .u64)⟩] 1 := by
  have hz : ∀ n j, (List.replicate n (0 : Int)).getD j 0 = 0 := by
    intro n j
    simp only [List.getD_eq_getElem?_getD, List.getElem?_replicate]
    split <;> rfl
  have hv : ∀ n, valD D32 (List.replicate n 0) = 0 := by
    intro n
    induction n with
    | zero => rfl
    | succ n ih => simp [List.replicate_succ, valD, ih]
  have h := refsq_run b0 h1 m xs hm4 hm
  subst hm
  rw [sqW_eq xs _ hx (hz _) (by simp) (hv _) _ (Nat.le_refl _), square_eq D32 xs (by decide) hx] at h
  exact h

end Go.Proofs.Ytfbjpenbpbpcaaa

/-
  Chapter 05's logarithm: the squares as an oracle for any heap.
-/
namespace Go.Proofs.Ytfbjpenbpbpcaaa
open Go Den
set_option maxRecDepth 100000
set_option linter.unusedSimpArgs false
set_option linter.unusedVariables false

theorem sqGo_ok32 {ms : List Nat} (hms : ∀ m, ms.contains m = true → m = 2 ∨ m = 4 ∨ m = 8) {x : Blk} {m m' : Nat} {v : Value} {H' : Heap} {l : Nat} (h : sqGo D32 ms [] x 0 m m' = some (v, H', l))
    (hp : cellsIn D32 [.slice (some ⟨0, 0, none⟩) m m'] [x] = true) : CallOk Try.prog 118 [.slice (some ⟨0, 0, none⟩) m m'] [x] v H' l := by
  unfold sqGo at h
  split at h
  · rename_i xs hxs
    split at h
    · rename_i hc
      simp only [Bool.and_eq_true] at hc
      obtain ⟨c1, c2, c3, c4⟩ := hc
      have e2 := Nat.eq_of_beq_eq_true c2
      have e3 := Nat.eq_of_beq_eq_true c3
      subst e3
      simp only [Option.some.injEq, Prod.mk.injEq] at h
      obtain ⟨rfl, rfl, rfl⟩ := h
      have hin : inD D32 xs := by
        simp only [cellsIn, List.getElem?_cons_zero, hxs] at hp
        exact inD_of_all (by decide) hp
      obtain ⟨own, grown, cells⟩ := x
      simp only at hxs
      have hcells := intsU_eq _ _ hxs
      subst hcells
      exact refsq_ok own grown m xs (hms _ c4) hin e2
    · simp at h
  · simp at h

def lgO : Oracle := fun f args H => match f with
  | 116 => match args, H with
    | [.slice (some ⟨0, 0, none⟩) m m'], [x] => sqGo DD [1, 2, 4] [] x 0 m m'
    | _, _ => none
  | 118 => match args, H with
    | [.slice (some ⟨0, 0, none⟩) m m'], [x] => sqGo D32 [2, 4, 8] [] x 0 m m'
    | _, _ => none
  | 115 => match H, args with
    | [], [.int .u64 n] => some (.int .i64 (lenZ n), [], 0)
    | _, _ => none
  | _ => none
def lgoPre : Pre := fun f args H => match f with
  | 116 => cellsIn DD args H
  | 118 => cellsIn D32 args H
  | 115 => match args with
    | [.int .u64 n] => isU n
    | _ => true
  | _ => true

theorem lgO_sound : Sound Try.prog (strict lgoPre lgO) := by
  refine Sound.strict fun f args H v H' l hp h => ?_
  unfold lgO at h
  split at h
  · simp only [lgoPre] at hp
    split at h
    · rename_i m m' x
      exact sqGo_ok (Hp := []) (fun m hm => by simpa using hm) (by simp) h hp
    · simp at h
  · simp only [lgoPre] at hp
    split at h
    · rename_i m m' x
      exact sqGo_ok32 (fun m hm => by simpa using hm) h hp
    · simp at h
  · split at h
    · simp only [Option.some.injEq, Prod.mk.injEq] at h
      obtain ⟨rfl, rfl, rfl⟩ := h
      have := isU_iff.1 hp
      exact len64_ok _ this.1 this.2
    · simp at h
  · simp at h

end Go.Proofs.Ytfbjpenbpbpcaaa

/-
  Chapter 05's logarithm: fixed.Log.
-/
namespace Go.Proofs.Ytfbjpenbpbpcaaa
open Go Den
set_option maxRecDepth 100000
set_option linter.unusedSimpArgs false
set_option linter.unusedVariables false

theorem digs_succ (D V : Int) (hD : 0 < D) (k : Nat) : digs D V (k + 1) = V % D :: digs D (V / D) k := by
  unfold digs
  rw [List.range_succ_eq_map, List.map_cons, List.map_map]
  simp only [Int.pow_zero, Int.ediv_one]
  congr 1
  apply List.map_congr_left
  intro j _
  simp only [Function.comp]
  rw [Int.pow_succ, Int.mul_comm (D ^ j) D, ← Int.ediv_ediv_of_nonneg (Int.le_of_lt hD)]

theorem valD_digs (D : Int) (hD : 0 < D) : ∀ (k : Nat) (V : Int), 0 ≤ V → V < D ^ k → valD D (digs D V k) = V := by
  intro k
  induction k with
  | zero => intro V h0 h1; simp at h1; have : V = 0 := by omega
            subst this; rfl
  | succ k ih =>
    intro V h0 h1
    rw [digs_succ D V hD]
    simp only [valD]
    have h2 : V / D < D ^ k := by
      refine Int.ediv_lt_of_lt_mul hD ?_
      rw [Int.pow_succ] at h1
      exact h1
    rw [ih (V / D) (Int.ediv_nonneg h0 (Int.le_of_lt hD)) h2]
    have := Int.emod_add_mul_ediv V D
    omega

/-- How long a number is, by its highest digit. -/
theorem lenZ_digs (s : Nat) (V : Int) (h0 : 0 ≤ V) (i : Nat) : ∀ (k : Nat), V < (2 ^ s) ^ (i + 1 + k) → (∀ j, i < j → j < i + 1 + k → V / (2 ^ s) ^ j % (2 ^ s) = 0) → 0 < V / (2 ^ s) ^ i % (2 ^ s) →
    lenZ V = ((s * i : Nat) : Int) + lenZ (V / (2 ^ s) ^ i % (2 ^ s)) := by
  intro k
  have p : (0 : Int) < 2 ^ s := pow_pos s
  induction k with
  | zero =>
    intro h1 _ h2
    have pi : (0 : Int) < (2 ^ s) ^ i := Int.pow_pos p
    have h3 : V / (2 ^ s) ^ i < 2 ^ s := by
      refine Int.ediv_lt_of_lt_mul pi ?_
      rw [Nat.add_zero, Int.pow_succ] at h1
      rw [Int.mul_comm]; exact h1
    have h4 : V / (2 ^ s) ^ i % 2 ^ s = V / (2 ^ s) ^ i := Int.emod_eq_of_lt (Int.ediv_nonneg h0 (Int.le_of_lt pi)) h3
    rw [h4] at h2 ⊢
    rw [← Int.pow_mul] at h2 ⊢
    exact lenZ_div h2
  | succ k ih =>
    intro h1 hz h2
    refine ih ?_ (fun j hj hk => hz j hj (by omega)) h2
    have pk : (0 : Int) < (2 ^ s) ^ (i + 1 + k) := Int.pow_pos p
    have h3 := hz (i + 1 + k) (by omega) (by omega)
    have h4 : V / (2 ^ s) ^ (i + 1 + k) < 2 ^ s := by
      refine Int.ediv_lt_of_lt_mul pk ?_
      rw [show i + 1 + (k + 1) = (i + 1 + k) + 1 by omega, Int.pow_succ] at h1
      rw [Int.mul_comm]; exact h1
    rw [Int.emod_eq_of_lt (Int.ediv_nonneg h0 (Int.le_of_lt pk)) h4] at h3
    have h5 := Int.mul_ediv_add_emod V ((2 ^ s) ^ (i + 1 + k))
    have h6 := Int.emod_lt_of_pos V pk
    rw [h3] at h5
    omega

def lg1 (D n : Int) (k : Nat) : List Int := digs D (n * n) k
def sq1 (D : Int) (xs : List Int) (k : Nat) : List Int := digs D (valD D xs * valD D xs) k

theorem sq_sq {n m : Int} {B C : Int} (h0 : 0 ≤ n) (h1 : n < B) (hB : B * B = C) : 0 ≤ n * n ∧ n * n < C := by
  refine ⟨Int.mul_nonneg h0 h0, ?_⟩
  rw [← hB]
  have : n * n ≤ n * B := Int.mul_le_mul_of_nonneg_left (by omega) h0
  have : n * B < B * B := Int.mul_lt_mul_of_pos_right h1 (by omega)
  omega

def logZ (n : Int) : Int := if n = 0 then 0 else lenZ (n ^ 8) - 1

theorem pow8_lt {n : Int} (h0 : 0 ≤ n) (h1 : n ≤ 18446744073709551615) : 0 ≤ n ^ 8 ∧ n ^ 8 < DD ^ 8 := by
  have a1 := sq_sq (m := n) (B := DD) (C := DD ^ 2) h0 (by simp only [DD]; omega) (by decide)
  have a2 := sq_sq (m := n) (B := DD ^ 2) (C := DD ^ 4) a1.1 a1.2 (by decide)
  have a3 := sq_sq (m := n) (B := DD ^ 4) (C := DD ^ 8) a2.1 a2.2 (by decide)
  have e : n ^ 8 = n * n * (n * n) * (n * n * (n * n)) := by grind
  rw [e]
  exact a3

/-- The digits of the eighth power. -/
theorem sq3_eq {n : Int} (h0 : 0 ≤ n) (h1 : n ≤ 18446744073709551615) : sq1 DD (sq1 DD (sq1 DD [n] 2) 4) 8 = digs DD (n ^ 8) 8 := by
  have a1 := sq_sq (m := n) (B := DD) (C := DD ^ 2) h0 (by simp only [DD]; omega) (by decide)
  have a2 := sq_sq (m := n) (B := DD ^ 2) (C := DD ^ 4) a1.1 a1.2 (by decide)
  have e0 : valD DD [n] = n := by simp [valD]
  have e1 : valD DD (sq1 DD [n] 2) = n * n := by unfold sq1; rw [e0]; exact valD_digs DD (by decide) 2 _ a1.1 a1.2
  have e2 : valD DD (sq1 DD (sq1 DD [n] 2) 4) = n * n * (n * n) := by
    show valD DD (digs DD (valD DD (sq1 DD [n] 2) * valD DD (sq1 DD [n] 2)) 4) = _
    rw [e1]; exact valD_digs DD (by decide) 4 _ a2.1 a2.2
  have e : n ^ 8 = n * n * (n * n) * (n * n * (n * n)) := by grind
  show digs DD (valD DD (sq1 DD (sq1 DD [n] 2) 4) * valD DD (sq1 DD (sq1 DD [n] 2) 4)) 8 = _
  rw [e2, e]

theorem digs_getD (D V : Int) (k j : Nat) (h : j < k) : (digs D V k).getD j 0 = V / D ^ j % D := by
  simp [digs, List.getD_eq_getElem?_getD, h]

theorem cells_digs (D V : Int) (hD : 0 < D) (k : Nat) (b : Bool) (g : Option Nat) (l c : Nat) : cellsIn D [.slice (some ⟨0, 0, none⟩) l c] [⟨b, g, (digs D V k).map (.int .u64)⟩] = true := by
  have hi : ∀ xs : List Int, intsU (xs.map (.int .u64)) = some xs := by
    intro xs
    induction xs with
    | nil => rfl
    | cons x xs ih => simp [intsU, ih]
  simp only [cellsIn, List.getElem?_cons_zero, hi]
  simp only [digs, List.all_map, List.all_eq_true]
  intro j _
  simp only [Function.comp, Bool.and_eq_true, decide_eq_true_eq]
  exact ⟨Int.emod_nonneg _ (Int.ne_of_gt hD), Int.emod_lt_of_pos _ hD⟩

theorem lg_pre : Sound Try.prog (strict (framePre lgoPre) (frameC lgO)) := frame_sound lgO_sound

abbrev s3 (n : Int) : List Int := sq1 DD (sq1 DD (sq1 DD [n] 2) 4) 8
def blkU (xs : List Int) : Blk := ⟨true, none, xs.map (.int .u64)⟩
def lgBase (n : Int) : Obs := [(lgoPre 116 [.slice (some ⟨0, 0, none⟩) 4 4] [blkU (sq1 DD (sq1 DD [n] 2) 4)], true), (lgoPre 116 [.slice (some ⟨0, 0, none⟩) 2 2] [blkU (sq1 DD [n] 2)], true), (lgoPre 116 [.slice (some ⟨0, 0, none⟩) 1 1] [blkU [n]], true), (n == 0, false)]

theorem log_run7 (n : Int) : (evFnL Try.prog ext 300 (framePre lgoPre) (frameC lgO) noLoops [(0, false), (1, true), (1, true), (1, true), (2, true), (0, true)] 59 [.int .u64 n] []).map (fun r => (r.1.1, r.2)) =
    some (.int .i64 (IntKind.wrap IntKind.i64 (IntKind.wrap IntKind.i64 (448 + lenZ ((s3 n).getD 7 0)) - 1)), [(lgoPre 115 [.int .u64 ((s3 n).getD 7 0)] [], true), (decide ((s3 n).getD 7 0 > 0), true)] ++ lgBase n) := by kernel_rfl

theorem log_run6 (n : Int) : (evFnL Try.prog ext 300 (framePre lgoPre) (frameC lgO) noLoops [(0, false), (1, true), (1, true), (1, true), (2, false), (1, true), (0, true)] 59 [.int .u64 n] []).map (fun r => (r.1.1, r.2)) =
    some (.int .i64 (IntKind.wrap IntKind.i64 (IntKind.wrap IntKind.i64 (384 + lenZ ((s3 n).getD 6 0)) - 1)), [(lgoPre 115 [.int .u64 ((s3 n).getD 6 0)] [], true), (decide ((s3 n).getD 6 0 > 0), true), (decide ((s3 n).getD 7 0 > 0), false)] ++ lgBase n) := by kernel_rfl

theorem log_run5 (n : Int) : (evFnL Try.prog ext 300 (framePre lgoPre) (frameC lgO) noLoops [(0, false), (1, true), (1, true), (1, true), (2, false), (1, false), (1, true), (0, true)] 59 [.int .u64 n] []).map (fun r => (r.1.1, r.2)) =
    some (.int .i64 (IntKind.wrap IntKind.i64 (IntKind.wrap IntKind.i64 (320 + lenZ ((s3 n).getD 5 0)) - 1)), [(lgoPre 115 [.int .u64 ((s3 n).getD 5 0)] [], true), (decide ((s3 n).getD 5 0 > 0), true), (decide ((s3 n).getD 6 0 > 0), false), (decide ((s3 n).getD 7 0 > 0), false)] ++ lgBase n) := by kernel_rfl

theorem log_run4 (n : Int) : (evFnL Try.prog ext 300 (framePre lgoPre) (frameC lgO) noLoops [(0, false), (1, true), (1, true), (1, true), (2, false), (1, false), (1, false), (1, true), (0, true)] 59 [.int .u64 n] []).map (fun r => (r.1.1, r.2)) =
    some (.int .i64 (IntKind.wrap IntKind.i64 (IntKind.wrap IntKind.i64 (256 + lenZ ((s3 n).getD 4 0)) - 1)), [(lgoPre 115 [.int .u64 ((s3 n).getD 4 0)] [], true), (decide ((s3 n).getD 4 0 > 0), true), (decide ((s3 n).getD 5 0 > 0), false), (decide ((s3 n).getD 6 0 > 0), false), (decide ((s3 n).getD 7 0 > 0), false)] ++ lgBase n) := by kernel_rfl

theorem log_run3 (n : Int) : (evFnL Try.prog ext 300 (framePre lgoPre) (frameC lgO) noLoops [(0, false), (1, true), (1, true), (1, true), (2, false), (1, false), (1, false), (1, false), (1, true), (0, true)] 59 [.int .u64 n] []).map (fun r => (r.1.1, r.2)) =
    some (.int .i64 (IntKind.wrap IntKind.i64 (IntKind.wrap IntKind.i64 (192 + lenZ ((s3 n).getD 3 0)) - 1)), [(lgoPre 115 [.int .u64 ((s3 n).getD 3 0)] [], true), (decide ((s3 n).getD 3 0 > 0), true), (decide ((s3 n).getD 4 0 > 0), false), (decide ((s3 n).getD 5 0 > 0), false), (decide ((s3 n).getD 6 0 > 0), false), (decide ((s3 n).getD 7 0 > 0), false)] ++ lgBase n) := by kernel_rfl

theorem log_run2 (n : Int) : (evFnL Try.prog ext 300 (framePre lgoPre) (frameC lgO) noLoops [(0, false), (1, true), (1, true), (1, true), (2, false), (1, false), (1, false), (1, false), (1, false), (1, true), (0, true)] 59 [.int .u64 n] []).map (fun r => (r.1.1, r.2)) =
    some (.int .i64 (IntKind.wrap IntKind.i64 (IntKind.wrap IntKind.i64 (128 + lenZ ((s3 n).getD 2 0)) - 1)), [(lgoPre 115 [.int .u64 ((s3 n).getD 2 0)] [], true), (decide ((s3 n).getD 2 0 > 0), true), (decide ((s3 n).getD 3 0 > 0), false), (decide ((s3 n).getD 4 0 > 0), false), (decide ((s3 n).getD 5 0 > 0), false), (decide ((s3 n).getD 6 0 > 0), false), (decide ((s3 n).getD 7 0 > 0), false)] ++ lgBase n) := by kernel_rfl

theorem log_run1 (n : Int) : (evFnL Try.prog ext 300 (framePre lgoPre) (frameC lgO) noLoops [(0, false), (1, true), (1, true), (1, true), (2, false), (1, false), (1, false), (1, false), (1, false), (1, false), (1, true), (0, true)] 59 [.int .u64 n] []).map (fun r => (r.1.1, r.2)) =
    some (.int .i64 (IntKind.wrap IntKind.i64 (IntKind.wrap IntKind.i64 (64 + lenZ ((s3 n).getD 1 0)) - 1)), [(lgoPre 115 [.int .u64 ((s3 n).getD 1 0)] [], true), (decide ((s3 n).getD 1 0 > 0), true), (decide ((s3 n).getD 2 0 > 0), false), (decide ((s3 n).getD 3 0 > 0), false), (decide ((s3 n).getD 4 0 > 0), false), (decide ((s3 n).getD 5 0 > 0), false), (decide ((s3 n).getD 6 0 > 0), false), (decide ((s3 n).getD 7 0 > 0), false)] ++ lgBase n) := by kernel_rfl

theorem log_run0 (n : Int) : (evFnL Try.prog ext 300 (framePre lgoPre) (frameC lgO) noLoops [(0, false), (1, true), (1, true), (1, true), (2, false), (1, false), (1, false), (1, false), (1, false), (1, false), (1, false), (1, true)] 59 [.int .u64 n] []).map (fun r => (r.1.1, r.2)) =
    some (.int .i64 (IntKind.wrap IntKind.i64 (lenZ ((s3 n).getD 0 0) - 1)), [(lgoPre 115 [.int .u64 ((s3 n).getD 0 0)] [], true), (decide ((s3 n).getD 1 0 > 0), false), (decide ((s3 n).getD 2 0 > 0), false), (decide ((s3 n).getD 3 0 > 0), false), (decide ((s3 n).getD 4 0 > 0), false), (decide ((s3 n).getD 5 0 > 0), false), (decide ((s3 n).getD 6 0 > 0), false), (decide ((s3 n).getD 7 0 > 0), false)] ++ lgBase n) := by kernel_rfl

theorem lgBase_ok (n : Int) (h0 : 0 ≤ n) (h1 : n ≤ 18446744073709551615) (hn : n ≠ 0) : Holds (lgBase n) := by
  have a : lgoPre 116 [.slice (some ⟨0, 0, none⟩) 4 4] [blkU (sq1 DD (sq1 DD [n] 2) 4)] = true := cells_digs DD (valD DD (sq1 DD [n] 2) * valD DD (sq1 DD [n] 2)) (by decide) 4 true none 4 4
  have b : lgoPre 116 [.slice (some ⟨0, 0, none⟩) 2 2] [blkU (sq1 DD [n] 2)] = true := cells_digs DD (valD DD [n] * valD DD [n]) (by decide) 2 true none 2 2
  have c : lgoPre 116 [.slice (some ⟨0, 0, none⟩) 1 1] [blkU [n]] = true := by
    show ((0 ≤ n : Bool) && (n < DD : Bool)) && true = true
    simp [DD]
    omega
  simp [Holds, lgBase, a, b, c, hn]

theorem holds_app {a b : Obs} (h : Holds a) (k : Holds b) : Holds (a ++ b) := fun p hp => (List.mem_append.1 hp).elim (h p) (k p)

theorem log_ok (n : Int) (h0 : 0 ≤ n) (h1 : n ≤ 18446744073709551615) : CallOk Try.prog 59 [.int .u64 n] [] (.int .i64 (logZ n)) [] 0 := by
  by_cases hn : n = 0
  · subst hn
    exact pf_ok (N := 300) (L := noLoops) (os := [(0, true)]) (ob := [((0 : Int) == 0, true)]) lg_pre noLoops_ok (by kernel_rfl) (by simp [Holds]) rfl
  have hb := lgBase_ok n h0 h1 hn
  have hd := sq3_eq h0 h1
  obtain ⟨p0, p1⟩ := pow8_lt h0 h1
  have e64 : DD = 2 ^ 64 := by decide
  have hg : ∀ j, j < 8 → (s3 n).getD j 0 = n ^ 8 / (2 ^ 64) ^ j % (2 ^ 64) := fun j hj => by rw [show s3 n = digs DD (n ^ 8) 8 from hd, digs_getD _ _ _ _ hj, ← e64]
  have hu : ∀ j, j < 8 → isU ((s3 n).getD j 0) = true := fun j hj => by
    rw [hg j hj]
    have := Int.emod_nonneg (n ^ 8 / (2 ^ 64) ^ j) (b := 2 ^ 64) (by decide)
    have := Int.emod_lt_of_pos (n ^ 8 / (2 ^ 64) ^ j) (b := 2 ^ 64) (by decide)
    exact isU_iff.2 (by omega)
  have hpos : 0 < n ^ 8 := Int.pow_pos (by omega)
  have key : ∀ i, i < 8 → (∀ j, i < j → j < 8 → ¬ (s3 n).getD j 0 > 0) → (s3 n).getD i 0 > 0 → logZ n = ((64 * i : Nat) : Int) + lenZ ((s3 n).getD i 0) - 1 ∧ inI (((64 * i : Nat) : Int) + lenZ ((s3 n).getD i 0)) = true ∧ inI (((64 * i : Nat) : Int) + lenZ ((s3 n).getD i 0) - 1) = true := by
    intro i hi hz hp
    have hl := lenZ_le (isU_iff.1 (hu i hi)).1 (isU_iff.1 (hu i hi)).2
    have e := lenZ_digs 64 (n ^ 8) p0 i (7 - i) (by rw [← e64, show i + 1 + (7 - i) = 8 by omega]; exact p1) (fun j hj hk => by
      have h2 := hz j hj (by omega)
      have h3 := (isU_iff.1 (hu j (by omega))).1
      rw [← hg j (by omega)]
      omega) (by rw [← hg i hi]; exact hp)
    rw [← hg i hi] at e
    refine ⟨by unfold logZ; rw [if_neg hn, e], inI_iff.2 (by omega), inI_iff.2 (by omega)⟩
  by_cases h7 : (s3 n).getD 7 0 > 0
  · obtain ⟨k1, k2, k3⟩ := key 7 (by decide) (fun j hj hk => by
      omega) h7
    rw [show ((64 * 7 : Nat) : Int) = 448 from rfl] at k1 k2 k3
    refine pf_ok lg_pre noLoops_ok ((log_run7 n).trans (by rw [wrap_in k2, wrap_in k3, ← k1])) ?_ rfl
    have u := hu 7 (by decide)
    refine holds_app ?_ hb
    simp only [Holds, List.mem_cons, List.not_mem_nil, or_false, forall_eq_or_imp, forall_eq, lgoPre]
    simp only [u, h7, decide_true, decide_false, and_self]
  by_cases h6 : (s3 n).getD 6 0 > 0
  · obtain ⟨k1, k2, k3⟩ := key 6 (by decide) (fun j hj hk => by
      obtain rfl : j = 7 := by omega
      exact h7) h6
    rw [show ((64 * 6 : Nat) : Int) = 384 from rfl] at k1 k2 k3
    refine pf_ok lg_pre noLoops_ok ((log_run6 n).trans (by rw [wrap_in k2, wrap_in k3, ← k1])) ?_ rfl
    have u := hu 6 (by decide)
    refine holds_app ?_ hb
    simp only [Holds, List.mem_cons, List.not_mem_nil, or_false, forall_eq_or_imp, forall_eq, lgoPre]
    simp only [u, h6, h7, decide_true, decide_false, and_self]
  by_cases h5 : (s3 n).getD 5 0 > 0
  · obtain ⟨k1, k2, k3⟩ := key 5 (by decide) (fun j hj hk => by
      obtain rfl | rfl : j = 6 ∨ j = 7 := by omega
      · exact h6
      · exact h7) h5
    rw [show ((64 * 5 : Nat) : Int) = 320 from rfl] at k1 k2 k3
    refine pf_ok lg_pre noLoops_ok ((log_run5 n).trans (by rw [wrap_in k2, wrap_in k3, ← k1])) ?_ rfl
    have u := hu 5 (by decide)
    refine holds_app ?_ hb
    simp only [Holds, List.mem_cons, List.not_mem_nil, or_false, forall_eq_or_imp, forall_eq, lgoPre]
    simp only [u, h5, h6, h7, decide_true, decide_false, and_self]
  by_cases h4 : (s3 n).getD 4 0 > 0
  · obtain ⟨k1, k2, k3⟩ := key 4 (by decide) (fun j hj hk => by
      obtain rfl | rfl | rfl : j = 5 ∨ j = 6 ∨ j = 7 := by omega
      · exact h5
      · exact h6
      · exact h7) h4
    rw [show ((64 * 4 : Nat) : Int) = 256 from rfl] at k1 k2 k3
    refine pf_ok lg_pre noLoops_ok ((log_run4 n).trans (by rw [wrap_in k2, wrap_in k3, ← k1])) ?_ rfl
    have u := hu 4 (by decide)
    refine holds_app ?_ hb
    simp only [Holds, List.mem_cons, List.not_mem_nil, or_false, forall_eq_or_imp, forall_eq, lgoPre]
    simp only [u, h4, h5, h6, h7, decide_true, decide_false, and_self]
  by_cases h3 : (s3 n).getD 3 0 > 0
  · obtain ⟨k1, k2, k3⟩ := key 3 (by decide) (fun j hj hk => by
      obtain rfl | rfl | rfl | rfl : j = 4 ∨ j = 5 ∨ j = 6 ∨ j = 7 := by omega
      · exact h4
      · exact h5
      · exact h6
      · exact h7) h3
    rw [show ((64 * 3 : Nat) : Int) = 192 from rfl] at k1 k2 k3
    refine pf_ok lg_pre noLoops_ok ((log_run3 n).trans (by rw [wrap_in k2, wrap_in k3, ← k1])) ?_ rfl
    have u := hu 3 (by decide)
    refine holds_app ?_ hb
    simp only [Holds, List.mem_cons, List.not_mem_nil, or_false, forall_eq_or_imp, forall_eq, lgoPre]
    simp only [u, h3, h4, h5, h6, h7, decide_true, decide_false, and_self]
  by_cases h2 : (s3 n).getD 2 0 > 0
  · obtain ⟨k1, k2, k3⟩ := key 2 (by decide) (fun j hj hk => by
      obtain rfl | rfl | rfl | rfl | rfl : j = 3 ∨ j = 4 ∨ j = 5 ∨ j = 6 ∨ j = 7 := by omega
      · exact h3
      · exact h4
      · exact h5
      · exact h6
      · exact h7) h2
    rw [show ((64 * 2 : Nat) : Int) = 128 from rfl] at k1 k2 k3
    refine pf_ok lg_pre noLoops_ok ((log_run2 n).trans (by rw [wrap_in k2, wrap_in k3, ← k1])) ?_ rfl
    have u := hu 2 (by decide)
    refine holds_app ?_ hb
    simp only [Holds, List.mem_cons, List.not_mem_nil, or_false, forall_eq_or_imp, forall_eq, lgoPre]
    simp only [u, h2, h3, h4, h5, h6, h7, decide_true, decide_false, and_self]
  by_cases h1 : (s3 n).getD 1 0 > 0
  · obtain ⟨k1, k2, k3⟩ := key 1 (by decide) (fun j hj hk => by
      obtain rfl | rfl | rfl | rfl | rfl | rfl : j = 2 ∨ j = 3 ∨ j = 4 ∨ j = 5 ∨ j = 6 ∨ j = 7 := by omega
      · exact h2
      · exact h3
      · exact h4
      · exact h5
      · exact h6
      · exact h7) h1
    rw [show ((64 * 1 : Nat) : Int) = 64 from rfl] at k1 k2 k3
    refine pf_ok lg_pre noLoops_ok ((log_run1 n).trans (by rw [wrap_in k2, wrap_in k3, ← k1])) ?_ rfl
    have u := hu 1 (by decide)
    refine holds_app ?_ hb
    simp only [Holds, List.mem_cons, List.not_mem_nil, or_false, forall_eq_or_imp, forall_eq, lgoPre]
    simp only [u, h1, h2, h3, h4, h5, h6, h7, decide_true, decide_false, and_self]
  have hx0 : (s3 n).getD 0 0 > 0 := by
    refine Int.lt_of_not_ge fun h0' => ?_
    have hz : ∀ j, j < 8 → (s3 n).getD j 0 = 0 := by
      intro j hj
      have h3 := (isU_iff.1 (hu j hj)).1
      obtain rfl | rfl | rfl | rfl | rfl | rfl | rfl | rfl : j = 0 ∨ j = 1 ∨ j = 2 ∨ j = 3 ∨ j = 4 ∨ j = 5 ∨ j = 6 ∨ j = 7 := by omega
      all_goals omega
    have hv : valD DD (s3 n) = n ^ 8 := by rw [show s3 n = digs DD (n ^ 8) 8 from hd]; exact valD_digs DD (by decide) 8 (n ^ 8) p0 p1
    have hz2 : ∀ (l : List Int), (∀ j, j < l.length → l.getD j 0 = 0) → valD DD l = 0 := by
      intro l
      induction l with
      | nil => intro _; rfl
      | cons x l ih =>
        intro h
        have h1 := h 0 (by simp)
        simp at h1
        simp [valD, h1, ih fun j hj => by have := h (j + 1) (by simpa using hj); simpa using this]
    have hl8 : (s3 n).length = 8 := by rw [show s3 n = digs DD (n ^ 8) 8 from hd]; simp [digs]
    have hv0 := hz2 (s3 n) (fun j hj => hz j (by omega))
    rw [hv0] at hv
    omega
  obtain ⟨k1, k2, k3⟩ := key 0 (by decide) (fun j hj hk => by
      obtain rfl | rfl | rfl | rfl | rfl | rfl | rfl : j = 1 ∨ j = 2 ∨ j = 3 ∨ j = 4 ∨ j = 5 ∨ j = 6 ∨ j = 7 := by omega
      · exact h1
      · exact h2
      · exact h3
      · exact h4
      · exact h5
      · exact h6
      · exact h7) hx0
  rw [show ((64 * 0 : Nat) : Int) = 0 from rfl, Int.zero_add] at k1 k3
  refine pf_ok lg_pre noLoops_ok ((log_run0 n).trans (by rw [wrap_in k3, ← k1])) ?_ rfl
  have u := hu 0 (by decide)
  refine holds_app ?_ hb
  simp only [Holds, List.mem_cons, List.not_mem_nil, or_false, forall_eq_or_imp, forall_eq, lgoPre]
  simp only [u, h1, h2, h3, h4, h5, h6, h7, decide_true, decide_false, and_self]

end Go.Proofs.Ytfbjpenbpbpcaaa

/-
  Chapter 05's logarithm: how long a list of digits is (the reference's long).
-/
namespace Go.Proofs.Ytfbjpenbpbpcaaa
open Go Den
set_option maxRecDepth 100000
set_option linter.unusedSimpArgs false
set_option linter.unusedVariables false

theorem codeOk117 : codeOk (loopAt Try.prog 117 1) = true := by kernel_rfl
theorem loops117f : loopsOf (bodyOf Try.prog 117) = [loopAt Try.prog 117 0, loopAt Try.prog 117 1] := by kernel_rfl
theorem first117 : firstId (loopAt Try.prog 117 0) = 2 := by kernel_rfl

def lnF (b x : Int) (k : Nat) : Slots := [(4, .int .i64 (b + (k : Int))), (5, .int .u64 (x / 2 ^ k))]

theorem ln_step (H : Heap) (lo : Nat) (b x : Int) (k : Nat) (hx : x / 2 ^ k > 0) (hb : inI (b + (k : Int) + 1) = true) : WP Try.prog 31 (loopAt Try.prog 117 1) ⟨lnF b x k, H, lo⟩ .normal ⟨lnF b x (k + 1), H, lo⟩ := by
  have h := WP.run (P := Try.prog) (X := ext) (pre := noPre) (C := noC) (L := noLoops) (N := 300) (nt := 31) progOk extSound noC_sound codeOk117 noLoops_ok (os := [(0, true)]) [4, 5] (F := lnF b x k) (H := H) (lo := lo) (x := .normal)
    (F' := [(4, .int .i64 (IntKind.wrap IntKind.i64 (b + (k : Int) + 1))), (5, .int .u64 (Int.fdiv (x / 2 ^ k) (2 ^ 1)))]) (H' := H) (lo' := lo) (ob := [(decide (x / 2 ^ k > 0), true)]) (by kernel_rfl) (by simp [Holds, hx])
  have e : Int.fdiv (x / 2 ^ k) (2 ^ 1) = x / 2 ^ (k + 1) := by
    rw [Int.fdiv_eq_ediv_of_nonneg _ (by decide), Int.pow_succ 2 k, ← Int.ediv_ediv_of_nonneg (Int.le_of_lt (pow_pos k))]
    rfl
  have e2 : b + ((k + 1 : Nat) : Int) = b + (k : Int) + 1 := by omega
  rw [wrap_in hb, e] at h
  unfold lnF
  rw [e2]
  exact h

theorem ln_end (H : Heap) (lo : Nat) (b x : Int) (k : Nat) (hx : ¬ x / 2 ^ k > 0) : WP Try.prog 31 (loopAt Try.prog 117 1) ⟨lnF b x k, H, lo⟩ (.exit 2) ⟨lnF b x k, H, lo⟩ :=
  WP.run (P := Try.prog) (X := ext) (pre := noPre) (C := noC) (L := noLoops) (N := 300) (nt := 31) progOk extSound noC_sound codeOk117 noLoops_ok (os := [(0, false)]) [4, 5] (ob := [(decide (x / 2 ^ k > 0), false)]) (by kernel_rfl) (by simp [Holds, hx])

theorem ln_loop (H : Heap) (lo : Nat) (b x : Int) (h0 : 0 ≤ x) (h1 : x < 4294967296) (hb : 0 ≤ b ∧ b ≤ 1000) : WP Try.prog 31 (.loop (loopAt Try.prog 117 1)) ⟨lnF b x 0, H, lo⟩ (.exit 2) ⟨lnF b x (lenZ x).toNat, H, lo⟩ := by
  obtain ⟨l0, l1, l2⟩ := lenZ_le h0 (by omega)
  refine WP.loop (fun k => ⟨lnF b x k, H, lo⟩) (lenZ x).toNat (by simp) (fun k hk => ln_step H lo b x k ?_ (inI_iff.2 (by omega))) (ln_end H lo b x _ ?_)
  · rcases Int.lt_or_le 0 x with h | h
    · obtain ⟨j, e, k1, k2⟩ := lenZ_spec h
      have hkj : k ≤ j := by omega
      have hp : (2 : Int) ^ k ≤ 2 ^ j := by
        have h1 : (2 : Nat) ^ k ≤ 2 ^ j := Nat.pow_le_pow_right (by decide) hkj
        have h2 : ((2 ^ k : Nat) : Int) ≤ ((2 ^ j : Nat) : Int) := Int.ofNat_le.2 h1
        simpa using h2
      have p := pow_pos k
      have := Int.le_ediv_of_mul_le p (a := 1) (b := x) (by omega)
      omega
    · have : x = 0 := by omega
      subst this
      simp [lenZ] at hk
  · rw [Int.ediv_eq_zero_of_lt h0 l2]
    simp

noncomputable def lnN (H : Heap) (lo : Nat) (b x : Int) (L : Nat) : Loops := { loop := sumL 7 ⟨lnF b x 0, H, lo⟩ (.exit 2) ⟨lnF b x L, H, lo⟩ }

theorem lnN_ok (H : Heap) (lo : Nat) (b x : Int) (h0 : 0 ≤ x) (h1 : x < 4294967296) (hb : 0 ≤ b ∧ b ≤ 1000) : LoopsOk Try.prog (ntOf Try.prog 117 1) (lnN H lo b x (lenZ x).toNat) (bodyOf Try.prog 117) := LoopsOk.sum rfl (by
  intro c hc hid
  rw [loops117f] at hc
  simp only [List.mem_cons, List.not_mem_nil, or_false] at hc
  rcases hc with rfl | rfl
  · rw [first117] at hid; simp at hid
  · exact ln_loop H lo b x h0 h1 hb)

theorem long_run15 (b0 : Bool) (h1 : Option Nat) (L : Nat) (x0 x1 x2 x3 x4 x5 x6 x7 x8 x9 x10 x11 x12 x13 x14 x15 : Int) : evFnL Try.prog ext 300 noPre noC (lnN [⟨b0, h1, [x0, x1, x2, x3, x4, x5, x6, x7, x8, x9, x10, x11, x12, x13, x14, x15].map (.int .u64)⟩] 1 480 x15 L) [(1, true)] 117 [.slice (some ⟨0, 0, none⟩) 16 16] [⟨b0, h1, [x0, x1, x2, x3, x4, x5, x6, x7, x8, x9, x10, x11, x12, x13, x14, x15].map (.int .u64)⟩] =
    some ((.int .i64 (480 + (L : Int)), [⟨b0, h1, [x0, x1, x2, x3, x4, x5, x6, x7, x8, x9, x10, x11, x12, x13, x14, x15].map (.int .u64)⟩], 1), [(cdec ([(4, .int .i64 480), (5, .int .u64 x15)] = lnF 480 x15 0), true), (cdec ([(⟨b0, h1, [x0, x1, x2, x3, x4, x5, x6, x7, x8, x9, x10, x11, x12, x13, x14, x15].map (.int .u64)⟩ : Blk)] = [⟨b0, h1, [x0, x1, x2, x3, x4, x5, x6, x7, x8, x9, x10, x11, x12, x13, x14, x15].map (.int .u64)⟩]), true), (cdec (1 = 1), true), (decide (x15 > 0), true)]) := by kernel_rfl
theorem long_run14 (b0 : Bool) (h1 : Option Nat) (L : Nat) (x0 x1 x2 x3 x4 x5 x6 x7 x8 x9 x10 x11 x12 x13 x14 x15 : Int) : evFnL Try.prog ext 300 noPre noC (lnN [⟨b0, h1, [x0, x1, x2, x3, x4, x5, x6, x7, x8, x9, x10, x11, x12, x13, x14, x15].map (.int .u64)⟩] 1 448 x14 L) [(1, false), (1, true)] 117 [.slice (some ⟨0, 0, none⟩) 16 16] [⟨b0, h1, [x0, x1, x2, x3, x4, x5, x6, x7, x8, x9, x10, x11, x12, x13, x14, x15].map (.int .u64)⟩] =
    some ((.int .i64 (448 + (L : Int)), [⟨b0, h1, [x0, x1, x2, x3, x4, x5, x6, x7, x8, x9, x10, x11, x12, x13, x14, x15].map (.int .u64)⟩], 1), [(cdec ([(4, .int .i64 448), (5, .int .u64 x14)] = lnF 448 x14 0), true), (cdec ([(⟨b0, h1, [x0, x1, x2, x3, x4, x5, x6, x7, x8, x9, x10, x11, x12, x13, x14, x15].map (.int .u64)⟩ : Blk)] = [⟨b0, h1, [x0, x1, x2, x3, x4, x5, x6, x7, x8, x9, x10, x11, x12, x13, x14, x15].map (.int .u64)⟩]), true), (cdec (1 = 1), true), (decide (x14 > 0), true), (decide (x15 > 0), false)]) := by kernel_rfl
theorem long_run13 (b0 : Bool) (h1 : Option Nat) (L : Nat) (x0 x1 x2 x3 x4 x5 x6 x7 x8 x9 x10 x11 x12 x13 x14 x15 : Int) : evFnL Try.prog ext 300 noPre noC (lnN [⟨b0, h1, [x0, x1, x2, x3, x4, x5, x6, x7, x8, x9, x10, x11, x12, x13, x14, x15].map (.int .u64)⟩] 1 416 x13 L) [(1, false), (1, false), (1, true)] 117 [.slice (some ⟨0, 0, none⟩) 16 16] [⟨b0, h1, [x0, x1, x2, x3, x4, x5, x6, x7, x8, x9, x10, x11, x12, x13, x14, x15].map (.int .u64)⟩] =
    some ((.int .i64 (416 + (L : Int)), [⟨b0, h1, [x0, x1, x2, x3, x4, x5, x6, x7, x8, x9, x10, x11, x12, x13, x14, x15].map (.int .u64)⟩], 1), [(cdec ([(4, .int .i64 416), (5, .int .u64 x13)] = lnF 416 x13 0), true), (cdec ([(⟨b0, h1, [x0, x1, x2, x3, x4, x5, x6, x7, x8, x9, x10, x11, x12, x13, x14, x15].map (.int .u64)⟩ : Blk)] = [⟨b0, h1, [x0, x1, x2, x3, x4, x5, x6, x7, x8, x9, x10, x11, x12, x13, x14, x15].map (.int .u64)⟩]), true), (cdec (1 = 1), true), (decide (x13 > 0), true), (decide (x14 > 0), false), (decide (x15 > 0), false)]) := by kernel_rfl
theorem long_run12 (b0 : Bool) (h1 : Option Nat) (L : Nat) (x0 x1 x2 x3 x4 x5 x6 x7 x8 x9 x10 x11 x12 x13 x14 x15 : Int) : evFnL Try.prog ext 300 noPre noC (lnN [⟨b0, h1, [x0, x1, x2, x3, x4, x5, x6, x7, x8, x9, x10, x11, x12, x13, x14, x15].map (.int .u64)⟩] 1 384 x12 L) [(1, false), (1, false), (1, false), (1, true)] 117 [.slice (some ⟨0, 0, none⟩) 16 16] [⟨b0, h1, [x0, x1, x2, x3, x4, x5, x6, x7, x8, x9, x10, x11, x12, x13, x14, x15].map (.int .u64)⟩] =
    some ((.int .i64 (384 + (L : Int)), [⟨b0, h1, [x0, x1, x2, x3, x4, x5, x6, x7, x8, x9, x10, x11, x12, x13, x14, x15].map (.int .u64)⟩], 1), [(cdec ([(4, .int .i64 384), (5, .int .u64 x12)] = lnF 384 x12 0), true), (cdec ([(⟨b0, h1, [x0, x1, x2, x3, x4, x5, x6, x7, x8, x9, x10, x11, x12, x13, x14, x15].map (.int .u64)⟩ : Blk)] = [⟨b0, h1, [x0, x1, x2, x3, x4, x5, x6, x7, x8, x9, x10, x11, x12, x13, x14, x15].map (.int .u64)⟩]), true), (cdec (1 = 1), true), (decide (x12 > 0), true), (decide (x13 > 0), false), (decide (x14 > 0), false), (decide (x15 > 0), false)]) := by kernel_rfl
theorem long_run11 (b0 : Bool) (h1 : Option Nat) (L : Nat) (x0 x1 x2 x3 x4 x5 x6 x7 x8 x9 x10 x11 x12 x13 x14 x15 : Int) : evFnL Try.prog ext 300 noPre noC (lnN [⟨b0, h1, [x0, x1, x2, x3, x4, x5, x6, x7, x8, x9, x10, x11, x12, x13, x14, x15].map (.int .u64)⟩] 1 352 x11 L) [(1, false), (1, false), (1, false), (1, false), (1, true)] 117 [.slice (some ⟨0, 0, none⟩) 16 16] [⟨b0, h1, [x0, x1, x2, x3, x4, x5, x6, x7, x8, x9, x10, x11, x12, x13, x14, x15].map (.int .u64)⟩] =
    some ((.int .i64 (352 + (L : Int)), [⟨b0, h1, [x0, x1, x2, x3, x4, x5, x6, x7, x8, x9, x10, x11, x12, x13, x14, x15].map (.int .u64)⟩], 1), [(cdec ([(4, .int .i64 352), (5, .int .u64 x11)] = lnF 352 x11 0), true), (cdec ([(⟨b0, h1, [x0, x1, x2, x3, x4, x5, x6, x7, x8, x9, x10, x11, x12, x13, x14, x15].map (.int .u64)⟩ : Blk)] = [⟨b0, h1, [x0, x1, x2, x3, x4, x5, x6, x7, x8, x9, x10, x11, x12, x13, x14, x15].map (.int .u64)⟩]), true), (cdec (1 = 1), true), (decide (x11 > 0), true), (decide (x12 > 0), false), (decide (x13 > 0), false), (decide (x14 > 0), false), (decide (x15 > 0), false)]) := by kernel_rfl
theorem long_run10 (b0 : Bool) (h1 : Option Nat) (L : Nat) (x0 x1 x2 x3 x4 x5 x6 x7 x8 x9 x10 x11 x12 x13 x14 x15 : Int) : evFnL Try.prog ext 300 noPre noC (lnN [⟨b0, h1, [x0, x1, x2, x3, x4, x5, x6, x7, x8, x9, x10, x11, x12, x13, x14, x15].map (.int .u64)⟩] 1 320 x10 L) [(1, false), (1, false), (1, false), (1, false), (1, false), (1, true)] 117 [.slice (some ⟨0, 0, none⟩) 16 16] [⟨b0, h1, [x0, x1, x2, x3, x4, x5, x6, x7, x8, x9, x10, x11, x12, x13, x14, x15].map (.int .u64)⟩] =
    some ((.int .i64 (320 + (L : Int)), [⟨b0, h1, [x0, x1, x2, x3, x4, x5, x6, x7, x8, x9, x10, x11, x12, x13, x14, x15].map (.int .u64)⟩], 1), [(cdec ([(4, .int .i64 320), (5, .int .u64 x10)] = lnF 320 x10 0), true), (cdec ([(⟨b0, h1, [x0, x1, x2, x3, x4, x5, x6, x7, x8, x9, x10, x11, x12, x13, x14, x15].map (.int .u64)⟩ : Blk)] = [⟨b0, h1, [x0, x1, x2, x3, x4, x5, x6, x7, x8, x9, x10, x11, x12, x13, x14, x15].map (.int .u64)⟩]), true), (cdec (1 = 1), true), (decide (x10 > 0), true), (decide (x11 > 0), false), (decide (x12 > 0), false), (decide (x13 > 0), false), (decide (x14 > 0), false), (decide (x15 > 0), false)]) := by kernel_rfl
theorem long_run9 (b0 : Bool) (h1 : Option Nat) (L : Nat) (x0 x1 x2 x3 x4 x5 x6 x7 x8 x9 x10 x11 x12 x13 x14 x15 : Int) : evFnL Try.prog ext 300 noPre noC (lnN [⟨b0, h1, [x0, x1, x2, x3, x4, x5, x6, x7, x8, x9, x10, x11, x12, x13, x14, x15].map (.int .u64)⟩] 1 288 x9 L) [(1, false), (1, false), (1, false), (1, false), (1, false), (1, false), (1, true)] 117 [.slice (some ⟨0, 0, none⟩) 16 16] [⟨b0, h1, [x0, x1, x2, x3, x4, x5, x6, x7, x8, x9, x10, x11, x12, x13, x14, x15].map (.int .u64)⟩] =
    some ((.int .i64 (288 + (L : Int)), [⟨b0, h1, [x0, x1, x2, x3, x4, x5, x6, x7, x8, x9, x10, x11, x12, x13, x14, x15].map (.int .u64)⟩], 1), [(cdec ([(4, .int .i64 288), (5, .int .u64 x9)] = lnF 288 x9 0), true), (cdec ([(⟨b0, h1, [x0, x1, x2, x3, x4, x5, x6, x7, x8, x9, x10, x11, x12, x13, x14, x15].map (.int .u64)⟩ : Blk)] = [⟨b0, h1, [x0, x1, x2, x3, x4, x5, x6, x7, x8, x9, x10, x11, x12, x13, x14, x15].map (.int .u64)⟩]), true), (cdec (1 = 1), true), (decide (x9 > 0), true), (decide (x10 > 0), false), (decide (x11 > 0), false), (decide (x12 > 0), false), (decide (x13 > 0), false), (decide (x14 > 0), false), (decide (x15 > 0), false)]) := by kernel_rfl
theorem long_run8 (b0 : Bool) (h1 : Option Nat) (L : Nat) (x0 x1 x2 x3 x4 x5 x6 x7 x8 x9 x10 x11 x12 x13 x14 x15 : Int) : evFnL Try.prog ext 300 noPre noC (lnN [⟨b0, h1, [x0, x1, x2, x3, x4, x5, x6, x7, x8, x9, x10, x11, x12, x13, x14, x15].map (.int .u64)⟩] 1 256 x8 L) [(1, false), (1, false), (1, false), (1, false), (1, false), (1, false), (1, false), (1, true)] 117 [.slice (some ⟨0, 0, none⟩) 16 16] [⟨b0, h1, [x0, x1, x2, x3, x4, x5, x6, x7, x8, x9, x10, x11, x12, x13, x14, x15].map (.int .u64)⟩] =
    some ((.int .i64 (256 + (L : Int)), [⟨b0, h1, [x0, x1, x2, x3, x4, x5, x6, x7, x8, x9, x10, x11, x12, x13, x14, x15].map (.int .u64)⟩], 1), [(cdec ([(4, .int .i64 256), (5, .int .u64 x8)] = lnF 256 x8 0), true), (cdec ([(⟨b0, h1, [x0, x1, x2, x3, x4, x5, x6, x7, x8, x9, x10, x11, x12, x13, x14, x15].map (.int .u64)⟩ : Blk)] = [⟨b0, h1, [x0, x1, x2, x3, x4, x5, x6, x7, x8, x9, x10, x11, x12, x13, x14, x15].map (.int .u64)⟩]), true), (cdec (1 = 1), true), (decide (x8 > 0), true), (decide (x9 > 0), false), (decide (x10 > 0), false), (decide (x11 > 0), false), (decide (x12 > 0), false), (decide (x13 > 0), false), (decide (x14 > 0), false), (decide (x15 > 0), false)]) := by kernel_rfl
theorem long_run7 (b0 : Bool) (h1 : Option Nat) (L : Nat) (x0 x1 x2 x3 x4 x5 x6 x7 x8 x9 x10 x11 x12 x13 x14 x15 : Int) : evFnL Try.prog ext 300 noPre noC (lnN [⟨b0, h1, [x0, x1, x2, x3, x4, x5, x6, x7, x8, x9, x10, x11, x12, x13, x14, x15].map (.int .u64)⟩] 1 224 x7 L) [(1, false), (1, false), (1, false), (1, false), (1, false), (1, false), (1, false), (1, false), (1, true)] 117 [.slice (some ⟨0, 0, none⟩) 16 16] [⟨b0, h1, [x0, x1, x2, x3, x4, x5, x6, x7, x8, x9, x10, x11, x12, x13, x14, x15].map (.int .u64)⟩] =
    some ((.int .i64 (224 + (L : Int)), [⟨b0, h1, [x0, x1, x2, x3, x4, x5, x6, x7, x8, x9, x10, x11, x12, x13, x14, x15].map (.int .u64)⟩], 1), [(cdec ([(4, .int .i64 224), (5, .int .u64 x7)] = lnF 224 x7 0), true), (cdec ([(⟨b0, h1, [x0, x1, x2, x3, x4, x5, x6, x7, x8, x9, x10, x11, x12, x13, x14, x15].map (.int .u64)⟩ : Blk)] = [⟨b0, h1, [x0, x1, x2, x3, x4, x5, x6, x7, x8, x9, x10, x11, x12, x13, x14, x15].map (.int .u64)⟩]), true), (cdec (1 = 1), true), (decide (x7 > 0), true), (decide (x8 > 0), false), (decide (x9 > 0), false), (decide (x10 > 0), false), (decide (x11 > 0), false), (decide (x12 > 0), false), (decide (x13 > 0), false), (decide (x14 > 0), false), (decide (x15 > 0), false)]) := by kernel_rfl
theorem long_run6 (b0 : Bool) (h1 : Option Nat) (L : Nat) (x0 x1 x2 x3 x4 x5 x6 x7 x8 x9 x10 x11 x12 x13 x14 x15 : Int) : evFnL Try.prog ext 300 noPre noC (lnN [⟨b0, h1, [x0, x1, x2, x3, x4, x5, x6, x7, x8, x9, x10, x11, x12, x13, x14, x15].map (.int .u64)⟩] 1 192 x6 L) [(1, false), (1, false), (1, false), (1, false), (1, false), (1, false), (1, false), (1, false), (1, false), (1, true)] 117 [.slice (some ⟨0, 0, none⟩) 16 16] [⟨b0, h1, [x0, x1, x2, x3, x4, x5, x6, x7, x8, x9, x10, x11, x12, x13, x14, x15].map (.int .u64)⟩] =
    some ((.int .i64 (192 + (L : Int)), [⟨b0, h1, [x0, x1, x2, x3, x4, x5, x6, x7, x8, x9, x10, x11, x12, x13, x14, x15].map (.int .u64)⟩], 1), [(cdec ([(4, .int .i64 192), (5, .int .u64 x6)] = lnF 192 x6 0), true), (cdec ([(⟨b0, h1, [x0, x1, x2, x3, x4, x5, x6, x7, x8, x9, x10, x11, x12, x13, x14, x15].map (.int .u64)⟩ : Blk)] = [⟨b0, h1, [x0, x1, x2, x3, x4, x5, x6, x7, x8, x9, x10, x11, x12, x13, x14, x15].map (.int .u64)⟩]), true), (cdec (1 = 1), true), (decide (x6 > 0), true), (decide (x7 > 0), false), (decide (x8 > 0), false), (decide (x9 > 0), false), (decide (x10 > 0), false), (decide (x11 > 0), false), (decide (x12 > 0), false), (decide (x13 > 0), false), (decide (x14 > 0), false), (decide (x15 > 0), false)]) := by kernel_rfl
theorem long_run5 (b0 : Bool) (h1 : Option Nat) (L : Nat) (x0 x1 x2 x3 x4 x5 x6 x7 x8 x9 x10 x11 x12 x13 x14 x15 : Int) : evFnL Try.prog ext 300 noPre noC (lnN [⟨b0, h1, [x0, x1, x2, x3, x4, x5, x6, x7, x8, x9, x10, x11, x12, x13, x14, x15].map (.int .u64)⟩] 1 160 x5 L) [(1, false), (1, false), (1, false), (1, false), (1, false), (1, false), (1, false), (1, false), (1, false), (1, false), (1, true)] 117 [.slice (some ⟨0, 0, none⟩) 16 16] [⟨b0, h1, [x0, x1, x2, x3, x4, x5, x6, x7, x8, x9, x10, x11, x12, x13, x14, x15].map (.int .u64)⟩] =
    some ((.int .i64 (160 + (L : Int)), [⟨b0, h1, [x0, x1, x2, x3, x4, x5, x6, x7, x8, x9, x10, x11, x12, x13, x14, x15].map (.int .u64)⟩], 1), [(cdec ([(4, .int .i64 160), (5, .int .u64 x5)] = lnF 160 x5 0), true), (cdec ([(⟨b0, h1, [x0, x1, x2, x3, x4, x5, x6, x7, x8, x9, x10, x11, x12, x13, x14, x15].map (.int .u64)⟩ : Blk)] = [⟨b0, h1, [x0, x1, x2, x3, x4, x5, x6, x7, x8, x9, x10, x11, x12, x13, x14, x15].map (.int .u64)⟩]), true), (cdec (1 = 1), true), (decide (x5 > 0), true), (decide (x6 > 0), false), (decide (x7 > 0), false), (decide (x8 > 0), false), (decide (x9 > 0), false), (decide (x10 > 0), false), (decide (x11 > 0), false), (decide (x12 > 0), false), (decide (x13 > 0), false), (decide (x14 > 0), false), (decide (x15 > 0), false)]) := by kernel_rfl
theorem long_run4 (b0 : Bool) (h1 : Option Nat) (L : Nat) (x0 x1 x2 x3 x4 x5 x6 x7 x8 x9 x10 x11 x12 x13 x14 x15 : Int) : evFnL Try.prog ext 300 noPre noC (lnN [⟨b0, h1, [x0, x1, x2, x3, x4, x5, x6, x7, x8, x9, x10, x11, x12, x13, x14, x15].map (.int .u64)⟩] 1 128 x4 L) [(1, false), (1, false), (1, false), (1, false), (1, false), (1, false), (1, false), (1, false), (1, false), (1, false), (1, false), (1, true)] 117 [.slice (some ⟨0, 0, none⟩) 16 16] [⟨b0, h1, [x0, x1, x2, x3, x4, x5, x6, x7, x8, x9, x10, x11, x12, x13, x14, x15].map (.int .u64)⟩] =
    some ((.int .i64 (128 + (L : Int)), [⟨b0, h1, [x0, x1, x2, x3, x4, x5, x6, x7, x8, x9, x10, x11, x12, x13, x14, x15].map (.int .u64)⟩], 1), [(cdec ([(4, .int .i64 128), (5, .int .u64 x4)] = lnF 128 x4 0), true), (cdec ([(⟨b0, h1, [x0, x1, x2, x3, x4, x5, x6, x7, x8, x9, x10, x11, x12, x13, x14, x15].map (.int .u64)⟩ : Blk)] = [⟨b0, h1, [x0, x1, x2, x3, x4, x5, x6, x7, x8, x9, x10, x11, x12, x13, x14, x15].map (.int .u64)⟩]), true), (cdec (1 = 1), true), (decide (x4 > 0), true), (decide (x5 > 0), false), (decide (x6 > 0), false), (decide (x7 > 0), false), (decide (x8 > 0), false), (decide (x9 > 0), false), (decide (x10 > 0), false), (decide (x11 > 0), false), (decide (x12 > 0), false), (decide (x13 > 0), false), (decide (x14 > 0), false), (decide (x15 > 0), false)]) := by kernel_rfl
theorem long_run3 (b0 : Bool) (h1 : Option Nat) (L : Nat) (x0 x1 x2 x3 x4 x5 x6 x7 x8 x9 x10 x11 x12 x13 x14 x15 : Int) : evFnL Try.prog ext 300 noPre noC (lnN [⟨b0, h1, [x0, x1, x2, x3, x4, x5, x6, x7, x8, x9, x10, x11, x12, x13, x14, x15].map (.int .u64)⟩] 1 96 x3 L) [(1, false), (1, false), (1, false), (1, false), (1, false), (1, false), (1, false), (1, false), (1, false), (1, false), (1, false), (1, false), (1, true)] 117 [.slice (some ⟨0, 0, none⟩) 16 16] [⟨b0, h1, [x0, x1, x2, x3, x4, x5, x6, x7, x8, x9, x10, x11, x12, x13, x14, x15].map (.int .u64)⟩] =
    some ((.int .i64 (96 + (L : Int)), [⟨b0, h1, [x0, x1, x2, x3, x4, x5, x6, x7, x8, x9, x10, x11, x12, x13, x14, x15].map (.int .u64)⟩], 1), [(cdec ([(4, .int .i64 96), (5, .int .u64 x3)] = lnF 96 x3 0), true), (cdec ([(⟨b0, h1, [x0, x1, x2, x3, x4, x5, x6, x7, x8, x9, x10, x11, x12, x13, x14, x15].map (.int .u64)⟩ : Blk)] = [⟨b0, h1, [x0, x1, x2, x3, x4, x5, x6, x7, x8, x9, x10, x11, x12, x13, x14, x15].map (.int .u64)⟩]), true), (cdec (1 = 1), true), (decide (x3 > 0), true), (decide (x4 > 0), false), (decide (x5 > 0), false), (decide (x6 > 0), false), (decide (x7 > 0), false), (decide (x8 > 0), false), (decide (x9 > 0), false), (decide (x10 > 0), false), (decide (x11 > 0), false), (decide (x12 > 0), false), (decide (x13 > 0), false), (decide (x14 > 0), false), (decide (x15 > 0), false)]) := by kernel_rfl
theorem long_run2 (b0 : Bool) (h1 : Option Nat) (L : Nat) (x0 x1 x2 x3 x4 x5 x6 x7 x8 x9 x10 x11 x12 x13 x14 x15 : Int) : evFnL Try.prog ext 300 noPre noC (lnN [⟨b0, h1, [x0, x1, x2, x3, x4, x5, x6, x7, x8, x9, x10, x11, x12, x13, x14, x15].map (.int .u64)⟩] 1 64 x2 L) [(1, false), (1, false), (1, false), (1, false), (1, false), (1, false), (1, false), (1, false), (1, false), (1, false), (1, false), (1, false), (1, false), (1, true)] 117 [.slice (some ⟨0, 0, none⟩) 16 16] [⟨b0, h1, [x0, x1, x2, x3, x4, x5, x6, x7, x8, x9, x10, x11, x12, x13, x14, x15].map (.int .u64)⟩] =
    some ((.int .i64 (64 + (L : Int)), [⟨b0, h1, [x0, x1, x2, x3, x4, x5, x6, x7, x8, x9, x10, x11, x12, x13, x14, x15].map (.int .u64)⟩], 1), [(cdec ([(4, .int .i64 64), (5, .int .u64 x2)] = lnF 64 x2 0), true), (cdec ([(⟨b0, h1, [x0, x1, x2, x3, x4, x5, x6, x7, x8, x9, x10, x11, x12, x13, x14, x15].map (.int .u64)⟩ : Blk)] = [⟨b0, h1, [x0, x1, x2, x3, x4, x5, x6, x7, x8, x9, x10, x11, x12, x13, x14, x15].map (.int .u64)⟩]), true), (cdec (1 = 1), true), (decide (x2 > 0), true), (decide (x3 > 0), false), (decide (x4 > 0), false), (decide (x5 > 0), false), (decide (x6 > 0), false), (decide (x7 > 0), false), (decide (x8 > 0), false), (decide (x9 > 0), false), (decide (x10 > 0), false), (decide (x11 > 0), false), (decide (x12 > 0), false), (decide (x13 > 0), false), (decide (x14 > 0), false), (decide (x15 > 0), false)]) := by kernel_rfl
theorem long_run1 (b0 : Bool) (h1 : Option Nat) (L : Nat) (x0 x1 x2 x3 x4 x5 x6 x7 x8 x9 x10 x11 x12 x13 x14 x15 : Int) : evFnL Try.prog ext 300 noPre noC (lnN [⟨b0, h1, [x0, x1, x2, x3, x4, x5, x6, x7, x8, x9, x10, x11, x12, x13, x14, x15].map (.int .u64)⟩] 1 32 x1 L) [(1, false), (1, false), (1, false), (1, false), (1, false), (1, false), (1, false), (1, false), (1, false), (1, false), (1, false), (1, false), (1, false), (1, false), (1, true)] 117 [.slice (some ⟨0, 0, none⟩) 16 16] [⟨b0, h1, [x0, x1, x2, x3, x4, x5, x6, x7, x8, x9, x10, x11, x12, x13, x14, x15].map (.int .u64)⟩] =
    some ((.int .i64 (32 + (L : Int)), [⟨b0, h1, [x0, x1, x2, x3, x4, x5, x6, x7, x8, x9, x10, x11, x12, x13, x14, x15].map (.int .u64)⟩], 1), [(cdec ([(4, .int .i64 32), (5, .int .u64 x1)] = lnF 32 x1 0), true), (cdec ([(⟨b0, h1, [x0, x1, x2, x3, x4, x5, x6, x7, x8, x9, x10, x11, x12, x13, x14, x15].map (.int .u64)⟩ : Blk)] = [⟨b0, h1, [x0, x1, x2, x3, x4, x5, x6, x7, x8, x9, x10, x11, x12, x13, x14, x15].map (.int .u64)⟩]), true), (cdec (1 = 1), true), (decide (x1 > 0), true), (decide (x2 > 0), false), (decide (x3 > 0), false), (decide (x4 > 0), false), (decide (x5 > 0), false), (decide (x6 > 0), false), (decide (x7 > 0), false), (decide (x8 > 0), false), (decide (x9 > 0), false), (decide (x10 > 0), false), (decide (x11 > 0), false), (decide (x12 > 0), false), (decide (x13 > 0), false), (decide (x14 > 0), false), (decide (x15 > 0), false)]) := by kernel_rfl
theorem long_run0 (b0 : Bool) (h1 : Option Nat) (L : Nat) (x0 x1 x2 x3 x4 x5 x6 x7 x8 x9 x10 x11 x12 x13 x14 x15 : Int) : evFnL Try.prog ext 300 noPre noC (lnN [⟨b0, h1, [x0, x1, x2, x3, x4, x5, x6, x7, x8, x9, x10, x11, x12, x13, x14, x15].map (.int .u64)⟩] 1 0 x0 L) [(1, false), (1, false), (1, false), (1, false), (1, false), (1, false), (1, false), (1, false), (1, false), (1, false), (1, false), (1, false), (1, false), (1, false), (1, false), (1, true)] 117 [.slice (some ⟨0, 0, none⟩) 16 16] [⟨b0, h1, [x0, x1, x2, x3, x4, x5, x6, x7, x8, x9, x10, x11, x12, x13, x14, x15].map (.int .u64)⟩] =
    some ((.int .i64 (0 + (L : Int)), [⟨b0, h1, [x0, x1, x2, x3, x4, x5, x6, x7, x8, x9, x10, x11, x12, x13, x14, x15].map (.int .u64)⟩], 1), [(cdec ([(4, .int .i64 0), (5, .int .u64 x0)] = lnF 0 x0 0), true), (cdec ([(⟨b0, h1, [x0, x1, x2, x3, x4, x5, x6, x7, x8, x9, x10, x11, x12, x13, x14, x15].map (.int .u64)⟩ : Blk)] = [⟨b0, h1, [x0, x1, x2, x3, x4, x5, x6, x7, x8, x9, x10, x11, x12, x13, x14, x15].map (.int .u64)⟩]), true), (cdec (1 = 1), true), (decide (x0 > 0), true), (decide (x1 > 0), false), (decide (x2 > 0), false), (decide (x3 > 0), false), (decide (x4 > 0), false), (decide (x5 > 0), false), (decide (x6 > 0), false), (decide (x7 > 0), false), (decide (x8 > 0), false), (decide (x9 > 0), false), (decide (x10 > 0), false), (decide (x11 > 0), false), (decide (x12 > 0), false), (decide (x13 > 0), false), (decide (x14 > 0), false), (decide (x15 > 0), false)]) := by kernel_rfl
theorem long_none (b0 : Bool) (h1 : Option Nat) (x0 x1 x2 x3 x4 x5 x6 x7 x8 x9 x10 x11 x12 x13 x14 x15 : Int) : evFnL Try.prog ext 300 noPre noC noLoops [(1, false), (1, false), (1, false), (1, false), (1, false), (1, false), (1, false), (1, false), (1, false), (1, false), (1, false), (1, false), (1, false), (1, false), (1, false), (1, false)] 117 [.slice (some ⟨0, 0, none⟩) 16 16] [⟨b0, h1, [x0, x1, x2, x3, x4, x5, x6, x7, x8, x9, x10, x11, x12, x13, x14, x15].map (.int .u64)⟩] =
    some ((.int .i64 0, [⟨b0, h1, [x0, x1, x2, x3, x4, x5, x6, x7, x8, x9, x10, x11, x12, x13, x14, x15].map (.int .u64)⟩], 1), [(decide (x0 > 0), false), (decide (x1 > 0), false), (decide (x2 > 0), false), (decide (x3 > 0), false), (decide (x4 > 0), false), (decide (x5 > 0), false), (decide (x6 > 0), false), (decide (x7 > 0), false), (decide (x8 > 0), false), (decide (x9 > 0), false), (decide (x10 > 0), false), (decide (x11 > 0), false), (decide (x12 > 0), false), (decide (x13 > 0), false), (decide (x14 > 0), false), (decide (x15 > 0), false)]) := by kernel_rfl

end Go.Proofs.Ytfbjpenbpbpcaaa

/-
  Chapter 05's logarithm: the contract of the reference's long; the reference's Log.
-/
namespace Go.Proofs.Ytfbjpenbpbpcaaa
open Go Den
set_option maxRecDepth 100000
set_option linter.unusedSimpArgs false
set_option linter.unusedVariables false

theorem valD_lt (D : Int) (hD : 0 < D) : ∀ (l : List Int), inD D l → 0 ≤ valD D l ∧ valD D l < D ^ l.length := by
  intro l
  induction l with
  | nil => intro _; exact ⟨Int.le_refl _, by simp [valD]⟩
  | cons x l ih =>
    intro h
    have hx := h 0
    simp at hx
    obtain ⟨i1, i2⟩ := ih fun j => by have := h (j + 1); simpa using this
    simp only [valD, List.length_cons]
    rw [Int.pow_succ]
    refine ⟨by have := Int.mul_nonneg (Int.le_of_lt hD) i1; omega, ?_⟩
    have h3 : D * valD D l ≤ D * (D ^ l.length - 1) := Int.mul_le_mul_of_nonneg_left (by omega) (Int.le_of_lt hD)
    rw [Int.mul_sub, Int.mul_one] at h3
    rw [Int.mul_comm (D ^ l.length) D]
    omega

theorem long_ok (b0 : Bool) (h1 : Option Nat) (xs : List Int) (hx : inD D32 xs) (hm : xs.length = 16) :
    CallOk Try.prog 117 [.slice (some ⟨0, 0, none⟩) 16 16] [⟨b0, h1, xs.map (.int .u64)⟩] (.int .i64 (lenZ (valD D32 xs))) [⟨b0, h1, xs.map (.int .u64)⟩] 1 := by
  obtain ⟨p0, p1⟩ := valD_lt D32 (by decide) xs hx
  have e32 : D32 = 2 ^ 32 := by decide
  rw [hm] at p1
  have hg : ∀ j, j < 16 → xs.getD j 0 = valD D32 xs / (2 ^ 32) ^ j % (2 ^ 32) := fun j hj => by rw [← e32]; exact valD_dig D32 (by decide) xs hx j (by omega)
  have key : ∀ i, i < 16 → (∀ j, i < j → j < 16 → ¬ xs.getD j 0 > 0) → xs.getD i 0 > 0 → lenZ (valD D32 xs) = ((32 * i : Nat) : Int) + lenZ (xs.getD i 0) ∧ (((lenZ (xs.getD i 0)).toNat : Nat) : Int) = lenZ (xs.getD i 0) ∧ 0 ≤ xs.getD i 0 ∧ xs.getD i 0 < 4294967296 := by
    intro i hi hz hp
    have hb := hx i
    have hl := lenZ_le (n := xs.getD i 0) hb.1 (by simp only [D32] at hb; omega)
    have e := lenZ_digs 32 (valD D32 xs) p0 i (15 - i) (by rw [← e32, show i + 1 + (15 - i) = 16 by omega]; exact p1) (fun j hj hk => by
      have h2 := hz j hj (by omega)
      have h3 := (hx j).1
      rw [← hg j (by omega)]
      omega) (by rw [← hg i hi]; exact hp)
    rw [← hg i hi] at e
    simp only [D32] at hb
    exact ⟨e, by omega, hb.1, hb.2⟩
  clear hg
  obtain ⟨x0, x1, x2, x3, x4, x5, x6, x7, x8, x9, x10, x11, x12, x13, x14, x15, rfl⟩ : ∃ x0 x1 x2 x3 x4 x5 x6 x7 x8 x9 x10 x11 x12 x13 x14 x15, xs = [x0, x1, x2, x3, x4, x5, x6, x7, x8, x9, x10, x11, x12, x13, x14, x15] := by match xs, hm with | [x0, x1, x2, x3, x4, x5, x6, x7, x8, x9, x10, x11, x12, x13, x14, x15], _ => exact ⟨x0, x1, x2, x3, x4, x5, x6, x7, x8, x9, x10, x11, x12, x13, x14, x15, rfl⟩
  by_cases h15' : x15 > 0
  · obtain ⟨k1, k2, k3, k4⟩ := key 15 (by decide) (fun j hj hk => by
      omega) h15'
    simp only [List.getD_cons_succ, List.getD_cons_zero] at k1 k2 k3 k4
    have hr := fnL_ok progOk extSound noC_sound (lnN_ok _ 1 480 x15 k3 k4 (by omega)) (long_run15 b0 h1 (lenZ x15).toNat x0 x1 x2 x3 x4 x5 x6 x7 x8 x9 x10 x11 x12 x13 x14 x15) (by
      simp only [Holds, cdec, lnF, h15', decide_true, decide_false]
      simp)
    rw [k1]
    rw [k2] at hr
    exact hr
  by_cases h14' : x14 > 0
  · obtain ⟨k1, k2, k3, k4⟩ := key 14 (by decide) (fun j hj hk => by
      obtain rfl : j = 15 := by omega
      exact h15') h14'
    simp only [List.getD_cons_succ, List.getD_cons_zero] at k1 k2 k3 k4
    have hr := fnL_ok progOk extSound noC_sound (lnN_ok _ 1 448 x14 k3 k4 (by omega)) (long_run14 b0 h1 (lenZ x14).toNat x0 x1 x2 x3 x4 x5 x6 x7 x8 x9 x10 x11 x12 x13 x14 x15) (by
      simp only [Holds, cdec, lnF, h14', h15', decide_true, decide_false]
      simp)
    rw [k1]
    rw [k2] at hr
    exact hr
  by_cases h13' : x13 > 0
  · obtain ⟨k1, k2, k3, k4⟩ := key 13 (by decide) (fun j hj hk => by
      obtain rfl | rfl : j = 14 ∨ j = 15 := by omega
      · exact h14'
      · exact h15') h13'
    simp only [List.getD_cons_succ, List.getD_cons_zero] at k1 k2 k3 k4
    have hr := fnL_ok progOk extSound noC_sound (lnN_ok _ 1 416 x13 k3 k4 (by omega)) (long_run13 b0 h1 (lenZ x13).toNat x0 x1 x2 x3 x4 x5 x6 x7 x8 x9 x10 x11 x12 x13 x14 x15) (by
      simp only [Holds, cdec, lnF, h13', h14', h15', decide_true, decide_false]
      simp)
    rw [k1]
    rw [k2] at hr
    exact hr
  by_cases h12' : x12 > 0
  · obtain ⟨k1, k2, k3, k4⟩ := key 12 (by decide) (fun j hj hk => by
      obtain rfl | rfl | rfl : j = 13 ∨ j = 14 ∨ j = 15 := by omega
      · exact h13'
      · exact h14'
      · exact h15') h12'
    simp only [List.getD_cons_succ, List.getD_cons_zero] at k1 k2 k3 k4
    have hr := fnL_ok progOk extSound noC_sound (lnN_ok _ 1 384 x12 k3 k4 (by omega)) (long_run12 b0 h1 (lenZ x12).toNat x0 x1 x2 x3 x4 x5 x6 x7 x8 x9 x10 x11 x12 x13 x14 x15) (by
      simp only [Holds, cdec, lnF, h12', h13', h14', h15', decide_true, decide_false]
      simp)
    rw [k1]
    rw [k2] at hr
    exact hr
  by_cases h11' : x11 > 0
  · obtain ⟨k1, k2, k3, k4⟩ := key 11 (by decide) (fun j hj hk => by
      obtain rfl | rfl | rfl | rfl : j = 12 ∨ j = 13 ∨ j = 14 ∨ j = 15 := by omega
      · exact h12'
      · exact h13'
      · exact h14'
      · exact h15') h11'
    simp only [List.getD_cons_succ, List.getD_cons_zero] at k1 k2 k3 k4
    have hr := fnL_ok progOk extSound noC_sound (lnN_ok _ 1 352 x11 k3 k4 (by omega)) (long_run11 b0 h1 (lenZ x11).toNat x0 x1 x2 x3 x4 x5 x6 x7 x8 x9 x10 x11 x12 x13 x14 x15) (by
      simp only [Holds, cdec, lnF, h11', h12', h13', h14', h15', decide_true, decide_false]
      simp)
    rw [k1]
    rw [k2] at hr
    exact hr
  by_cases h10' : x10 > 0
  · obtain ⟨k1, k2, k3, k4⟩ := key 10 (by decide) (fun j hj hk => by
      obtain rfl | rfl | rfl | rfl | rfl : j = 11 ∨ j = 12 ∨ j = 13 ∨ j = 14 ∨ j = 15 := by omega
      · exact h11'
      · exact h12'
      · exact h13'
      · exact h14'
      · exact h15') h10'
    simp only [List.getD_cons_succ, List.getD_cons_zero] at k1 k2 k3 k4
    have hr := fnL_ok progOk extSound noC_sound (lnN_ok _ 1 320 x10 k3 k4 (by omega)) (long_run10 b0 h1 (lenZ x10).toNat x0 x1 x2 x3 x4 x5 x6 x7 x8 x9 x10 x11 x12 x13 x14 x15) (by
      simp only [Holds, cdec, lnF, h10', h11', h12', h13', h14', h15', decide_true, decide_false]
      simp)
    rw [k1]
    rw [k2] at hr
    exact hr
  by_cases h9' : x9 > 0
  · obtain ⟨k1, k2, k3, k4⟩ := key 9 (by decide) (fun j hj hk => by
      obtain rfl | rfl | rfl | rfl | rfl | rfl : j = 10 ∨ j = 11 ∨ j = 12 ∨ j = 13 ∨ j = 14 ∨ j = 15 := by omega
      · exact h10'
      · exact h11'
      · exact h12'
      · exact h13'
      · exact h14'
      · exact h15') h9'
    simp only [List.getD_cons_succ, List.getD_cons_zero] at k1 k2 k3 k4
    have hr := fnL_ok progOk extSound noC_sound (lnN_ok _ 1 288 x9 k3 k4 (by omega)) (long_run9 b0 h1 (lenZ x9).toNat x0 x1 x2 x3 x4 x5 x6 x7 x8 x9 x10 x11 x12 x13 x14 x15) (by
      simp only [Holds, cdec, lnF, h9', h10', h11', h12', h13', h14', h15', decide_true, decide_false]
      simp)
    rw [k1]
    rw [k2] at hr
    exact hr
  by_cases h8' : x8 > 0
  · obtain ⟨k1, k2, k3, k4⟩ := key 8 (by decide) (fun j hj hk => by
      obtain rfl | rfl | rfl | rfl | rfl | rfl | rfl : j = 9 ∨ j = 10 ∨ j = 11 ∨ j = 12 ∨ j = 13 ∨ j = 14 ∨ j = 15 := by omega
      · exact h9'
      · exact h10'
      · exact h11'
      · exact h12'
      · exact h13'
      · exact h14'
      · exact h15') h8'
    simp only [List.getD_cons_succ, List.getD_cons_zero] at k1 k2 k3 k4
    have hr := fnL_ok progOk extSound noC_sound (lnN_ok _ 1 256 x8 k3 k4 (by omega)) (long_run8 b0 h1 (lenZ x8).toNat x0 x1 x2 x3 x4 x5 x6 x7 x8 x9 x10 x11 x12 x13 x14 x15) (by
      simp only [Holds, cdec, lnF, h8', h9', h10', h11', h12', h13', h14', h15', decide_true, decide_false]
      simp)
    rw [k1]
    rw [k2] at hr
    exact hr
  by_cases h7' : x7 > 0
  · obtain ⟨k1, k2, k3, k4⟩ := key 7 (by decide) (fun j hj hk => by
      obtain rfl | rfl | rfl | rfl | rfl | rfl | rfl | rfl : j = 8 ∨ j = 9 ∨ j = 10 ∨ j = 11 ∨ j = 12 ∨ j = 13 ∨ j = 14 ∨ j = 15 := by omega
      · exact h8'
      · exact h9'
      · exact h10'
      · exact h11'
      · exact h12'
      · exact h13'
      · exact h14'
      · exact h15') h7'
    simp only [List.getD_cons_succ, List.getD_cons_zero] at k1 k2 k3 k4
    have hr := fnL_ok progOk extSound noC_sound (lnN_ok _ 1 224 x7 k3 k4 (by omega)) (long_run7 b0 h1 (lenZ x7).toNat x0 x1 x2 x3 x4 x5 x6 x7 x8 x9 x10 x11 x12 x13 x14 x15) (by
      simp only [Holds, cdec, lnF, h7', h8', h9', h10', h11', h12', h13', h14', h15', decide_true, decide_false]
      simp)
    rw [k1]
    rw [k2] at hr
    exact hr
  by_cases h6' : x6 > 0
  · obtain ⟨k1, k2, k3, k4⟩ := key 6 (by decide) (fun j hj hk => by
      obtain rfl | rfl | rfl | rfl | rfl | rfl | rfl | rfl | rfl : j = 7 ∨ j = 8 ∨ j = 9 ∨ j = 10 ∨ j = 11 ∨ j = 12 ∨ j = 13 ∨ j = 14 ∨ j = 15 := by omega
      · exact h7'
      · exact h8'
      · exact h9'
      · exact h10'
      · exact h11'
      · exact h12'
      · exact h13'
      · exact h14'
      · exact h15') h6'
    simp only [List.getD_cons_succ, List.getD_cons_zero] at k1 k2 k3 k4
    have hr := fnL_ok progOk extSound noC_sound (lnN_ok _ 1 192 x6 k3 k4 (by omega)) (long_run6 b0 h1 (lenZ x6).toNat x0 x1 x2 x3 x4 x5 x6 x7 x8 x9 x10 x11 x12 x13 x14 x15) (by
      simp only [Holds, cdec, lnF, h6', h7', h8', h9', h10', h11', h12', h13', h14', h15', decide_true, decide_false]
      simp)
    rw [k1]
    rw [k2] at hr
    exact hr
  by_cases h5' : x5 > 0
  · obtain ⟨k1, k2, k3, k4⟩ := key 5 (by decide) (fun j hj hk => by
      obtain rfl | rfl | rfl | rfl | rfl | rfl | rfl | rfl | rfl | rfl : j = 6 ∨ j = 7 ∨ j = 8 ∨ j = 9 ∨ j = 10 ∨ j = 11 ∨ j = 12 ∨ j = 13 ∨ j = 14 ∨ j = 15 := by omega
      · exact h6'
      · exact h7'
      · exact h8'
      · exact h9'
      · exact h10'
      · exact h11'
      · exact h12'
      · exact h13'
      · exact h14'
      · exact h15') h5'
    simp only [List.getD_cons_succ, List.getD_cons_zero] at k1 k2 k3 k4
    have hr := fnL_ok progOk extSound noC_sound (lnN_ok _ 1 160 x5 k3 k4 (by omega)) (long_run5 b0 h1 (lenZ x5).toNat x0 x1 x2 x3 x4 x5 x6 x7 x8 x9 x10 x11 x12 x13 x14 x15) (by
      simp only [Holds, cdec, lnF, h5', h6', h7', h8', h9', h10', h11', h12', h13', h14', h15', decide_true, decide_false]
      simp)
    rw [k1]
    rw [k2] at hr
    exact hr
  by_cases h4' : x4 > 0
  · obtain ⟨k1, k2, k3, k4⟩ := key 4 (by decide) (fun j hj hk => by
      obtain rfl | rfl | rfl | rfl | rfl | rfl | rfl | rfl | rfl | rfl | rfl : j = 5 ∨ j = 6 ∨ j = 7 ∨ j = 8 ∨ j = 9 ∨ j = 10 ∨ j = 11 ∨ j = 12 ∨ j = 13 ∨ j = 14 ∨ j = 15 := by omega
      · exact h5'
      · exact h6'
      · exact h7'
      · exact h8'
      · exact h9'
      · exact h10'
      · exact h11'
      · exact h12'
      · exact h13'
      · exact h14'
      · exact h15') h4'
    simp only [List.getD_cons_succ, List.getD_cons_zero] at k1 k2 k3 k4
    have hr := fnL_ok progOk extSound noC_sound (lnN_ok _ 1 128 x4 k3 k4 (by omega)) (long_run4 b0 h1 (lenZ x4).toNat x0 x1 x2 x3 x4 x5 x6 x7 x8 x9 x10 x11 x12 x13 x14 x15) (by
      simp only [Holds, cdec, lnF, h4', h5', h6', h7', h8', h9', h10', h11', h12', h13', h14', h15', decide_true, decide_false]
      simp)
    rw [k1]
    rw [k2] at hr
    exact hr
  by_cases h3' : x3 > 0
  · obtain ⟨k1, k2, k3, k4⟩ := key 3 (by decide) (fun j hj hk => by
      obtain rfl | rfl | rfl | rfl | rfl | rfl | rfl | rfl | rfl | rfl | rfl | rfl : j = 4 ∨ j = 5 ∨ j = 6 ∨ j = 7 ∨ j = 8 ∨ j = 9 ∨ j = 10 ∨ j = 11 ∨ j = 12 ∨ j = 13 ∨ j = 14 ∨ j = 15 := by omega
      · exact h4'
      · exact h5'
      · exact h6'
      · exact h7'
      · exact h8'
      · exact h9'
      · exact h10'
      · exact h11'
      · exact h12'
      · exact h13'
      · exact h14'
      · exact h15') h3'
    simp only [List.getD_cons_succ, List.getD_cons_zero] at k1 k2 k3 k4
    have hr := fnL_ok progOk extSound noC_sound (lnN_ok _ 1 96 x3 k3 k4 (by omega)) (long_run3 b0 h1 (lenZ x3).toNat x0 x1 x2 x3 x4 x5 x6 x7 x8 x9 x10 x11 x12 x13 x14 x15) (by
      simp only [Holds, cdec, lnF, h3', h4', h5', h6', h7', h8', h9', h10', h11', h12', h13', h14', h15', decide_true, decide_false]
      simp)
    rw [k1]
    rw [k2] at hr
    exact hr
  by_cases h2' : x2 > 0
  · obtain ⟨k1, k2, k3, k4⟩ := key 2 (by decide) (fun j hj hk => by
      obtain rfl | rfl | rfl | rfl | rfl | rfl | rfl | rfl | rfl | rfl | rfl | rfl | rfl : j = 3 ∨ j = 4 ∨ j = 5 ∨ j = 6 ∨ j = 7 ∨ j = 8 ∨ j = 9 ∨ j = 10 ∨ j = 11 ∨ j = 12 ∨ j = 13 ∨ j = 14 ∨ j = 15 := by omega
      · exact h3'
      · exact h4'
      · exact h5'
      · exact h6'
      · exact h7'
      · exact h8'
      · exact h9'
      · exact h10'
      · exact h11'
      · exact h12'
      · exact h13'
      · exact h14'
      · exact h15') h2'
    simp only [List.getD_cons_succ, List.getD_cons_zero] at k1 k2 k3 k4
    have hr := fnL_ok progOk extSound noC_sound (lnN_ok _ 1 64 x2 k3 k4 (by omega)) (long_run2 b0 h1 (lenZ x2).toNat x0 x1 x2 x3 x4 x5 x6 x7 x8 x9 x10 x11 x12 x13 x14 x15) (by
      simp only [Holds, cdec, lnF, h2', h3', h4', h5', h6', h7', h8', h9', h10', h11', h12', h13', h14', h15', decide_true, decide_false]
      simp)
    rw [k1]
    rw [k2] at hr
    exact hr
  by_cases h1' : x1 > 0
  · obtain ⟨k1, k2, k3, k4⟩ := key 1 (by decide) (fun j hj hk => by
      obtain rfl | rfl | rfl | rfl | rfl | rfl | rfl | rfl | rfl | rfl | rfl | rfl | rfl | rfl : j = 2 ∨ j = 3 ∨ j = 4 ∨ j = 5 ∨ j = 6 ∨ j = 7 ∨ j = 8 ∨ j = 9 ∨ j = 10 ∨ j = 11 ∨ j = 12 ∨ j = 13 ∨ j = 14 ∨ j = 15 := by omega
      · exact h2'
      · exact h3'
      · exact h4'
      · exact h5'
      · exact h6'
      · exact h7'
      · exact h8'
      · exact h9'
      · exact h10'
      · exact h11'
      · exact h12'
      · exact h13'
      · exact h14'
      · exact h15') h1'
    simp only [List.getD_cons_succ, List.getD_cons_zero] at k1 k2 k3 k4
    have hr := fnL_ok progOk extSound noC_sound (lnN_ok _ 1 32 x1 k3 k4 (by omega)) (long_run1 b0 h1 (lenZ x1).toNat x0 x1 x2 x3 x4 x5 x6 x7 x8 x9 x10 x11 x12 x13 x14 x15) (by
      simp only [Holds, cdec, lnF, h1', h2', h3', h4', h5', h6', h7', h8', h9', h10', h11', h12', h13', h14', h15', decide_true, decide_false]
      simp)
    rw [k1]
    rw [k2] at hr
    exact hr
  by_cases h0' : x0 > 0
  · obtain ⟨k1, k2, k3, k4⟩ := key 0 (by decide) (fun j hj hk => by
      obtain rfl | rfl | rfl | rfl | rfl | rfl | rfl | rfl | rfl | rfl | rfl | rfl | rfl | rfl | rfl : j = 1 ∨ j = 2 ∨ j = 3 ∨ j = 4 ∨ j = 5 ∨ j = 6 ∨ j = 7 ∨ j = 8 ∨ j = 9 ∨ j = 10 ∨ j = 11 ∨ j = 12 ∨ j = 13 ∨ j = 14 ∨ j = 15 := by omega
      · exact h1'
      · exact h2'
      · exact h3'
      · exact h4'
      · exact h5'
      · exact h6'
      · exact h7'
      · exact h8'
      · exact h9'
      · exact h10'
      · exact h11'
      · exact h12'
      · exact h13'
      · exact h14'
      · exact h15') h0'
    simp only [List.getD_cons_succ, List.getD_cons_zero] at k1 k2 k3 k4
    have hr := fnL_ok progOk extSound noC_sound (lnN_ok _ 1 0 x0 k3 k4 (by omega)) (long_run0 b0 h1 (lenZ x0).toNat x0 x1 x2 x3 x4 x5 x6 x7 x8 x9 x10 x11 x12 x13 x14 x15) (by
      simp only [Holds, cdec, lnF, h0', h1', h2', h3', h4', h5', h6', h7', h8', h9', h10', h11', h12', h13', h14', h15', decide_true, decide_false]
      simp)
    rw [k1]
    rw [k2] at hr
    exact hr
  have hz2 : ∀ (l : List Int), (∀ j, j < l.length → l.getD j 0 = 0) → valD D32 l = 0 := by
    intro l
    induction l with
    | nil => intro _; rfl
    | cons x l ih =>
      intro h
      have h1 := h 0 (by simp)
      simp at h1
      simp [valD, h1, ih fun j hj => by have := h (j + 1) (by simpa using hj); simpa using this]
  have hv := hz2 [x0, x1, x2, x3, x4, x5, x6, x7, x8, x9, x10, x11, x12, x13, x14, x15] (fun j hj => by
    have hj' : j < 16 := hj
    have h3 := (hx j).1
    obtain rfl | rfl | rfl | rfl | rfl | rfl | rfl | rfl | rfl | rfl | rfl | rfl | rfl | rfl | rfl | rfl : j = 0 ∨ j = 1 ∨ j = 2 ∨ j = 3 ∨ j = 4 ∨ j = 5 ∨ j = 6 ∨ j = 7 ∨ j = 8 ∨ j = 9 ∨ j = 10 ∨ j = 11 ∨ j = 12 ∨ j = 13 ∨ j = 14 ∨ j = 15 := by omega
    · have h4 : 0 ≤ x0 := h3
      show x0 = 0
      omega
    · have h4 : 0 ≤ x1 := h3
      show x1 = 0
      omega
    · have h4 : 0 ≤ x2 := h3
      show x2 = 0
      omega
    · have h4 : 0 ≤ x3 := h3
      show x3 = 0
      omega
    · have h4 : 0 ≤ x4 := h3
      show x4 = 0
      omega
    · have h4 : 0 ≤ x5 := h3
      show x5 = 0
      omega
    · have h4 : 0 ≤ x6 := h3
      show x6 = 0
      omega
    · have h4 : 0 ≤ x7 := h3
      show x7 = 0
      omega
    · have h4 : 0 ≤ x8 := h3
      show x8 = 0
      omega
    · have h4 : 0 ≤ x9 := h3
      show x9 = 0
      omega
    · have h4 : 0 ≤ x10 := h3
      show x10 = 0
      omega
    · have h4 : 0 ≤ x11 := h3
      show x11 = 0
      omega
    · have h4 : 0 ≤ x12 := h3
      show x12 = 0
      omega
    · have h4 : 0 ≤ x13 := h3
      show x13 = 0
      omega
    · have h4 : 0 ≤ x14 := h3
      show x14 = 0
      omega
    · have h4 : 0 ≤ x15 := h3
      show x15 = 0
      omega)
  rw [hv]
  exact fnL_ok progOk extSound noC_sound noLoops_ok (long_none b0 h1 x0 x1 x2 x3 x4 x5 x6 x7 x8 x9 x10 x11 x12 x13 x14 x15) (by
    simp only [Holds, h0', h1', h2', h3', h4', h5', h6', h7', h8', h9', h10', h11', h12', h13', h14', h15', decide_false]
    simp)

end Go.Proofs.Ytfbjpenbpbpcaaa

/-
  Chapter 05's logarithm: the contract of the reference's Log; chapter 05's contracts, joined.
-/
namespace Go.Proofs.Ytfbjpenbpbpcaaa
open Go Den
set_option maxRecDepth 100000
set_option linter.unusedSimpArgs false
set_option linter.unusedVariables false

def lnO : Oracle := fun f args H => match f with
  | 117 => match args, H with
    | [.slice (some ⟨0, 0, none⟩) 16 16], [x] => match intsU x.cells with
      | some xs => match Nat.beq xs.length 16 with
        | true => some (.int .i64 (lenZ (valD D32 xs)), [x], 1)
        | false => none
      | none => none
    | _, _ => none
  | _ => none
def lg2Pre : Pre := fun f args H => match f with
  | 117 => cellsIn D32 args H
  | _ => lgoPre f args H
def lg2O : Oracle := orElse lnO lgO
theorem lg2_sound : Sound Try.prog (strict lg2Pre lg2O) := by
  refine Sound.strict fun f args H v H' l hp h => ?_
  unfold lg2O orElse at h
  split at h
  · rename_i r hr
    injection h with h
    subst h
    unfold lnO at hr
    split at hr
    · split at hr
      · rename_i x
        split at hr
        · rename_i xs hxs
          split at hr
          · rename_i hlen
            simp only [Option.some.injEq, Prod.mk.injEq] at hr
            obtain ⟨rfl, rfl, rfl⟩ := hr
            have hin : inD D32 xs := by
              simp only [lg2Pre, cellsIn, List.getElem?_cons_zero, hxs] at hp
              exact inD_of_all (by decide) hp
            obtain ⟨own, grown, cells⟩ := x
            simp only at hxs
            have hcells := intsU_eq _ _ hxs
            subst hcells
            exact long_ok own grown xs hin (Nat.eq_of_beq_eq_true hlen)
          · simp at hr
        · simp at hr
      · simp at hr
    · simp at hr
  · refine lgO_sound f args H v H' l ?_
    unfold strict
    have : lgoPre f args H = true := by
      unfold lg2Pre at hp
      split at hp
      · rfl
      · exact hp
    rw [this]
    exact h

theorem lg2_pre : Sound Try.prog (strict (framePre lg2Pre) (frameC lg2O)) := frame_sound lg2_sound

abbrev r3 (LO HI : Int) : List Int := sq1 D32 (sq1 D32 (sq1 D32 [LO, HI] 4) 8) 16

theorem reflog_run (n LO HI : Int) : (evFnL Try.prog ext 300 (nmPre (framePre lg2Pre)) (nmC [(7, LO), (9, HI)] (frameC lg2O)) noLoops [(0, false), (1, true), (0, true), (0, true), (0, true)] 60 [.int .u64 n] []).map (fun r => (r.1.1, r.2)) =
    some (.int .i64 (IntKind.wrap IntKind.i64 (lenZ (valD D32 (r3 LO HI)) - 1)), [(lg2Pre 117 [.slice (some ⟨0, 0, none⟩) 16 16] [blkU (r3 LO HI)], true), (lg2Pre 118 [.slice (some ⟨0, 0, none⟩) 8 8] [blkU (sq1 D32 (sq1 D32 [LO, HI] 4) 8)], true),
      (lg2Pre 118 [.slice (some ⟨0, 0, none⟩) 4 4] [blkU (sq1 D32 [LO, HI] 4)], true), (lg2Pre 118 [.slice (some ⟨0, 0, none⟩) 2 2] [blkU [LO, HI]], true), (decide (Int.fdiv n (2 ^ 32) = HI), true), (decide (lowW n = LO), true), (n == 0, false)]) := by kernel_rfl

theorem ref_log_ok (n : Int) (h0 : 0 ≤ n) (h1 : n ≤ 18446744073709551615) : CallOk Try.prog 60 [.int .u64 n] [] (.int .i64 (logZ n)) [] 0 := by
  by_cases hn : n = 0
  · subst hn
    exact pf_ok (N := 300) (L := noLoops) (os := [(0, true)]) (ob := [((0 : Int) == 0, true)]) lg2_pre noLoops_ok (by kernel_rfl) (by simp [Holds]) rfl
  have eLO : lowW n = n % D32 := lowW_eq h0 h1
  have eHI : Int.fdiv n (2 ^ 32) = n / D32 := by rw [show (2 : Int) ^ 32 = D32 by decide, Int.fdiv_eq_ediv_of_nonneg _ (by decide)]
  have hlo : 0 ≤ n % D32 ∧ n % D32 < D32 := ⟨Int.emod_nonneg _ (by decide), Int.emod_lt_of_pos _ (by decide)⟩
  have hhi : 0 ≤ n / D32 ∧ n / D32 < D32 := ⟨Int.ediv_nonneg h0 (by decide), Int.ediv_lt_of_lt_mul (by decide) (by simp only [D32]; omega)⟩
  have ev : valD D32 [n % D32, n / D32] = n := by
    simp only [valD, Int.mul_zero, Int.add_zero]
    have := Int.emod_add_mul_ediv n D32
    omega
  generalize n % D32 = LO at *
  generalize n / D32 = HI at *
  have a1 := sq_sq (m := n) (B := D32 ^ 2) (C := D32 ^ 4) h0 (by simp only [D32]; omega) (by decide)
  have a2 := sq_sq (m := n) (B := D32 ^ 4) (C := D32 ^ 8) a1.1 a1.2 (by decide)
  have a3 := sq_sq (m := n) (B := D32 ^ 8) (C := D32 ^ 16) a2.1 a2.2 (by decide)
  have e1 : valD D32 (sq1 D32 [LO, HI] 4) = n * n := by unfold sq1; rw [ev]; exact valD_digs D32 (by decide) 4 _ a1.1 a1.2
  have e2 : valD D32 (sq1 D32 (sq1 D32 [LO, HI] 4) 8) = n * n * (n * n) := by
    show valD D32 (digs D32 (valD D32 (sq1 D32 [LO, HI] 4) * valD D32 (sq1 D32 [LO, HI] 4)) 8) = _
    rw [e1]; exact valD_digs D32 (by decide) 8 _ a2.1 a2.2
  have e3 : valD D32 (r3 LO HI) = n ^ 8 := by
    show valD D32 (digs D32 (valD D32 (sq1 D32 (sq1 D32 [LO, HI] 4) 8) * valD D32 (sq1 D32 (sq1 D32 [LO, HI] 4) 8)) 16) = _
    rw [e2, valD_digs D32 (by decide) 16 _ a3.1 a3.2]
    grind
  have hr := reflog_run n LO HI
  obtain ⟨p0, p1⟩ := pow8_lt h0 h1
  have hl : 0 ≤ lenZ (n ^ 8) ∧ lenZ (n ^ 8) ≤ 1000 := by
    obtain ⟨k, ek, k1, k2⟩ := lenZ_spec (n := n ^ 8) (Int.pow_pos (by omega))
    rw [ek]
    have : k < 512 := by
      refine Nat.lt_of_not_le fun hk => ?_
      have hp : ∀ a : Nat, a ≤ k → (2 : Int) ^ a ≤ 2 ^ k := by
        intro a ha
        have q1 : (2 : Nat) ^ a ≤ 2 ^ k := Nat.pow_le_pow_right (by decide) ha
        have q2 : ((2 ^ a : Nat) : Int) ≤ ((2 ^ k : Nat) : Int) := Int.ofNat_le.2 q1
        simpa using q2
      have hq := hp (64 * 8) hk
      rw [Int.pow_mul, show (2 : Int) ^ 64 = DD by decide] at hq
      exact absurd (Int.lt_of_lt_of_le (Int.lt_of_lt_of_le p1 hq) k1) (Int.lt_irrefl _)
    omega
  rw [e3, wrap_in (inI_iff.2 (by omega)), show lenZ (n ^ 8) - 1 = logZ n by unfold logZ; rw [if_neg hn]] at hr
  refine pf_ok (nm_sound _ lg2_pre) noLoops_ok hr ?_ rfl
  have b1 : lg2Pre 117 [.slice (some ⟨0, 0, none⟩) 16 16] [blkU (r3 LO HI)] = true := cells_digs D32 (valD D32 (sq1 D32 (sq1 D32 [LO, HI] 4) 8) * valD D32 (sq1 D32 (sq1 D32 [LO, HI] 4) 8)) (by decide) 16 true none 16 16
  have b2 : lg2Pre 118 [.slice (some ⟨0, 0, none⟩) 8 8] [blkU (sq1 D32 (sq1 D32 [LO, HI] 4) 8)] = true := cells_digs D32 (valD D32 (sq1 D32 [LO, HI] 4) * valD D32 (sq1 D32 [LO, HI] 4)) (by decide) 8 true none 8 8
  have b3 : lg2Pre 118 [.slice (some ⟨0, 0, none⟩) 4 4] [blkU (sq1 D32 [LO, HI] 4)] = true := cells_digs D32 (valD D32 [LO, HI] * valD D32 [LO, HI]) (by decide) 4 true none 4 4
  have b4 : lg2Pre 118 [.slice (some ⟨0, 0, none⟩) 2 2] [blkU [LO, HI]] = true := by
    simp [lg2Pre, lgoPre, cellsIn, blkU, intsU, hlo, hhi]
  rw [eLO, eHI, b1, b2, b3, b4]
  simp [Holds, hn]

end Go.Proofs.Ytfbjpenbpbpcaaa

/-
  Chapter 05's contracts, with the logarithm.
-/
namespace Go.Proofs.Ytfbjpenbpbpcaaa
open Go Den
set_option maxRecDepth 100000
set_option linter.unusedSimpArgs false
set_option linter.unusedVariables false

def lgX : Oracle := fun f args H => match H with
  | [] => match f, args with
    | 59, [.int .u64 n] => some (.int .i64 (logZ n), [], 0)
    | 60, [.int .u64 n] => some (.int .i64 (logZ n), [], 0)
    | _, _ => none
  | _ => none
def fx5 : Oracle := orElse fx3 lgX
def fx5Pre : Pre := fun f args H => match f, args with
  | 59, [.int .u64 n] => isU n
  | 60, [.int .u64 n] => isU n
  | _, _ => fx3Pre f args H
theorem fx5_sound : Sound Try.prog (strict fx5Pre fx5) := by
  refine Sound.strict fun f args H v H' l hp h => ?_
  unfold fx5 orElse at h
  split at h
  · rename_i r hr
    injection h with h
    subst h
    refine fx3_sound f args H v H' l ?_
    unfold strict
    have : fx3Pre f args H = true := by
      unfold fx5Pre at hp
      split at hp
      · rfl
      · rfl
      · exact hp
    rw [this]
    exact hr
  · unfold lgX at h
    split at h
    · split at h
      · simp only [Option.some.injEq, Prod.mk.injEq] at h; obtain ⟨rfl, rfl, rfl⟩ := h
        have := isU_iff.1 hp
        exact log_ok _ this.1 this.2
      · simp only [Option.some.injEq, Prod.mk.injEq] at h; obtain ⟨rfl, rfl, rfl⟩ := h
        have := isU_iff.1 hp
        exact ref_log_ok _ this.1 this.2
      · simp at h
    · simp at h

end Go.Proofs.Ytfbjpenbpbpcaaa

