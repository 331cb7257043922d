/-
  The contracts of chapter 05, joined: Mul, Div, the references', the chapter's examples.
-/
import Derived.Test.YtfbjpenbpbpcaaaFx1
namespace Go.Proofs.Ytfbjpenbpbpcaaa
open Go Den
set_option maxRecDepth 100000

theorem CallOk.drop {f : FuncId} {args : List Value} {v : Value} {H' : Heap} {l : Nat} (h : CallOk Try.prog f args [] v H' l) (hv : pf 3 v = true) : CallOk Try.prog f args [] v [] 0 := by
  intro ρ w args' hargs hs
  refine (h ρ w args' hargs hs).mono ?_
  rintro e w' ⟨ρ', v', rfl, hvr, hR⟩
  refine ⟨ρ, v', rfl, by rw [pf_eq 3 _ _ hv hvr]; exact pf_self 3 _ hv, Rel.of_quiet hs ⟨hR.os, hR.tape, hR.output, hR.size, fun k hk => hR.keep k hk fun j e0 b0 _ hj => by simp at hj, hR.frozen⟩ 0⟩

theorem of_run {n : Nat} {f : FuncId} {args : List Value} {v : Value} (h : (run n f args []).map (·.1) = some v) (hv : pf 3 v = true) : CallOk Try.prog f args [] v [] 0 := by
  cases hr : run n f args [] with
  | none => rw [hr] at h; simp at h
  | some r =>
    obtain ⟨v', H', l⟩ := r
    rw [hr] at h
    simp at h
    subst h
    exact CallOk.drop (run_sound n f args [] _ H' l hr) hv

theorem within_ok (v l h : Int) : CallOk Try.prog 112 [.int .i64 v, .int .i64 l, .int .i64 h] [] (.int .i64 (withinZ v l h)) [] 0 :=
  evFnL_plain (N := 300) (pre := noPre) (C := noC) (os := []) (ob := []) progOk extSound noC_sound (by kernel_rfl) (by simp [Holds])

def fx1 : Oracle := fun f args H => match H with
  | [] => match f, args with
    | 45, [.int .i64 v, .int .i64 b] => some (.int .i64 (roundZ v b), [], 0)
    | 46, [.int .i64 v, .int .i64 b] => some (.int .i64 (roundZ v b), [], 0)
    | 112, [.int .i64 v, .int .i64 l, .int .i64 h] => some (.int .i64 (withinZ v l h), [], 0)
    | _, _ => none
  | _ => none
def fx1Pre   : Pre := fun f args _ => match f, args with
  | 45, [.int .i64 v, .int .i64 b] => inI v && inI b
  | 46, [.int .i64 v, .int .i64 b] => inI v && inI b
  | _, _ => true

theorem fx1_sound : Sound Try.prog (strict fx1Pre fx1) := by
  refine Sound.strict fun f args H v H' l hp h => ?_
  unfold fx1 at h
  split at h
  · split at h
    · simp only [Option.some.injEq, Prod.mk.injEq] at h; obtain ⟨rfl, rfl, rfl⟩ := h
      simp only [fx1Pre, Bool.and_eq_true] at hp
      exact round_ok _ _ hp.1 hp.2
    · simp only [Option.some.injEq, Prod.mk.injEq] at h; obtain ⟨rfl, rfl, rfl⟩ := h
      simp only [fx1Pre, Bool.and_eq_true] at hp
      exact ref_round_ok _ _ hp.1 hp.2
    · simp only [Option.some.injEq, Prod.mk.injEq] at h; obtain ⟨rfl, rfl, rfl⟩ := h
      exact within_ok _ _ _
    · simp at h
  · simp at h

theorem within_le (v l h : Int) (hlh : l ≤ h) : l ≤ withinZ v l h ∧ withinZ v l h ≤ h := by
  unfold withinZ
  repeat' split
  all_goals omega

theorem prod_in {a b : Int} (ha : -2147483648 ≤ a ∧ a ≤ 2147483648) (hb : -2147483648 ≤ b ∧ b ≤ 2147483648) : -4611686018427387904 ≤ a * b ∧ a * b ≤ 4611686018427387904 := by
  have h := Int.natAbs_mul a b
  have h1 : a.natAbs ≤ 2147483648 := by omega
  have h2 : b.natAbs ≤ 2147483648 := by omega
  have h3 : a.natAbs * b.natAbs ≤ 2147483648 * 2147483648 := Nat.mul_le_mul h1 h2
  omega

theorem mul_in (a b : Int) : inI (withinZ a (-2147483648) 2147483648 * withinZ b (-2147483648) 2147483648) = true := by
  have := prod_in (within_le a (-2147483648) 2147483648 (by decide)) (within_le b (-2147483648) 2147483648 (by decide))
  exact inI_iff.2 (by omega)

theorem mul_ok (a b y : Int) (hy : inI y = true) : CallOk Try.prog 47 [.int .i64 a, .int .i64 b, .int .i64 y] [] (.int .i64 (mulZ a b y)) [] 0 := by
  have h := evFnL_plain (N := 300) (pre := fx1Pre) (C := fx1) (os := [(2, true)]) (f := 47) (args := [.int .i64 a, .int .i64 b, .int .i64 y]) (H := [])
    (v := .int .i64 (roundZ (IntKind.wrap IntKind.i64 (withinZ a (-2147483648) 2147483648 * withinZ b (-2147483648) 2147483648)) y)) (H' := []) (l := 0)
    (ob := [(fx1Pre 45 [.int .i64 (IntKind.wrap IntKind.i64 (withinZ a (-2147483648) 2147483648 * withinZ b (-2147483648) 2147483648)), .int .i64 y] [], true)])
    progOk extSound fx1_sound (by kernel_rfl) (by rw [wrap_in (mul_in a b)]; simp [Holds, fx1Pre, mul_in, hy])
  rw [wrap_in (mul_in a b)] at h
  exact h

theorem clamp_ref (a : Int) : (if 2147483648 < if -2147483648 > a then -2147483648 else a then 2147483648 else if -2147483648 > a then -2147483648 else a) = withinZ a (-2147483648) 2147483648 := by
  unfold withinZ
  repeat' split
  all_goals omega

theorem ref_mul_ok (a b y : Int) (hy : inI y = true) : CallOk Try.prog 48 [.int .i64 a, .int .i64 b, .int .i64 y] [] (.int .i64 (mulZ a b y)) [] 0 := by
  have h := evFnL_plain (N := 300) (pre := fx1Pre) (C := fx1) (os := [(0, true)]) (f := 48) (args := [.int .i64 a, .int .i64 b, .int .i64 y]) (H := [])
    (v := .int .i64 (roundZ (IntKind.wrap IntKind.i64 ((if 2147483648 < if -2147483648 > a then -2147483648 else a then 2147483648 else if -2147483648 > a then -2147483648 else a) * (if 2147483648 < if -2147483648 > b then -2147483648 else b then 2147483648 else if -2147483648 > b then -2147483648 else b))) y)) (H' := []) (l := 0)
    (ob := [(fx1Pre 46 [.int .i64 (IntKind.wrap IntKind.i64 ((if 2147483648 < if -2147483648 > a then -2147483648 else a then 2147483648 else if -2147483648 > a then -2147483648 else a) * (if 2147483648 < if -2147483648 > b then -2147483648 else b then 2147483648 else if -2147483648 > b then -2147483648 else b))), .int .i64 y] [], true)])
    progOk extSound fx1_sound (by kernel_rfl) (by rw [clamp_ref, clamp_ref, wrap_in (mul_in a b)]; simp [Holds, fx1Pre, mul_in, hy])
  rw [clamp_ref, clamp_ref, wrap_in (mul_in a b)] at h
  exact h

/-- What is known of a quotient toward 0 and its rest. -/
theorem tdiv_facts (a b : Int) (hb : 1 ≤ b) : b * a.tdiv b + a.tmod b = a ∧ -b < a.tmod b ∧ a.tmod b < b ∧ (0 ≤ a → 0 ≤ a.tdiv b ∧ a.tdiv b ≤ a ∧ 0 ≤ a.tmod b) ∧ (a < 0 → a.tdiv b ≤ 0 ∧ a ≤ a.tdiv b ∧ a.tmod b ≤ 0) := by
  have key : ∀ c : Int, 0 ≤ c → 0 ≤ c / b ∧ c / b ≤ c ∧ 0 ≤ c % b ∧ c % b < b ∧ b * (c / b) + c % b = c := by
    intro c hc
    have h1 := Int.ediv_nonneg hc (show 0 ≤ b by omega)
    have h2 := Int.emod_nonneg c (show b ≠ 0 by omega)
    have h3 := Int.emod_lt_of_pos c (show 0 < b by omega)
    have h4 := Int.mul_ediv_add_emod c b
    have h5 : 1 * (c / b) ≤ b * (c / b) := Int.mul_le_mul_of_nonneg_right hb h1
    exact ⟨h1, by omega, h2, h3, h4⟩
  have h0 := Int.mul_tdiv_add_tmod a b
  rcases Int.lt_or_le a 0 with ha | ha
  case inr =>
    obtain ⟨h1, h2, h3, h4, h5⟩ := key a ha
    have e1 : a.tdiv b = a / b := Int.tdiv_eq_ediv_of_nonneg ha
    have e2 : a.tmod b = a % b := Int.tmod_eq_emod_of_nonneg ha
    rw [e1, e2]
    exact ⟨h5, by omega, by omega, fun _ => ⟨by omega, by omega, by omega⟩, fun h => by omega⟩
  case inl =>
    obtain ⟨h1, h2, h3, h4, h5⟩ := key (-a) (by omega)
    have e1 : a.tdiv b = -((-a) / b) := by rw [← Int.tdiv_eq_ediv_of_nonneg (by omega), Int.neg_tdiv]; omega
    have e2 : a.tmod b = -((-a) % b) := by rw [← Int.tmod_eq_emod_of_nonneg (by omega), Int.neg_tmod]; omega
    rw [e1, e2] at h0 ⊢
    exact ⟨h0, by omega, by omega, fun h => ⟨by omega, by omega, by omega⟩, fun _ => ⟨by omega, by omega, by omega⟩⟩

def rp (n : Nat) (p : Bool × Bool) : Obs := List.replicate n p

theorem holds_rp {n : Nat} {p : Bool × Bool} {l : Obs} (h : p.1 = p.2) (hl : Holds l) : Holds (rp n p ++ l) := by
  intro q hq
  rcases List.mem_append.1 hq with hq | hq
  · have := (List.mem_replicate.1 hq).2
    subst this; exact h
  · exact hl q hq

theorem holds_cons {p : Bool × Bool} {l : Obs} (h : p.1 = p.2) (hl : Holds l) : Holds (p :: l) := by
  intro q hq
  rcases List.mem_cons.1 hq with rfl | hq
  · exact h
  · exact hl q hq

theorem holds_nil : Holds [] := fun p hp => by simp at hp

theorem div_ok (a b : Int) (ha : inI a = true) (hb : inI b = true) : CallOk Try.prog 43 [.int .i64 a, .int .i64 b] [] (.tuple #[.int .i64 (divQ a b), .int .i64 (divE b)]) [] 0 := by
  have ha' := inI_iff.1 ha
  have hb' := inI_iff.1 hb
  unfold divQ divE
  by_cases h1 : b < 1
  · rw [if_pos h1, if_pos h1]
    exact evFnL_plain (N := 300) (pre := noPre) (C := noC) (os := [(0, true)]) (ob := [(decide (b < 1), true)]) progOk extSound noC_sound (by kernel_rfl) (by simp [Holds, h1])
  · rw [if_neg h1, if_neg h1]
    obtain ⟨t0, t1, t2, t3, t4⟩ := tdiv_facts a b (by omega)
    have hb0 : ¬ b = 0 := by omega
    have e1 : IntKind.i64.wrap (a.tdiv b) = a.tdiv b := wrap_in (inI_iff.2 (by rcases Int.lt_or_le a 0 with h | h <;> omega))
    have e2 : IntKind.i64.wrap (b - a.tmod b) = b - a.tmod b ∨ a.tmod b < 0 := by
      by_cases h : a.tmod b < 0
      · exact .inr h
      · exact .inl (wrap_in (inI_iff.2 (by omega)))
    have e3 : IntKind.i64.wrap (b + a.tmod b) = b + a.tmod b ∨ 0 < a.tmod b := by
      by_cases h : 0 < a.tmod b
      · exact .inr h
      · exact .inl (wrap_in (inI_iff.2 (by omega)))
    have e4 : IntKind.i64.wrap (0 - a.tmod b) = 0 - a.tmod b := wrap_in (inI_iff.2 (by omega))
    -- a quotient that is not the greatest
    have e5 : ∀ d : Int, (d = 1 ∧ 0 < a.tmod b ∨ d = -1 ∧ a.tmod b < 0) → IntKind.i64.wrap (a.tdiv b + d) = a.tdiv b + d := by
      intro d hd
      refine wrap_in (inI_iff.2 ?_)
      have h6 : 2 ≤ b := by omega
      rcases Int.le_total 0 (a.tdiv b) with h | h
      · have : 2 * a.tdiv b ≤ b * a.tdiv b := Int.mul_le_mul_of_nonneg_right h6 h
        omega
      · have : b * a.tdiv b ≤ 2 * a.tdiv b := Int.mul_le_mul_of_nonpos_right h6 h
        omega
    generalize hr : a.tmod b = r at *
    generalize hq : a.tdiv b = q at *
    by_cases hpos : r > 0
    · rw [if_pos (by omega)]
      have w2 : IntKind.i64.wrap (b - r) = b - r := by rcases e2 with h | h; exact h; omega
      by_cases hh : b ≤ 2 * r
      · rw [if_pos hh]
        have h := evFnL_plain (N := 300) (pre := noPre) (C := noC) (os := [(0, false), (0, false), (0, false), (0, true), (0, true), (0, true), (0, true), (0, true), (0, true)]) (f := 43) (args := [.int .i64 a, .int .i64 b]) (H := [])
          (v := .tuple #[.int .i64 (IntKind.i64.wrap (IntKind.i64.wrap (a.tdiv b) + 1)), .int .i64 0]) (H' := []) (l := 0)
          (ob := (bif decide (a.tmod b > 0) then decide (a.tmod b ≥ IntKind.i64.wrap (b - a.tmod b)) else false, true) :: (rp 5 (decide (a.tmod b > 0) == true, true) ++ (rp 2 (decide (b = 0), false) ++ [(decide (b < 1), false)])))
          progOk extSound noC_sound (by kernel_rfl) (by
            rw [hr, w2]
            exact holds_cons (by simp [hpos]; omega) (holds_rp (by simp [hpos]) (holds_rp (by simp [hb0]) (by simp [Holds]; omega))))
        rw [hq, e1, e5 1 (by omega)] at h
        exact h
      · rw [if_neg hh]
        have h := evFnL_plain (N := 300) (pre := noPre) (C := noC) (os := [(0, false), (0, false), (0, false), (0, true), (0, true), (0, true), (0, true), (0, true), (0, false), (0, false), (0, false), (0, false), (0, false), (0, false), (0, false), (0, false)]) (f := 43) (args := [.int .i64 a, .int .i64 b]) (H := [])
          (v := .tuple #[.int .i64 (IntKind.i64.wrap (a.tdiv b)), .int .i64 0]) (H' := []) (l := 0)
          (ob := (decide (a.tmod b < 0), false) :: (rp 6 (decide (a.tmod b < 0) == true, false) ++ ((bif decide (a.tmod b > 0) then decide (a.tmod b ≥ IntKind.i64.wrap (b - a.tmod b)) else false, false) :: (rp 5 (decide (a.tmod b > 0) == true, true) ++ (rp 2 (decide (b = 0), false) ++ [(decide (b < 1), false)])))))
          progOk extSound noC_sound (by kernel_rfl) (by
            rw [hr, w2]
            have hn : ¬ r < 0 := by omega
            exact holds_cons (by simp; omega) (holds_rp (by simp; omega) (holds_cons (by simp [hpos]; omega) (holds_rp (by simp [hpos]) (holds_rp (by simp [hb0]) (by simp [Holds]; omega))))))
        rw [hq, e1] at h
        exact h
    · by_cases hneg : r < 0
      · rw [if_neg (by omega)]
        have w3 : IntKind.i64.wrap (b + r) = b + r := by rcases e3 with h | h; exact h; omega
        by_cases hh : b ≤ -2 * r
        · rw [if_pos hh]
          have h := evFnL_plain (N := 300) (pre := noPre) (C := noC) (os := [(0, false), (0, false), (0, false), (0, false), (0, false), (0, false), (0, false), (0, false), (0, false), (1, true), (0, true), (0, true), (0, true), (0, true), (0, true), (0, true)]) (f := 43) (args := [.int .i64 a, .int .i64 b]) (H := [])
            (v := .tuple #[.int .i64 (IntKind.i64.wrap (IntKind.i64.wrap (a.tdiv b) - 1)), .int .i64 0]) (H' := []) (l := 0)
            (ob := (bif decide (a.tmod b < 0) then decide (IntKind.i64.wrap (0 - a.tmod b) ≥ IntKind.i64.wrap (b + a.tmod b)) else false, true) :: (rp 6 (decide (a.tmod b < 0) == true, true) ++ ((decide (a.tmod b > 0), false) :: (rp 5 (decide (a.tmod b > 0) == true, false) ++ (rp 2 (decide (b = 0), false) ++ [(decide (b < 1), false)])))))
            progOk extSound noC_sound (by kernel_rfl) (by
              rw [hr, w3, e4]
              exact holds_cons (by simp [hneg]; omega) (holds_rp (by simp [hneg]) (holds_cons (by simp; omega) (holds_rp (by simp; omega) (holds_rp (by simp [hb0]) (by simp [Holds]; omega))))))
          rw [hq, e1, show q - 1 = q + -1 by omega, e5 (-1) (by omega)] at h
          exact h
        · rw [if_neg hh]
          have h := evFnL_plain (N := 300) (pre := noPre) (C := noC) (os := [(0, false), (0, false), (0, false), (0, false), (0, false), (0, false), (0, false), (0, false), (0, false), (1, true), (0, true), (0, true), (0, true), (0, true), (0, true), (0, false)]) (f := 43) (args := [.int .i64 a, .int .i64 b]) (H := [])
            (v := .tuple #[.int .i64 (IntKind.i64.wrap (a.tdiv b)), .int .i64 0]) (H' := []) (l := 0)
            (ob := (bif decide (a.tmod b < 0) then decide (IntKind.i64.wrap (0 - a.tmod b) ≥ IntKind.i64.wrap (b + a.tmod b)) else false, false) :: (rp 6 (decide (a.tmod b < 0) == true, true) ++ ((decide (a.tmod b > 0), false) :: (rp 5 (decide (a.tmod b > 0) == true, false) ++ (rp 2 (decide (b = 0), false) ++ [(decide (b < 1), false)])))))
            progOk extSound noC_sound (by kernel_rfl) (by
              rw [hr, w3, e4]
              exact holds_cons (by simp [hneg]; omega) (holds_rp (by simp [hneg]) (holds_cons (by simp; omega) (holds_rp (by simp; omega) (holds_rp (by simp [hb0]) (by simp [Holds]; omega))))))
          rw [hq, e1] at h
          exact h
      · have hz : r = 0 := by omega
        rw [if_pos (by omega), if_neg (by omega)]
        have h := evFnL_plain (N := 300) (pre := noPre) (C := noC) (os := [(0, false), (0, false), (0, false), (0, false), (0, false), (0, false), (0, false), (0, false), (0, false), (1, false), (0, false), (0, false), (0, false), (0, false), (0, false), (0, false)]) (f := 43) (args := [.int .i64 a, .int .i64 b]) (H := [])
          (v := .tuple #[.int .i64 (IntKind.i64.wrap (a.tdiv b)), .int .i64 0]) (H' := []) (l := 0)
          (ob := (decide (a.tmod b < 0), false) :: (rp 6 (decide (a.tmod b < 0) == true, false) ++ ((decide (a.tmod b > 0), false) :: (rp 5 (decide (a.tmod b > 0) == true, false) ++ (rp 2 (decide (b = 0), false) ++ [(decide (b < 1), false)])))))
          progOk extSound noC_sound (by kernel_rfl) (by
            rw [hr]
            exact holds_cons (by simp; omega) (holds_rp (by simp; omega) (holds_cons (by simp; omega) (holds_rp (by simp; omega) (holds_rp (by simp [hb0]) (by simp [Holds]; omega))))))
        rw [hq, e1] at h
        exact h

theorem ref_div_ok (a b : Int) (ha : inI a = true) (hb : inI b = true) : CallOk Try.prog 44 [.int .i64 a, .int .i64 b] [] (.tuple #[.int .i64 (divQ a b), .int .i64 (divE b)]) [] 0 := by
  have ha' := inI_iff.1 ha
  have hb' := inI_iff.1 hb
  unfold divQ divE
  by_cases h1 : b < 1
  · rw [if_pos h1, if_pos h1]
    exact evFnL_plain (N := 300) (pre := noPre) (C := noC) (os := [(0, true)]) (ob := [(decide (b < 1), true)]) progOk extSound noC_sound (by kernel_rfl) (by simp [Holds, h1])
  · rw [if_neg h1, if_neg h1]
    obtain ⟨t0, t1, t2, t3, t4⟩ := tdiv_facts a b (by omega)
    have hb0 : ¬ b = 0 := by omega
    have e1 : IntKind.i64.wrap (a.tdiv b) = a.tdiv b := wrap_in (inI_iff.2 (by rcases Int.lt_or_le a 0 with h | h <;> omega))
    have e5 : ∀ d : Int, (d = 1 ∧ 0 < a.tmod b ∨ d = -1 ∧ a.tmod b < 0) → IntKind.i64.wrap (a.tdiv b + d) = a.tdiv b + d := by
      intro d hd
      refine wrap_in (inI_iff.2 ?_)
      have h6 : 2 ≤ b := by omega
      rcases Int.le_total 0 (a.tdiv b) with h | h
      · have : 2 * a.tdiv b ≤ b * a.tdiv b := Int.mul_le_mul_of_nonneg_right h6 h
        omega
      · have : b * a.tdiv b ≤ 2 * a.tdiv b := Int.mul_le_mul_of_nonpos_right h6 h
        omega
    generalize hr : a.tmod b = r at *
    generalize hq : a.tdiv b = q at *
    by_cases hneg : r < 0
    · rw [if_neg (by omega)]
      have w1 : IntKind.i64.wrap (0 - r) = 0 - r := wrap_in (inI_iff.2 (by omega))
      have w2 : IntKind.i64.wrap (b - (0 - r)) = b - (0 - r) := wrap_in (inI_iff.2 (by omega))
      by_cases hh : b ≤ -2 * r
      · rw [if_pos hh]
        have h := evFnL_plain (N := 300) (pre := noPre) (C := noC) (os := [(0, false), (0, false), (0, false), (0, true), (0, true), (0, true)]) (f := 44) (args := [.int .i64 a, .int .i64 b]) (H := [])
          (v := .tuple #[.int .i64 (IntKind.i64.wrap (IntKind.i64.wrap (a.tdiv b) - 1)), .int .i64 0]) (H' := []) (l := 0)
          (ob := (decide (a < 0), true) :: (decide (IntKind.i64.wrap (0 - a.tmod b) ≥ IntKind.i64.wrap (b - IntKind.i64.wrap (0 - a.tmod b))), true) :: (decide (a.tmod b < 0), true) :: (rp 2 (decide (b = 0), false) ++ [(decide (b < 1), false)]))
          progOk extSound noC_sound (by kernel_rfl) (by
            rw [hr, w1, w2]
            exact holds_cons (by simp; omega) (holds_cons (by simp; omega) (holds_cons (by simp; omega) (holds_rp (by simp [hb0]) (by simp [Holds]; omega)))))
        rw [hq, e1, show q - 1 = q + -1 by omega, e5 (-1) (by omega)] at h
        exact h
      · rw [if_neg hh]
        have h := evFnL_plain (N := 300) (pre := noPre) (C := noC) (os := [(0, false), (0, false), (0, false), (0, true), (0, false)]) (f := 44) (args := [.int .i64 a, .int .i64 b]) (H := [])
          (v := .tuple #[.int .i64 (IntKind.i64.wrap (a.tdiv b)), .int .i64 0]) (H' := []) (l := 0)
          (ob := (decide (IntKind.i64.wrap (0 - a.tmod b) ≥ IntKind.i64.wrap (b - IntKind.i64.wrap (0 - a.tmod b))), false) :: (decide (a.tmod b < 0), true) :: (rp 2 (decide (b = 0), false) ++ [(decide (b < 1), false)]))
          progOk extSound noC_sound (by kernel_rfl) (by
            rw [hr, w1, w2]
            exact holds_cons (by simp; omega) (holds_cons (by simp; omega) (holds_rp (by simp [hb0]) (by simp [Holds]; omega))))
        rw [hq, e1] at h
        exact h
    · rw [if_pos (by omega)]
      have w2 : IntKind.i64.wrap (b - r) = b - r := wrap_in (inI_iff.2 (by omega))
      by_cases hh : b ≤ 2 * r
      · rw [if_pos hh]
        have h := evFnL_plain (N := 300) (pre := noPre) (C := noC) (os := [(0, false), (0, false), (0, false), (0, false), (0, true), (0, false)]) (f := 44) (args := [.int .i64 a, .int .i64 b]) (H := [])
          (v := .tuple #[.int .i64 (IntKind.i64.wrap (IntKind.i64.wrap (a.tdiv b) + 1)), .int .i64 0]) (H' := []) (l := 0)
          (ob := (decide (a < 0), false) :: (decide (a.tmod b ≥ IntKind.i64.wrap (b - a.tmod b)), true) :: (decide (a.tmod b < 0), false) :: (rp 2 (decide (b = 0), false) ++ [(decide (b < 1), false)]))
          progOk extSound noC_sound (by kernel_rfl) (by
            rw [hr, w2]
            have hna : ¬ a < 0 := fun h => by have := t4 h; omega
            exact holds_cons (by simp; omega) (holds_cons (by simp; omega) (holds_cons (by simp; omega) (holds_rp (by simp [hb0]) (by simp [Holds]; omega)))))
        rw [hq, e1, e5 1 (by omega)] at h
        exact h
      · rw [if_neg hh]
        have h := evFnL_plain (N := 300) (pre := noPre) (C := noC) (os := [(0, false), (0, false), (0, false), (0, false), (0, false)]) (f := 44) (args := [.int .i64 a, .int .i64 b]) (H := [])
          (v := .tuple #[.int .i64 (IntKind.i64.wrap (a.tdiv b)), .int .i64 0]) (H' := []) (l := 0)
          (ob := (decide (a.tmod b ≥ IntKind.i64.wrap (b - a.tmod b)), false) :: (decide (a.tmod b < 0), false) :: (rp 2 (decide (b = 0), false) ++ [(decide (b < 1), false)]))
          progOk extSound noC_sound (by kernel_rfl) (by
            rw [hr, w2]
            exact holds_cons (by simp; omega) (holds_cons (by simp; omega) (holds_rp (by simp [hb0]) (by simp [Holds]; omega))))
        rw [hq, e1] at h
        exact h

theorem live5_ok : CallOk Try.prog 42 [] [] (.bool true) [] 0 := of_run (n := 10) (by kernel_rfl) rfl

def fx2 : Oracle := fun f args H => match H with
  | [] => match f, args with
    | 42, [] => some (.bool true, [], 0)
    | 43, [.int .i64 a, .int .i64 b] => some (.tuple #[.int .i64 (divQ a b), .int .i64 (divE b)], [], 0)
    | 44, [.int .i64 a, .int .i64 b] => some (.tuple #[.int .i64 (divQ a b), .int .i64 (divE b)], [], 0)
    | 45, [.int .i64 v, .int .i64 b] => some (.int .i64 (roundZ v b), [], 0)
    | 46, [.int .i64 v, .int .i64 b] => some (.int .i64 (roundZ v b), [], 0)
    | 47, [.int .i64 a, .int .i64 b, .int .i64 y] => some (.int .i64 (mulZ a b y), [], 0)
    | 48, [.int .i64 a, .int .i64 b, .int .i64 y] => some (.int .i64 (mulZ a b y), [], 0)
    | _, _ => none
  | _ => none
def fx2Pre   : Pre := fun f args _ => match f, args with
  | 43, [.int .i64 v, .int .i64 b] => inI v && inI b
  | 44, [.int .i64 v, .int .i64 b] => inI v && inI b
  | 45, [.int .i64 v, .int .i64 b] => inI v && inI b
  | 46, [.int .i64 v, .int .i64 b] => inI v && inI b
  | 47, [.int .i64 _, .int .i64 _, .int .i64 y] => inI y
  | 48, [.int .i64 _, .int .i64 _, .int .i64 y] => inI y
  | _, _ => true

theorem fx2_sound : Sound Try.prog (strict fx2Pre fx2) := by
  refine Sound.strict fun f args H v H' l hp h => ?_
  unfold fx2 at h
  split at h
  · split at h
    all_goals first | (simp at h; done) | (simp only [Option.some.injEq, Prod.mk.injEq] at h; obtain ⟨rfl, rfl, rfl⟩ := h; simp only [fx2Pre, Bool.and_eq_true] at hp)
    · exact live5_ok
    · exact div_ok _ _ hp.1 hp.2
    · exact ref_div_ok _ _ hp.1 hp.2
    · exact round_ok _ _ hp.1 hp.2
    · exact ref_round_ok _ _ hp.1 hp.2
    · exact mul_ok _ _ _ hp
    · exact ref_mul_ok _ _ _ hp
  · simp at h

end Go.Proofs.Ytfbjpenbpbpcaaa
