/-
  The law FixedNear, plainly: what is rounded is off by a half at the most; a product by one is the number; and so on.
-/
import Derived.Test.YtfbjpenbpbpcaaaFx7
namespace Go.Proofs.Ytfbjpenbpbpcaaa
open Go Den
set_option maxRecDepth 100000
set_option linter.unusedSimpArgs false

theorem tmod_small (x k : Int) (hk : 0 < k) : -k < x.tmod k ∧ x.tmod k < k ∧ (0 ≤ x → 0 ≤ x.tmod k) := by
  obtain ⟨h0, h1, h2, h3, h4⟩ := tdiv_facts x k (by omega)
  exact ⟨h1, h2, fun h => (h3 h).2.2⟩

theorem posmod (x k : Int) (hk : 0 < k) (hk2 : k ≤ 4611686018427387904) : ∃ Z, IntKind.i64.wrap (1 + Int.tmod (IntKind.i64.wrap (Int.tmod x k + k)) k) = Z ∧ 1 ≤ Z ∧ Z ≤ k := by
  obtain ⟨h1, h2, _⟩ := tmod_small x k hk
  rw [wrap_in (n := x.tmod k + k) (inI_iff.2 (by omega))]
  obtain ⟨h3, h4, h5⟩ := tmod_small (x.tmod k + k) k hk
  have := h5 (by omega)
  rw [wrap_in (inI_iff.2 (by omega))]
  exact ⟨_, rfl, by omega, by omega⟩

theorem shl_lit (n : Int) (h0 : 0 ≤ n) (h1 : n ≤ 63) : min (Int.toNat (IntKind.u64.wrap n)) (IntKind.bits IntKind.i64) = n.toNat := by
  rw [wrapU_in h0 (by omega), bits64]; omega

theorem round_eq (v b : Int) (h1 : 1 ≤ b) (h2 : b ≤ 62) : roundZ v b = (v + 2 ^ (b.toNat - 1)) / 2 ^ b.toNat := by
  unfold roundZ; rw [if_neg (by omega), if_neg (by omega)]

theorem pow_le40 {k : Nat} (h : k ≤ 40) : (2 : Int) ^ k ≤ 1099511627776 := by
  have h1 : (2 : Nat) ^ k ≤ 2 ^ 40 := Nat.pow_le_pow_right (by decide) h
  have h2 : ((2 ^ k : Nat) : Int) ≤ ((2 ^ 40 : Nat) : Int) := Int.ofNat_le.2 h1
  simpa using h2

/-- What is rounded, and what it is off by. -/
theorem near_round (V Y : Int) (hV : -1152921504606846976 < V ∧ V < 1152921504606846976) (h1 : 1 ≤ Y) (h2 : Y ≤ 40) :
    ∃ R HALF OFF : Int, roundZ V Y = R ∧ IntKind.i64.wrap (1 * 2 ^ min (Int.toNat (IntKind.u64.wrap (IntKind.i64.wrap (Y - 1)))) (IntKind.bits IntKind.i64)) = HALF ∧
      IntKind.i64.wrap (V - IntKind.i64.wrap (R * 2 ^ min (Int.toNat (IntKind.u64.wrap Y)) (IntKind.bits IntKind.i64))) = OFF ∧ OFF < HALF ∧ -HALF ≤ OFF ∧ 0 < HALF ∧ HALF ≤ 1099511627776 := by
  rw [round_eq V Y h1 (by omega), wrap_in (n := Y - 1) (inI_iff.2 (by omega)), shl_lit (Y - 1) (by omega) (by omega), shl_lit Y (by omega) (by omega), Int.one_mul]
  have p := pow_pos (Y - 1).toNat
  have p2 := pow_le40 (k := (Y - 1).toNat) (by omega)
  have e : (2 : Int) ^ Y.toNat = 2 * 2 ^ (Y - 1).toNat := by
    rw [show Y.toNat = (Y - 1).toNat + 1 by omega, Int.pow_succ]; omega
  rw [show Y.toNat - 1 = (Y - 1).toNat by omega, e]
  generalize (2 : Int) ^ (Y - 1).toNat = h at *
  have a1 := Int.mul_ediv_self_le (x := V + h) (k := 2 * h) (by omega)
  have a2 := Int.lt_mul_ediv_self_add (x := V + h) (k := 2 * h) (by omega)
  rw [wrap_in (n := h) (inI_iff.2 (by omega))]
  have e2 : (V + h) / (2 * h) * (2 * h) = 2 * h * ((V + h) / (2 * h)) := Int.mul_comm ..
  have e3 : IntKind.i64.wrap (V - IntKind.i64.wrap ((V + h) / (2 * h) * (2 * h))) = V - (V + h) / (2 * h) * (2 * h) := by
    rw [wrap_in (n := (V + h) / (2 * h) * (2 * h)) (inI_iff.2 (by omega)), wrap_in (n := V - (V + h) / (2 * h) * (2 * h)) (inI_iff.2 (by omega))]
  exact ⟨_, _, _, rfl, rfl, e3, by omega, by omega, by omega, by omega⟩

/-- What is divided, and multiplied again. -/
theorem near_div (V B : Int) (hV : -1152921504606846976 < V ∧ V < 1152921504606846976) (h1 : 1 ≤ B) (h2 : B ≤ 1073741824) :
    ∃ REST : Int, IntKind.i64.wrap (V - IntKind.i64.wrap (divQ V B * B)) = REST ∧ 2 * REST ≤ B ∧ -B ≤ 2 * REST := by
  obtain ⟨t0, t1, t2, t3, t4⟩ := tdiv_facts V B (by omega)
  have e : B * V.tdiv B = V.tdiv B * B := Int.mul_comm ..
  rw [e] at t0
  have key : ∃ d : Int, divQ V B * B = V - d ∧ 2 * d ≤ B ∧ -B ≤ 2 * d := by
    unfold divQ
    rw [if_neg (by omega)]
    split
    · split
      · exact ⟨V.tmod B - B, by rw [Int.add_mul]; omega, by omega, by omega⟩
      · exact ⟨V.tmod B, by omega, by omega, by omega⟩
    · split
      · exact ⟨V.tmod B + B, by rw [Int.sub_mul]; omega, by omega, by omega⟩
      · exact ⟨V.tmod B, by omega, by omega, by omega⟩
  obtain ⟨d, hd, d1, d2⟩ := key
  rw [hd, wrap_in (n := V - d) (inI_iff.2 (by omega)), show V - (V - d) = d by omega, wrap_in (n := d) (inI_iff.2 (by omega))]
  exact ⟨d, rfl, d1, d2⟩

theorem within_id {w : Int} (h : -2147483648 ≤ w ∧ w ≤ 2147483648) : withinZ w (-2147483648) 2147483648 = w := by
  unfold withinZ
  repeat' split
  all_goals omega

theorem sat31 (V : Int) : -1073741824 ≤ satZ V 31 ∧ satZ V 31 ≤ 1073741823 := by
  have e : topZ 31 = 1073741823 := by decide
  unfold satZ
  rw [e]
  exact within_le V _ _ (by decide)

theorem near_mul (W Y : Int) (h : -1073741824 ≤ W ∧ W ≤ 1073741823) (h1 : 1 ≤ Y) :
    mulZ W 1 0 = W ∧ mulZ W (-1) 0 = IntKind.i64.wrap (0 - W) ∧ inI (IntKind.i64.wrap (Int.tmod Y 30 + 1)) = true ∧ (IntKind.u64.wrap (IntKind.i64.wrap (Int.tmod Y 30 + 1)) < 0) = False ∧
      mulZ W (IntKind.i64.wrap (1 * 2 ^ min (Int.toNat (IntKind.u64.wrap (IntKind.i64.wrap (Int.tmod Y 30 + 1)))) (IntKind.bits IntKind.i64))) (IntKind.i64.wrap (Int.tmod Y 30 + 1)) = W := by
  obtain ⟨m1, m2, m3⟩ := tmod_small Y 30 (by decide)
  have m4 := m3 (by omega)
  have w1 : IntKind.i64.wrap (Y.tmod 30 + 1) = Y.tmod 30 + 1 := wrap_in (inI_iff.2 (by omega))
  have hr : ∀ x : Int, roundZ x 0 = x := fun x => by unfold roundZ; simp
  refine ⟨?_, ?_, ?_, ?_, ?_⟩
  · unfold mulZ; rw [within_id (by omega), hr]; simp [withinZ]
  · unfold mulZ; rw [within_id (by omega), hr, wrap_in (inI_iff.2 (by omega))]; simp [withinZ]
  · rw [w1]; exact inI_iff.2 (by omega)
  · rw [w1, wrapU_in (by omega) (by omega)]; simp; omega
  · rw [w1, shl_lit _ (by omega) (by omega), Int.one_mul]
    obtain ⟨k, hk⟩ : ∃ k : Nat, Y.tmod 30 = k := ⟨(Y.tmod 30).toNat, by omega⟩
    rw [hk, show ((k : Int) + 1).toNat = k + 1 by omega]
    have p := pow_pos k
    have p2 : (2 : Int) ^ (k + 1) ≤ 1073741824 := by
      have h1 : (2 : Nat) ^ (k + 1) ≤ 2 ^ 30 := Nat.pow_le_pow_right (by decide) (by omega)
      have h2 : ((2 ^ (k + 1) : Nat) : Int) ≤ ((2 ^ 30 : Nat) : Int) := Int.ofNat_le.2 h1
      simpa using h2
    have p3 := pow_pos (k + 1)
    rw [wrap_in (n := 2 ^ (k + 1)) (inI_iff.2 (by omega))]
    unfold mulZ
    rw [within_id (by omega), within_id (by omega), round_eq _ _ (by omega) (by omega), show ((k : Int) + 1).toNat = k + 1 by omega, Nat.add_sub_cancel]
    have e : (2 : Int) ^ (k + 1) = 2 * 2 ^ k := by rw [Int.pow_succ]; omega
    rw [Int.add_comm, Int.add_mul_ediv_right _ _ (by omega), Int.ediv_eq_zero_of_lt (by omega) (by omega), Int.zero_add]

def nearN (Y V OFF HALF B REST W : Int) : Loops := { renF := fun id => match id with
  | 5 => [(1, Y)]
  | 6 => [(0, V)]
  | 8 => [(9, OFF)]
  | 9 => [(10, HALF)]
  | 12 => [(2, B)]
  | 14 => [(13, REST), (12, 0)]
  | 17 => [(14, W)]
  | _ => [] }

end Go.Proofs.Ytfbjpenbpbpcaaa
