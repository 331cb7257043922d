/-
  The law FixedNear, plainly: what is rounded is off by a half at the most; a product by one is the number; and so on.
-/
import Derived.Test.YtfbjpenbpbpcaaaZD
import Derived.Test.YtfbjpenbpbpcaaaZI
namespace Go.Proofs.Ytfbjpenbpbpcaaa
open Go Den
set_option maxRecDepth 100000
set_option linter.unusedSimpArgs false

theorem tmod_small (x k : Int) (hk : 0 < k) : -k < x.tmod k ∧ x.tmod k < k ∧ (0 ≤ x → 0 ≤ x.tmod k) := by
  obtain ⟨h0, h1, h2, h3, h4⟩ := tdiv_facts x k (by omega)
  exact ⟨h1, h2, fun h => (h3 h).2.2⟩

theorem posmod (x k : Int) (hk : 0 < k) (hk2 : k ≤ 4611686018427387904) : ∃ Z, IntKind.i64.wrap (1 + Int.tmod (IntKind.i64.wrap (Int.tmod x k + k)) k) = Z ∧ 1 ≤ Z ∧ Z ≤ k := by
  obtain ⟨h1, h2, _⟩ := tmod_small x k hk
  rw [wrap_in (n := x.tmod k + k) (inI_iff.2 (by omega))]
  obtain ⟨h3, h4, h5⟩ := tmod_small (x.tmod k + k) k hk
  have := h5 (by omega)
  rw [wrap_in (inI_iff.2 (by omega))]
  exact ⟨_, rfl, by omega, by omega⟩

theorem shl_lit (n : Int) (h0 : 0 ≤ n) (h1 : n ≤ 63) : min (Int.toNat (IntKind.u64.wrap n)) (IntKind.bits IntKind.i64) = n.toNat := by
  rw [wrapU_in h0 (by omega), bits64]; omega

theorem round_eq (v b : Int) (h1 : 1 ≤ b) (h2 : b ≤ 62) : roundZ v b = (v + 2 ^ (b.toNat - 1)) / 2 ^ b.toNat := by
  unfold roundZ; rw [if_neg (by omega), if_neg (by omega)]

theorem pow_le40 {k : Nat} (h : k ≤ 40) : (2 : Int) ^ k ≤ 1099511627776 := by
  have h1 : (2 : Nat) ^ k ≤ 2 ^ 40 := Nat.pow_le_pow_right (by decide) h
  have h2 : ((2 ^ k : Nat) : Int) ≤ ((2 ^ 40 : Nat) : Int) := Int.ofNat_le.2 h1
  simpa using h2

/-- What is rounded, and what it is off by. -/
theorem near_round (V Y : Int) (hV : -1152921504606846976 < V ∧ V < 1152921504606846976) (h1 : 1 ≤ Y) (h2 : Y ≤ 40) :
    ∃ R HALF OFF : Int, roundZ V Y = R ∧ IntKind.i64.wrap (1 * 2 ^ min (Int.toNat (IntKind.u64.wrap (IntKind.i64.wrap (Y - 1)))) (IntKind.bits IntKind.i64)) = HALF ∧
      IntKind.i64.wrap (V - IntKind.i64.wrap (R * 2 ^ min (Int.toNat (IntKind.u64.wrap Y)) (IntKind.bits IntKind.i64))) = OFF ∧ OFF < HALF ∧ -HALF ≤ OFF ∧ 0 < HALF ∧ HALF ≤ 1099511627776 := by
  rw [round_eq V Y h1 (by omega), wrap_in (n := Y - 1) (inI_iff.2 (by omega)), shl_lit (Y - 1) (by omega) (by omega), shl_lit Y (by omega) (by omega), Int.one_mul]
  have p := pow_pos (Y - 1).toNat
  have p2 := pow_le40 (k := (Y - 1).toNat) (by omega)
  have e : (2 : Int) ^ Y.toNat = 2 * 2 ^ (Y - 1).toNat := by
    rw [show Y.toNat = (Y - 1).toNat + 1 by omega, Int.pow_succ]; omega
  rw [show Y.toNat - 1 = (Y - 1).toNat by omega, e]
  generalize (2 : Int) ^ (Y - 1).toNat = h at *
  have a1 := Int.mul_ediv_self_le (x := V + h) (k := 2 * h) (by omega)
  have a2 := Int.lt_mul_ediv_self_add (x := V + h) (k := 2 * h) (by omega)
  rw [wrap_in (n := h) (inI_iff.2 (by omega))]
  have e2 : (V + h) / (2 * h) * (2 * h) = 2 * h * ((V + h) / (2 * h)) := Int.mul_comm ..
  have e3 : IntKind.i64.wrap (V - IntKind.i64.wrap ((V + h) / (2 * h) * (2 * h))) = V - (V + h) / (2 * h) * (2 * h) := by
    rw [wrap_in (n := (V + h) / (2 * h) * (2 * h)) (inI_iff.2 (by omega)), wrap_in (n := V - (V + h) / (2 * h) * (2 * h)) (inI_iff.2 (by omega))]
  exact ⟨_, _, _, rfl, rfl, e3, by omega, by omega, by omega, by omega⟩

/-- What is divided, and multiplied again. -/
theorem near_div (V B : Int) (hV : -1152921504606846976 < V ∧ V < 1152921504606846976) (h1 : 1 ≤ B) (h2 : B ≤ 1073741824) :
    ∃ REST : Int, IntKind.i64.wrap (V - IntKind.i64.wrap (divQ V B * B)) = REST ∧ 2 * REST ≤ B ∧ -B ≤ 2 * REST := by
  obtain ⟨t0, t1, t2, t3, t4⟩ := tdiv_facts V B (by omega)
  have e : B * V.tdiv B = V.tdiv B * B := Int.mul_comm ..
  rw [e] at t0
  have key : ∃ d : Int, divQ V B * B = V - d ∧ 2 * d ≤ B ∧ -B ≤ 2 * d := by
    unfold divQ
    rw [if_neg (by omega)]
    split
    · split
      · exact ⟨V.tmod B - B, by rw [Int.add_mul]; omega, by omega, by omega⟩
      · exact ⟨V.tmod B, by omega, by omega, by omega⟩
    · split
      · exact ⟨V.tmod B + B, by rw [Int.sub_mul]; omega, by omega, by omega⟩
      · exact ⟨V.tmod B, by omega, by omega, by omega⟩
  obtain ⟨d, hd, d1, d2⟩ := key
  rw [hd, wrap_in (n := V - d) (inI_iff.2 (by omega)), show V - (V - d) = d by omega, wrap_in (n := d) (inI_iff.2 (by omega))]
  exact ⟨d, rfl, d1, d2⟩

theorem within_id {w : Int} (h : -2147483648 ≤ w ∧ w ≤ 2147483648) : withinZ w (-2147483648) 2147483648 = w := by
  unfold withinZ
  repeat' split
  all_goals omega

theorem sat31 (V : Int) : -1073741824 ≤ satZ V 31 ∧ satZ V 31 ≤ 1073741823 := by
  have e : topZ 31 = 1073741823 := by decide
  unfold satZ
  rw [e]
  exact within_le V _ _ (by decide)

theorem near_mul (W Y : Int) (h : -1073741824 ≤ W ∧ W ≤ 1073741823) (h1 : 1 ≤ Y) :
    mulZ W 1 0 = W ∧ mulZ W (-1) 0 = IntKind.i64.wrap (0 - W) ∧ inI (IntKind.i64.wrap (Int.tmod Y 30 + 1)) = true ∧ (IntKind.u64.wrap (IntKind.i64.wrap (Int.tmod Y 30 + 1)) < 0) = False ∧
      mulZ W (IntKind.i64.wrap (1 * 2 ^ min (Int.toNat (IntKind.u64.wrap (IntKind.i64.wrap (Int.tmod Y 30 + 1)))) (IntKind.bits IntKind.i64))) (IntKind.i64.wrap (Int.tmod Y 30 + 1)) = W := by
  obtain ⟨m1, m2, m3⟩ := tmod_small Y 30 (by decide)
  have m4 := m3 (by omega)
  have w1 : IntKind.i64.wrap (Y.tmod 30 + 1) = Y.tmod 30 + 1 := wrap_in (inI_iff.2 (by omega))
  have hr : ∀ x : Int, roundZ x 0 = x := fun x => by unfold roundZ; simp
  refine ⟨?_, ?_, ?_, ?_, ?_⟩
  · unfold mulZ; rw [within_id (by omega), hr]; simp [withinZ]
  · unfold mulZ; rw [within_id (by omega), hr, wrap_in (inI_iff.2 (by omega))]; simp [withinZ]
  · rw [w1]; exact inI_iff.2 (by omega)
  · rw [w1, wrapU_in (by omega) (by omega)]; simp; omega
  · rw [w1, shl_lit _ (by omega) (by omega), Int.one_mul]
    obtain ⟨k, hk⟩ : ∃ k : Nat, Y.tmod 30 = k := ⟨(Y.tmod 30).toNat, by omega⟩
    rw [hk, show ((k : Int) + 1).toNat = k + 1 by omega]
    have p := pow_pos k
    have p2 : (2 : Int) ^ (k + 1) ≤ 1073741824 := by
      have h1 : (2 : Nat) ^ (k + 1) ≤ 2 ^ 30 := Nat.pow_le_pow_right (by decide) (by omega)
      have h2 : ((2 ^ (k + 1) : Nat) : Int) ≤ ((2 ^ 30 : Nat) : Int) := Int.ofNat_le.2 h1
      simpa using h2
    have p3 := pow_pos (k + 1)
    rw [wrap_in (n := 2 ^ (k + 1)) (inI_iff.2 (by omega))]
    unfold mulZ
    rw [within_id (by omega), within_id (by omega), round_eq _ _ (by omega) (by omega), show ((k : Int) + 1).toNat = k + 1 by omega, Nat.add_sub_cancel]
    have e : (2 : Int) ^ (k + 1) = 2 * 2 ^ k := by rw [Int.pow_succ]; omega
    rw [Int.add_comm, Int.add_mul_ediv_right _ _ (by omega), Int.ediv_eq_zero_of_lt (by omega) (by omega), Int.zero_add]

def nearN (Y V OFF HALF B REST W : Int) : Loops := { renF := fun id => match id with
  | 5 => [(1, Y)]
  | 6 => [(0, V)]
  | 8 => [(9, OFF)]
  | 9 => [(10, HALF)]
  | 12 => [(2, B)]
  | 14 => [(13, REST), (12, 0)]
  | 17 => [(14, W)]
  | _ => [] }

end Go.Proofs.Ytfbjpenbpbpcaaa

/-
  Chapter 05: the laws FixedRoots and FixedHolds as calls.
-/
namespace Go.Proofs.Ytfbjpenbpbpcaaa
open Go Den
set_option maxRecDepth 100000
set_option linter.unusedSimpArgs false
set_option linter.unusedVariables false

theorem roots_call (n : Int) (h : isU n = true) : CallOk Try.prog 11 [.int .u64 n] [] (.bool true) [] 0 :=
  pf_ok (N := 300) (L := noLoops) (os := [(4, true), (2, true), (3, true), (2, true)]) (ob := [(logZ n == logZ n, true), (fx5Pre 60 [Value.int IntKind.u64 n] [], true),
      (fx5Pre 59 [Value.int IntKind.u64 n] [], true), (rootZ n == rootZ n, true),
      (fx5Pre 58 [Value.int IntKind.u64 n] [], true), (fx5Pre 57 [Value.int IntKind.u64 n] [], true)]) (nb_sound [] (allT [13, 20]) fx5_sound) noLoops_ok (by kernel_rfl) (by simp [Holds, fx5Pre, fx3Pre, h]) rfl

theorem root_mono {n m : Int} (h0 : 0 ≤ n) (h : n ≤ m) (h1 : m ≤ 18446744073709551615) : rootZ n ≤ rootZ m := by
  obtain ⟨a0, a1, a2, a3⟩ := root_spec n h0 (by omega)
  obtain ⟨b0, b1, b2, b3⟩ := root_spec m (by omega) h1
  have := sq_lt (a := rootZ n) (b := rootZ m + 1) a0 (by omega) (by omega)
  omega

theorem len_mono {n m : Int} (h : n ≤ m) : lenZ n ≤ lenZ m := by
  rcases Int.lt_or_le 0 n with h0 | h0
  · obtain ⟨k, e, k1, k2⟩ := lenZ_spec h0
    obtain ⟨j, e', j1, j2⟩ := lenZ_spec (n := m) (by omega)
    rw [e, e']
    have : k ≤ j := by
      refine Nat.le_of_not_lt fun hk => ?_
      have q1 : (2 : Nat) ^ (j + 1) ≤ 2 ^ k := Nat.pow_le_pow_right (by decide) hk
      have q2 : ((2 ^ (j + 1) : Nat) : Int) ≤ ((2 ^ k : Nat) : Int) := Int.ofNat_le.2 q1
      have q3 : (2 : Int) ^ (j + 1) ≤ 2 ^ k := by simpa using q2
      omega
    omega
  · have e : lenZ n = 0 := by unfold lenZ; rw [if_pos h0]
    rw [e]
    unfold lenZ
    split <;> omega

theorem pow8_mono {n m : Int} (h0 : 0 ≤ n) (h : n ≤ m) : n ^ 8 ≤ m ^ 8 := by
  have a1 : n * n ≤ m * m := Int.mul_le_mul h h h0 (by omega)
  have p1 : 0 ≤ n * n := Int.mul_nonneg h0 h0
  have a2 : n * n * (n * n) ≤ m * m * (m * m) := Int.mul_le_mul a1 a1 p1 (by omega)
  have p2 : 0 ≤ n * n * (n * n) := Int.mul_nonneg p1 p1
  have a3 : n * n * (n * n) * (n * n * (n * n)) ≤ m * m * (m * m) * (m * m * (m * m)) := Int.mul_le_mul a2 a2 p2 (by omega)
  have e1 : n ^ 8 = n * n * (n * n) * (n * n * (n * n)) := by grind
  have e2 : m ^ 8 = m * m * (m * m) * (m * m * (m * m)) := by grind
  rw [e1, e2]; exact a3

theorem log_mono {n m : Int} (h0 : 0 ≤ n) (h : n ≤ m) : logZ n ≤ logZ m := by
  unfold logZ
  have h8 := len_mono (pow8_mono h0 h)
  by_cases hn : n = 0
  · rw [if_pos hn]
    by_cases hm : m = 0
    · rw [if_pos hm]; omega
    · rw [if_neg hm]
      obtain ⟨k, e, _⟩ := lenZ_spec (n := m ^ 8) (Int.pow_pos (by omega))
      omega
  · rw [if_neg hn, if_neg (by omega)]
    omega

theorem holds_call (v w b n m : Int) (hv : inI v = true) (hw : inI w = true) (hn : isU n = true) (hm : isU m = true) : CallOk Try.prog 12 [.int .i64 v, .int .i64 w, .int .i64 b, .int .u64 n, .int .u64 m] [] (.bool true) [] 0 := by
  obtain ⟨B, eB, B1, B2⟩ := posmod b 62 (by decide) (by decide)
  obtain ⟨T, eT⟩ : ∃ T, topZ B = T := ⟨_, rfl⟩
  have hT := top_le B
  rw [eT] at hT
  have hB : withinZ B 1 62 = B := by unfold withinZ; repeat' split
                                     all_goals omega
  have w1 : IntKind.wrap IntKind.i64 (B - 1) = B - 1 := wrap_in (inI_iff.2 (by omega))
  have w2 : IntKind.wrap IntKind.u64 (B - 1) = B - 1 := wrapU_in (by omega) (by omega)
  have w3 : min (Int.toNat (B - 1)) (IntKind.bits IntKind.i64) = B.toNat - 1 := by rw [bits64]; omega
  have eP : (2 : Int) ^ (B.toNat - 1) = T + 1 := by rw [← eT]; unfold topZ; rw [hB]; omega
  have w4 : IntKind.wrap IntKind.i64 (IntKind.wrap IntKind.i64 (1 * 2 ^ min (Int.toNat (IntKind.wrap IntKind.u64 (IntKind.wrap IntKind.i64 (B - 1)))) (IntKind.bits IntKind.i64)) - 1) = T := by
    rw [w1, w2, w3, eP, Int.one_mul, wrap_in (n := T + 1) (inI_iff.2 (by omega)), wrap_in (inI_iff.2 (by omega))]; omega
  have w5 : IntKind.wrap IntKind.i64 (IntKind.wrap IntKind.i64 (0 - T) - 1) = -T - 1 := by rw [wrap_in (n := 0 - T) (inI_iff.2 (by omega)), wrap_in (inI_iff.2 (by omega))]; omega
  have w6 : (IntKind.wrap IntKind.u64 (IntKind.wrap IntKind.i64 (B - 1)) < 0) = False := by rw [w1, w2]; simp; omega
  have sat : ∀ x, satZ x B = if x < -T - 1 then -T - 1 else if T < x then T else x := by
    intro x
    unfold satZ withinZ
    rw [eT]
    repeat' split
    all_goals omega
  obtain ⟨u1, u2⟩ := isU_iff.1 hn
  obtain ⟨u3, u4⟩ := isU_iff.1 hm
  have hlo : isU (if m < n then m else n) = true := by split <;> assumption
  have hhi : isU (if m > n then m else n) = true := by split <;> assumption
  have hle : (if m < n then m else n) ≤ (if m > n then m else n) := by split <;> split <;> omega
  obtain ⟨l1, l2⟩ := isU_iff.1 hlo
  obtain ⟨l3, l4⟩ := isU_iff.1 hhi
  have r1 := root_mono l1 hle l4
  have r2 := log_mono l1 hle
  have r3 : (satZ (if w < v then w else v) B > satZ (if w > v then w else v) B) = False := by
    rw [sat, sat]; simp only [eq_iff_iff, iff_false]
    repeat' split
    all_goals omega
  by_cases c1 : v ≤ T
  · by_cases c2 : v ≥ -T - 1
    · refine pf_ok (N := 300) (L := noLoops) (os := [(4, false), (53, true), (4, true), (5, true), (4, true)]) (ob := [(decide (logZ (if m < n then m else n) ≤ logZ (if m > n then m else n)), true), (fx5Pre 59 [Value.int IntKind.u64 (if m > n then m else n)] [], true), (fx5Pre 59 [Value.int IntKind.u64 (if m < n then m else n)] [], true), (decide (rootZ (if m < n then m else n) ≤ rootZ (if m > n then m else n)), true), (fx5Pre 57 [Value.int IntKind.u64 (if m > n then m else n)] [], true), (fx5Pre 57 [Value.int IntKind.u64 (if m < n then m else n)] [], true), (decide (satZ (if w < v then w else v) B > satZ (if w > v then w else v) B), false), (decide (v < IntKind.wrap IntKind.i64 (IntKind.wrap IntKind.i64 (0 - T) - 1)), false), (decide (v > T), false), (satZ v B != v, false), (decide (v ≥ IntKind.wrap IntKind.i64 (IntKind.wrap IntKind.i64 (0 - T) - 1)), true), (decide (v ≤ T), true), (satZ (satZ v B) B != satZ v B, false), (decide (satZ v B < IntKind.wrap IntKind.i64 (IntKind.wrap IntKind.i64 (0 - T) - 1)), false), (decide (satZ v B > T), false), (decide (IntKind.wrap IntKind.i64 (IntKind.wrap IntKind.i64 (1 * 2 ^ min (Int.toNat (IntKind.wrap IntKind.u64 (IntKind.wrap IntKind.i64 (B - 1)))) (IntKind.bits IntKind.i64)) - 1) = T), true), (decide (IntKind.wrap IntKind.u64 (IntKind.wrap IntKind.i64 (B - 1)) < 0), false), (decide (IntKind.wrap IntKind.i64 (1 + Int.tmod (IntKind.wrap IntKind.i64 (Int.tmod b 62 + 62)) 62) = B), true)]) (nb_sound [(21, B), (26, T)] [(32, false), (38, false), (45, false), (96, false), (107, true), (118, true), (50, true), (56, true), (61, false), (66, false), (77, false)] fx5_sound) noLoops_ok (by kernel_rfl) ?_ rfl
      have q : satZ v B = v := by rw [sat, if_neg (by omega), if_neg (by omega)]
      simp only [w4, w5, eB, w6, r3, q]
      simp [Holds, fx5Pre, fx3Pre, hlo, hhi, r1, r2]
      omega
    · refine pf_ok (N := 300) (L := noLoops) (os := [(4, false), (53, true), (4, true), (5, true), (4, true)]) (ob := [(decide (logZ (if m < n then m else n) ≤ logZ (if m > n then m else n)), true), (fx5Pre 59 [Value.int IntKind.u64 (if m > n then m else n)] [], true), (fx5Pre 59 [Value.int IntKind.u64 (if m < n then m else n)] [], true), (decide (rootZ (if m < n then m else n) ≤ rootZ (if m > n then m else n)), true), (fx5Pre 57 [Value.int IntKind.u64 (if m > n then m else n)] [], true), (fx5Pre 57 [Value.int IntKind.u64 (if m < n then m else n)] [], true), (decide (satZ (if w < v then w else v) B > satZ (if w > v then w else v) B), false), (satZ v B != IntKind.wrap IntKind.i64 (IntKind.wrap IntKind.i64 (0 - T) - 1), false), (decide (v < IntKind.wrap IntKind.i64 (IntKind.wrap IntKind.i64 (0 - T) - 1)), true), (decide (v > T), false), (decide (v ≥ IntKind.wrap IntKind.i64 (IntKind.wrap IntKind.i64 (0 - T) - 1)), false), (decide (v ≤ T), true), (satZ (satZ v B) B != satZ v B, false), (decide (satZ v B < IntKind.wrap IntKind.i64 (IntKind.wrap IntKind.i64 (0 - T) - 1)), false), (decide (satZ v B > T), false), (decide (IntKind.wrap IntKind.i64 (IntKind.wrap IntKind.i64 (1 * 2 ^ min (Int.toNat (IntKind.wrap IntKind.u64 (IntKind.wrap IntKind.i64 (B - 1)))) (IntKind.bits IntKind.i64)) - 1) = T), true), (decide (IntKind.wrap IntKind.u64 (IntKind.wrap IntKind.i64 (B - 1)) < 0), false), (decide (IntKind.wrap IntKind.i64 (1 + Int.tmod (IntKind.wrap IntKind.i64 (Int.tmod b 62 + 62)) 62) = B), true)]) (nb_sound [(21, B), (26, T)] [(32, false), (38, false), (45, false), (96, false), (107, true), (118, true), (50, true), (56, false), (66, false), (77, true), (83, false)] fx5_sound) noLoops_ok (by kernel_rfl) ?_ rfl
      have q : satZ v B = -T - 1 := by rw [sat, if_pos (by omega)]
      have q2 : satZ (-T - 1) B = -T - 1 := by rw [sat, if_neg (by omega), if_neg (by omega)]
      simp only [w4, w5, eB, w6, r3, q, q2]
      simp [Holds, fx5Pre, fx3Pre, hlo, hhi, r1, r2]
      omega
  · refine pf_ok (N := 300) (L := noLoops) (os := [(4, false), (54, true), (4, true), (5, true), (4, true)]) (ob := [(decide (logZ (if m < n then m else n) ≤ logZ (if m > n then m else n)), true), (fx5Pre 59 [Value.int IntKind.u64 (if m > n then m else n)] [], true), (fx5Pre 59 [Value.int IntKind.u64 (if m < n then m else n)] [], true), (decide (rootZ (if m < n then m else n) ≤ rootZ (if m > n then m else n)), true), (fx5Pre 57 [Value.int IntKind.u64 (if m > n then m else n)] [], true), (fx5Pre 57 [Value.int IntKind.u64 (if m < n then m else n)] [], true), (decide (satZ (if w < v then w else v) B > satZ (if w > v then w else v) B), false), (decide (v < IntKind.wrap IntKind.i64 (IntKind.wrap IntKind.i64 (0 - T) - 1)), false), (satZ v B != T, false), (decide (v > T), true), (decide (v ≤ T), false), (satZ (satZ v B) B != satZ v B, false), (decide (satZ v B < IntKind.wrap IntKind.i64 (IntKind.wrap IntKind.i64 (0 - T) - 1)), false), (decide (satZ v B > T), false), (decide (IntKind.wrap IntKind.i64 (IntKind.wrap IntKind.i64 (1 * 2 ^ min (Int.toNat (IntKind.wrap IntKind.u64 (IntKind.wrap IntKind.i64 (B - 1)))) (IntKind.bits IntKind.i64)) - 1) = T), true), (decide (IntKind.wrap IntKind.u64 (IntKind.wrap IntKind.i64 (B - 1)) < 0), false), (decide (IntKind.wrap IntKind.i64 (1 + Int.tmod (IntKind.wrap IntKind.i64 (Int.tmod b 62 + 62)) 62) = B), true)]) (nb_sound [(21, B), (26, T)] [(32, false), (38, false), (45, false), (96, false), (107, true), (118, true), (50, false), (66, true), (70, false), (77, false)] fx5_sound) noLoops_ok (by kernel_rfl) ?_ rfl
    have q : satZ v B = T := by rw [sat, if_neg (by omega), if_pos (by omega)]
    have q2 : satZ T B = T := by rw [sat, if_neg (by omega), if_neg (by omega)]
    simp only [w4, w5, eB, w6, r3, q, q2]
    simp [Holds, fx5Pre, fx3Pre, hlo, hhi, r1, r2]
    omega

end Go.Proofs.Ytfbjpenbpbpcaaa

/-
  Chapter 05: the law FixedSquares as a call.
-/
namespace Go.Proofs.Ytfbjpenbpbpcaaa
open Go Den
set_option maxRecDepth 100000
set_option linter.unusedSimpArgs false
set_option linter.unusedVariables false

theorem log_spec {n : Int} (h0 : 0 < n) (h1 : n ≤ 18446744073709551615) : ∃ k : Nat, logZ n = k ∧ (2 : Int) ^ k ≤ n ^ 8 ∧ n ^ 8 < 2 ^ (k + 1) ∧ k < 512 := by
  obtain ⟨p0, p1⟩ := pow8_lt (n := n) (by omega) h1
  obtain ⟨k, e, k1, k2⟩ := lenZ_spec (n := n ^ 8) (Int.pow_pos h0)
  refine ⟨k, by unfold logZ; rw [if_neg (by omega), e]; omega, k1, k2, ?_⟩
  refine Nat.lt_of_not_le fun hk => ?_
  have hp : ∀ a : Nat, a ≤ k → (2 : Int) ^ a ≤ 2 ^ k := by
    intro a ha
    have q1 : (2 : Nat) ^ a ≤ 2 ^ k := Nat.pow_le_pow_right (by decide) ha
    have q2 : ((2 ^ a : Nat) : Int) ≤ ((2 ^ k : Nat) : Int) := Int.ofNat_le.2 q1
    simpa using q2
  have hq := hp (64 * 8) hk
  rw [Int.pow_mul, show (2 : Int) ^ 64 = DD by decide] at hq
  exact absurd (Int.lt_of_lt_of_le (Int.lt_of_lt_of_le p1 hq) k1) (Int.lt_irrefl _)

theorem log_twice {n : Int} (h0 : 0 < n) : logZ (2 * n) = logZ n + 8 := by
  have e : (2 * n) ^ 8 = n ^ 8 * 2 ^ 8 := by grind
  have hp : (0 : Int) < n ^ 8 := Int.pow_pos h0
  have hd : n ^ 8 * 2 ^ 8 / 2 ^ 8 = n ^ 8 := Int.mul_ediv_cancel _ (by decide)
  have hl := lenZ_div (n := n ^ 8 * 2 ^ 8) (s := 8) (by rw [hd]; exact hp)
  rw [hd] at hl
  unfold logZ
  rw [if_neg (by omega), if_neg (by omega), e, hl]
  omega

theorem log_square {n : Int} (h0 : 0 < n) (h1 : n ≤ 18446744073709551615) : logZ (n * n) = 2 * logZ n ∨ logZ (n * n) = 2 * logZ n + 1 := by
  obtain ⟨k, e, k1, k2, k3⟩ := log_spec h0 h1
  have hp : (0 : Int) < n ^ 8 := Int.pow_pos h0
  have e8 : (n * n) ^ 8 = n ^ 8 * n ^ 8 := by grind
  have p := pow_pos k
  have a1 : (2 : Int) ^ k * 2 ^ k ≤ n ^ 8 * n ^ 8 := Int.mul_le_mul k1 k1 (Int.le_of_lt p) (Int.le_of_lt hp)
  have a2 : n ^ 8 * n ^ 8 < (2 : Int) ^ (k + 1) * 2 ^ (k + 1) := Int.mul_lt_mul k2 (Int.le_of_lt k2) hp (Int.le_of_lt (pow_pos _))
  rw [← Int.pow_add 2 k k] at a1
  rw [← Int.pow_add 2 (k + 1) (k + 1)] at a2
  have hn : n * n ≠ 0 := by have := Int.mul_pos h0 h0; omega
  rw [e]
  unfold logZ
  rw [if_neg hn, e8]
  rcases Int.lt_or_le (n ^ 8 * n ^ 8) (2 ^ (k + k + 1)) with h | h
  · left
    rw [lenZ_eq (k := k + k) a1 h]; omega
  · right
    rw [lenZ_eq (k := k + k + 1) h (by rw [show k + k + 1 + 1 = k + 1 + (k + 1) by omega]; exact a2)]; omega

theorem sq_z1 (n R K : Int) (h : Holds [(n == 0, true), (decide (IntKind.wrap IntKind.u64 (IntKind.wrap IntKind.u64 (R + 1) * IntKind.wrap IntKind.u64 (R + 1)) ≤ n), false), (decide (R < 4294967295), true), (decide (IntKind.wrap IntKind.u64 (R * R) > n), false), (decide (R > 4294967295), false), (decide (rootZ n = R), true), (fx5Pre 57 [Value.int IntKind.u64 n] [], true)]) : CallOk Try.prog 13 [.int .u64 n] [] (.bool true) [] 0 :=
  pf_ok (N := 300) (L := noLoops) (os := [(2, true)]) (ob := [(n == 0, true), (decide (IntKind.wrap IntKind.u64 (IntKind.wrap IntKind.u64 (R + 1) * IntKind.wrap IntKind.u64 (R + 1)) ≤ n), false), (decide (R < 4294967295), true), (decide (IntKind.wrap IntKind.u64 (R * R) > n), false), (decide (R > 4294967295), false), (decide (rootZ n = R), true), (fx5Pre 57 [Value.int IntKind.u64 n] [], true)]) (nb_sound [(11, R), (42, K)] ([(13, false), (19, false), (31, false), (51, false), (73, true), (77, true)] ++ [(23, true), (35, true)]) fx5_sound) noLoops_ok (by kernel_rfl) h rfl
theorem sq_a1 (n R K : Int) (h : Holds [(decide (K < 512), true), (decide (K ≥ 0), true), (decide (n < 4294967296), false), (decide (n < 9223372036854775808), false), (decide (logZ n = K), true), (fx5Pre 59 [Value.int IntKind.u64 n] [], true), (n == 0, false), (decide (IntKind.wrap IntKind.u64 (IntKind.wrap IntKind.u64 (R + 1) * IntKind.wrap IntKind.u64 (R + 1)) ≤ n), false), (decide (R < 4294967295), true), (decide (IntKind.wrap IntKind.u64 (R * R) > n), false), (decide (R > 4294967295), false), (decide (rootZ n = R), true), (fx5Pre 57 [Value.int IntKind.u64 n] [], true)]) : CallOk Try.prog 13 [.int .u64 n] [] (.bool true) [] 0 :=
  pf_ok (N := 300) (L := noLoops) (os := [(2, true), (18, true)]) (ob := [(decide (K < 512), true), (decide (K ≥ 0), true), (decide (n < 4294967296), false), (decide (n < 9223372036854775808), false), (decide (logZ n = K), true), (fx5Pre 59 [Value.int IntKind.u64 n] [], true), (n == 0, false), (decide (IntKind.wrap IntKind.u64 (IntKind.wrap IntKind.u64 (R + 1) * IntKind.wrap IntKind.u64 (R + 1)) ≤ n), false), (decide (R < 4294967295), true), (decide (IntKind.wrap IntKind.u64 (R * R) > n), false), (decide (R > 4294967295), false), (decide (rootZ n = R), true), (fx5Pre 57 [Value.int IntKind.u64 n] [], true)]) (nb_sound [(11, R), (42, K)] ([(13, false), (19, false), (31, false), (51, false), (73, true), (77, true)] ++ [(23, true), (35, false), (44, false), (54, false)]) fx5_sound) noLoops_ok (by kernel_rfl) h rfl
theorem sq_b1 (n R K : Int) (h : Holds [(decide (K < 512), true), (decide (K ≥ 0), true), (decide (n < 4294967296), false), (logZ (IntKind.wrap IntKind.u64 (2 * n)) != IntKind.wrap IntKind.i64 (K + 8), false), (fx5Pre 59 [Value.int IntKind.u64 (IntKind.wrap IntKind.u64 (2 * n))] [], true), (decide (n < 9223372036854775808), true), (decide (logZ n = K), true), (fx5Pre 59 [Value.int IntKind.u64 n] [], true), (n == 0, false), (decide (IntKind.wrap IntKind.u64 (IntKind.wrap IntKind.u64 (R + 1) * IntKind.wrap IntKind.u64 (R + 1)) ≤ n), false), (decide (R < 4294967295), true), (decide (IntKind.wrap IntKind.u64 (R * R) > n), false), (decide (R > 4294967295), false), (decide (rootZ n = R), true), (fx5Pre 57 [Value.int IntKind.u64 n] [], true)]) : CallOk Try.prog 13 [.int .u64 n] [] (.bool true) [] 0 :=
  pf_ok (N := 300) (L := noLoops) (os := [(2, true), (18, true), (3, true)]) (ob := [(decide (K < 512), true), (decide (K ≥ 0), true), (decide (n < 4294967296), false), (logZ (IntKind.wrap IntKind.u64 (2 * n)) != IntKind.wrap IntKind.i64 (K + 8), false), (fx5Pre 59 [Value.int IntKind.u64 (IntKind.wrap IntKind.u64 (2 * n))] [], true), (decide (n < 9223372036854775808), true), (decide (logZ n = K), true), (fx5Pre 59 [Value.int IntKind.u64 n] [], true), (n == 0, false), (decide (IntKind.wrap IntKind.u64 (IntKind.wrap IntKind.u64 (R + 1) * IntKind.wrap IntKind.u64 (R + 1)) ≤ n), false), (decide (R < 4294967295), true), (decide (IntKind.wrap IntKind.u64 (R * R) > n), false), (decide (R > 4294967295), false), (decide (rootZ n = R), true), (fx5Pre 57 [Value.int IntKind.u64 n] [], true)]) (nb_sound [(11, R), (42, K)] ([(13, false), (19, false), (31, false), (51, false), (73, true), (77, true)] ++ [(23, true), (35, false), (44, true), (54, false)]) fx5_sound) noLoops_ok (by kernel_rfl) h rfl
theorem sq_c1 (n R K : Int) (h : Holds [(decide (K < 512), true), (decide (K ≥ 0), true), (logZ (IntKind.wrap IntKind.u64 (n * n)) != IntKind.wrap IntKind.i64 (2 * K), false), (fx5Pre 59 [Value.int IntKind.u64 (IntKind.wrap IntKind.u64 (n * n))] [], true), (decide (n < 4294967296), true), (logZ (IntKind.wrap IntKind.u64 (2 * n)) != IntKind.wrap IntKind.i64 (K + 8), false), (fx5Pre 59 [Value.int IntKind.u64 (IntKind.wrap IntKind.u64 (2 * n))] [], true), (decide (n < 9223372036854775808), true), (decide (logZ n = K), true), (fx5Pre 59 [Value.int IntKind.u64 n] [], true), (n == 0, false), (decide (IntKind.wrap IntKind.u64 (IntKind.wrap IntKind.u64 (R + 1) * IntKind.wrap IntKind.u64 (R + 1)) ≤ n), false), (decide (R < 4294967295), true), (decide (IntKind.wrap IntKind.u64 (R * R) > n), false), (decide (R > 4294967295), false), (decide (rootZ n = R), true), (fx5Pre 57 [Value.int IntKind.u64 n] [], true)]) : CallOk Try.prog 13 [.int .u64 n] [] (.bool true) [] 0 :=
  pf_ok (N := 300) (L := noLoops) (os := [(2, true), (18, true), (3, true), (5, true)]) (ob := [(decide (K < 512), true), (decide (K ≥ 0), true), (logZ (IntKind.wrap IntKind.u64 (n * n)) != IntKind.wrap IntKind.i64 (2 * K), false), (fx5Pre 59 [Value.int IntKind.u64 (IntKind.wrap IntKind.u64 (n * n))] [], true), (decide (n < 4294967296), true), (logZ (IntKind.wrap IntKind.u64 (2 * n)) != IntKind.wrap IntKind.i64 (K + 8), false), (fx5Pre 59 [Value.int IntKind.u64 (IntKind.wrap IntKind.u64 (2 * n))] [], true), (decide (n < 9223372036854775808), true), (decide (logZ n = K), true), (fx5Pre 59 [Value.int IntKind.u64 n] [], true), (n == 0, false), (decide (IntKind.wrap IntKind.u64 (IntKind.wrap IntKind.u64 (R + 1) * IntKind.wrap IntKind.u64 (R + 1)) ≤ n), false), (decide (R < 4294967295), true), (decide (IntKind.wrap IntKind.u64 (R * R) > n), false), (decide (R > 4294967295), false), (decide (rootZ n = R), true), (fx5Pre 57 [Value.int IntKind.u64 n] [], true)]) (nb_sound [(11, R), (42, K)] ([(13, false), (19, false), (31, false), (51, false), (73, true), (77, true)] ++ [(23, true), (35, false), (44, true), (54, true), (62, false)]) fx5_sound) noLoops_ok (by kernel_rfl) h rfl
theorem sq_d1 (n R K : Int) (h : Holds [(decide (K < 512), true), (decide (K ≥ 0), true), (logZ (IntKind.wrap IntKind.u64 (n * n)) != IntKind.wrap IntKind.i64 (IntKind.wrap IntKind.i64 (2 * K) + 1), false), (logZ (IntKind.wrap IntKind.u64 (n * n)) != IntKind.wrap IntKind.i64 (2 * K), true), (fx5Pre 59 [Value.int IntKind.u64 (IntKind.wrap IntKind.u64 (n * n))] [], true), (decide (n < 4294967296), true), (logZ (IntKind.wrap IntKind.u64 (2 * n)) != IntKind.wrap IntKind.i64 (K + 8), false), (fx5Pre 59 [Value.int IntKind.u64 (IntKind.wrap IntKind.u64 (2 * n))] [], true), (decide (n < 9223372036854775808), true), (decide (logZ n = K), true), (fx5Pre 59 [Value.int IntKind.u64 n] [], true), (n == 0, false), (decide (IntKind.wrap IntKind.u64 (IntKind.wrap IntKind.u64 (R + 1) * IntKind.wrap IntKind.u64 (R + 1)) ≤ n), false), (decide (R < 4294967295), true), (decide (IntKind.wrap IntKind.u64 (R * R) > n), false), (decide (R > 4294967295), false), (decide (rootZ n = R), true), (fx5Pre 57 [Value.int IntKind.u64 n] [], true)]) : CallOk Try.prog 13 [.int .u64 n] [] (.bool true) [] 0 :=
  pf_ok (N := 300) (L := noLoops) (os := [(2, true), (18, true), (3, true), (5, true)]) (ob := [(decide (K < 512), true), (decide (K ≥ 0), true), (logZ (IntKind.wrap IntKind.u64 (n * n)) != IntKind.wrap IntKind.i64 (IntKind.wrap IntKind.i64 (2 * K) + 1), false), (logZ (IntKind.wrap IntKind.u64 (n * n)) != IntKind.wrap IntKind.i64 (2 * K), true), (fx5Pre 59 [Value.int IntKind.u64 (IntKind.wrap IntKind.u64 (n * n))] [], true), (decide (n < 4294967296), true), (logZ (IntKind.wrap IntKind.u64 (2 * n)) != IntKind.wrap IntKind.i64 (K + 8), false), (fx5Pre 59 [Value.int IntKind.u64 (IntKind.wrap IntKind.u64 (2 * n))] [], true), (decide (n < 9223372036854775808), true), (decide (logZ n = K), true), (fx5Pre 59 [Value.int IntKind.u64 n] [], true), (n == 0, false), (decide (IntKind.wrap IntKind.u64 (IntKind.wrap IntKind.u64 (R + 1) * IntKind.wrap IntKind.u64 (R + 1)) ≤ n), false), (decide (R < 4294967295), true), (decide (IntKind.wrap IntKind.u64 (R * R) > n), false), (decide (R > 4294967295), false), (decide (rootZ n = R), true), (fx5Pre 57 [Value.int IntKind.u64 n] [], true)]) (nb_sound [(11, R), (42, K)] ([(13, false), (19, false), (31, false), (51, false), (73, true), (77, true)] ++ [(23, true), (35, false), (44, true), (54, true), (62, true), (68, false)]) fx5_sound) noLoops_ok (by kernel_rfl) h rfl
theorem sq_z0 (n R K : Int) (h : Holds [(n == 0, true), (decide (R < 4294967295), false), (decide (IntKind.wrap IntKind.u64 (R * R) > n), false), (decide (R > 4294967295), false), (decide (rootZ n = R), true), (fx5Pre 57 [Value.int IntKind.u64 n] [], true)]) : CallOk Try.prog 13 [.int .u64 n] [] (.bool true) [] 0 :=
  pf_ok (N := 300) (L := noLoops) (os := [(2, true)]) (ob := [(n == 0, true), (decide (R < 4294967295), false), (decide (IntKind.wrap IntKind.u64 (R * R) > n), false), (decide (R > 4294967295), false), (decide (rootZ n = R), true), (fx5Pre 57 [Value.int IntKind.u64 n] [], true)]) (nb_sound [(11, R), (42, K)] ([(13, false), (19, false), (31, false), (51, false), (73, true), (77, true)] ++ [(23, false), (35, true)]) fx5_sound) noLoops_ok (by kernel_rfl) h rfl
theorem sq_a0 (n R K : Int) (h : Holds [(decide (K < 512), true), (decide (K ≥ 0), true), (decide (n < 4294967296), false), (decide (n < 9223372036854775808), false), (decide (logZ n = K), true), (fx5Pre 59 [Value.int IntKind.u64 n] [], true), (n == 0, false), (decide (R < 4294967295), false), (decide (IntKind.wrap IntKind.u64 (R * R) > n), false), (decide (R > 4294967295), false), (decide (rootZ n = R), true), (fx5Pre 57 [Value.int IntKind.u64 n] [], true)]) : CallOk Try.prog 13 [.int .u64 n] [] (.bool true) [] 0 :=
  pf_ok (N := 300) (L := noLoops) (os := [(2, true), (19, true)]) (ob := [(decide (K < 512), true), (decide (K ≥ 0), true), (decide (n < 4294967296), false), (decide (n < 9223372036854775808), false), (decide (logZ n = K), true), (fx5Pre 59 [Value.int IntKind.u64 n] [], true), (n == 0, false), (decide (R < 4294967295), false), (decide (IntKind.wrap IntKind.u64 (R * R) > n), false), (decide (R > 4294967295), false), (decide (rootZ n = R), true), (fx5Pre 57 [Value.int IntKind.u64 n] [], true)]) (nb_sound [(11, R), (42, K)] ([(13, false), (19, false), (31, false), (51, false), (73, true), (77, true)] ++ [(23, false), (35, false), (44, false), (54, false)]) fx5_sound) noLoops_ok (by kernel_rfl) h rfl
theorem sq_b0 (n R K : Int) (h : Holds [(decide (K < 512), true), (decide (K ≥ 0), true), (decide (n < 4294967296), false), (logZ (IntKind.wrap IntKind.u64 (2 * n)) != IntKind.wrap IntKind.i64 (K + 8), false), (fx5Pre 59 [Value.int IntKind.u64 (IntKind.wrap IntKind.u64 (2 * n))] [], true), (decide (n < 9223372036854775808), true), (decide (logZ n = K), true), (fx5Pre 59 [Value.int IntKind.u64 n] [], true), (n == 0, false), (decide (R < 4294967295), false), (decide (IntKind.wrap IntKind.u64 (R * R) > n), false), (decide (R > 4294967295), false), (decide (rootZ n = R), true), (fx5Pre 57 [Value.int IntKind.u64 n] [], true)]) : CallOk Try.prog 13 [.int .u64 n] [] (.bool true) [] 0 :=
  pf_ok (N := 300) (L := noLoops) (os := [(2, true), (19, true), (3, true)]) (ob := [(decide (K < 512), true), (decide (K ≥ 0), true), (decide (n < 4294967296), false), (logZ (IntKind.wrap IntKind.u64 (2 * n)) != IntKind.wrap IntKind.i64 (K + 8), false), (fx5Pre 59 [Value.int IntKind.u64 (IntKind.wrap IntKind.u64 (2 * n))] [], true), (decide (n < 9223372036854775808), true), (decide (logZ n = K), true), (fx5Pre 59 [Value.int IntKind.u64 n] [], true), (n == 0, false), (decide (R < 4294967295), false), (decide (IntKind.wrap IntKind.u64 (R * R) > n), false), (decide (R > 4294967295), false), (decide (rootZ n = R), true), (fx5Pre 57 [Value.int IntKind.u64 n] [], true)]) (nb_sound [(11, R), (42, K)] ([(13, false), (19, false), (31, false), (51, false), (73, true), (77, true)] ++ [(23, false), (35, false), (44, true), (54, false)]) fx5_sound) noLoops_ok (by kernel_rfl) h rfl
theorem sq_c0 (n R K : Int) (h : Holds [(decide (K < 512), true), (decide (K ≥ 0), true), (logZ (IntKind.wrap IntKind.u64 (n * n)) != IntKind.wrap IntKind.i64 (2 * K), false), (fx5Pre 59 [Value.int IntKind.u64 (IntKind.wrap IntKind.u64 (n * n))] [], true), (decide (n < 4294967296), true), (logZ (IntKind.wrap IntKind.u64 (2 * n)) != IntKind.wrap IntKind.i64 (K + 8), false), (fx5Pre 59 [Value.int IntKind.u64 (IntKind.wrap IntKind.u64 (2 * n))] [], true), (decide (n < 9223372036854775808), true), (decide (logZ n = K), true), (fx5Pre 59 [Value.int IntKind.u64 n] [], true), (n == 0, false), (decide (R < 4294967295), false), (decide (IntKind.wrap IntKind.u64 (R * R) > n), false), (decide (R > 4294967295), false), (decide (rootZ n = R), true), (fx5Pre 57 [Value.int IntKind.u64 n] [], true)]) : CallOk Try.prog 13 [.int .u64 n] [] (.bool true) [] 0 :=
  pf_ok (N := 300) (L := noLoops) (os := [(2, true), (19, true), (3, true), (5, true)]) (ob := [(decide (K < 512), true), (decide (K ≥ 0), true), (logZ (IntKind.wrap IntKind.u64 (n * n)) != IntKind.wrap IntKind.i64 (2 * K), false), (fx5Pre 59 [Value.int IntKind.u64 (IntKind.wrap IntKind.u64 (n * n))] [], true), (decide (n < 4294967296), true), (logZ (IntKind.wrap IntKind.u64 (2 * n)) != IntKind.wrap IntKind.i64 (K + 8), false), (fx5Pre 59 [Value.int IntKind.u64 (IntKind.wrap IntKind.u64 (2 * n))] [], true), (decide (n < 9223372036854775808), true), (decide (logZ n = K), true), (fx5Pre 59 [Value.int IntKind.u64 n] [], true), (n == 0, false), (decide (R < 4294967295), false), (decide (IntKind.wrap IntKind.u64 (R * R) > n), false), (decide (R > 4294967295), false), (decide (rootZ n = R), true), (fx5Pre 57 [Value.int IntKind.u64 n] [], true)]) (nb_sound [(11, R), (42, K)] ([(13, false), (19, false), (31, false), (51, false), (73, true), (77, true)] ++ [(23, false), (35, false), (44, true), (54, true), (62, false)]) fx5_sound) noLoops_ok (by kernel_rfl) h rfl
theorem sq_d0 (n R K : Int) (h : Holds [(decide (K < 512), true), (decide (K ≥ 0), true), (logZ (IntKind.wrap IntKind.u64 (n * n)) != IntKind.wrap IntKind.i64 (IntKind.wrap IntKind.i64 (2 * K) + 1), false), (logZ (IntKind.wrap IntKind.u64 (n * n)) != IntKind.wrap IntKind.i64 (2 * K), true), (fx5Pre 59 [Value.int IntKind.u64 (IntKind.wrap IntKind.u64 (n * n))] [], true), (decide (n < 4294967296), true), (logZ (IntKind.wrap IntKind.u64 (2 * n)) != IntKind.wrap IntKind.i64 (K + 8), false), (fx5Pre 59 [Value.int IntKind.u64 (IntKind.wrap IntKind.u64 (2 * n))] [], true), (decide (n < 9223372036854775808), true), (decide (logZ n = K), true), (fx5Pre 59 [Value.int IntKind.u64 n] [], true), (n == 0, false), (decide (R < 4294967295), false), (decide (IntKind.wrap IntKind.u64 (R * R) > n), false), (decide (R > 4294967295), false), (decide (rootZ n = R), true), (fx5Pre 57 [Value.int IntKind.u64 n] [], true)]) : CallOk Try.prog 13 [.int .u64 n] [] (.bool true) [] 0 :=
  pf_ok (N := 300) (L := noLoops) (os := [(2, true), (19, true), (3, true), (5, true)]) (ob := [(decide (K < 512), true), (decide (K ≥ 0), true), (logZ (IntKind.wrap IntKind.u64 (n * n)) != IntKind.wrap IntKind.i64 (IntKind.wrap IntKind.i64 (2 * K) + 1), false), (logZ (IntKind.wrap IntKind.u64 (n * n)) != IntKind.wrap IntKind.i64 (2 * K), true), (fx5Pre 59 [Value.int IntKind.u64 (IntKind.wrap IntKind.u64 (n * n))] [], true), (decide (n < 4294967296), true), (logZ (IntKind.wrap IntKind.u64 (2 * n)) != IntKind.wrap IntKind.i64 (K + 8), false), (fx5Pre 59 [Value.int IntKind.u64 (IntKind.wrap IntKind.u64 (2 * n))] [], true), (decide (n < 9223372036854775808), true), (decide (logZ n = K), true), (fx5Pre 59 [Value.int IntKind.u64 n] [], true), (n == 0, false), (decide (R < 4294967295), false), (decide (IntKind.wrap IntKind.u64 (R * R) > n), false), (decide (R > 4294967295), false), (decide (rootZ n = R), true), (fx5Pre 57 [Value.int IntKind.u64 n] [], true)]) (nb_sound [(11, R), (42, K)] ([(13, false), (19, false), (31, false), (51, false), (73, true), (77, true)] ++ [(23, false), (35, false), (44, true), (54, true), (62, true), (68, false)]) fx5_sound) noLoops_ok (by kernel_rfl) h rfl

theorem squares_call (n : Int) (hn : isU n = true) : CallOk Try.prog 13 [.int .u64 n] [] (.bool true) [] 0 := by
  obtain ⟨n0, n1⟩ := isU_iff.1 hn
  obtain ⟨a0, a1, a2, a3⟩ := root_spec n n0 n1
  obtain ⟨R, eR⟩ : ∃ R, rootZ n = R := ⟨_, rfl⟩
  rw [eR] at a0 a1 a2 a3
  have hRR : 0 ≤ R * R := Int.mul_nonneg a0 a0
  have w1 : IntKind.wrap IntKind.u64 (R * R) = R * R := wrapU_in (by omega) (by omega)
  have t1 : (R * R > n) = False := by simp; omega
  have t2 : (R > 4294967295) = False := by simp; omega
  have w2 : IntKind.wrap IntKind.u64 (R + 1) = R + 1 := wrapU_in (by omega) (by omega)
  have w3 : R < 4294967295 → IntKind.wrap IntKind.u64 ((R + 1) * (R + 1)) = (R + 1) * (R + 1) := fun h => by
    have : (R + 1) * (R + 1) ≤ 4294967295 * 4294967295 := Int.mul_le_mul (by omega) (by omega) (by omega) (by omega)
    exact wrapU_in (by omega) (by omega)
  have t3 : ((R + 1) * (R + 1) ≤ n) = False := by simp; omega
  by_cases hz : n = 0
  · have hR : R < 4294967295 := by
      have := sq_lt (a := R) (b := 1) a0 (by omega) (by decide)
      omega
    refine sq_z1 n R 0 ?_
    simp only [eR, w1, w2, w3 hR, t1, t2, t3]
    simp [Holds, fx5Pre, fx3Pre, hn, hz, hR, show isU 0 = true from rfl]
    try omega
  obtain ⟨k, eK, k1, k2, k3⟩ := log_spec (n := n) (by omega) n1
  obtain ⟨K, eK'⟩ : ∃ K, logZ n = K := ⟨_, rfl⟩
  have hK : 0 ≤ K ∧ K < 512 := by omega
  have w4 : IntKind.wrap IntKind.i64 (K + 8) = K + 8 := wrap_in (inI_iff.2 (by omega))
  have w5 : IntKind.wrap IntKind.i64 (2 * K) = 2 * K := wrap_in (inI_iff.2 (by omega))
  have w5' : IntKind.wrap IntKind.i64 (2 * K + 1) = 2 * K + 1 := wrap_in (inI_iff.2 (by omega))
  have w6 : n < 9223372036854775808 → IntKind.wrap IntKind.u64 (2 * n) = 2 * n := fun h => wrapU_in (by omega) (by omega)
  have w7 : n < 4294967296 → IntKind.wrap IntKind.u64 (n * n) = n * n := fun h => by
    have : n * n ≤ 4294967295 * 4294967295 := Int.mul_le_mul (by omega) (by omega) (by omega) (by omega)
    have : 0 ≤ n * n := Int.mul_nonneg n0 n0
    exact wrapU_in (by omega) (by omega)
  have u7 : n < 4294967296 → isU (n * n) = true := fun h => by
    have : n * n ≤ 4294967295 * 4294967295 := Int.mul_le_mul (by omega) (by omega) (by omega) (by omega)
    have : 0 ≤ n * n := Int.mul_nonneg n0 n0
    exact isU_iff.2 (by omega)
  have u6 : n < 9223372036854775808 → isU (2 * n) = true := fun h => isU_iff.2 (by omega)
  have l2 : logZ (2 * n) = K + 8 := by rw [log_twice (by omega), eK']
  have ls := log_square (n := n) (by omega) n1
  rw [eK'] at ls
  by_cases hR : R < 4294967295
  · have w3 := w3 hR
    by_cases h63 : n < 9223372036854775808
    · have w6 := w6 h63
      have u6 := u6 h63
      by_cases h32 : n < 4294967296
      · have w7 := w7 h32
        have u7 := u7 h32
        by_cases hs : logZ (n * n) = 2 * K
        · refine sq_c1 n R K ?_
          simp only [eR, eK', w1, w2, w3, t1, t2, t3, w4, w5, w6, w7, l2, hs]
          simp [Holds, fx5Pre, fx3Pre, hn, hz, hR, h63, h32, u6, u7]
          try omega
        · refine sq_d1 n R K ?_
          have hs' : logZ (n * n) = 2 * K + 1 := by omega
          simp only [eR, eK', w1, w2, w3, t1, t2, t3, w4, w5, w5', w6, w7, l2, hs']
          simp [Holds, fx5Pre, fx3Pre, hn, hz, hR, h63, h32, u6, u7]
          try omega
      · refine sq_b1 n R K ?_
        simp only [eR, eK', w1, w2, w3, t1, t2, t3, w4, w6, l2]
        simp [Holds, fx5Pre, fx3Pre, hn, hz, hR, h63, h32, u6]
        try omega
    · refine sq_a1 n R K ?_
      have h32 : ¬ n < 4294967296 := by omega
      simp only [eR, eK', w1, w2, w3, t1, t2, t3]
      simp [Holds, fx5Pre, fx3Pre, hn, hz, hR, h63, h32]
      try omega
  · clear w3
    by_cases h63 : n < 9223372036854775808
    · have w6 := w6 h63
      have u6 := u6 h63
      by_cases h32 : n < 4294967296
      · have w7 := w7 h32
        have u7 := u7 h32
        by_cases hs : logZ (n * n) = 2 * K
        · refine sq_c0 n R K ?_
          simp only [eR, eK', w1, w2, t1, t2, t3, w4, w5, w6, w7, l2, hs]
          simp [Holds, fx5Pre, fx3Pre, hn, hz, hR, h63, h32, u6, u7]
          try omega
        · refine sq_d0 n R K ?_
          have hs' : logZ (n * n) = 2 * K + 1 := by omega
          simp only [eR, eK', w1, w2, t1, t2, t3, w4, w5, w5', w6, w7, l2, hs']
          simp [Holds, fx5Pre, fx3Pre, hn, hz, hR, h63, h32, u6, u7]
          try omega
      · refine sq_b0 n R K ?_
        simp only [eR, eK', w1, w2, t1, t2, t3, w4, w6, l2]
        simp [Holds, fx5Pre, fx3Pre, hn, hz, hR, h63, h32, u6]
        try omega
    · refine sq_a0 n R K ?_
      have h32 : ¬ n < 4294967296 := by omega
      simp only [eR, eK', w1, w2, t1, t2, t3]
      simp [Holds, fx5Pre, fx3Pre, hn, hz, hR, h63, h32]
      try omega

end Go.Proofs.Ytfbjpenbpbpcaaa

