/-
  Chapter 05's logarithm: the contract of the reference's Log; chapter 05's contracts, joined.
-/
import Derived.Test.YtfbjpenbpbpcaaaLg6
namespace Go.Proofs.Ytfbjpenbpbpcaaa
open Go Den
set_option maxRecDepth 100000
set_option linter.unusedSimpArgs false
set_option linter.unusedVariables false

def lnO : Oracle := fun f args H => match f with
  | 117 => match args, H with
    | [.slice (some ⟨0, 0, none⟩) 16 16], [x] => match intsU x.cells with
      | some xs => match Nat.beq xs.length 16 with
        | true => some (.int .i64 (lenZ (valD D32 xs)), [x], 1)
        | false => none
      | none => none
    | _, _ => none
  | _ => none
def lg2Pre : Pre := fun f args H => match f with
  | 117 => cellsIn D32 args H
  | _ => lgoPre f args H
def lg2O : Oracle := orElse lnO lgO
theorem lg2_sound : Sound Try.prog (strict lg2Pre lg2O) := by
  refine Sound.strict fun f args H v H' l hp h => ?_
  unfold lg2O orElse at h
  split at h
  · rename_i r hr
    injection h with h
    subst h
    unfold lnO at hr
    split at hr
    · split at hr
      · rename_i x
        split at hr
        · rename_i xs hxs
          split at hr
          · rename_i hlen
            simp only [Option.some.injEq, Prod.mk.injEq] at hr
            obtain ⟨rfl, rfl, rfl⟩ := hr
            have hin : inD D32 xs := by
              simp only [lg2Pre, cellsIn, List.getElem?_cons_zero, hxs] at hp
              exact inD_of_all (by decide) hp
            obtain ⟨own, grown, cells⟩ := x
            simp only at hxs
            have hcells := intsU_eq _ _ hxs
            subst hcells
            exact long_ok own grown xs hin (Nat.eq_of_beq_eq_true hlen)
          · simp at hr
        · simp at hr
      · simp at hr
    · simp at hr
  · refine lgO_sound f args H v H' l ?_
    unfold strict
    have : lgoPre f args H = true := by
      unfold lg2Pre at hp
      split at hp
      · rfl
      · exact hp
    rw [this]
    exact h

theorem lg2_pre : Sound Try.prog (strict (framePre lg2Pre) (frameC lg2O)) := frame_sound lg2_sound

abbrev r3 (LO HI : Int) : List Int := sq1 D32 (sq1 D32 (sq1 D32 [LO, HI] 4) 8) 16

theorem reflog_run (n LO HI : Int) : (evFnL Try.prog ext 300 (nmPre (framePre lg2Pre)) (nmC [(7, LO), (9, HI)] (frameC lg2O)) noLoops [(0, false), (1, true), (0, true), (0, true), (0, true)] 60 [.int .u64 n] []).map (fun r => (r.1.1, r.2)) =
    some (.int .i64 (IntKind.wrap IntKind.i64 (lenZ (valD D32 (r3 LO HI)) - 1)), [(lg2Pre 117 [.slice (some ⟨0, 0, none⟩) 16 16] [blkU (r3 LO HI)], true), (lg2Pre 118 [.slice (some ⟨0, 0, none⟩) 8 8] [blkU (sq1 D32 (sq1 D32 [LO, HI] 4) 8)], true),
      (lg2Pre 118 [.slice (some ⟨0, 0, none⟩) 4 4] [blkU (sq1 D32 [LO, HI] 4)], true), (lg2Pre 118 [.slice (some ⟨0, 0, none⟩) 2 2] [blkU [LO, HI]], true), (decide (Int.fdiv n (2 ^ 32) = HI), true), (decide (lowW n = LO), true), (n == 0, false)]) := by kernel_rfl

theorem ref_log_ok (n : Int) (h0 : 0 ≤ n) (h1 : n ≤ 18446744073709551615) : CallOk Try.prog 60 [.int .u64 n] [] (.int .i64 (logZ n)) [] 0 := by
  by_cases hn : n = 0
  · subst hn
    exact pf_ok (N := 300) (L := noLoops) (os := [(0, true)]) (ob := [((0 : Int) == 0, true)]) lg2_pre noLoops_ok (by kernel_rfl) (by simp [Holds]) rfl
  have eLO : lowW n = n % D32 := lowW_eq h0 h1
  have eHI : Int.fdiv n (2 ^ 32) = n / D32 := by rw [show (2 : Int) ^ 32 = D32 by decide, Int.fdiv_eq_ediv_of_nonneg _ (by decide)]
  have hlo : 0 ≤ n % D32 ∧ n % D32 < D32 := ⟨Int.emod_nonneg _ (by decide), Int.emod_lt_of_pos _ (by decide)⟩
  have hhi : 0 ≤ n / D32 ∧ n / D32 < D32 := ⟨Int.ediv_nonneg h0 (by decide), Int.ediv_lt_of_lt_mul (by decide) (by simp only [D32]; omega)⟩
  have ev : valD D32 [n % D32, n / D32] = n := by
    simp only [valD, Int.mul_zero, Int.add_zero]
    have := Int.emod_add_mul_ediv n D32
    omega
  generalize n % D32 = LO at *
  generalize n / D32 = HI at *
  have a1 := sq_sq (m := n) (B := D32 ^ 2) (C := D32 ^ 4) h0 (by simp only [D32]; omega) (by decide)
  have a2 := sq_sq (m := n) (B := D32 ^ 4) (C := D32 ^ 8) a1.1 a1.2 (by decide)
  have a3 := sq_sq (m := n) (B := D32 ^ 8) (C := D32 ^ 16) a2.1 a2.2 (by decide)
  have e1 : valD D32 (sq1 D32 [LO, HI] 4) = n * n := by unfold sq1; rw [ev]; exact valD_digs D32 (by decide) 4 _ a1.1 a1.2
  have e2 : valD D32 (sq1 D32 (sq1 D32 [LO, HI] 4) 8) = n * n * (n * n) := by
    show valD D32 (digs D32 (valD D32 (sq1 D32 [LO, HI] 4) * valD D32 (sq1 D32 [LO, HI] 4)) 8) = _
    rw [e1]; exact valD_digs D32 (by decide) 8 _ a2.1 a2.2
  have e3 : valD D32 (r3 LO HI) = n ^ 8 := by
    show valD D32 (digs D32 (valD D32 (sq1 D32 (sq1 D32 [LO, HI] 4) 8) * valD D32 (sq1 D32 (sq1 D32 [LO, HI] 4) 8)) 16) = _
    rw [e2, valD_digs D32 (by decide) 16 _ a3.1 a3.2]
    grind
  have hr := reflog_run n LO HI
  obtain ⟨p0, p1⟩ := pow8_lt h0 h1
  have hl : 0 ≤ lenZ (n ^ 8) ∧ lenZ (n ^ 8) ≤ 1000 := by
    obtain ⟨k, ek, k1, k2⟩ := lenZ_spec (n := n ^ 8) (Int.pow_pos (by omega))
    rw [ek]
    have : k < 512 := by
      refine Nat.lt_of_not_le fun hk => ?_
      have hp : ∀ a : Nat, a ≤ k → (2 : Int) ^ a ≤ 2 ^ k := by
        intro a ha
        have q1 : (2 : Nat) ^ a ≤ 2 ^ k := Nat.pow_le_pow_right (by decide) ha
        have q2 : ((2 ^ a : Nat) : Int) ≤ ((2 ^ k : Nat) : Int) := Int.ofNat_le.2 q1
        simpa using q2
      have hq := hp (64 * 8) hk
      rw [Int.pow_mul, show (2 : Int) ^ 64 = DD by decide] at hq
      exact absurd (Int.lt_of_lt_of_le (Int.lt_of_lt_of_le p1 hq) k1) (Int.lt_irrefl _)
    omega
  rw [e3, wrap_in (inI_iff.2 (by omega)), show lenZ (n ^ 8) - 1 = logZ n by unfold logZ; rw [if_neg hn]] at hr
  refine pf_ok (nm_sound _ lg2_pre) noLoops_ok hr ?_ rfl
  have b1 : lg2Pre 117 [.slice (some ⟨0, 0, none⟩) 16 16] [blkU (r3 LO HI)] = true := cells_digs D32 (valD D32 (sq1 D32 (sq1 D32 [LO, HI] 4) 8) * valD D32 (sq1 D32 (sq1 D32 [LO, HI] 4) 8)) (by decide) 16 true none 16 16
  have b2 : lg2Pre 118 [.slice (some ⟨0, 0, none⟩) 8 8] [blkU (sq1 D32 (sq1 D32 [LO, HI] 4) 8)] = true := cells_digs D32 (valD D32 (sq1 D32 [LO, HI] 4) * valD D32 (sq1 D32 [LO, HI] 4)) (by decide) 8 true none 8 8
  have b3 : lg2Pre 118 [.slice (some ⟨0, 0, none⟩) 4 4] [blkU (sq1 D32 [LO, HI] 4)] = true := cells_digs D32 (valD D32 [LO, HI] * valD D32 [LO, HI]) (by decide) 4 true none 4 4
  have b4 : lg2Pre 118 [.slice (some ⟨0, 0, none⟩) 2 2] [blkU [LO, HI]] = true := by
    simp [lg2Pre, lgoPre, cellsIn, blkU, intsU, hlo, hhi]
  rw [eLO, eHI, b1, b2, b3, b4]
  simp [Holds, hn]

end Go.Proofs.Ytfbjpenbpbpcaaa
