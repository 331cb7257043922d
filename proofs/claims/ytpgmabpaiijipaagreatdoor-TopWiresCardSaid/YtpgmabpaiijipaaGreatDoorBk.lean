/-
  The closure of slices.Backward: a call of yield for each place of the row, the last first.
-/
import Derived.RangeFuncBox
import Derived.RangeFuncLeaves
import Derived.Shelf.Abstract
import Derived.WalkKit
import Derived.OwnWalkIn
import Derived.TacticsInMore
import Derived.LoopNIn
import Derived.LoopIn
import Derived.Test.YtpgmabpaiijipaaGreatDoorProg
import Derived.Test.YtpgmabpaiijipaaGreatDoorZ01
namespace Go.Proofs.YtpgmabpaiijipaaGreatDoor
open Go Go.Proofs Go.RowKit Go.Shelf Den
attribute [local go_sem] Oper.semAt_some
set_option maxRecDepth 100000
set_option maxHeartbeats 2000000 in
theorem back_calls (l br bo b off len cap : Nat) (J : Nat → World → Prop) (Jx : World → Prop) (W : World) (_ : len ≤ cap) (hlen : len ≤ 4294967296)
    (hb : W.cell? ⟨br, bo, none⟩ = some (.slice (some ⟨b, off, none⟩) len cap))
    (hY : ∀ k W, k < len → J (k + 1) W → W.cell? ⟨br, bo, none⟩ = some (.slice (some ⟨b, off, none⟩) len cap) ∧ ∃ v : Int, W.cell? ⟨b, off + k, none⟩ = some (.int .i64 v) ∧
      YieldAt Fence.wide 0 Tryz.prog l #[.int .i64 (k : Nat), .int .i64 v] W fun e W' => (e = .returned (.bool true) ∧ J k W') ∨ (e = .returned (.bool false) ∧ Jx W'))
    (h0 : J len W) : CallsIn Fence.wide 0 Tryz.prog 192 #[.func (.yield l) #[] #[], .pointer (some ⟨br, bo, none⟩)] W fun e W' => (∃ v, e = .returned v) ∧ (J 0 W' ∨ Jx W') := by
  refine callsIn_of_wp Tryz.func192 rfl trivial ?_ rfl
  simp only [Tryz.ntmps192, List.size_toArray, List.length_cons, List.length_nil, Nat.reduceAdd, Nat.reduceSub, Array.replicate_succ, Array.replicate_zero, List.push_toArray, List.append_toArray, List.nil_append, List.cons_append]
  gi_wp2
  gi_loopw [3] (fun i wr => ∃ k : Nat, k ≤ len ∧ i = .int .i64 ((k : Int) - 1) ∧ J k wr)
    (fun i _ => (intOf i + 1).toNat)
  case atStart => exact ⟨len, Nat.le_refl _, rfl, h0⟩
  case round =>
    obtain ⟨k, hk, rfl, hJs⟩ := hrel
    cases k with
    | zero =>
      gi_wp2
      go_end0
      exact ⟨⟨_, rfl⟩, .inl hJs⟩
    | succ k =>
      obtain ⟨hbx, v, hv, fn, tmps, assign, body, hy, hR⟩ := hY k wr (by omega) hJs
      gi_wp2
      refine ⟨rfl, hR.mono ?_⟩
      rintro e W3 (⟨rfl, hJ3⟩ | ⟨rfl, hJx3⟩)
      · gi_wp2
        go_roundw
        case rel => exact ⟨k, by omega, by simp, hJ3⟩
        case measure => simp [intOf]
      · gi_wp2
        refine bodyPost_ret (results_none rfl _ _ _) rfl ?_
        exact ⟨⟨_, rfl⟩, .inr hJx3⟩
theorem backOk : ∀ f, isBk f = true → BackOk Tryz.prog f := by
  intro f hf
  have : f = 192 := Nat.eq_of_beq_eq_true hf
  subst this
  refine ⟨enters_of Tryz.func192 (by kernel_rfl) rfl, ?_⟩
  exact fun l br bo b off len cap J Jx W hlc hlen hb hY h0 => back_calls l br bo b off len cap J Jx W hlc hlen hb hY h0
end Go.Proofs.YtpgmabpaiijipaaGreatDoor
