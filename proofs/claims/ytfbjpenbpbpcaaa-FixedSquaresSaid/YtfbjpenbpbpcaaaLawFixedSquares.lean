/- The law FixedSquares holds for every input: the Go function squelchlaw05.FixedSquares returns true and leaves its arguments as they were. Conditions: none beyond the row's own. (The frame of this text was written by the kit's proof-skeleton; the walk is by the evaluator.) -/
import Derived.Test.YtfbjpenbpbpcaaaRows
import Derived.Test.YtfbjpenbpbpcaaaCells
import Derived.Test.YtfbjpenbpbpcaaaFx11
import Derived.WalkKit
import Derived.ProofKit
import Derived.OpenShut
namespace Go.Proofs.Ytfbjpenbpbpcaaa.fixedSquares
open Den
open Go.ChangeShapes Go.WideShapes Go.ChangeAt Go.RowKit
set_option linter.unusedVariables false      -- a walk need not use every 'w<i>' (that an integer argument fits its kind)

theorem own : ownKnob Try.prog.godebug = none := by kernel_rfl

/-! ### STEP 1: THE WALK: the Go text returns true. 'Grown w w'': the world has at most new blocks (Derived/RowKit3.lean). Part the cases AHEAD of 'go_enter' where a test parts the walk; take each callee by a contract of your own. -/
set_option maxRecDepth 100000 in
theorem walk (a0 : Int) (w0 : (Lit.int .u64 a0).wf = true) (w : World) :
    Calls Try.prog 13 #[.int .u64 a0] w fun e w' => e = .returned (.bool true) ∧ Grown w w' := by
  have hu : ∀ x, (Lit.int .u64 x).wf = true → isU x = true := fun x hx => by simpa [Lit.wf, IntKind.min, IntKind.max, IntKind.signed, IntKind.bits, isU] using hx
  have h := squares_call a0 (hu _ w0)
  refine (CallOk.plain h rfl rfl w).mono ?_
  rintro e w' ⟨he, hq⟩
  exact ⟨by simpa using he, hq.grown⟩


/-! ### THE ROW's STEP: WRITTEN OUT: LEAVE IT -/
set_option maxRecDepth 100000 in
theorem lifted (os : Os) (started : os.Started) (H : Type) (enc : TypeId × Value → H) :
    ReturnsInHanded {} Try.checked os 13 .any (Rows.fixedSquaresSpec.pre6 enc Try.prog Try.f13 Rows.fixedSquaresRow.domain false) (Rows.fixedSquaresSpec.post enc Try.prog Try.f13 false true false false) := by
  refine returnsInHanded_of_change (C := Try.checked) own started (by kernel_rfl) Try.func13
    (ChangeSpec.witness6 (enc := enc) (C := Try.checked) false ⟨#[], #[.int .u64 0], []⟩ 8 (by kernel_rfl) (by kernel_rfl) (by kernel_rfl) (by kernel_rfl)) ?_
  intro W base args ds gs before hval0 hW hcnd _
  have hval : ∀ (j : Nat) t v, Try.f13.params[j]? = some t → args[j]? = some v → Value.okWide Try.prog W .any base t v := hval0
  have hW' := hW
  obtain ⟨p, q, hA0, hV, rfl, hfz, hnd⟩ := hW
  have hA : DataW.TrodAll enc Try.prog W 0 (fun _ => true) true Try.f13.params.toList args.toList ds p := hA0
  rw [Try.params13] at hA hval
  obtain ⟨v0, vs0, d0, ds0, p0, q0, hargs, rfl, rfl, h0, r0⟩ := trodAll_cons hA
  obtain ⟨rfl, rfl, rfl⟩ := trodAll_nil r0
  obtain rfl : args = #[v0] := by cases args; simp_all
  obtain ⟨rfl, rfl⟩ := trodVars_none hV
  obtain ⟨a0, rfl, rfl, rfl, w0⟩ := open_int Try.underlying45 (hval 0 45 v0 rfl rfl) h0
  clear hA0 hval0
  simp only [List.append_nil] at hW'
  refine (walk a0 w0 W).mono fun e W' ⟨he, hg⟩ => ?_
  subst he
  exact ⟨_, rfl, post_of_same (pa := []) (pv := []) hW' (fun _ _ _ => (trodAll_cons_mk (shut_bool Try.underlying4 _) trodAll_mk0)) (fun sp _ => (trodAll_cons_mk (shut_int Try.underlying45 w0) trodAll_mk0)) (fun _ _ => rfl) rfl
    (hg.frame _) hg.2.1 (ok_one (by kernel_rfl) rfl (okWide_bool_mk Try.underlying4 _))⟩

theorem closed : joinedFacts Try.prog 13 Try.f13 Rows.fixedSquaresSpec Rows.fixedSquaresRow = true := by
  refine (?_ : ∀ P : Program, P = Try.prog → joinedFacts P 13 Try.f13 Rows.fixedSquaresSpec Rows.fixedSquaresRow = true) Try.prog rfl
  intro P hP
  unfold joinedFacts
  rw [show laidOutB P = true from hP ▸ cLaid, show mapsRowed P = true from hP ▸ cMaps, show P.stops = [] from hP ▸ cStops, show P.stopKnobs = [] from hP ▸ cKnobs, show P.plainKeys = true from hP ▸ cPlain, show P.stopsHeard = true from hP ▸ cHeard, show P.mayEnter = true from hP ▸ cMay, show P.liftsFinal = false from hP ▸ cLift, show P.make = some .cut from hP ▸ cMake]
  subst hP
  kernel_rfl

theorem over : Rows.fixedSquaresRow.holds Try.pinned (OpenSpec.ofChange Rows.fixedSquaresSpec) :=
  OpenClaim.holds_of_wide 13 Try.f13 rfl rfl rfl rfl rfl rfl rfl ⟨rfl, rfl, rfl, rfl, rfl⟩ rfl rfl rfl rfl rfl (by kernel_rfl) Try.func13 closed
    (of_decide_eq_true (by kernel_rfl)) (by unfold Func.isWrapper; first | (rw [if_pos (by decide +kernel)]; kernel_rfl) | (rw [if_neg (by decide +kernel)]; exact ⟨rfl, rfl⟩))
    (fun os started H enc _ => lifted os started H enc)

/-- ████ THE STATEMENT ████ -/
theorem proved : Rows.FixedSquaresSaid :=
  over
#print axioms proved
end Go.Proofs.Ytfbjpenbpbpcaaa.fixedSquares
