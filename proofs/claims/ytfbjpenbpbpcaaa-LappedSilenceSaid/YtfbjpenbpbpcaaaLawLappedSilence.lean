/- The law LappedSilence holds for every input: the Go function squelchlaw07.LappedSilence returns true and leaves its arguments as they were. Conditions: none beyond the row's own. (The frame of this text follows the kit's proof-skeleton; the walk is by the evaluator.) -/
import Derived.Test.YtfbjpenbpbpcaaaRows
import Derived.WalkKit
import Derived.ProofKit
import Derived.OpenShut
import Derived.Test.YtfbjpenbpbpcaaaCells
import Derived.Test.YtfbjpenbpbpcaaaLa9
import Derived.Test.YtfbjpenbpbpcaaaArrW
namespace Go.Proofs.Ytfbjpenbpbpcaaa.lappedSilence
open Den
open Go.ChangeShapes Go.WideShapes Go.ChangeAt Go.RowKit
set_option linter.unusedVariables false
set_option linter.unusedSimpArgs false

theorem own : ownKnob Try.prog.godebug = none := by kernel_rfl

theorem kids : Kids Try.prog (· < Try.prog.types.size) := kids_rows cLaid cMaps
theorem full : ∀ t e, t < Try.prog.types.size → Try.prog.underlying t = some (.slice e) → 0 < Try.prog.cellsOf e := slices_full_of Try.prog (by kernel_rfl)

/-! ### The walk: the Go text returns true; the world has at most new blocks. -/
set_option maxRecDepth 100000 in
theorem walk (a0 : List Int) (n0 : a0.length = 16) (w0 : ∀ x ∈ a0, (Lit.int .i64 x).wf = true) (a1 : Int) (w1 : (Lit.int .i64 a1).wf = true) (w : World)  :
    Calls Try.prog 24 #[.agg (ints a0).toArray, .int .i64 a1] w fun e w' => e = .returned (.bool true) ∧ Quiet w w' := by
  have hp : pf 3 (.agg (ints a0).toArray) = true := pf_ints .i64 a0
  refine (CallOk.plain (silence_call a0 n0 a1) (by simp only [List.all_cons, List.all_nil, hp]; rfl) rfl w).mono ?_
  rintro e w' ⟨he, hq⟩
  exact ⟨by simpa using he, hq⟩


/-! ### The row's step. -/
set_option maxRecDepth 100000 in
theorem lifted (os : Os) (started : os.Started) (H : Type) (enc : TypeId × Value → H) :
    ReturnsInHanded {} Try.checked os 24 .any (Rows.lappedSilenceSpec.pre6 enc Try.prog Try.f24 Rows.lappedSilenceRow.domain false) (Rows.lappedSilenceSpec.post enc Try.prog Try.f24 false true false false) := by
  refine returnsInHanded_of_change (C := Try.checked) own started (by kernel_rfl) Try.func24
    (ChangeSpec.witness6 (enc := enc) (C := Try.checked) false ⟨#[], #[.agg (Array.replicate 16 (.int .i64 0)), .int .i64 0], []⟩ 8 (by kernel_rfl) (by kernel_rfl) (by kernel_rfl) (by kernel_rfl)) ?_
  intro W base args ds gs before hval0 hW hcnd _
  have hval : ∀ (j : Nat) t v, Try.f24.params[j]? = some t → args[j]? = some v → Value.okWide Try.prog W .any base t v := hval0
  have hW' := hW
  obtain ⟨p, q, hA0, hV, rfl, hfz, hnd⟩ := hW
  have hAk0 := hA0
  have hA : DataW.TrodAll enc Try.prog W 0 (fun _ => true) true Try.f24.params.toList args.toList ds p := hA0
  rw [Try.params24] at hA hval
  obtain ⟨v0, vs0, d0, ds0, p0, q0, hargs, rfl, rfl, h0, r0⟩ := trodAll_cons hA
  obtain ⟨v1, vs1, d1, ds1, p1, q1, rfl, rfl, rfl, h1, r1⟩ := trodAll_cons r0
  obtain ⟨rfl, rfl, rfl⟩ := trodAll_nil r1
  obtain rfl : args = #[v0, v1] := by cases args; simp_all
  obtain ⟨rfl, rfl⟩ := trodVars_none hV
  obtain ⟨a0, rfl, rfl, rfl, n0, w0⟩ := open_ints Try.underlying82 Try.underlying3 (by kernel_rfl) (by kernel_rfl) (hval 0 82 v0 rfl rfl) h0
  obtain ⟨a1, rfl, rfl, rfl, w1⟩ := open_int Try.underlying3 (hval 1 3 v1 rfl rfl) h1
  have hAk : DataW.TrodAll enc Try.prog W 0 (fun _ => true) true Try.f24.params.toList _ _ _ := hAk0
  clear hA0 hval0 hAk0
  simp only [List.append_nil, List.nil_append] at hW' hAk
  refine (walk a0 n0 w0 a1 w1 W ).mono fun e W' ⟨he, hg⟩ => ?_
  subst he
  exact ⟨_, rfl, post_of_same (pv := []) hW' (fun _ _ _ => (trodAll_cons_mk (shut_bool Try.underlying4 _) trodAll_mk0)) (fun sp hsp => DataW.TrodAll.respare kids full (by rw [Try.params24]; decide) (TrodAll_up hg.below hAk) hsp) (fun _ _ => rfl) (by simp)
    (hg.grown.frame _) hg.grown.2.1 (ok_one (by kernel_rfl) rfl (okWide_bool_mk Try.underlying4 _))⟩

theorem closed : joinedFacts Try.prog 24 Try.f24 Rows.lappedSilenceSpec Rows.lappedSilenceRow = true := by
  refine (?_ : ∀ P : Program, P = Try.prog → joinedFacts P 24 Try.f24 Rows.lappedSilenceSpec Rows.lappedSilenceRow = true) Try.prog rfl
  intro P hP
  unfold joinedFacts
  rw [show laidOutB P = true from hP ▸ cLaid, show mapsRowed P = true from hP ▸ cMaps, show P.stops = [] from hP ▸ cStops, show P.stopKnobs = [] from hP ▸ cKnobs, show P.plainKeys = true from hP ▸ cPlain, show P.stopsHeard = true from hP ▸ cHeard, show P.mayEnter = true from hP ▸ cMay, show P.liftsFinal = false from hP ▸ cLift, show P.make = some .cut from hP ▸ cMake]
  subst hP
  kernel_rfl

theorem over : Rows.lappedSilenceRow.holds Try.pinned (OpenSpec.ofChange Rows.lappedSilenceSpec) :=
  OpenClaim.holds_of_wide 24 Try.f24 rfl rfl rfl rfl rfl rfl rfl ⟨rfl, rfl, rfl, rfl, rfl⟩ rfl rfl rfl rfl rfl (by kernel_rfl) Try.func24 closed
    (of_decide_eq_true (by kernel_rfl)) (by unfold Func.isWrapper; first | (rw [if_pos (by decide +kernel)]; kernel_rfl) | (rw [if_neg (by decide +kernel)]; exact ⟨rfl, rfl⟩))
    (fun os started H enc _ => lifted os started H enc)

theorem proved : Rows.LappedSilenceSaid :=
  over
#print axioms proved
end Go.Proofs.Ytfbjpenbpbpcaaa.lappedSilence

