/- The law LappedTurned holds for every input: the Go function squelchlaw07.LappedTurned returns true and leaves its arguments as they were. Conditions: none beyond the row's own. (The frame of this text follows the kit's proof-skeleton; the walk is by the evaluator.) -/
import Derived.Test.YtfbjpenbpbpcaaaRows
import Derived.WalkKit
import Derived.ProofKit
import Derived.OpenShut
import Derived.Test.YtfbjpenbpbpcaaaCells
import Derived.Test.YtfbjpenbpbpcaaaTn2
namespace Go.Proofs.Ytfbjpenbpbpcaaa.lappedTurned
open Den
open Go.ChangeShapes Go.WideShapes Go.ChangeAt Go.RowKit
set_option linter.unusedVariables false

theorem own : ownKnob Try.prog.godebug = none := by kernel_rfl

/-! ### The walk: the Go text returns true; the world has at most new blocks. -/
set_option maxRecDepth 100000 in
theorem walk (a0 : List Int) (n0 : a0.length = 16) (w0 : ∀ x ∈ a0, (Lit.int .i64 x).wf = true) (a1 : List Int) (n1 : a1.length = 16) (w1 : ∀ x ∈ a1, (Lit.int .i64 x).wf = true) (a2 : List Int) (n2 : a2.length = 16) (w2 : ∀ x ∈ a2, (Lit.int .i64 x).wf = true) (w : World) :
    Calls Try.prog 17 #[.agg (ints a0).toArray, .agg (ints a1).toArray, .agg (ints a2).toArray] w fun e w' => e = .returned (.bool true) ∧ Grown w w' := by
  have h := turned_call a0 a1 a2 n0 n1 n2
  refine (CallOk.plain h (by simp only [List.all_cons, List.all_nil, ints, pf_ints, Bool.and_true]) rfl w).mono ?_
  rintro e w' ⟨he, hq⟩
  exact ⟨by simpa using he, hq.grown⟩


/-! ### The row's step. -/
set_option maxRecDepth 100000 in
theorem lifted (os : Os) (started : os.Started) (H : Type) (enc : TypeId × Value → H) :
    ReturnsInHanded {} Try.checked os 17 .any (Rows.lappedTurnedSpec.pre6 enc Try.prog Try.f17 Rows.lappedTurnedRow.domain false) (Rows.lappedTurnedSpec.post enc Try.prog Try.f17 false true false false) := by
  refine returnsInHanded_of_change (C := Try.checked) own started (by kernel_rfl) Try.func17
    (ChangeSpec.witness6 (enc := enc) (C := Try.checked) false ⟨#[], #[.agg (Array.replicate 16 (.int .i64 0)), .agg (Array.replicate 16 (.int .i64 0)), .agg (Array.replicate 16 (.int .i64 0))], []⟩ 8 (by kernel_rfl) (by kernel_rfl) (by kernel_rfl) (by kernel_rfl)) ?_
  intro W base args ds gs before hval0 hW hcnd _
  have hval : ∀ (j : Nat) t v, Try.f17.params[j]? = some t → args[j]? = some v → Value.okWide Try.prog W .any base t v := hval0
  have hW' := hW
  obtain ⟨p, q, hA0, hV, rfl, hfz, hnd⟩ := hW
  have hA : DataW.TrodAll enc Try.prog W 0 (fun _ => true) true Try.f17.params.toList args.toList ds p := hA0
  rw [Try.params17] at hA hval
  obtain ⟨v0, vs0, d0, ds0, p0, q0, hargs, rfl, rfl, h0, r0⟩ := trodAll_cons hA
  obtain ⟨v1, vs1, d1, ds1, p1, q1, rfl, rfl, rfl, h1, r1⟩ := trodAll_cons r0
  obtain ⟨v2, vs2, d2, ds2, p2, q2, rfl, rfl, rfl, h2, r2⟩ := trodAll_cons r1
  obtain ⟨rfl, rfl, rfl⟩ := trodAll_nil r2
  obtain rfl : args = #[v0, v1, v2] := by cases args; simp_all
  obtain ⟨rfl, rfl⟩ := trodVars_none hV
  obtain ⟨a0, rfl, rfl, rfl, n0, w0⟩ := open_ints Try.underlying51 Try.underlying3 (by kernel_rfl) (by kernel_rfl) (hval 0 51 v0 rfl rfl) h0
  obtain ⟨a1, rfl, rfl, rfl, n1, w1⟩ := open_ints Try.underlying51 Try.underlying3 (by kernel_rfl) (by kernel_rfl) (hval 1 51 v1 rfl rfl) h1
  obtain ⟨a2, rfl, rfl, rfl, n2, w2⟩ := open_ints Try.underlying55 Try.underlying3 (by kernel_rfl) (by kernel_rfl) (hval 2 55 v2 rfl rfl) h2
  clear hA0 hval0
  simp only [List.append_nil] at hW'
  refine (walk a0 n0 w0 a1 n1 w1 a2 n2 w2 W).mono fun e W' ⟨he, hg⟩ => ?_
  subst he
  exact ⟨_, rfl, post_of_same (pa := []) (pv := []) hW' (fun _ _ _ => (trodAll_cons_mk (shut_bool Try.underlying4 _) trodAll_mk0)) (fun sp _ => (trodAll_cons_mk (shut_ints Try.underlying51 Try.underlying3 (by kernel_rfl) (by kernel_rfl) n0 w0) (trodAll_cons_mk (shut_ints Try.underlying51 Try.underlying3 (by kernel_rfl) (by kernel_rfl) n1 w1) (trodAll_cons_mk (shut_ints Try.underlying55 Try.underlying3 (by kernel_rfl) (by kernel_rfl) n2 w2) trodAll_mk0)))) (fun _ _ => rfl) rfl
    (hg.frame _) hg.2.1 (ok_one (by kernel_rfl) rfl (okWide_bool_mk Try.underlying4 _))⟩

theorem closed : joinedFacts Try.prog 17 Try.f17 Rows.lappedTurnedSpec Rows.lappedTurnedRow = true := by
  refine (?_ : ∀ P : Program, P = Try.prog → joinedFacts P 17 Try.f17 Rows.lappedTurnedSpec Rows.lappedTurnedRow = true) Try.prog rfl
  intro P hP
  unfold joinedFacts
  rw [show laidOutB P = true from hP ▸ cLaid, show mapsRowed P = true from hP ▸ cMaps, show P.stops = [] from hP ▸ cStops, show P.stopKnobs = [] from hP ▸ cKnobs, show P.plainKeys = true from hP ▸ cPlain, show P.stopsHeard = true from hP ▸ cHeard, show P.mayEnter = true from hP ▸ cMay, show P.liftsFinal = false from hP ▸ cLift, show P.make = some .cut from hP ▸ cMake]
  subst hP
  kernel_rfl

theorem over : Rows.lappedTurnedRow.holds Try.pinned (OpenSpec.ofChange Rows.lappedTurnedSpec) :=
  OpenClaim.holds_of_wide 17 Try.f17 rfl rfl rfl rfl rfl rfl rfl ⟨rfl, rfl, rfl, rfl, rfl⟩ rfl rfl rfl rfl rfl (by kernel_rfl) Try.func17 closed
    (of_decide_eq_true (by kernel_rfl)) (by unfold Func.isWrapper; first | (rw [if_pos (by decide +kernel)]; kernel_rfl) | (rw [if_neg (by decide +kernel)]; exact ⟨rfl, rfl⟩))
    (fun os started H enc _ => lifted os started H enc)

theorem proved : Rows.LappedTurnedSaid :=
  over
#print axioms proved
end Go.Proofs.Ytfbjpenbpbpcaaa.lappedTurned

