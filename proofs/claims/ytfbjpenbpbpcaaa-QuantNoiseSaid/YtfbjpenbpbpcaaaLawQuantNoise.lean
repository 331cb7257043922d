/- The law QuantNoise holds for every input: the Go function squelchlaw09.QuantNoise returns true and leaves its arguments as they were. Conditions: none beyond the row's own. (The frame of this text follows the kit's proof-skeleton; the walk is by the evaluator.) -/
import Derived.Test.YtfbjpenbpbpcaaaRows
import Derived.WalkKit
import Derived.ProofKit
import Derived.OpenShut
import Derived.Test.YtfbjpenbpbpcaaaCells
import Derived.Test.YtfbjpenbpbpcaaaQn10
namespace Go.Proofs.Ytfbjpenbpbpcaaa.quantNoise
open Den
open Go.ChangeShapes Go.WideShapes Go.ChangeAt Go.RowKit
set_option linter.unusedVariables false

theorem own : ownKnob Try.prog.godebug = none := by kernel_rfl

/-! ### The walk: the Go text returns true; the world has at most new blocks. -/
set_option maxRecDepth 100000 in
theorem walk (a0 : Int) (w0 : (Lit.int .u32 a0).wf = true) (a1 : List Int) (n1 : a1.length = 6) (w1 : ∀ x ∈ a1, (Lit.int .i64 x).wf = true) (w : World) :
    Calls Try.prog 29 #[.int .u32 a0, .agg (ints a1).toArray] w fun e w' => e = .returned (.bool true) ∧ Grown w w' := by
  have h := noise_call a0 a1 n1
  refine (CallOk.plain h (by simp only [List.all_cons, List.all_nil, ints, pf_ints, Bool.and_true]; rfl) rfl w).mono ?_
  rintro e w' ⟨he, hq⟩
  exact ⟨by simpa using he, hq.grown⟩


/-! ### The row's step. -/
set_option maxRecDepth 100000 in
theorem lifted (os : Os) (started : os.Started) (H : Type) (enc : TypeId × Value → H) :
    ReturnsInHanded {} Try.checked os 29 .any (Rows.quantNoiseSpec.pre6 enc Try.prog Try.f29 Rows.quantNoiseRow.domain false) (Rows.quantNoiseSpec.post enc Try.prog Try.f29 false true false false) := by
  refine returnsInHanded_of_change (C := Try.checked) own started (by kernel_rfl) Try.func29
    (ChangeSpec.witness6 (enc := enc) (C := Try.checked) false ⟨#[], #[.int .u32 0, .agg (Array.replicate 6 (.int .i64 0))], []⟩ 8 (by kernel_rfl) (by kernel_rfl) (by kernel_rfl) (by kernel_rfl)) ?_
  intro W base args ds gs before hval0 hW hcnd _
  have hval : ∀ (j : Nat) t v, Try.f29.params[j]? = some t → args[j]? = some v → Value.okWide Try.prog W .any base t v := hval0
  have hW' := hW
  obtain ⟨p, q, hA0, hV, rfl, hfz, hnd⟩ := hW
  have hA : DataW.TrodAll enc Try.prog W 0 (fun _ => true) true Try.f29.params.toList args.toList ds p := hA0
  rw [Try.params29] at hA hval
  obtain ⟨v0, vs0, d0, ds0, p0, q0, hargs, rfl, rfl, h0, r0⟩ := trodAll_cons hA
  obtain ⟨v1, vs1, d1, ds1, p1, q1, rfl, rfl, rfl, h1, r1⟩ := trodAll_cons r0
  obtain ⟨rfl, rfl, rfl⟩ := trodAll_nil r1
  obtain rfl : args = #[v0, v1] := by cases args; simp_all
  obtain ⟨rfl, rfl⟩ := trodVars_none hV
  obtain ⟨a0, rfl, rfl, rfl, w0⟩ := open_int Try.underlying98 (hval 0 98 v0 rfl rfl) h0
  obtain ⟨a1, rfl, rfl, rfl, n1, w1⟩ := open_ints Try.underlying68 Try.underlying3 (by kernel_rfl) (by kernel_rfl) (hval 1 68 v1 rfl rfl) h1
  clear hA0 hval0
  simp only [List.append_nil] at hW'
  refine (walk a0 w0 a1 n1 w1 W).mono fun e W' ⟨he, hg⟩ => ?_
  subst he
  exact ⟨_, rfl, post_of_same (pa := []) (pv := []) hW' (fun _ _ _ => (trodAll_cons_mk (shut_bool Try.underlying4 _) trodAll_mk0)) (fun sp _ => (trodAll_cons_mk (shut_int Try.underlying98 w0) (trodAll_cons_mk (shut_ints Try.underlying68 Try.underlying3 (by kernel_rfl) (by kernel_rfl) n1 w1) trodAll_mk0))) (fun _ _ => rfl) rfl
    (hg.frame _) hg.2.1 (ok_one (by kernel_rfl) rfl (okWide_bool_mk Try.underlying4 _))⟩

theorem closed : joinedFacts Try.prog 29 Try.f29 Rows.quantNoiseSpec Rows.quantNoiseRow = true := by
  refine (?_ : ∀ P : Program, P = Try.prog → joinedFacts P 29 Try.f29 Rows.quantNoiseSpec Rows.quantNoiseRow = true) Try.prog rfl
  intro P hP
  unfold joinedFacts
  rw [show laidOutB P = true from hP ▸ cLaid, show mapsRowed P = true from hP ▸ cMaps, show P.stops = [] from hP ▸ cStops, show P.stopKnobs = [] from hP ▸ cKnobs, show P.plainKeys = true from hP ▸ cPlain, show P.stopsHeard = true from hP ▸ cHeard, show P.mayEnter = true from hP ▸ cMay, show P.liftsFinal = false from hP ▸ cLift, show P.make = some .cut from hP ▸ cMake]
  subst hP
  kernel_rfl

theorem over : Rows.quantNoiseRow.holds Try.pinned (OpenSpec.ofChange Rows.quantNoiseSpec) :=
  OpenClaim.holds_of_wide 29 Try.f29 rfl rfl rfl rfl rfl rfl rfl ⟨rfl, rfl, rfl, rfl, rfl⟩ rfl rfl rfl rfl rfl (by kernel_rfl) Try.func29 closed
    (of_decide_eq_true (by kernel_rfl)) (by unfold Func.isWrapper; first | (rw [if_pos (by decide +kernel)]; kernel_rfl) | (rw [if_neg (by decide +kernel)]; exact ⟨rfl, rfl⟩))
    (fun os started H enc _ => lifted os started H enc)

theorem proved : Rows.QuantNoiseSaid :=
  over
#print axioms proved
end Go.Proofs.Ytfbjpenbpbpcaaa.quantNoise

