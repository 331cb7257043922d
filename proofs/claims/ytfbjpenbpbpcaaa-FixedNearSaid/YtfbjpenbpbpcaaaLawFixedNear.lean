/- The law FixedNear holds for every input: the Go function squelchlaw05.FixedNear returns true and leaves its arguments as they were. Conditions: none beyond the row's own. (The frame of this text was written by the kit's proof-skeleton; the walk is by the evaluator.) -/
import Derived.Test.YtfbjpenbpbpcaaaRows
import Derived.Test.YtfbjpenbpbpcaaaCells
import Derived.Test.YtfbjpenbpbpcaaaNear
import Derived.WalkKit
import Derived.ProofKit
import Derived.OpenShut
namespace Go.Proofs.Ytfbjpenbpbpcaaa.fixedNear
open Den
open Go.ChangeShapes Go.WideShapes Go.ChangeAt Go.RowKit
set_option linter.unusedVariables false      -- a walk need not use every 'w<i>' (that an integer argument fits its kind)

theorem own : ownKnob Try.prog.godebug = none := by kernel_rfl

/-! ### STEP 1: THE WALK: the Go text returns true. 'Grown w w'': the world has at most new blocks (Derived/RowKit3.lean). Part the cases AHEAD of 'go_enter' where a test parts the walk; take each callee by a contract of your own. -/
set_option maxRecDepth 100000 in
theorem walk (a0 : Int) (a1 : Int) (a2 : Int) (w0 : (Lit.int .i64 a0).wf = true) (w1 : (Lit.int .i64 a1).wf = true) (w2 : (Lit.int .i64 a2).wf = true) (w : World) :
    Calls Try.prog 7 #[.int .i64 a0, .int .i64 a1, .int .i64 a2] w fun e w' => e = .returned (.bool true) ∧ Grown w w' := by
  have hb : ∀ x, (Lit.int .i64 x).wf = true → inI x = true := fun x hx => by simpa [Lit.wf, IntKind.min, IntKind.max, IntKind.signed, IntKind.bits, inI] using hx
  obtain ⟨Y, eY, Y1, Y2⟩ := posmod a1 40 (by decide) (by decide)
  obtain ⟨B, eB, B1, B2⟩ := posmod a2 1073741824 (by decide) (by decide)
  obtain ⟨v1, v2, _⟩ := tmod_small a0 1152921504606846976 (by decide)
  generalize eV : a0.tmod 1152921504606846976 = V at v1 v2
  obtain ⟨R, HALF, OFF, eR, eH, eO, o1, o2, o3, o4⟩ := near_round V Y ⟨v1, v2⟩ Y1 Y2
  obtain ⟨REST, eQ, q1, q2⟩ := near_div V B ⟨v1, v2⟩ B1 B2
  obtain ⟨w1, w2⟩ := sat31 V
  generalize eW : satZ V 31 = W at w1 w2
  obtain ⟨m1, m2, m3, m4, m5⟩ := near_mul W Y ⟨w1, w2⟩ Y1
  have e0 : divE B = 0 := by unfold divE; rw [if_neg (by omega)]
  have iV : inI V = true := inI_iff.2 (by omega)
  have iY : inI Y = true := inI_iff.2 (by omega)
  have iB : inI B = true := inI_iff.2 (by omega)
  have x1 : IntKind.i64.wrap (0 - HALF) = -HALF := by rw [wrap_in (inI_iff.2 (by omega))]; omega
  have x2 : IntKind.i64.wrap (2 * REST) = 2 * REST := wrap_in (inI_iff.2 (by omega))
  have x3 : IntKind.i64.wrap (0 - B) = -B := by rw [wrap_in (inI_iff.2 (by omega))]; omega
  have x4 : (OFF ≥ HALF) = False := by simp; omega
  have x5 : (OFF < -HALF) = False := by simp; omega
  have x6 : (2 * REST > B) = False := by simp; omega
  have x7 : (2 * REST < -B) = False := by simp; omega
  have x8 : (IntKind.u64.wrap (IntKind.i64.wrap (Y - 1)) < 0) = False := by rw [wrap_in (n := Y - 1) (inI_iff.2 (by omega)), wrapU_in (by omega) (by omega)]; simp; omega
  have x9 : (IntKind.u64.wrap Y < 0) = False := by rw [wrapU_in (by omega) (by omega)]; simp; omega
  have h := fnL_ok (N := 300) (pre := fx3Pre) (C := fx3) (L := nearN Y V OFF HALF B REST W) (f := 7) (args := [.int .i64 a0, .int .i64 a1, .int .i64 a2]) (H := []) (os := [(0, true), (0, false), (1, false), (0, false), (0, true), (0, false), (0, false), (0, true), (0, true), (0, true), (0, true), (0, false), (1, false), (0, true), (4, true), (0, true), (0, true), (0, true), (0, true), (0, false), (0, true), (5, true), (0, true), (0, true), (1, true), (0, true), (0, true), (0, false), (0, true), (0, true), (1, true), (0, true), (0, true), (0, true), (0, true), (0, true), (0, true), (1, true), (0, true), (0, true)]) (v := Value.bool (bif bif bif true then mulZ W 1 0 == W else false then mulZ W (IntKind.wrap IntKind.i64 (1 * 2 ^ min (Int.toNat (IntKind.wrap IntKind.u64 (IntKind.wrap IntKind.i64 (Int.tmod Y 30 + 1)))) (IntKind.bits IntKind.i64))) (IntKind.wrap IntKind.i64 (Int.tmod Y 30 + 1)) == W else false then mulZ W (-1) 0 == IntKind.wrap IntKind.i64 (0 - W) else false)) (H' := []) (l := 0) (ob := [((bif bif true then mulZ W 1 0 == W else false then mulZ W (IntKind.wrap IntKind.i64 (1 * 2 ^ min (Int.toNat (IntKind.wrap IntKind.u64 (IntKind.wrap IntKind.i64 (Int.tmod Y 30 + 1)))) (IntKind.bits IntKind.i64))) (IntKind.wrap IntKind.i64 (Int.tmod Y 30 + 1)) == W else false) == true, true), ((bif bif true then mulZ W 1 0 == W else false then mulZ W (IntKind.wrap IntKind.i64 (1 * 2 ^ min (Int.toNat (IntKind.wrap IntKind.u64 (IntKind.wrap IntKind.i64 (Int.tmod Y 30 + 1)))) (IntKind.bits IntKind.i64))) (IntKind.wrap IntKind.i64 (Int.tmod Y 30 + 1)) == W else false) == true, true), ((bif bif true then mulZ W 1 0 == W else false then mulZ W (IntKind.wrap IntKind.i64 (1 * 2 ^ min (Int.toNat (IntKind.wrap IntKind.u64 (IntKind.wrap IntKind.i64 (Int.tmod Y 30 + 1)))) (IntKind.bits IntKind.i64))) (IntKind.wrap IntKind.i64 (Int.tmod Y 30 + 1)) == W else false) == true, true), ((bif bif true then mulZ W 1 0 == W else false then mulZ W (IntKind.wrap IntKind.i64 (1 * 2 ^ min (Int.toNat (IntKind.wrap IntKind.u64 (IntKind.wrap IntKind.i64 (Int.tmod Y 30 + 1)))) (IntKind.bits IntKind.i64))) (IntKind.wrap IntKind.i64 (Int.tmod Y 30 + 1)) == W else false) == true, true), ((bif bif true then mulZ W 1 0 == W else false then mulZ W (IntKind.wrap IntKind.i64 (1 * 2 ^ min (Int.toNat (IntKind.wrap IntKind.u64 (IntKind.wrap IntKind.i64 (Int.tmod Y 30 + 1)))) (IntKind.bits IntKind.i64))) (IntKind.wrap IntKind.i64 (Int.tmod Y 30 + 1)) == W else false) == true, true), ((bif true then mulZ W 1 0 == W else false) == true, true), ((bif true then mulZ W 1 0 == W else false) == true, true), (fx3Pre 47 [Value.int IntKind.i64 W, Value.int IntKind.i64 (IntKind.wrap IntKind.i64 (1 * 2 ^ min (Int.toNat (IntKind.wrap IntKind.u64 (IntKind.wrap IntKind.i64 (Int.tmod Y 30 + 1)))) (IntKind.bits IntKind.i64))), Value.int IntKind.i64 (IntKind.wrap IntKind.i64 (Int.tmod Y 30 + 1))], true), ((bif true then mulZ W 1 0 == W else false) == true, true), ((bif true then mulZ W 1 0 == W else false) == true, true), ((bif true then mulZ W 1 0 == W else false) == true, true), ((bif true then mulZ W 1 0 == W else false) == true, true), (decide (IntKind.wrap IntKind.u64 (IntKind.wrap IntKind.i64 (Int.tmod Y 30 + 1)) < 0), false), ((bif true then mulZ W 1 0 == W else false) == true, true), ((bif true then mulZ W 1 0 == W else false) == true, true), ((bif true then mulZ W 1 0 == W else false) == true, true), ((bif true then mulZ W 1 0 == W else false) == true, true), ((bif true then mulZ W 1 0 == W else false) == true, true), ((bif true then mulZ W 1 0 == W else false) == true, true), (decide (satZ V 31 = W), true), (fx3Pre 49 [Value.int IntKind.i64 V, Value.int IntKind.i64 31], true), (bif bif 0 != 0 then true else decide (IntKind.wrap IntKind.i64 (2 * REST) > B) then true else decide (IntKind.wrap IntKind.i64 (2 * REST) < IntKind.wrap IntKind.i64 (0 - B)), false), ((bif 0 != 0 then true else decide (IntKind.wrap IntKind.i64 (2 * REST) > B)) == false, true), ((bif 0 != 0 then true else decide (IntKind.wrap IntKind.i64 (2 * REST) > B)) == false, true), ((bif 0 != 0 then true else decide (IntKind.wrap IntKind.i64 (2 * REST) > B)) == false, true), ((bif 0 != 0 then true else decide (IntKind.wrap IntKind.i64 (2 * REST) > B)) == false, true), ((bif 0 != 0 then true else decide (IntKind.wrap IntKind.i64 (2 * REST) > B)) == false, true), (decide (divE B = 0), true), (decide (IntKind.wrap IntKind.i64 (V - IntKind.wrap IntKind.i64 (divQ V B * B)) = REST), true), (fx3Pre 43 [Value.int IntKind.i64 V, Value.int IntKind.i64 B], true), (decide (IntKind.wrap IntKind.i64 (1 + Int.tmod (IntKind.wrap IntKind.i64 (Int.tmod a2 1073741824 + 1073741824)) 1073741824) = B), true), (decide (1073741824 = 0), false), (bif decide (OFF ≥ HALF) then true else decide (OFF < IntKind.wrap IntKind.i64 (0 - HALF)), false), (decide (OFF ≥ HALF) == false, true), (decide (OFF ≥ HALF) == false, true), (decide (OFF ≥ HALF) == false, true), (decide (OFF ≥ HALF) == false, true), (decide (IntKind.wrap IntKind.i64 (1 * 2 ^ min (Int.toNat (IntKind.wrap IntKind.u64 (IntKind.wrap IntKind.i64 (Y - 1)))) (IntKind.bits IntKind.i64)) = HALF), true), (decide (IntKind.wrap IntKind.u64 (IntKind.wrap IntKind.i64 (Y - 1)) < 0), false), (decide (IntKind.wrap IntKind.i64 (V - IntKind.wrap IntKind.i64 (roundZ V Y * 2 ^ min (Int.toNat (IntKind.wrap IntKind.u64 Y)) (IntKind.bits IntKind.i64))) = OFF), true), (decide (IntKind.wrap IntKind.u64 Y < 0), false), (fx3Pre 45 [Value.int IntKind.i64 V, Value.int IntKind.i64 Y], true), (decide (Int.tmod a0 1152921504606846976 = V), true), (decide (1152921504606846976 = 0), false), (decide (IntKind.wrap IntKind.i64 (1 + Int.tmod (IntKind.wrap IntKind.i64 (Int.tmod a1 40 + 40)) 40) = Y), true), (decide (40 = 0), false), (!true, false), (fx3Pre 42 [], true)])
    progOk extSound fx3_sound (LoopsOk.names rfl) (by kernel_rfl) (by
      simp only [fx3Pre, eY, eB, eV, eR, eH, eO, eQ, eW, e0, x1, x2, x3, x4, x5, x6, x7, x8, x9, m1, m2, m4, m5]
      simp [Holds, iV, iY, iB, m3])
  refine (CallOk.plain h rfl rfl w).mono ?_
  rintro e w' ⟨he, hq⟩
  simp only [m1, m2, m5] at he
  exact ⟨by simpa using he, hq.grown⟩

/-! ### THE ROW's STEP: WRITTEN OUT: LEAVE IT -/
set_option maxRecDepth 100000 in
theorem lifted (os : Os) (started : os.Started) (H : Type) (enc : TypeId × Value → H) :
    ReturnsInHanded {} Try.checked os 7 .any (Rows.fixedNearSpec.pre6 enc Try.prog Try.f7 Rows.fixedNearRow.domain false) (Rows.fixedNearSpec.post enc Try.prog Try.f7 false true false false) := by
  refine returnsInHanded_of_change (C := Try.checked) own started (by kernel_rfl) Try.func7
    (ChangeSpec.witness6 (enc := enc) (C := Try.checked) false ⟨#[], #[.int .i64 0, .int .i64 0, .int .i64 0], []⟩ 8 (by kernel_rfl) (by kernel_rfl) (by kernel_rfl) (by kernel_rfl)) ?_
  intro W base args ds gs before hval0 hW hcnd _
  have hval : ∀ (j : Nat) t v, Try.f7.params[j]? = some t → args[j]? = some v → Value.okWide Try.prog W .any base t v := hval0
  have hW' := hW
  obtain ⟨p, q, hA0, hV, rfl, hfz, hnd⟩ := hW
  have hA : DataW.TrodAll enc Try.prog W 0 (fun _ => true) true Try.f7.params.toList args.toList ds p := hA0
  rw [Try.params7] at hA hval
  obtain ⟨v0, vs0, d0, ds0, p0, q0, hargs, rfl, rfl, h0, r0⟩ := trodAll_cons hA
  obtain ⟨v1, vs1, d1, ds1, p1, q1, rfl, rfl, rfl, h1, r1⟩ := trodAll_cons r0
  obtain ⟨v2, vs2, d2, ds2, p2, q2, rfl, rfl, rfl, h2, r2⟩ := trodAll_cons r1
  obtain ⟨rfl, rfl, rfl⟩ := trodAll_nil r2
  obtain rfl : args = #[v0, v1, v2] := by cases args; simp_all
  obtain ⟨rfl, rfl⟩ := trodVars_none hV
  obtain ⟨a0, rfl, rfl, rfl, w0⟩ := open_int Try.underlying3 (hval 0 3 v0 rfl rfl) h0
  obtain ⟨a1, rfl, rfl, rfl, w1⟩ := open_int Try.underlying3 (hval 1 3 v1 rfl rfl) h1
  obtain ⟨a2, rfl, rfl, rfl, w2⟩ := open_int Try.underlying3 (hval 2 3 v2 rfl rfl) h2
  clear hA0 hval0
  simp only [List.append_nil] at hW'
  refine (walk a0 a1 a2 w0 w1 w2 W).mono fun e W' ⟨he, hg⟩ => ?_
  subst he
  exact ⟨_, rfl, post_of_same (pa := []) (pv := []) hW' (fun _ _ _ => (trodAll_cons_mk (shut_bool Try.underlying4 _) trodAll_mk0)) (fun sp _ => (trodAll_cons_mk (shut_int Try.underlying3 w0) (trodAll_cons_mk (shut_int Try.underlying3 w1) (trodAll_cons_mk (shut_int Try.underlying3 w2) trodAll_mk0)))) (fun _ _ => rfl) rfl
    (hg.frame _) hg.2.1 (ok_one (by kernel_rfl) rfl (okWide_bool_mk Try.underlying4 _))⟩

theorem closed : joinedFacts Try.prog 7 Try.f7 Rows.fixedNearSpec Rows.fixedNearRow = true := by
  refine (?_ : ∀ P : Program, P = Try.prog → joinedFacts P 7 Try.f7 Rows.fixedNearSpec Rows.fixedNearRow = true) Try.prog rfl
  intro P hP
  unfold joinedFacts
  rw [show laidOutB P = true from hP ▸ cLaid, show mapsRowed P = true from hP ▸ cMaps, show P.stops = [] from hP ▸ cStops, show P.stopKnobs = [] from hP ▸ cKnobs, show P.plainKeys = true from hP ▸ cPlain, show P.stopsHeard = true from hP ▸ cHeard, show P.mayEnter = true from hP ▸ cMay, show P.liftsFinal = false from hP ▸ cLift, show P.make = some .cut from hP ▸ cMake]
  subst hP
  kernel_rfl

theorem over : Rows.fixedNearRow.holds Try.pinned (OpenSpec.ofChange Rows.fixedNearSpec) :=
  OpenClaim.holds_of_wide 7 Try.f7 rfl rfl rfl rfl rfl rfl rfl ⟨rfl, rfl, rfl, rfl, rfl⟩ rfl rfl rfl rfl rfl (by kernel_rfl) Try.func7 closed
    (of_decide_eq_true (by kernel_rfl)) (by unfold Func.isWrapper; first | (rw [if_pos (by decide +kernel)]; kernel_rfl) | (rw [if_neg (by decide +kernel)]; exact ⟨rfl, rfl⟩))
    (fun os started H enc _ => lifted os started H enc)

/-- ████ THE STATEMENT ████ -/
theorem proved : Rows.FixedNearSaid :=
  over
#print axioms proved
end Go.Proofs.Ytfbjpenbpbpcaaa.fixedNear
