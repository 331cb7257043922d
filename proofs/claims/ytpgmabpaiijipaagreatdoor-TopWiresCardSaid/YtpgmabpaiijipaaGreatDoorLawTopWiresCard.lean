/- The tied card of the law TopWires: the row's statement (the Go function squelch/squelchtop.TopWires returns true for every input and leaves its arguments as they were), its listed package variables tied to the program's text. Conditions: the card's own. -/
import Derived.Test.YtpgmabpaiijipaaGreatDoorLawTopWires
namespace Go.Proofs.YtpgmabpaiijipaaGreatDoor.topWires
open Go Den
set_option maxRecDepth 100000
theorem cMain : Tryz.prog.mainIs = some (true, "d432387f4b80547cb28bf7f7205f4742d65ed9924ab9dc44752cb90f71188789".toList) := by
  unfold Program.mainIs
  rw [ioL, ioW]
  kernel_rfl
theorem cGoes : false = row.goesBy Tryz.prog := by kernel_rfl
theorem cLooks : true = Tryz.prog.looks [] := by kernel_rfl
theorem cWf : row.wfByText spec = true := by kernel_rfl
theorem cWant : Tryz.prog.wantsStandIn 47 = false ∧ Tryz.prog.wantsStandIn 3 = false := ⟨by kernel_rfl, by kernel_rfl⟩
theorem cName : Tryz.prog.funcNamed "squelch/squelchtop.TopWires" = some 4 := by kernel_rfl
theorem cLeast (f : FuncId) (fn : Func) (hf : Tryz.prog.funcNamed row.func = some f) (hfn : Tryz.prog.funcs[f]? = some fn) : true = Tryz.prog.looks [] ∧ ∀ (j : Nat) t, fn.params[j]? = some t → Tryz.prog.wantsStandIn t = false := by
  obtain rfl : f = 4 := Option.some.inj (cName.symm.trans hf) |>.symm
  obtain rfl : fn = Tryz.f4 := (Option.some.inj (Tryz.func4.symm.trans hfn)).symm
  refine ⟨cLooks, fun j t ht => ?_⟩
  rw [Tryz.params4] at ht
  have h3 : t = 47 ∨ t = 3 := by
    rcases j with _ | _ | j
    · left; simpa using ht.symm
    · right; simpa using ht.symm
    · simp at ht
  rcases h3 with rfl | rfl
  · exact cWant.1
  · exact cWant.2
theorem proved : Rows.TopWiresCardSaid :=
  Claim7.holds_tied_plain_at .later [] [.data, .data, .data, .data, .pinned] true (true, "d432387f4b80547cb28bf7f7205f4742d65ed9924ab9dc44752cb90f71188789") true
    over (fun _ h => by cases h) cWf (fun _ h => by cases h) topWires_row_tie rfl ⟨rfl, rfl⟩ cMain rfl cLeast cGoes
#print axioms proved
end Go.Proofs.YtpgmabpaiijipaaGreatDoor.topWires
