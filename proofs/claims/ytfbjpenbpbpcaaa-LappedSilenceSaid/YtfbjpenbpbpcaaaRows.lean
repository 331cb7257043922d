/-
  No cell of these rows narrows 'for every input' (looked for: loops, veiled, ifaces, maps, wideKeys, modest, calm, conditions, laid).
  DERIVED. THE GIVEN ROWS OF THIS SEAT. 28 by the template 'for every input the law returns true; each argument reads behind the call as it read before'; 0 by the template 'total and deterministic' (their statements: YtfbjpenbpbpcaaaTotals.lean).
  GIVEN WITH THE SEED: the statements are not yours to turn. If you find one false, say at which input.
  Laid BY PROGRAM, IN A SANDBOX (cutbox-rows.mjs): the forced cells as the released guide's own fill.sh prints them over the translation 242e1574415a6319… (all of the seat's roots in one cut). By AI agents, Wed Nov 11 2026. No macro, syntax, notation, axiom, sorry.
-/
import Derived.Test.YtfbjpenbpbpcaaaChecked
import GoSem.Claim
import GoSem.ClaimJoined
import GoSem.ClaimMapViews
import Derived.JoinedTies
import Derived.KernelRfl
namespace Go.Proofs.Ytfbjpenbpbpcaaa
/- THE CELL 'sum', in the pinned program and in every row, IS THE sha256 OF THE DUMP (.gsa) THAT YtfbjpenbpbpcaaaProg.lean LOADS. Nothing in Lean hashes anything: it is a label: what it is worth is what the hold of that sum in a sandbox is worth. -/
noncomputable def Try.pinned : Pinned := { name := "ytfbjpenbpbpcaaa", sum := "242e1574415a6319f42d781abf4e9104ce24b93c22be5f6ddf7e854f44d4e351", checked := Try.checked }
namespace Rows
def none {H : Type} : Left H := { results := [], args := [] }

/-- 'squelchlaw06.TableOpposite': WHATEVER THE INPUT: true; the input reads as it did. -/
def tableOppositeSpec : ChangeSpec := { name := "tableOpposite", fn := fun _ => fun
  | [d] => { results := [.lit (.bool true)], args := [d] }
  | _ => none }
def tableOppositeRow : OpenClaim := { program := "ytfbjpenbpbpcaaa", sum := "242e1574415a6319f42d781abf4e9104ce24b93c22be5f6ddf7e854f44d4e351", func := "squelch/squelchlaw06.TableOpposite", spec := "tableOpposite", unfollowed := true, recurses := true, apart := false }
def TableOppositeSaid : Prop := tableOppositeRow.holds Try.pinned (OpenSpec.ofChange tableOppositeSpec)

/-- ITS FALSE NEIGHBOUR: 'it returns false'. Refute it at one input. -/
def tableOppositeWrong : ChangeSpec := { name := "tableOpposite", fn := fun _ => fun
  | [d] => { results := [.lit (.bool false)], args := [d] }
  | _ => none }
def TableOppositeWrongFalsely : Prop := tableOppositeRow.holds Try.pinned (OpenSpec.ofChange tableOppositeWrong)

/-- 'squelchlaw06.TableCircle': WHATEVER THE INPUT: true; the input reads as it did. -/
def tableCircleSpec : ChangeSpec := { name := "tableCircle", fn := fun _ => fun
  | [d1, d2] => { results := [.lit (.bool true)], args := [d1, d2] }
  | _ => none }
def tableCircleRow : OpenClaim := { program := "ytfbjpenbpbpcaaa", sum := "242e1574415a6319f42d781abf4e9104ce24b93c22be5f6ddf7e854f44d4e351", func := "squelch/squelchlaw06.TableCircle", spec := "tableCircle", unfollowed := true, recurses := true, apart := false }
def TableCircleSaid : Prop := tableCircleRow.holds Try.pinned (OpenSpec.ofChange tableCircleSpec)

/-- ITS FALSE NEIGHBOUR: 'it returns false'. Refute it at one input. -/
def tableCircleWrong : ChangeSpec := { name := "tableCircle", fn := fun _ => fun
  | [d1, d2] => { results := [.lit (.bool false)], args := [d1, d2] }
  | _ => none }
def TableCircleWrongFalsely : Prop := tableCircleRow.holds Try.pinned (OpenSpec.ofChange tableCircleWrong)

/-- 'squelchlaw06.TableTurns': WHATEVER THE INPUT: true; the input reads as it did. -/
def tableTurnsSpec : ChangeSpec := { name := "tableTurns", fn := fun _ => fun
  | [d1, d2] => { results := [.lit (.bool true)], args := [d1, d2] }
  | _ => none }
def tableTurnsRow : OpenClaim := { program := "ytfbjpenbpbpcaaa", sum := "242e1574415a6319f42d781abf4e9104ce24b93c22be5f6ddf7e854f44d4e351", func := "squelch/squelchlaw06.TableTurns", spec := "tableTurns", unfollowed := true, recurses := true, apart := false }
def TableTurnsSaid : Prop := tableTurnsRow.holds Try.pinned (OpenSpec.ofChange tableTurnsSpec)

/-- ITS FALSE NEIGHBOUR: 'it returns false'. Refute it at one input. -/
def tableTurnsWrong : ChangeSpec := { name := "tableTurns", fn := fun _ => fun
  | [d1, d2] => { results := [.lit (.bool false)], args := [d1, d2] }
  | _ => none }
def TableTurnsWrongFalsely : Prop := tableTurnsRow.holds Try.pinned (OpenSpec.ofChange tableTurnsWrong)

/-- 'squelchlaw05.FixedRounds': WHATEVER THE INPUT: true; the input reads as it did. -/
def fixedRoundsSpec : ChangeSpec := { name := "fixedRounds", fn := fun _ => fun
  | [d1, d2, d3, d4] => { results := [.lit (.bool true)], args := [d1, d2, d3, d4] }
  | _ => none }
def fixedRoundsRow : OpenClaim := { program := "ytfbjpenbpbpcaaa", sum := "242e1574415a6319f42d781abf4e9104ce24b93c22be5f6ddf7e854f44d4e351", func := "squelch/squelchlaw05.FixedRounds", spec := "fixedRounds", inPlace := ["math/bits.Add64"], apart := false }
def FixedRoundsSaid : Prop := fixedRoundsRow.holds Try.pinned (OpenSpec.ofChange fixedRoundsSpec)

/-- ITS FALSE NEIGHBOUR: 'it returns false'. Refute it at one input. -/
def fixedRoundsWrong : ChangeSpec := { name := "fixedRounds", fn := fun _ => fun
  | [d1, d2, d3, d4] => { results := [.lit (.bool false)], args := [d1, d2, d3, d4] }
  | _ => none }
def FixedRoundsWrongFalsely : Prop := fixedRoundsRow.holds Try.pinned (OpenSpec.ofChange fixedRoundsWrong)

/-- 'squelchlaw05.FixedNear': WHATEVER THE INPUT: true; the input reads as it did. -/
def fixedNearSpec : ChangeSpec := { name := "fixedNear", fn := fun _ => fun
  | [d1, d2, d3] => { results := [.lit (.bool true)], args := [d1, d2, d3] }
  | _ => none }
def fixedNearRow : OpenClaim := { program := "ytfbjpenbpbpcaaa", sum := "242e1574415a6319f42d781abf4e9104ce24b93c22be5f6ddf7e854f44d4e351", func := "squelch/squelchlaw05.FixedNear", spec := "fixedNear", inPlace := ["math/bits.Add64"], apart := false }
def FixedNearSaid : Prop := fixedNearRow.holds Try.pinned (OpenSpec.ofChange fixedNearSpec)

/-- ITS FALSE NEIGHBOUR: 'it returns false'. Refute it at one input. -/
def fixedNearWrong : ChangeSpec := { name := "fixedNear", fn := fun _ => fun
  | [d1, d2, d3] => { results := [.lit (.bool false)], args := [d1, d2, d3] }
  | _ => none }
def FixedNearWrongFalsely : Prop := fixedNearRow.holds Try.pinned (OpenSpec.ofChange fixedNearWrong)

/-- 'squelchlaw06.TableFrames': WHATEVER THE INPUT: true; the input reads as it did. -/
def tableFramesSpec : ChangeSpec := { name := "tableFrames", fn := fun _ => fun
  | [d1, d2] => { results := [.lit (.bool true)], args := [d1, d2] }
  | _ => none }
def tableFramesRow : OpenClaim := { program := "ytfbjpenbpbpcaaa", sum := "242e1574415a6319f42d781abf4e9104ce24b93c22be5f6ddf7e854f44d4e351", func := "squelch/squelchlaw06.TableFrames", spec := "tableFrames", unfollowed := true, recurses := true, apart := false }
def TableFramesSaid : Prop := tableFramesRow.holds Try.pinned (OpenSpec.ofChange tableFramesSpec)

/-- ITS FALSE NEIGHBOUR: 'it returns false'. Refute it at one input. -/
def tableFramesWrong : ChangeSpec := { name := "tableFrames", fn := fun _ => fun
  | [d1, d2] => { results := [.lit (.bool false)], args := [d1, d2] }
  | _ => none }
def TableFramesWrongFalsely : Prop := tableFramesRow.holds Try.pinned (OpenSpec.ofChange tableFramesWrong)

/-- 'squelchlaw06.TableRows': WHATEVER THE INPUT: true; the input reads as it did. -/
def tableRowsSpec : ChangeSpec := { name := "tableRows", fn := fun _ => fun
  | [d1, d2] => { results := [.lit (.bool true)], args := [d1, d2] }
  | _ => none }
def tableRowsRow : OpenClaim := { program := "ytfbjpenbpbpcaaa", sum := "242e1574415a6319f42d781abf4e9104ce24b93c22be5f6ddf7e854f44d4e351", func := "squelch/squelchlaw06.TableRows", spec := "tableRows", unfollowed := true, recurses := true, apart := false }
def TableRowsSaid : Prop := tableRowsRow.holds Try.pinned (OpenSpec.ofChange tableRowsSpec)

/-- ITS FALSE NEIGHBOUR: 'it returns false'. Refute it at one input. -/
def tableRowsWrong : ChangeSpec := { name := "tableRows", fn := fun _ => fun
  | [d1, d2] => { results := [.lit (.bool false)], args := [d1, d2] }
  | _ => none }
def TableRowsWrongFalsely : Prop := tableRowsRow.holds Try.pinned (OpenSpec.ofChange tableRowsWrong)

/-- 'squelchlaw05.FixedSigns': WHATEVER THE INPUT: true; the input reads as it did. -/
def fixedSignsSpec : ChangeSpec := { name := "fixedSigns", fn := fun _ => fun
  | [d1, d2, d3, d4] => { results := [.lit (.bool true)], args := [d1, d2, d3, d4] }
  | _ => none }
def fixedSignsRow : OpenClaim := { program := "ytfbjpenbpbpcaaa", sum := "242e1574415a6319f42d781abf4e9104ce24b93c22be5f6ddf7e854f44d4e351", func := "squelch/squelchlaw05.FixedSigns", spec := "fixedSigns", inPlace := ["math/bits.Add64"], apart := false }
def FixedSignsSaid : Prop := fixedSignsRow.holds Try.pinned (OpenSpec.ofChange fixedSignsSpec)

/-- ITS FALSE NEIGHBOUR: 'it returns false'. Refute it at one input. -/
def fixedSignsWrong : ChangeSpec := { name := "fixedSigns", fn := fun _ => fun
  | [d1, d2, d3, d4] => { results := [.lit (.bool false)], args := [d1, d2, d3, d4] }
  | _ => none }
def FixedSignsWrongFalsely : Prop := fixedSignsRow.holds Try.pinned (OpenSpec.ofChange fixedSignsWrong)

/-- 'squelchlaw05.FixedRoots': WHATEVER THE INPUT: true; the input reads as it did. -/
def fixedRootsSpec : ChangeSpec := { name := "fixedRoots", fn := fun _ => fun
  | [d] => { results := [.lit (.bool true)], args := [d] }
  | _ => none }
def fixedRootsRow : OpenClaim := { program := "ytfbjpenbpbpcaaa", sum := "242e1574415a6319f42d781abf4e9104ce24b93c22be5f6ddf7e854f44d4e351", func := "squelch/squelchlaw05.FixedRoots", spec := "fixedRoots", inPlace := ["math/bits.Add64"], apart := false }
def FixedRootsSaid : Prop := fixedRootsRow.holds Try.pinned (OpenSpec.ofChange fixedRootsSpec)

/-- ITS FALSE NEIGHBOUR: 'it returns false'. Refute it at one input. -/
def fixedRootsWrong : ChangeSpec := { name := "fixedRoots", fn := fun _ => fun
  | [d] => { results := [.lit (.bool false)], args := [d] }
  | _ => none }
def FixedRootsWrongFalsely : Prop := fixedRootsRow.holds Try.pinned (OpenSpec.ofChange fixedRootsWrong)

/-- 'squelchlaw05.FixedHolds': WHATEVER THE INPUT: true; the input reads as it did. -/
def fixedHoldsSpec : ChangeSpec := { name := "fixedHolds", fn := fun _ => fun
  | [d1, d2, d3, d4, d5] => { results := [.lit (.bool true)], args := [d1, d2, d3, d4, d5] }
  | _ => none }
def fixedHoldsRow : OpenClaim := { program := "ytfbjpenbpbpcaaa", sum := "242e1574415a6319f42d781abf4e9104ce24b93c22be5f6ddf7e854f44d4e351", func := "squelch/squelchlaw05.FixedHolds", spec := "fixedHolds", inPlace := ["math/bits.Add64"], apart := false }
def FixedHoldsSaid : Prop := fixedHoldsRow.holds Try.pinned (OpenSpec.ofChange fixedHoldsSpec)

/-- ITS FALSE NEIGHBOUR: 'it returns false'. Refute it at one input. -/
def fixedHoldsWrong : ChangeSpec := { name := "fixedHolds", fn := fun _ => fun
  | [d1, d2, d3, d4, d5] => { results := [.lit (.bool false)], args := [d1, d2, d3, d4, d5] }
  | _ => none }
def FixedHoldsWrongFalsely : Prop := fixedHoldsRow.holds Try.pinned (OpenSpec.ofChange fixedHoldsWrong)

/-- 'squelchlaw05.FixedSquares': WHATEVER THE INPUT: true; the input reads as it did. -/
def fixedSquaresSpec : ChangeSpec := { name := "fixedSquares", fn := fun _ => fun
  | [d] => { results := [.lit (.bool true)], args := [d] }
  | _ => none }
def fixedSquaresRow : OpenClaim := { program := "ytfbjpenbpbpcaaa", sum := "242e1574415a6319f42d781abf4e9104ce24b93c22be5f6ddf7e854f44d4e351", func := "squelch/squelchlaw05.FixedSquares", spec := "fixedSquares", inPlace := ["math/bits.Add64"], apart := false }
def FixedSquaresSaid : Prop := fixedSquaresRow.holds Try.pinned (OpenSpec.ofChange fixedSquaresSpec)

/-- ITS FALSE NEIGHBOUR: 'it returns false'. Refute it at one input. -/
def fixedSquaresWrong : ChangeSpec := { name := "fixedSquares", fn := fun _ => fun
  | [d] => { results := [.lit (.bool false)], args := [d] }
  | _ => none }
def FixedSquaresWrongFalsely : Prop := fixedSquaresRow.holds Try.pinned (OpenSpec.ofChange fixedSquaresWrong)

/-- 'squelchlaw05.FixedSats': WHATEVER THE INPUT: true; the input reads as it did. -/
def fixedSatsSpec : ChangeSpec := { name := "fixedSats", fn := fun _ => fun
  | [d1, d2, d3] => { results := [.lit (.bool true)], args := [d1, d2, d3] }
  | _ => none }
def fixedSatsRow : OpenClaim := { program := "ytfbjpenbpbpcaaa", sum := "242e1574415a6319f42d781abf4e9104ce24b93c22be5f6ddf7e854f44d4e351", func := "squelch/squelchlaw05.FixedSats", spec := "fixedSats", inPlace := ["math/bits.Add64"], apart := false }
def FixedSatsSaid : Prop := fixedSatsRow.holds Try.pinned (OpenSpec.ofChange fixedSatsSpec)

/-- ITS FALSE NEIGHBOUR: 'it returns false'. Refute it at one input. -/
def fixedSatsWrong : ChangeSpec := { name := "fixedSats", fn := fun _ => fun
  | [d1, d2, d3] => { results := [.lit (.bool false)], args := [d1, d2, d3] }
  | _ => none }
def FixedSatsWrongFalsely : Prop := fixedSatsRow.holds Try.pinned (OpenSpec.ofChange fixedSatsWrong)

/-- 'squelchlaw07.LappedForward': WHATEVER THE INPUT: true; the input reads as it did. -/
def lappedForwardSpec : ChangeSpec := { name := "lappedForward", fn := fun _ => fun
  | [d1, d2] => { results := [.lit (.bool true)], args := [d1, d2] }
  | _ => none }
def lappedForwardRow : OpenClaim := { program := "ytfbjpenbpbpcaaa", sum := "242e1574415a6319f42d781abf4e9104ce24b93c22be5f6ddf7e854f44d4e351", func := "squelch/squelchlaw07.LappedForward", spec := "lappedForward", unfollowed := true, recurses := true, apart := false }
def LappedForwardSaid : Prop := lappedForwardRow.holds Try.pinned (OpenSpec.ofChange lappedForwardSpec)

/-- ITS FALSE NEIGHBOUR: 'it returns false'. Refute it at one input. -/
def lappedForwardWrong : ChangeSpec := { name := "lappedForward", fn := fun _ => fun
  | [d1, d2] => { results := [.lit (.bool false)], args := [d1, d2] }
  | _ => none }
def LappedForwardWrongFalsely : Prop := lappedForwardRow.holds Try.pinned (OpenSpec.ofChange lappedForwardWrong)

/-- 'squelchlaw07.LappedInverse': WHATEVER THE INPUT: true; the input reads as it did. -/
def lappedInverseSpec : ChangeSpec := { name := "lappedInverse", fn := fun _ => fun
  | [d] => { results := [.lit (.bool true)], args := [d] }
  | _ => none }
def lappedInverseRow : OpenClaim := { program := "ytfbjpenbpbpcaaa", sum := "242e1574415a6319f42d781abf4e9104ce24b93c22be5f6ddf7e854f44d4e351", func := "squelch/squelchlaw07.LappedInverse", spec := "lappedInverse", unfollowed := true, recurses := true, apart := false }
def LappedInverseSaid : Prop := lappedInverseRow.holds Try.pinned (OpenSpec.ofChange lappedInverseSpec)

/-- ITS FALSE NEIGHBOUR: 'it returns false'. Refute it at one input. -/
def lappedInverseWrong : ChangeSpec := { name := "lappedInverse", fn := fun _ => fun
  | [d] => { results := [.lit (.bool false)], args := [d] }
  | _ => none }
def LappedInverseWrongFalsely : Prop := lappedInverseRow.holds Try.pinned (OpenSpec.ofChange lappedInverseWrong)

/-- 'squelchlaw07.LappedTurned': WHATEVER THE INPUT: true; the input reads as it did. -/
def lappedTurnedSpec : ChangeSpec := { name := "lappedTurned", fn := fun _ => fun
  | [d1, d2, d3] => { results := [.lit (.bool true)], args := [d1, d2, d3] }
  | _ => none }
def lappedTurnedRow : OpenClaim := { program := "ytfbjpenbpbpcaaa", sum := "242e1574415a6319f42d781abf4e9104ce24b93c22be5f6ddf7e854f44d4e351", func := "squelch/squelchlaw07.LappedTurned", spec := "lappedTurned", unfollowed := true, recurses := true, apart := false }
def LappedTurnedSaid : Prop := lappedTurnedRow.holds Try.pinned (OpenSpec.ofChange lappedTurnedSpec)

/-- ITS FALSE NEIGHBOUR: 'it returns false'. Refute it at one input. -/
def lappedTurnedWrong : ChangeSpec := { name := "lappedTurned", fn := fun _ => fun
  | [d1, d2, d3] => { results := [.lit (.bool false)], args := [d1, d2, d3] }
  | _ => none }
def LappedTurnedWrongFalsely : Prop := lappedTurnedRow.holds Try.pinned (OpenSpec.ofChange lappedTurnedWrong)

/-- 'squelchlaw08.BandsShares': WHATEVER THE INPUT: true; the input reads as it did. -/
def bandsSharesSpec : ChangeSpec := { name := "bandsShares", fn := fun _ => fun
  | [d1, d2, d3] => { results := [.lit (.bool true)], args := [d1, d2, d3] }
  | _ => none }
def bandsSharesRow : OpenClaim := { program := "ytfbjpenbpbpcaaa", sum := "242e1574415a6319f42d781abf4e9104ce24b93c22be5f6ddf7e854f44d4e351", func := "squelch/squelchlaw08.BandsShares", spec := "bandsShares", inPlace := ["math/bits.Add64"], unfollowed := true, recurses := true, apart := false }
def BandsSharesSaid : Prop := bandsSharesRow.holds Try.pinned (OpenSpec.ofChange bandsSharesSpec)

/-- ITS FALSE NEIGHBOUR: 'it returns false'. Refute it at one input. -/
def bandsSharesWrong : ChangeSpec := { name := "bandsShares", fn := fun _ => fun
  | [d1, d2, d3] => { results := [.lit (.bool false)], args := [d1, d2, d3] }
  | _ => none }
def BandsSharesWrongFalsely : Prop := bandsSharesRow.holds Try.pinned (OpenSpec.ofChange bandsSharesWrong)

/-- 'squelchlaw08.BandsFits': WHATEVER THE INPUT: true; the input reads as it did. -/
def bandsFitsSpec : ChangeSpec := { name := "bandsFits", fn := fun _ => fun
  | [d1, d2, d3] => { results := [.lit (.bool true)], args := [d1, d2, d3] }
  | _ => none }
def bandsFitsRow : OpenClaim := { program := "ytfbjpenbpbpcaaa", sum := "242e1574415a6319f42d781abf4e9104ce24b93c22be5f6ddf7e854f44d4e351", func := "squelch/squelchlaw08.BandsFits", spec := "bandsFits", inPlace := ["math/bits.Add64"], unfollowed := true, recurses := true, apart := false }
def BandsFitsSaid : Prop := bandsFitsRow.holds Try.pinned (OpenSpec.ofChange bandsFitsSpec)

/-- ITS FALSE NEIGHBOUR: 'it returns false'. Refute it at one input. -/
def bandsFitsWrong : ChangeSpec := { name := "bandsFits", fn := fun _ => fun
  | [d1, d2, d3] => { results := [.lit (.bool false)], args := [d1, d2, d3] }
  | _ => none }
def BandsFitsWrongFalsely : Prop := bandsFitsRow.holds Try.pinned (OpenSpec.ofChange bandsFitsWrong)

/-- 'squelchlaw08.BandsLevels': WHATEVER THE INPUT: true; the input reads as it did. -/
def bandsLevelsSpec : ChangeSpec := { name := "bandsLevels", fn := fun _ => fun
  | [d1, d2, d3] => { results := [.lit (.bool true)], args := [d1, d2, d3] }
  | _ => none }
def bandsLevelsRow : OpenClaim := { program := "ytfbjpenbpbpcaaa", sum := "242e1574415a6319f42d781abf4e9104ce24b93c22be5f6ddf7e854f44d4e351", func := "squelch/squelchlaw08.BandsLevels", spec := "bandsLevels", inPlace := ["math/bits.Add64"], unfollowed := true, recurses := true, apart := false }
def BandsLevelsSaid : Prop := bandsLevelsRow.holds Try.pinned (OpenSpec.ofChange bandsLevelsSpec)

/-- ITS FALSE NEIGHBOUR: 'it returns false'. Refute it at one input. -/
def bandsLevelsWrong : ChangeSpec := { name := "bandsLevels", fn := fun _ => fun
  | [d1, d2, d3] => { results := [.lit (.bool false)], args := [d1, d2, d3] }
  | _ => none }
def BandsLevelsWrongFalsely : Prop := bandsLevelsRow.holds Try.pinned (OpenSpec.ofChange bandsLevelsWrong)

/-- 'squelchlaw08.BandsMasks': WHATEVER THE INPUT: true; the input reads as it did. -/
def bandsMasksSpec : ChangeSpec := { name := "bandsMasks", fn := fun _ => fun
  | [d1, d2, d3] => { results := [.lit (.bool true)], args := [d1, d2, d3] }
  | _ => none }
def bandsMasksRow : OpenClaim := { program := "ytfbjpenbpbpcaaa", sum := "242e1574415a6319f42d781abf4e9104ce24b93c22be5f6ddf7e854f44d4e351", func := "squelch/squelchlaw08.BandsMasks", spec := "bandsMasks", inPlace := ["math/bits.Add64"], unfollowed := true, recurses := true, apart := false }
def BandsMasksSaid : Prop := bandsMasksRow.holds Try.pinned (OpenSpec.ofChange bandsMasksSpec)

/-- ITS FALSE NEIGHBOUR: 'it returns false'. Refute it at one input. -/
def bandsMasksWrong : ChangeSpec := { name := "bandsMasks", fn := fun _ => fun
  | [d1, d2, d3] => { results := [.lit (.bool false)], args := [d1, d2, d3] }
  | _ => none }
def BandsMasksWrongFalsely : Prop := bandsMasksRow.holds Try.pinned (OpenSpec.ofChange bandsMasksWrong)

/-- 'squelchlaw08.BandsSigns': WHATEVER THE INPUT: true; the input reads as it did. -/
def bandsSignsSpec : ChangeSpec := { name := "bandsSigns", fn := fun _ => fun
  | [d1, d2, d3] => { results := [.lit (.bool true)], args := [d1, d2, d3] }
  | _ => none }
def bandsSignsRow : OpenClaim := { program := "ytfbjpenbpbpcaaa", sum := "242e1574415a6319f42d781abf4e9104ce24b93c22be5f6ddf7e854f44d4e351", func := "squelch/squelchlaw08.BandsSigns", spec := "bandsSigns", inPlace := ["math/bits.Add64"], unfollowed := true, recurses := true, apart := false }
def BandsSignsSaid : Prop := bandsSignsRow.holds Try.pinned (OpenSpec.ofChange bandsSignsSpec)

/-- ITS FALSE NEIGHBOUR: 'it returns false'. Refute it at one input. -/
def bandsSignsWrong : ChangeSpec := { name := "bandsSigns", fn := fun _ => fun
  | [d1, d2, d3] => { results := [.lit (.bool false)], args := [d1, d2, d3] }
  | _ => none }
def BandsSignsWrongFalsely : Prop := bandsSignsRow.holds Try.pinned (OpenSpec.ofChange bandsSignsWrong)

/-- 'squelchlaw07.LappedLaps': WHATEVER THE INPUT: true; the input reads as it did. -/
def lappedLapsSpec : ChangeSpec := { name := "lappedLaps", fn := fun _ => fun
  | [d1, d2, d3] => { results := [.lit (.bool true)], args := [d1, d2, d3] }
  | _ => none }
def lappedLapsRow : OpenClaim := { program := "ytfbjpenbpbpcaaa", sum := "242e1574415a6319f42d781abf4e9104ce24b93c22be5f6ddf7e854f44d4e351", func := "squelch/squelchlaw07.LappedLaps", spec := "lappedLaps", unfollowed := true, recurses := true, apart := false }
def LappedLapsSaid : Prop := lappedLapsRow.holds Try.pinned (OpenSpec.ofChange lappedLapsSpec)

/-- ITS FALSE NEIGHBOUR: 'it returns false'. Refute it at one input. -/
def lappedLapsWrong : ChangeSpec := { name := "lappedLaps", fn := fun _ => fun
  | [d1, d2, d3] => { results := [.lit (.bool false)], args := [d1, d2, d3] }
  | _ => none }
def LappedLapsWrongFalsely : Prop := lappedLapsRow.holds Try.pinned (OpenSpec.ofChange lappedLapsWrong)

/-- 'squelchlaw07.LappedSilence': WHATEVER THE INPUT: true; the input reads as it did. -/
def lappedSilenceSpec : ChangeSpec := { name := "lappedSilence", fn := fun _ => fun
  | [d1, d2] => { results := [.lit (.bool true)], args := [d1, d2] }
  | _ => none }
def lappedSilenceRow : OpenClaim := { program := "ytfbjpenbpbpcaaa", sum := "242e1574415a6319f42d781abf4e9104ce24b93c22be5f6ddf7e854f44d4e351", func := "squelch/squelchlaw07.LappedSilence", spec := "lappedSilence", unfollowed := true, recurses := true, apart := false }
def LappedSilenceSaid : Prop := lappedSilenceRow.holds Try.pinned (OpenSpec.ofChange lappedSilenceSpec)

/-- ITS FALSE NEIGHBOUR: 'it returns false'. Refute it at one input. -/
def lappedSilenceWrong : ChangeSpec := { name := "lappedSilence", fn := fun _ => fun
  | [d1, d2] => { results := [.lit (.bool false)], args := [d1, d2] }
  | _ => none }
def LappedSilenceWrongFalsely : Prop := lappedSilenceRow.holds Try.pinned (OpenSpec.ofChange lappedSilenceWrong)

/-- 'squelchlaw09.QuantSteps': WHATEVER THE INPUT: true; the input reads as it did. -/
def quantStepsSpec : ChangeSpec := { name := "quantSteps", fn := fun _ => fun
  | [d1, d2] => { results := [.lit (.bool true)], args := [d1, d2] }
  | _ => none }
def quantStepsRow : OpenClaim := { program := "ytfbjpenbpbpcaaa", sum := "242e1574415a6319f42d781abf4e9104ce24b93c22be5f6ddf7e854f44d4e351", func := "squelch/squelchlaw09.QuantSteps", spec := "quantSteps", inPlace := ["math/bits.Add64"], unfollowed := true, recurses := true, apart := false }
def QuantStepsSaid : Prop := quantStepsRow.holds Try.pinned (OpenSpec.ofChange quantStepsSpec)

/-- ITS FALSE NEIGHBOUR: 'it returns false'. Refute it at one input. -/
def quantStepsWrong : ChangeSpec := { name := "quantSteps", fn := fun _ => fun
  | [d1, d2] => { results := [.lit (.bool false)], args := [d1, d2] }
  | _ => none }
def QuantStepsWrongFalsely : Prop := quantStepsRow.holds Try.pinned (OpenSpec.ofChange quantStepsWrong)

/-- 'squelchlaw09.QuantReach': WHATEVER THE INPUT: true; the input reads as it did. -/
def quantReachSpec : ChangeSpec := { name := "quantReach", fn := fun _ => fun
  | [d1, d2] => { results := [.lit (.bool true)], args := [d1, d2] }
  | _ => none }
def quantReachRow : OpenClaim := { program := "ytfbjpenbpbpcaaa", sum := "242e1574415a6319f42d781abf4e9104ce24b93c22be5f6ddf7e854f44d4e351", func := "squelch/squelchlaw09.QuantReach", spec := "quantReach", inPlace := ["math/bits.Add64"], unfollowed := true, recurses := true, apart := false }
def QuantReachSaid : Prop := quantReachRow.holds Try.pinned (OpenSpec.ofChange quantReachSpec)

/-- ITS FALSE NEIGHBOUR: 'it returns false'. Refute it at one input. -/
def quantReachWrong : ChangeSpec := { name := "quantReach", fn := fun _ => fun
  | [d1, d2] => { results := [.lit (.bool false)], args := [d1, d2] }
  | _ => none }
def QuantReachWrongFalsely : Prop := quantReachRow.holds Try.pinned (OpenSpec.ofChange quantReachWrong)

/-- 'squelchlaw09.QuantAgain': WHATEVER THE INPUT: true; the input reads as it did. -/
def quantAgainSpec : ChangeSpec := { name := "quantAgain", fn := fun _ => fun
  | [d1, d2] => { results := [.lit (.bool true)], args := [d1, d2] }
  | _ => none }
def quantAgainRow : OpenClaim := { program := "ytfbjpenbpbpcaaa", sum := "242e1574415a6319f42d781abf4e9104ce24b93c22be5f6ddf7e854f44d4e351", func := "squelch/squelchlaw09.QuantAgain", spec := "quantAgain", inPlace := ["math/bits.Add64"], unfollowed := true, recurses := true, apart := false }
def QuantAgainSaid : Prop := quantAgainRow.holds Try.pinned (OpenSpec.ofChange quantAgainSpec)

/-- ITS FALSE NEIGHBOUR: 'it returns false'. Refute it at one input. -/
def quantAgainWrong : ChangeSpec := { name := "quantAgain", fn := fun _ => fun
  | [d1, d2] => { results := [.lit (.bool false)], args := [d1, d2] }
  | _ => none }
def QuantAgainWrongFalsely : Prop := quantAgainRow.holds Try.pinned (OpenSpec.ofChange quantAgainWrong)

/-- 'squelchlaw09.QuantNear': WHATEVER THE INPUT: true; the input reads as it did. -/
def quantNearSpec : ChangeSpec := { name := "quantNear", fn := fun _ => fun
  | [d] => { results := [.lit (.bool true)], args := [d] }
  | _ => none }
def quantNearRow : OpenClaim := { program := "ytfbjpenbpbpcaaa", sum := "242e1574415a6319f42d781abf4e9104ce24b93c22be5f6ddf7e854f44d4e351", func := "squelch/squelchlaw09.QuantNear", spec := "quantNear", inPlace := ["math/bits.Add64"], unfollowed := true, recurses := true, apart := false }
def QuantNearSaid : Prop := quantNearRow.holds Try.pinned (OpenSpec.ofChange quantNearSpec)

/-- ITS FALSE NEIGHBOUR: 'it returns false'. Refute it at one input. -/
def quantNearWrong : ChangeSpec := { name := "quantNear", fn := fun _ => fun
  | [d] => { results := [.lit (.bool false)], args := [d] }
  | _ => none }
def QuantNearWrongFalsely : Prop := quantNearRow.holds Try.pinned (OpenSpec.ofChange quantNearWrong)

/-- 'squelchlaw09.QuantNoise': WHATEVER THE INPUT: true; the input reads as it did. -/
def quantNoiseSpec : ChangeSpec := { name := "quantNoise", fn := fun _ => fun
  | [d1, d2] => { results := [.lit (.bool true)], args := [d1, d2] }
  | _ => none }
def quantNoiseRow : OpenClaim := { program := "ytfbjpenbpbpcaaa", sum := "242e1574415a6319f42d781abf4e9104ce24b93c22be5f6ddf7e854f44d4e351", func := "squelch/squelchlaw09.QuantNoise", spec := "quantNoise", inPlace := ["math/bits.Add64"], unfollowed := true, recurses := true, apart := false }
def QuantNoiseSaid : Prop := quantNoiseRow.holds Try.pinned (OpenSpec.ofChange quantNoiseSpec)

/-- ITS FALSE NEIGHBOUR: 'it returns false'. Refute it at one input. -/
def quantNoiseWrong : ChangeSpec := { name := "quantNoise", fn := fun _ => fun
  | [d1, d2] => { results := [.lit (.bool false)], args := [d1, d2] }
  | _ => none }
def QuantNoiseWrongFalsely : Prop := quantNoiseRow.holds Try.pinned (OpenSpec.ofChange quantNoiseWrong)

/-- 'squelchlaw09.QuantMakes': WHATEVER THE INPUT: true; the input reads as it did. -/
def quantMakesSpec : ChangeSpec := { name := "quantMakes", fn := fun _ => fun
  | [d1, d2, d3, d4] => { results := [.lit (.bool true)], args := [d1, d2, d3, d4] }
  | _ => none }
def quantMakesRow : OpenClaim := { program := "ytfbjpenbpbpcaaa", sum := "242e1574415a6319f42d781abf4e9104ce24b93c22be5f6ddf7e854f44d4e351", func := "squelch/squelchlaw09.QuantMakes", spec := "quantMakes", inPlace := ["math/bits.Add64"], unfollowed := true, recurses := true, apart := false }
def QuantMakesSaid : Prop := quantMakesRow.holds Try.pinned (OpenSpec.ofChange quantMakesSpec)

/-- ITS FALSE NEIGHBOUR: 'it returns false'. Refute it at one input. -/
def quantMakesWrong : ChangeSpec := { name := "quantMakes", fn := fun _ => fun
  | [d1, d2, d3, d4] => { results := [.lit (.bool false)], args := [d1, d2, d3, d4] }
  | _ => none }
def QuantMakesWrongFalsely : Prop := quantMakesRow.holds Try.pinned (OpenSpec.ofChange quantMakesWrong)

/- THE SECOND FORM. 'bulk': how many values and letters a reading holds, each counted each time it is reached (what is shared counts as often as it is met; a slice's spare places count too). A statement '..UptoSaid' is the law's where the arguments, and the package variables that the reading takes, are together of bulk at most 1048576: NARROWER than '..Said'. Prove '..Said' where nothing that the law and all that it calls make is longer than what came in: it says more and counts as full. Else prove '..UptoSaid'. A law counts once. -/
mutual
def uptoBulk {H : Type} : DataW H → Nat
  | .lit (.string bytes) => bytes.length + 1
  | .lit _ => 1
  | .nil => 1
  | .ptr d => uptoBulk d + 1
  | .slice elems spare => uptoBulkAll elems + uptoBulkAll spare + 1
  | .agg parts => uptoBulkAll parts + 1
  | .iface _ d => uptoBulk d + 1
  | .map entries => uptoBulkEntries entries + 1
  | .held _ => 1
def uptoBulkAll {H : Type} : List (DataW H) → Nat
  | [] => 0
  | d :: r => uptoBulk d + uptoBulkAll r
def uptoBulkEntries {H : Type} : List (Lit × DataW H) → Nat
  | [] => 0
  | x :: r => uptoBulkEntry x + uptoBulkEntries r
def uptoBulkEntry {H : Type} : Lit × DataW H → Nat
  | (.string bytes, d) => bytes.length + uptoBulk d + 1
  | (_, d) => uptoBulk d + 1
 end
def uptoSmall : (H : Type) → List (DataW H) → Bool := fun _ ds => decide (uptoBulkAll ds ≤ 1048576)
def OpenSpec.upto (s : _root_.Go.ChangeSpec) : _root_.Go.OpenSpec := { _root_.Go.OpenSpec.ofChange s with cond := some uptoSmall }

/-- 'squelchlaw06.TableOpposite', WHERE WHAT IT READS IS OF BULK AT MOST 1048576: true; the input reads as it did. -/
def tableOppositeUptoRow : OpenClaim := { program := "ytfbjpenbpbpcaaa", sum := "242e1574415a6319f42d781abf4e9104ce24b93c22be5f6ddf7e854f44d4e351", func := "squelch/squelchlaw06.TableOpposite", spec := "tableOpposite", unfollowed := true, recurses := true, apart := false, narrowed := true }
def TableOppositeUptoSaid : Prop := tableOppositeUptoRow.holds Try.pinned (OpenSpec.upto tableOppositeSpec)

/-- 'squelchlaw06.TableCircle', WHERE WHAT IT READS IS OF BULK AT MOST 1048576: true; the input reads as it did. -/
def tableCircleUptoRow : OpenClaim := { program := "ytfbjpenbpbpcaaa", sum := "242e1574415a6319f42d781abf4e9104ce24b93c22be5f6ddf7e854f44d4e351", func := "squelch/squelchlaw06.TableCircle", spec := "tableCircle", unfollowed := true, recurses := true, apart := false, narrowed := true }
def TableCircleUptoSaid : Prop := tableCircleUptoRow.holds Try.pinned (OpenSpec.upto tableCircleSpec)

/-- 'squelchlaw06.TableTurns', WHERE WHAT IT READS IS OF BULK AT MOST 1048576: true; the input reads as it did. -/
def tableTurnsUptoRow : OpenClaim := { program := "ytfbjpenbpbpcaaa", sum := "242e1574415a6319f42d781abf4e9104ce24b93c22be5f6ddf7e854f44d4e351", func := "squelch/squelchlaw06.TableTurns", spec := "tableTurns", unfollowed := true, recurses := true, apart := false, narrowed := true }
def TableTurnsUptoSaid : Prop := tableTurnsUptoRow.holds Try.pinned (OpenSpec.upto tableTurnsSpec)

/-- 'squelchlaw05.FixedRounds', WHERE WHAT IT READS IS OF BULK AT MOST 1048576: true; the input reads as it did. -/
def fixedRoundsUptoRow : OpenClaim := { program := "ytfbjpenbpbpcaaa", sum := "242e1574415a6319f42d781abf4e9104ce24b93c22be5f6ddf7e854f44d4e351", func := "squelch/squelchlaw05.FixedRounds", spec := "fixedRounds", inPlace := ["math/bits.Add64"], apart := false, narrowed := true }
def FixedRoundsUptoSaid : Prop := fixedRoundsUptoRow.holds Try.pinned (OpenSpec.upto fixedRoundsSpec)

/-- 'squelchlaw05.FixedNear', WHERE WHAT IT READS IS OF BULK AT MOST 1048576: true; the input reads as it did. -/
def fixedNearUptoRow : OpenClaim := { program := "ytfbjpenbpbpcaaa", sum := "242e1574415a6319f42d781abf4e9104ce24b93c22be5f6ddf7e854f44d4e351", func := "squelch/squelchlaw05.FixedNear", spec := "fixedNear", inPlace := ["math/bits.Add64"], apart := false, narrowed := true }
def FixedNearUptoSaid : Prop := fixedNearUptoRow.holds Try.pinned (OpenSpec.upto fixedNearSpec)

/-- 'squelchlaw06.TableFrames', WHERE WHAT IT READS IS OF BULK AT MOST 1048576: true; the input reads as it did. -/
def tableFramesUptoRow : OpenClaim := { program := "ytfbjpenbpbpcaaa", sum := "242e1574415a6319f42d781abf4e9104ce24b93c22be5f6ddf7e854f44d4e351", func := "squelch/squelchlaw06.TableFrames", spec := "tableFrames", unfollowed := true, recurses := true, apart := false, narrowed := true }
def TableFramesUptoSaid : Prop := tableFramesUptoRow.holds Try.pinned (OpenSpec.upto tableFramesSpec)

/-- 'squelchlaw06.TableRows', WHERE WHAT IT READS IS OF BULK AT MOST 1048576: true; the input reads as it did. -/
def tableRowsUptoRow : OpenClaim := { program := "ytfbjpenbpbpcaaa", sum := "242e1574415a6319f42d781abf4e9104ce24b93c22be5f6ddf7e854f44d4e351", func := "squelch/squelchlaw06.TableRows", spec := "tableRows", unfollowed := true, recurses := true, apart := false, narrowed := true }
def TableRowsUptoSaid : Prop := tableRowsUptoRow.holds Try.pinned (OpenSpec.upto tableRowsSpec)

/-- 'squelchlaw05.FixedSigns', WHERE WHAT IT READS IS OF BULK AT MOST 1048576: true; the input reads as it did. -/
def fixedSignsUptoRow : OpenClaim := { program := "ytfbjpenbpbpcaaa", sum := "242e1574415a6319f42d781abf4e9104ce24b93c22be5f6ddf7e854f44d4e351", func := "squelch/squelchlaw05.FixedSigns", spec := "fixedSigns", inPlace := ["math/bits.Add64"], apart := false, narrowed := true }
def FixedSignsUptoSaid : Prop := fixedSignsUptoRow.holds Try.pinned (OpenSpec.upto fixedSignsSpec)

/-- 'squelchlaw05.FixedRoots', WHERE WHAT IT READS IS OF BULK AT MOST 1048576: true; the input reads as it did. -/
def fixedRootsUptoRow : OpenClaim := { program := "ytfbjpenbpbpcaaa", sum := "242e1574415a6319f42d781abf4e9104ce24b93c22be5f6ddf7e854f44d4e351", func := "squelch/squelchlaw05.FixedRoots", spec := "fixedRoots", inPlace := ["math/bits.Add64"], apart := false, narrowed := true }
def FixedRootsUptoSaid : Prop := fixedRootsUptoRow.holds Try.pinned (OpenSpec.upto fixedRootsSpec)

/-- 'squelchlaw05.FixedHolds', WHERE WHAT IT READS IS OF BULK AT MOST 1048576: true; the input reads as it did. -/
def fixedHoldsUptoRow : OpenClaim := { program := "ytfbjpenbpbpcaaa", sum := "242e1574415a6319f42d781abf4e9104ce24b93c22be5f6ddf7e854f44d4e351", func := "squelch/squelchlaw05.FixedHolds", spec := "fixedHolds", inPlace := ["math/bits.Add64"], apart := false, narrowed := true }
def FixedHoldsUptoSaid : Prop := fixedHoldsUptoRow.holds Try.pinned (OpenSpec.upto fixedHoldsSpec)

/-- 'squelchlaw05.FixedSquares', WHERE WHAT IT READS IS OF BULK AT MOST 1048576: true; the input reads as it did. -/
def fixedSquaresUptoRow : OpenClaim := { program := "ytfbjpenbpbpcaaa", sum := "242e1574415a6319f42d781abf4e9104ce24b93c22be5f6ddf7e854f44d4e351", func := "squelch/squelchlaw05.FixedSquares", spec := "fixedSquares", inPlace := ["math/bits.Add64"], apart := false, narrowed := true }
def FixedSquaresUptoSaid : Prop := fixedSquaresUptoRow.holds Try.pinned (OpenSpec.upto fixedSquaresSpec)

/-- 'squelchlaw05.FixedSats', WHERE WHAT IT READS IS OF BULK AT MOST 1048576: true; the input reads as it did. -/
def fixedSatsUptoRow : OpenClaim := { program := "ytfbjpenbpbpcaaa", sum := "242e1574415a6319f42d781abf4e9104ce24b93c22be5f6ddf7e854f44d4e351", func := "squelch/squelchlaw05.FixedSats", spec := "fixedSats", inPlace := ["math/bits.Add64"], apart := false, narrowed := true }
def FixedSatsUptoSaid : Prop := fixedSatsUptoRow.holds Try.pinned (OpenSpec.upto fixedSatsSpec)

/-- 'squelchlaw07.LappedForward', WHERE WHAT IT READS IS OF BULK AT MOST 1048576: true; the input reads as it did. -/
def lappedForwardUptoRow : OpenClaim := { program := "ytfbjpenbpbpcaaa", sum := "242e1574415a6319f42d781abf4e9104ce24b93c22be5f6ddf7e854f44d4e351", func := "squelch/squelchlaw07.LappedForward", spec := "lappedForward", unfollowed := true, recurses := true, apart := false, narrowed := true }
def LappedForwardUptoSaid : Prop := lappedForwardUptoRow.holds Try.pinned (OpenSpec.upto lappedForwardSpec)

/-- 'squelchlaw07.LappedInverse', WHERE WHAT IT READS IS OF BULK AT MOST 1048576: true; the input reads as it did. -/
def lappedInverseUptoRow : OpenClaim := { program := "ytfbjpenbpbpcaaa", sum := "242e1574415a6319f42d781abf4e9104ce24b93c22be5f6ddf7e854f44d4e351", func := "squelch/squelchlaw07.LappedInverse", spec := "lappedInverse", unfollowed := true, recurses := true, apart := false, narrowed := true }
def LappedInverseUptoSaid : Prop := lappedInverseUptoRow.holds Try.pinned (OpenSpec.upto lappedInverseSpec)

/-- 'squelchlaw07.LappedTurned', WHERE WHAT IT READS IS OF BULK AT MOST 1048576: true; the input reads as it did. -/
def lappedTurnedUptoRow : OpenClaim := { program := "ytfbjpenbpbpcaaa", sum := "242e1574415a6319f42d781abf4e9104ce24b93c22be5f6ddf7e854f44d4e351", func := "squelch/squelchlaw07.LappedTurned", spec := "lappedTurned", unfollowed := true, recurses := true, apart := false, narrowed := true }
def LappedTurnedUptoSaid : Prop := lappedTurnedUptoRow.holds Try.pinned (OpenSpec.upto lappedTurnedSpec)

/-- 'squelchlaw08.BandsShares', WHERE WHAT IT READS IS OF BULK AT MOST 1048576: true; the input reads as it did. -/
def bandsSharesUptoRow : OpenClaim := { program := "ytfbjpenbpbpcaaa", sum := "242e1574415a6319f42d781abf4e9104ce24b93c22be5f6ddf7e854f44d4e351", func := "squelch/squelchlaw08.BandsShares", spec := "bandsShares", inPlace := ["math/bits.Add64"], unfollowed := true, recurses := true, apart := false, narrowed := true }
def BandsSharesUptoSaid : Prop := bandsSharesUptoRow.holds Try.pinned (OpenSpec.upto bandsSharesSpec)

/-- 'squelchlaw08.BandsFits', WHERE WHAT IT READS IS OF BULK AT MOST 1048576: true; the input reads as it did. -/
def bandsFitsUptoRow : OpenClaim := { program := "ytfbjpenbpbpcaaa", sum := "242e1574415a6319f42d781abf4e9104ce24b93c22be5f6ddf7e854f44d4e351", func := "squelch/squelchlaw08.BandsFits", spec := "bandsFits", inPlace := ["math/bits.Add64"], unfollowed := true, recurses := true, apart := false, narrowed := true }
def BandsFitsUptoSaid : Prop := bandsFitsUptoRow.holds Try.pinned (OpenSpec.upto bandsFitsSpec)

/-- 'squelchlaw08.BandsLevels', WHERE WHAT IT READS IS OF BULK AT MOST 1048576: true; the input reads as it did. -/
def bandsLevelsUptoRow : OpenClaim := { program := "ytfbjpenbpbpcaaa", sum := "242e1574415a6319f42d781abf4e9104ce24b93c22be5f6ddf7e854f44d4e351", func := "squelch/squelchlaw08.BandsLevels", spec := "bandsLevels", inPlace := ["math/bits.Add64"], unfollowed := true, recurses := true, apart := false, narrowed := true }
def BandsLevelsUptoSaid : Prop := bandsLevelsUptoRow.holds Try.pinned (OpenSpec.upto bandsLevelsSpec)

/-- 'squelchlaw08.BandsMasks', WHERE WHAT IT READS IS OF BULK AT MOST 1048576: true; the input reads as it did. -/
def bandsMasksUptoRow : OpenClaim := { program := "ytfbjpenbpbpcaaa", sum := "242e1574415a6319f42d781abf4e9104ce24b93c22be5f6ddf7e854f44d4e351", func := "squelch/squelchlaw08.BandsMasks", spec := "bandsMasks", inPlace := ["math/bits.Add64"], unfollowed := true, recurses := true, apart := false, narrowed := true }
def BandsMasksUptoSaid : Prop := bandsMasksUptoRow.holds Try.pinned (OpenSpec.upto bandsMasksSpec)

/-- 'squelchlaw08.BandsSigns', WHERE WHAT IT READS IS OF BULK AT MOST 1048576: true; the input reads as it did. -/
def bandsSignsUptoRow : OpenClaim := { program := "ytfbjpenbpbpcaaa", sum := "242e1574415a6319f42d781abf4e9104ce24b93c22be5f6ddf7e854f44d4e351", func := "squelch/squelchlaw08.BandsSigns", spec := "bandsSigns", inPlace := ["math/bits.Add64"], unfollowed := true, recurses := true, apart := false, narrowed := true }
def BandsSignsUptoSaid : Prop := bandsSignsUptoRow.holds Try.pinned (OpenSpec.upto bandsSignsSpec)

/-- 'squelchlaw07.LappedLaps', WHERE WHAT IT READS IS OF BULK AT MOST 1048576: true; the input reads as it did. -/
def lappedLapsUptoRow : OpenClaim := { program := "ytfbjpenbpbpcaaa", sum := "242e1574415a6319f42d781abf4e9104ce24b93c22be5f6ddf7e854f44d4e351", func := "squelch/squelchlaw07.LappedLaps", spec := "lappedLaps", unfollowed := true, recurses := true, apart := false, narrowed := true }
def LappedLapsUptoSaid : Prop := lappedLapsUptoRow.holds Try.pinned (OpenSpec.upto lappedLapsSpec)

/-- 'squelchlaw07.LappedSilence', WHERE WHAT IT READS IS OF BULK AT MOST 1048576: true; the input reads as it did. -/
def lappedSilenceUptoRow : OpenClaim := { program := "ytfbjpenbpbpcaaa", sum := "242e1574415a6319f42d781abf4e9104ce24b93c22be5f6ddf7e854f44d4e351", func := "squelch/squelchlaw07.LappedSilence", spec := "lappedSilence", unfollowed := true, recurses := true, apart := false, narrowed := true }
def LappedSilenceUptoSaid : Prop := lappedSilenceUptoRow.holds Try.pinned (OpenSpec.upto lappedSilenceSpec)

/-- 'squelchlaw09.QuantSteps', WHERE WHAT IT READS IS OF BULK AT MOST 1048576: true; the input reads as it did. -/
def quantStepsUptoRow : OpenClaim := { program := "ytfbjpenbpbpcaaa", sum := "242e1574415a6319f42d781abf4e9104ce24b93c22be5f6ddf7e854f44d4e351", func := "squelch/squelchlaw09.QuantSteps", spec := "quantSteps", inPlace := ["math/bits.Add64"], unfollowed := true, recurses := true, apart := false, narrowed := true }
def QuantStepsUptoSaid : Prop := quantStepsUptoRow.holds Try.pinned (OpenSpec.upto quantStepsSpec)

/-- 'squelchlaw09.QuantReach', WHERE WHAT IT READS IS OF BULK AT MOST 1048576: true; the input reads as it did. -/
def quantReachUptoRow : OpenClaim := { program := "ytfbjpenbpbpcaaa", sum := "242e1574415a6319f42d781abf4e9104ce24b93c22be5f6ddf7e854f44d4e351", func := "squelch/squelchlaw09.QuantReach", spec := "quantReach", inPlace := ["math/bits.Add64"], unfollowed := true, recurses := true, apart := false, narrowed := true }
def QuantReachUptoSaid : Prop := quantReachUptoRow.holds Try.pinned (OpenSpec.upto quantReachSpec)

/-- 'squelchlaw09.QuantAgain', WHERE WHAT IT READS IS OF BULK AT MOST 1048576: true; the input reads as it did. -/
def quantAgainUptoRow : OpenClaim := { program := "ytfbjpenbpbpcaaa", sum := "242e1574415a6319f42d781abf4e9104ce24b93c22be5f6ddf7e854f44d4e351", func := "squelch/squelchlaw09.QuantAgain", spec := "quantAgain", inPlace := ["math/bits.Add64"], unfollowed := true, recurses := true, apart := false, narrowed := true }
def QuantAgainUptoSaid : Prop := quantAgainUptoRow.holds Try.pinned (OpenSpec.upto quantAgainSpec)

/-- 'squelchlaw09.QuantNear', WHERE WHAT IT READS IS OF BULK AT MOST 1048576: true; the input reads as it did. -/
def quantNearUptoRow : OpenClaim := { program := "ytfbjpenbpbpcaaa", sum := "242e1574415a6319f42d781abf4e9104ce24b93c22be5f6ddf7e854f44d4e351", func := "squelch/squelchlaw09.QuantNear", spec := "quantNear", inPlace := ["math/bits.Add64"], unfollowed := true, recurses := true, apart := false, narrowed := true }
def QuantNearUptoSaid : Prop := quantNearUptoRow.holds Try.pinned (OpenSpec.upto quantNearSpec)

/-- 'squelchlaw09.QuantNoise', WHERE WHAT IT READS IS OF BULK AT MOST 1048576: true; the input reads as it did. -/
def quantNoiseUptoRow : OpenClaim := { program := "ytfbjpenbpbpcaaa", sum := "242e1574415a6319f42d781abf4e9104ce24b93c22be5f6ddf7e854f44d4e351", func := "squelch/squelchlaw09.QuantNoise", spec := "quantNoise", inPlace := ["math/bits.Add64"], unfollowed := true, recurses := true, apart := false, narrowed := true }
def QuantNoiseUptoSaid : Prop := quantNoiseUptoRow.holds Try.pinned (OpenSpec.upto quantNoiseSpec)

/-- 'squelchlaw09.QuantMakes', WHERE WHAT IT READS IS OF BULK AT MOST 1048576: true; the input reads as it did. -/
def quantMakesUptoRow : OpenClaim := { program := "ytfbjpenbpbpcaaa", sum := "242e1574415a6319f42d781abf4e9104ce24b93c22be5f6ddf7e854f44d4e351", func := "squelch/squelchlaw09.QuantMakes", spec := "quantMakes", inPlace := ["math/bits.Add64"], unfollowed := true, recurses := true, apart := false, narrowed := true }
def QuantMakesUptoSaid : Prop := quantMakesUptoRow.holds Try.pinned (OpenSpec.upto quantMakesSpec)

end Rows
end Go.Proofs.Ytfbjpenbpbpcaaa
