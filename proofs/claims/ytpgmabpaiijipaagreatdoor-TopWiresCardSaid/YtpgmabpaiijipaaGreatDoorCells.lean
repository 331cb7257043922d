/- The closed facts of the rows' builder that speak of the program alone, each proved once. The program's start-up word is taken apart by its list of signs (by their numbers), since the kernel is slow at a long text's own 'toList'. -/
import Derived.Test.YtpgmabpaiijipaaGreatDoorRows
import Derived.WalkKit
import Derived.ProofKit
namespace Go.Proofs.YtpgmabpaiijipaaGreatDoor
open Go.ChangeShapes Go.WideShapes Go.ChangeAt Go.RowKit
def chs (l : List Nat) : List Char := l.map Char.ofNat
def cutW : List Char := "cut".toList
def signs : List Char := chs [104, 97, 114, 110, 101, 115, 115, 32, 100, 52, 51, 50, 51, 56, 55, 102, 52, 98, 56, 48, 53, 52, 55, 99, 98, 50, 56, 98, 102, 55, 102, 55, 50, 48, 53, 102, 52, 55, 52, 50, 100, 54, 53, 101, 100, 57, 57, 50, 52, 97, 98, 57, 100, 99, 52, 52, 55, 53, 50, 99, 98, 57, 48, 102, 55, 49, 49, 56, 56, 55, 56, 57, 32, 99, 117, 116, 32, 97, 116, 32, 115, 113, 117, 101, 108, 99, 104, 47, 115, 113, 117, 101, 108, 99, 104, 116, 111, 112, 46, 84, 111, 112, 66, 117, 100, 103, 101, 116, 32, 115, 113, 117, 101, 108, 99, 104, 47, 115, 113, 117, 101, 108, 99, 104, 116, 111, 112, 46, 84, 111, 112, 87, 105, 114, 101, 115]
def words : List (List Char) := cutW :: [chs [97, 116], chs [115, 113, 117, 101, 108, 99, 104, 47, 115, 113, 117, 101, 108, 99, 104, 116, 111, 112, 46, 84, 111, 112, 66, 117, 100, 103, 101, 116], chs [115, 113, 117, 101, 108, 99, 104, 47, 115, 113, 117, 101, 108, 99, 104, 116, 111, 112, 46, 84, 111, 112, 87, 105, 114, 101, 115]]
theorem io : Tryz.prog.initOrder = String.ofList signs := by kernel_rfl
theorem ioL : Tryz.prog.initOrder.toList = signs := by rw [io, String.toList_ofList]
theorem ioW : wordsSigns signs = chs [104, 97, 114, 110, 101, 115, 115] :: chs [100, 52, 51, 50, 51, 56, 55, 102, 52, 98, 56, 48, 53, 52, 55, 99, 98, 50, 56, 98, 102, 55, 102, 55, 50, 48, 53, 102, 52, 55, 52, 50, 100, 54, 53, 101, 100, 57, 57, 50, 52, 97, 98, 57, 100, 99, 52, 52, 55, 53, 50, 99, 98, 57, 48, 102, 55, 49, 49, 56, 56, 55, 56, 57] :: words := by kernel_rfl
theorem ioB : behindMainWord (wordsSigns Tryz.prog.initOrder.toList) = words := by
  rw [ioL, ioW]
  kernel_rfl
theorem cLaid : laidOutB Tryz.prog = true := by kernel_rfl
theorem cMaps : mapsRowed Tryz.prog = true := by kernel_rfl
theorem cStops : Tryz.prog.stops = [] := by kernel_rfl
theorem cKnobs : Tryz.prog.stopKnobs = [] := by kernel_rfl
theorem cPlain : Tryz.prog.plainKeys = true := by kernel_rfl
theorem cHeard : Tryz.prog.stopsHeard = true := by kernel_rfl
theorem strip_cut (r : List (List Char)) : stripLifts liftWords (cutW :: r) = ([], cutW :: r) := by
  have h : ∀ l : List String, (∀ o ∈ l, (cutW == o.toList) = false) → stripLifts l (cutW :: r) = ([], cutW :: r) := by
    intro l
    induction l with
    | nil => intro _; rfl
    | cons o l ih =>
      intro hl
      unfold stripLifts
      rw [if_neg (by rw [hl o (by simp)]; simp)]
      exact ih fun o' ho => hl o' (by simp [ho])
  exact h _ (by decide +kernel)
theorem lift_cut {P : Program} {r : List (List Char)} (h : behindMainWord (wordsSigns P.initOrder.toList) = cutW :: r) : P.liftsFinal = false := by
  unfold Program.liftsFinal Program.headLifts
  rw [h, strip_cut]
  simp [cutW]
theorem make_cut {P : Program} {r : List (List Char)} (h : behindMainWord (wordsSigns P.initOrder.toList) = cutW :: r) : P.make = some .cut := by
  unfold Program.make
  rw [h]
  simp [cutW]
theorem may_cut {P : Program} {r : List (List Char)} (h : behindMainWord (wordsSigns P.initOrder.toList) = cutW :: r)
    (hl : P.laysLater = false) (hb : P.bearsReflect = false) (hd : P.doorFits [] = true) : P.mayEnter = true := by
  unfold Program.mayEnter
  rw [h]
  simp only [strip_cut, hl, hb, hd]
  simp [cutW]
theorem cLift : Tryz.prog.liftsFinal = false := lift_cut ioB
theorem cMake : Tryz.prog.make = some .cut := make_cut ioB
theorem cLater : Tryz.prog.laysLater = false := by kernel_rfl
theorem cBears : Tryz.prog.bearsReflect = false := by kernel_rfl
theorem cDoor : Tryz.prog.doorFits [] = true := by kernel_rfl
theorem cMay : Tryz.prog.mayEnter = true := may_cut ioB cLater cBears cDoor
end Go.Proofs.YtpgmabpaiijipaaGreatDoor
