/-
  Chapter 07: lapped.Forward.
-/
import Derived.Test.YtfbjpenbpbpcaaaLp2
namespace Go.Proofs.Ytfbjpenbpbpcaaa
open Go Den
set_option maxRecDepth 100000
set_option linter.unusedSimpArgs false
set_option linter.unusedVariables false

def intsI : List Value → Option (List Int)
  | [] => some []
  | .int .i64 n :: r => match intsI r with
    | some l => some (n :: l)
    | none => none
  | _ => none
theorem intsI_eq : ∀ (cs : List Value) (xs : List Int), intsI cs = some xs → cs = ints xs := by
  intro cs
  induction cs with
  | nil => intro xs h; simp [intsI] at h; subst h; rfl
  | cons c cs ih =>
    intro xs h
    unfold intsI at h
    split at h
    · rename_i he; cases he
    · rename_i n r he
      cases he
      split at h
      · rename_i l hl
        simp only [Option.some.injEq] at h
        subst h
        rw [ih l hl]
        rfl
      · simp at h
    · simp at h

def chkZ (xs : List Int) : Int := bif xs.all okP then 0 else 1

/-- What an array's numbers come to, by a function of them. -/
def aggF (n : Nat) (g : List Int → Value) (cs : Array Value) : Option (Value × Heap × Nat) := match intsI cs.toList with
  | some xs => match Nat.beq xs.length n with
    | true => some (g xs, [], 0)
    | false => none
  | none => none
theorem aggF_ok {n : Nat} {g : List Int → Value} {cs : Array Value} {f : FuncId} {v : Value} {H' : Heap} {l : Nat} (h : aggF n g cs = some (v, H', l))
    (hg : ∀ xs : List Int, xs.length = n → CallOk Try.prog f [.agg (ints xs).toArray] [] (g xs) [] 0) : CallOk Try.prog f [.agg cs] [] v H' l := by
  unfold aggF at h
  split at h
  · rename_i xs hxs
    split at h
    · rename_i hn
      simp only [Option.some.injEq, Prod.mk.injEq] at h
      obtain ⟨rfl, rfl, rfl⟩ := h
      have e := intsI_eq _ _ hxs
      have e2 : cs = (ints xs).toArray := by rw [← e]
      rw [e2]
      exact hg xs (Nat.eq_of_beq_eq_true hn)
    · simp at h
  · simp at h

def x7a : Oracle := fun f args H => match H with
  | [] => match f, args with
    | 68, [.agg cs] => aggF 16 (fun xs => .int .i64 (chkZ xs)) cs
    | 69, [.agg cs] => aggF 16 (fun xs => .int .i64 (chkZ xs)) cs
    | 119, [] => some (.tuple #[shAgg 0, .int .i64 0], rowBlks, 0)
    | 120, [] => some (.agg (ints (cosL ++ sinL)).toArray, [], 0)
    | _, _ => none
  | _ => none
theorem x7a_sound : Sound Try.prog x7a := by
  intro f args H v H' l h
  unfold x7a at h
  split at h
  · split at h
    · refine aggF_ok h fun xs hm => ?_
      have := chk_ok xs hm
      unfold chkZ
      cases hc : xs.all okP with
      | true => rw [hc] at this; exact this
      | false => rw [hc] at this; exact this
    · refine aggF_ok h fun xs hm => ?_
      have := rchk_ok xs hm
      unfold chkZ
      cases hc : xs.all okP with
      | true => rw [hc] at this; exact this
      | false => rw [hc] at this; exact this
    · simp only [Option.some.injEq, Prod.mk.injEq] at h; obtain ⟨rfl, rfl, rfl⟩ := h
      exact shaped_ok
    · simp only [Option.some.injEq, Prod.mk.injEq] at h; obtain ⟨rfl, rfl, rfl⟩ := h
      exact circ_ok
    · simp at h
  · simp at h
def x7 : Oracle := orElse x7a rdO
theorem x7_sound : Sound Try.prog (strict (framePre noPre) (frameC x7)) := frame_sound (plain_sound (x7a_sound.or rdO_sound))

def dotW (xs cs : List Int) : Int := (List.zip xs cs).foldl (fun s p => IntKind.wrap IntKind.i64 (s + IntKind.wrap IntKind.i64 (p.1 * p.2))) 0
def fwdG (rd : Int → Int → Int) (xs : List Int) : List Int := rowsL.map fun cs => rd (dotW (List.zipWith (fun x w => rd (IntKind.wrap IntKind.i64 (x * w)) 16) xs winL) cs) 28

def fwdL : Loops := { keys := fun id F => match id with
  | 10 => [4, 6, 7, 37]
  | 15 => [4, 7, 53, 54]
  | 19 => [4, 7, 9, 11, 53, 54, 58, 59, 60]
  | _ => keysOf F }

theorem fwd_run (p0 p1 p2 p3 p4 p5 p6 p7 p8 p9 p10 p11 p12 p13 p14 p15 c0 c1 c2 c3 c4 c5 c6 c7 c8 c9 c10 c11 c12 c13 c14 c15 : Int) : (evFnL Try.prog ext 300 (nmPre (framePre noPre)) (nbC [] [(16, false), (20, false)] (frameC x7)) fwdL [] 66 [.agg (ints [p0, p1, p2, p3, p4, p5, p6, p7, p8, p9, p10, p11, p12, p13, p14, p15]).toArray, .agg (ints [c0, c1, c2, c3, c4, c5, c6, c7, c8, c9, c10, c11, c12, c13, c14, c15]).toArray] []).map (fun r => (r.1.1, r.2)) =
    some (.tuple #[.agg (ints (fwdG raw45 ([p0, p1, p2, p3, p4, p5, p6, p7, p8, p9, p10, p11, p12, p13, p14, p15] ++ [c0, c1, c2, c3, c4, c5, c6, c7, c8, c9, c10, c11, c12, c13, c14, c15]))).toArray, .int .i64 0], [(chkZ [c0, c1, c2, c3, c4, c5, c6, c7, c8, c9, c10, c11, c12, c13, c14, c15] != 0, false), (chkZ [p0, p1, p2, p3, p4, p5, p6, p7, p8, p9, p10, p11, p12, p13, p14, p15] != 0, false)]) := by kernel_rfl

end Go.Proofs.Ytfbjpenbpbpcaaa
