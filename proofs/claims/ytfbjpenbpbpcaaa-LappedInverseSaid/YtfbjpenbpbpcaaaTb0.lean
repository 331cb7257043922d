/-
  Chapter 06: the circle's points (table.around), worked out once.
-/
import Derived.Test.YtfbjpenbpbpcaaaFx7
import Derived.Test.YtfbjpenbpbpcaaaDen16
namespace Go.Proofs.Ytfbjpenbpbpcaaa
open Go Den
set_option maxRecDepth 100000
set_option linter.unusedSimpArgs false
set_option linter.unusedVariables false

/-- Calls down to a depth, over contracts. -/
noncomputable def over (B : Oracle) : Nat → Oracle
  | 0 => B
  | n + 1 => orElse B (evFn Try.prog ext 300 (over B n))

theorem over_sound {B : Oracle} (hB : Sound Try.prog B) : ∀ n, Sound Try.prog (over B n)
  | 0 => hB
  | n + 1 => hB.or (evFn_sound progOk extSound (over_sound hB n) 300)

theorem plain_sound {C : Oracle} (hC : Sound Try.prog C) : Sound Try.prog (strict noPre C) := by
  intro f args H v H' l h
  exact hC f args H v H' l (by simpa [strict, noPre] using h)

/-- Names of slots. -/
def nmPre (pre : Pre) : Pre := fun f args H => match Nat.beq f 1000001 with
  | true => false
  | false => pre f args H
def nmAt (t : Int) : List (Nat × Int) → Option Int
  | [] => none
  | (u, y) :: l => match decide ((u : Int) = t) with
    | true => some y
    | false => nmAt t l
def nmC (l : List (Nat × Int)) (C : Oracle) : Oracle := fun f args H => match Nat.beq f 1000001 with
  | true => match args with
    | [.int _ t] => match nmAt t l with
      | some y => some (.int .i64 y, [], 0)
      | none => none
    | _ => none
  | false => C f args H
theorem nm_sound {pre : Pre} {C : Oracle} (l : List (Nat × Int)) (h : Sound Try.prog (strict pre C)) : Sound Try.prog (strict (nmPre pre) (nmC l C)) := by
  intro f args H v H' n hc
  unfold strict at hc
  split at hc
  · rename_i hp
    unfold nmPre at hp
    unfold nmC at hc
    split at hp
    · simp at hp
    · rename_i hf
      rw [hf] at hc
      exact h f args H v H' n (by unfold strict; rw [hp]; exact hc)
  · simp at hc

/-- A function whose value holds no address. -/
theorem pf_ok {N : Nat} {pre : Pre} {C : Oracle} {L : Loops} {os : Path} {f : FuncId} {args : List Value} {v : Value} {ob : Obs} (hC : Sound Try.prog (strict pre C))
    (hL : LoopsOk Try.prog (ntOf Try.prog f args.length) L (bodyOf Try.prog f)) (h : (evFnL Try.prog ext N pre C L os f args []).map (fun r => (r.1.1, r.2)) = some (v, ob)) (hh : Holds ob) (hv : pf 3 v = true) : CallOk Try.prog f args [] v [] 0 := by
  cases hr : evFnL Try.prog ext N pre C L os f args [] with
  | none => rw [hr] at h; simp at h
  | some r =>
    obtain ⟨⟨v', H', l⟩, ob'⟩ := r
    rw [hr] at h
    simp at h
    obtain ⟨rfl, rfl⟩ := h
    exact CallOk.drop (fnL_ok progOk extSound hC hL hr hh) hv

theorem of_over {B : Oracle} (hB : Sound Try.prog B) {n : Nat} {f : FuncId} {args : List Value} {v : Value} (h : (over B n f args []).map (·.1) = some v) (hv : pf 3 v = true) : CallOk Try.prog f args [] v [] 0 := by
  cases hr : over B n f args [] with
  | none => rw [hr] at h; simp at h
  | some r =>
    obtain ⟨v', H', l⟩ := r
    rw [hr] at h
    simp at h
    subst h
    exact CallOk.drop (over_sound hB n f args [] _ H' l hr) hv

theorem of_list {α : Type} {f g : Nat → α} {n m : Nat} (h : (List.range' m n).map f = (List.range' m n).map g) {i : Nat} (h1 : m ≤ i) (h2 : i < m + n) : f i = g i := by
  have hi : (List.range' m n)[i - m]? = some i := by rw [List.getElem?_range' (by omega)]; simp; omega
  have := congrArg (fun l : List α => l[i - m]?) h
  simpa [hi] using this

noncomputable def c3 : Oracle := strict fx3Pre fx3

theorem inI_wrap (n : Int) : inI (IntKind.wrap IntKind.i64 n) = true := by
  rw [inI_iff]
  unfold IntKind.wrap
  simp [IntKind.bits, IntKind.signed]
  omega

def tnX (x y b c : Int) : Int := roundZ (IntKind.wrap IntKind.i64 (IntKind.wrap IntKind.i64 (x * b) - IntKind.wrap IntKind.i64 (y * c))) 30
def tnY (x y b c : Int) : Int := roundZ (IntKind.wrap IntKind.i64 (IntKind.wrap IntKind.i64 (x * c) + IntKind.wrap IntKind.i64 (y * b))) 30

theorem turned_ok (x y b c : Int) : CallOk Try.prog 136 [.agg #[.int .i64 x, .int .i64 y], .agg #[.int .i64 b, .int .i64 c]] [] (.agg #[.int .i64 (tnX x y b c), .int .i64 (tnY x y b c)]) [] 0 :=
  pf_ok (N := 300) (pre := fx3Pre) (C := fx3) (L := noLoops) (os := [(0, true), (0, true)])
    (ob := [(fx3Pre 45 [.int .i64 (IntKind.wrap IntKind.i64 (IntKind.wrap IntKind.i64 (x * c) + IntKind.wrap IntKind.i64 (y * b))), .int .i64 30] [], true), (fx3Pre 45 [.int .i64 (IntKind.wrap IntKind.i64 (IntKind.wrap IntKind.i64 (x * b) - IntKind.wrap IntKind.i64 (y * c))), .int .i64 30] [], true)])
    fx3_sound noLoops_ok (by kernel_rfl) (by simp [Holds, fx3Pre, inI_wrap]; rfl) rfl

def tnO : Oracle := fun f args H => match H with
  | [] => match f, args with
    | 136, [.agg p, .agg q] => match p.toList, q.toList with
      | [.int .i64 x, .int .i64 y], [.int .i64 b, .int .i64 c] => some (.agg #[.int .i64 (tnX x y b c), .int .i64 (tnY x y b c)], [], 0)
      | _, _ => none
    | _, _ => none
  | _ => none
theorem tnO_sound : Sound Try.prog tnO := by
  intro f args H v H' l h
  unfold tnO at h
  split at h
  · split at h
    · rename_i p q
      obtain ⟨p⟩ := p
      obtain ⟨q⟩ := q
      split at h
      · rename_i hp hq
        simp only [Option.some.injEq, Prod.mk.injEq] at h; obtain ⟨rfl, rfl, rfl⟩ := h
        simp only at hp hq
        subst hp hq
        exact turned_ok _ _ _ _
      · simp at h
    · simp at h
  · simp at h

noncomputable def c3o : Oracle := orElse tnO c3
theorem c3o_sound : Sound Try.prog (strict noPre c3o) := plain_sound (tnO_sound.or fx3_sound)

def hvZ : List Int := [0, 0, (-1073741824), 0, 0, 1073741824, 759250124, 759250124, 992008094, 410903207, 1053110175, 209476638, 1068571463, 105245105, 1072448454, 52686017]
def ptZ : List Int := [1073741824, 0, 1072448454, 52686017, 1068571463, 105245105, 1062120188, 157550652, 1053110175, 209476638, 1041563125, 260897984, 1027506860, 311690800, 1010975239, 361732729, 992008094, 410903207, 970651110, 459083788, 946955745, 506158394, 920979078, 552013622, 892783697, 596538995, 862437516, 639627259, 830013651, 681174603, 795590207, 721080939, 759250124, 759250124, 721080933, 795590213, 681174599, 830013654, 639627252, 862437521, 596538994, 892783696, 552013614, 920979081, 506158389, 946955745, 459083780, 970651111, 410903206, 992008093, 361732722, 1010975241, 311690796, 1027506860, 260897976, 1041563125, 209476638, 1053110173, 157550644, 1062120187, 105245101, 1068571460, 52686009, 1072448451, 0, 1073741824, (-52686017), 1072448454, (-105245105), 1068571463, (-157550652), 1062120188, (-209476638), 1053110175, (-260897984), 1041563125, (-311690800), 1027506860, (-361732729), 1010975239, (-410903207), 992008094, (-459083788), 970651110, (-506158394), 946955745, (-552013622), 920979078, (-596538995), 892783697, (-639627259), 862437516, (-681174603), 830013651, (-721080939), 795590207, (-759250124), 759250124, (-795590213), 721080933, (-830013654), 681174599, (-862437521), 639627252, (-892783696), 596538994, (-920979081), 552013614, (-946955745), 506158389, (-970651111), 459083780, (-992008093), 410903206, (-1010975241), 361732722, (-1027506860), 311690796, (-1041563125), 260897976, (-1053110173), 209476638, (-1062120187), 157550644, (-1068571460), 105245101, (-1072448451), 52686009, (-1073741824), 0, (-1072448454), (-52686017), (-1068571463), (-105245105), (-1062120188), (-157550652), (-1053110175), (-209476638), (-1041563125), (-260897984), (-1027506860), (-311690800), (-1010975239), (-361732729), (-992008094), (-410903207), (-970651110), (-459083788), (-946955745), (-506158394), (-920979078), (-552013622), (-892783697), (-596538995), (-862437516), (-639627259), (-830013651), (-681174603), (-795590207), (-721080939), (-759250124), (-759250124), (-721080933), (-795590213), (-681174599), (-830013654), (-639627252), (-862437521), (-596538994), (-892783696), (-552013614), (-920979081), (-506158389), (-946955745), (-459083780), (-970651111), (-410903206), (-992008093), (-361732722), (-1010975241), (-311690796), (-1027506860), (-260897976), (-1041563125), (-209476638), (-1053110173), (-157550644), (-1062120187), (-105245101), (-1068571460), (-52686009), (-1072448451), 0, (-1073741824), 52686017, (-1072448454), 105245105, (-1068571463), 157550652, (-1062120188), 209476638, (-1053110175), 260897984, (-1041563125), 311690800, (-1027506860), 361732729, (-1010975239), 410903207, (-992008094), 459083788, (-970651110), 506158394, (-946955745), 552013622, (-920979078), 596538995, (-892783697), 639627259, (-862437516), 681174603, (-830013651), 721080939, (-795590207), 759250124, (-759250124), 795590213, (-721080933), 830013654, (-681174599), 862437521, (-639627252), 892783696, (-596538994), 920979081, (-552013614), 946955745, (-506158389), 970651111, (-459083780), 992008093, (-410903206), 1010975241, (-361732722), 1027506860, (-311690796), 1041563125, (-260897976), 1053110173, (-209476638), 1062120187, (-157550644), 1068571460, (-105245101), 1072448451, (-52686009)]
def ints (l : List Int) : List Value := l.map (.int .i64)
def outC (m : Nat) : List Value := ints (ptZ.take (2 * m)) ++ ints (List.replicate (256 - 2 * m) 0)
def garb (m : Nat) : Heap := (List.range m).map fun i => ⟨true, none, [.int .i64 (ptZ.getD (2 * i) 0), .int .i64 (ptZ.getD (2 * i + 1) 0)]⟩
def arF (m : Nat) : Slots := [(1, .pointer (some ⟨0, 0, none⟩)), (2, .pointer (some ⟨1, 0, none⟩)), (7, .int .i64 m)]
def arH (m : Nat) : Heap := ⟨true, none, outC m⟩ :: ⟨true, none, ints hvZ⟩ :: garb m

theorem halves_ok : CallOk Try.prog 110 [] [] (.agg (ints hvZ).toArray) [] 0 := of_over (B := c3) fx3_sound (n := 2) (by kernel_rfl) rfl
theorem ar_step0 : (List.range' 0 32).map (fun m => evL Try.prog ext noPre c3o noLoops 300 30 (loopAt Try.prog 114 0) (arF m) (arH m) 0 [] [1, 2, 7]) = (List.range' 0 32).map fun m => some (.normal, arF (m + 1), arH (m + 1), 0, []) := by kernel_rfl
theorem ar_step1 : (List.range' 32 32).map (fun m => evL Try.prog ext noPre c3o noLoops 300 30 (loopAt Try.prog 114 0) (arF m) (arH m) 0 [] [1, 2, 7]) = (List.range' 32 32).map fun m => some (.normal, arF (m + 1), arH (m + 1), 0, []) := by kernel_rfl
theorem ar_step2 : (List.range' 64 32).map (fun m => evL Try.prog ext noPre c3o noLoops 300 30 (loopAt Try.prog 114 0) (arF m) (arH m) 0 [] [1, 2, 7]) = (List.range' 64 32).map fun m => some (.normal, arF (m + 1), arH (m + 1), 0, []) := by kernel_rfl
theorem ar_step3 : (List.range' 96 32).map (fun m => evL Try.prog ext noPre c3o noLoops 300 30 (loopAt Try.prog 114 0) (arF m) (arH m) 0 [] [1, 2, 7]) = (List.range' 96 32).map fun m => some (.normal, arF (m + 1), arH (m + 1), 0, []) := by kernel_rfl

end Go.Proofs.Ytfbjpenbpbpcaaa
