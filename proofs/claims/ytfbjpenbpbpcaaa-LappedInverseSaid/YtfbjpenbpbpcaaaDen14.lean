/-
  A verified evaluator, fifteenth part: a piece of code from a known state, by a run along a path; loops with a measure; the text of a function.
-/
import Derived.Test.YtfbjpenbpbpcaaaDen13
namespace Go.Proofs.Ytfbjpenbpbpcaaa.Den
open Go

/-- The slots of these numbers. -/
def pick (F : Slots) : List Nat → Slots
  | [] => []
  | t :: ks => match at? t F with
    | some v => (t, v) :: pick F ks
    | none => pick F ks

theorem pick_sub (F : Slots) (ks : List Nat) : Sub (pick F ks) F := by
  induction ks with
  | nil => intro t v h; simp [pick, at?] at h
  | cons k ks ih =>
    intro t v h
    unfold pick at h
    split at h
    · rename_i u hu
      simp only [at?] at h
      split at h
      · rename_i hb
        have : k = t := Nat.eq_of_beq_eq_true hb
        subst this
        rw [hu, h]
      · exact ih t v h
    · exact ih t v h

/-- The text of a function. -/
def bodyOf (P : Program) (f : FuncId) : Code := match P.funcs[f]? with
  | some fn => fn.body.getD .skip
  | none => .skip
/-- How many slots it has, called with so many arguments. -/
def ntOf (P : Program) (f : FuncId) (n : Nat) : Nat := match P.funcs[f]? with
  | some fn => max n fn.ntmps
  | none => n
/-- The body of its k-th loop. -/
def loopAt (P : Program) (f : FuncId) (k : Nat) : Code := (loopsOf (bodyOf P f)).getD k .skip

section
variable {P : Program} {X : Ext} {pre : Pre} {C : Oracle} {L : Loops} {N nt : Nat}

/-- A run of a piece of code along a path: the exit, the slots of these numbers, the heap, the least old block written, what was asked. -/
def evL (P : Program) (X : Ext) (pre : Pre) (C : Oracle) (L : Loops) (N nt : Nat) (c : Code) (F : Slots) (H : Heap) (lo : Nat) (os : Path) (ks : List Nat) : Option (Ex × Slots × Heap × Nat × Obs) :=
  match evCodeL P X pre C L N nt c ⟨⟨F, H, lo⟩, os, []⟩ with
  | some (x, ⟨⟨F, H, lo⟩, _, ob⟩) => some (x, pick F ks, H, lo, ob)
  | none => none

theorem WP.run (ok : ProgOk P) (hX : XSound P X) (hC : Sound P (strict pre C)) {c : Code} (hc : codeOk c = true) (hl : LoopsOk P nt L c) {F : Slots} {H : Heap} {lo : Nat} {os : Path} (ks : List Nat) {x : Ex} {F' : Slots} {H' : Heap} {lo' : Nat} {ob : Obs}
    (h : evL P X pre C L N nt c F H lo os ks = some (x, F', H', lo', ob)) (hh : Holds ob) : WP P nt c ⟨F, H, lo⟩ x ⟨F', H', lo'⟩ := by
  unfold evL at h
  split at h
  · rename_i x1 F1 H1 lo1 os1 ob1 hs
    simp only [Option.some.injEq, Prod.mk.injEq] at h
    obtain ⟨rfl, rfl, rfl, rfl, rfl⟩ := h
    exact (evCodeL_WP ok hX hC c hc hl _ _ _ hs hh).1.weaken (Sub.refl _) (pick_sub _ _)
  · simp at h

/-- A loop with a measure: from each state of a family it comes out, or on to one of the family that has less. -/
theorem WP.while {b : Code} {α : Type} (S : α → St) (inv : α → Prop) (μ : α → Nat) {x : Ex} {s' : St} (hx : x ≠ .normal)
    (h : ∀ a, inv a → WP P nt b (S a) x s' ∨ ∃ a', inv a' ∧ μ a' < μ a ∧ WP P nt b (S a) .normal (S a')) : ∀ a, inv a → WP P nt (.loop b) (S a) x s' := by
  have key : ∀ (n : Nat) (a : α), μ a ≤ n → inv a → ∃ (k : Nat) (R : Nat → α), R 0 = a ∧ (∀ i, i < k → WP P nt b (S (R i)) .normal (S (R (i + 1)))) ∧ WP P nt b (S (R k)) x s' := by
    intro n
    induction n with
    | zero =>
      intro a ha hi
      rcases h a hi with h1 | ⟨a', _, hl, _⟩
      · exact ⟨0, fun _ => a, rfl, fun i hi => by omega, h1⟩
      · omega
    | succ n ih =>
      intro a ha hi
      rcases h a hi with h1 | ⟨a', hi', hl, hw⟩
      · exact ⟨0, fun _ => a, rfl, fun i hi => by omega, h1⟩
      · obtain ⟨k, R, h0, h1, h2⟩ := ih a' (by omega) hi'
        refine ⟨k + 1, fun i => match i with
          | 0 => a
          | i + 1 => R i, rfl, fun i hik => ?_, h2⟩
        cases i with
        | zero => simp only [h0]; exact hw
        | succ i => exact h1 i (by omega)
  intro a ha
  obtain ⟨k, R, h0, h1, h2⟩ := key _ a (Nat.le_refl _) ha
  have := WP.loop (S := fun i => S (R i)) k hx h1 h2
  simpa only [h0] using this

/-- A function along a path, its loops by what is said of them. -/
theorem fnL_ok (ok : ProgOk P) (hX : XSound P X) (hC : Sound P (strict pre C)) {os : Path} {f : FuncId} {args : List Value} {H : Heap} {v : Value} {H' : Heap} {l : Nat} {ob : Obs}
    (hL : LoopsOk P (ntOf P f args.length) L (bodyOf P f)) (h : evFnL P X N pre C L os f args H = some ((v, H', l), ob)) (hh : Holds ob) : CallOk P f args H v H' l := by
  refine evFnL_ok ok hX hC (fun fn c hf hb => ?_) h hh
  have e1 : bodyOf P f = c := by unfold bodyOf; rw [hf]; simp [hb]
  have e2 : ntOf P f args.length = max args.length fn.ntmps := by unfold ntOf; rw [hf]
  rw [e1, e2] at hL
  exact hL

/-- One loop alone. -/
theorem LoopsOk.one {c : Code} {b : Code} (h : loopsOf c = [b]) (hb : ∀ s x s' o, L.loop (firstId b) s = some (x, s', o) → Holds o → WP P nt (.loop b) s x s') : LoopsOk P nt L c := by
  intro b' hb'
  rw [h] at hb'
  simp only [List.mem_singleton] at hb'
  subst hb'
  exact hb

/-- Names alone. -/
theorem LoopsOk.names {c : Code} (h : L.loop = fun _ _ => none) : LoopsOk P nt L c := by
  intro b _ s x s' o hs
  rw [h] at hs
  simp at hs

theorem LoopsOk.none {c : Code} (h : loopsOf c = []) : LoopsOk P nt L c := by
  intro b' hb'
  rw [h] at hb'
  simp at hb'

/-- Is it so? -/
noncomputable def cdec (p : Prop) : Bool := @decide p (Classical.propDecidable p)
theorem cdec_iff {p : Prop} : cdec p = true ↔ p := by simp [cdec]

/-- What is said of one loop at one state. -/
noncomputable def sumL (id : Nat) (S0 : St) (x : Ex) (S1 : St) : Nat → St → Option (Ex × St × Obs) := fun i s => match Nat.beq i id with
  | true => some (x, S1, [(cdec (pick s.F (S0.F.map (·.1)) = S0.F), true), (cdec (s.H = S0.H), true), (cdec (s.lo = S0.lo), true)])
  | false => none

/-- The loops that are told, one by one; of the others nothing is said. -/
theorem LoopsOk.sum {c : Code} {id : Nat} {S0 : St} {x : Ex} {S1 : St} {L : Loops} (hL : L.loop = sumL id S0 x S1)
    (h : ∀ b ∈ loopsOf c, firstId b = id → WP P nt (.loop b) S0 x S1) : LoopsOk P nt L c := by
  intro b hb s x' s' o hs ho
  rw [hL] at hs
  simp only [sumL] at hs
  split at hs
  · rename_i he
    simp only [Option.some.injEq, Prod.mk.injEq] at hs
    obtain ⟨rfl, rfl, rfl⟩ := hs
    have h1 := cdec_iff.1 (ho (cdec (pick s.F (S0.F.map (·.1)) = S0.F), true) (by simp) : cdec (pick s.F (S0.F.map (·.1)) = S0.F) = true)
    have h2 := cdec_iff.1 (ho (cdec (s.H = S0.H), true) (by simp) : cdec (s.H = S0.H) = true)
    have h3 := cdec_iff.1 (ho (cdec (s.lo = S0.lo), true) (by simp) : cdec (s.lo = S0.lo) = true)
    have hw := h b hb (Nat.eq_of_beq_eq_true he)
    obtain ⟨F, H, lo⟩ := s
    obtain ⟨F0, H0, lo0⟩ := S0
    obtain ⟨F1, H1, lo1⟩ := S1
    simp only at h1 h2 h3
    subst h2 h3
    refine hw.weaken ?_ (Sub.refl _)
    rw [← h1]
    exact pick_sub _ _
  · simp at hs

end
end Go.Proofs.Ytfbjpenbpbpcaaa.Den
