/-
  A verified evaluator, fourteenth part: what a piece of code does from a known state; loops by a row of states; functions.
-/
import Derived.Test.YtfbjpenbpbpcaaaDen12
namespace Go.Proofs.Ytfbjpenbpbpcaaa.Den
open Go

/-- From state s the code comes to s', by the exit x. nt: how many slots there are. -/
def WP (P : Program) (nt : Nat) (c : Code) (s : St) (x : Ex) (s' : St) : Prop :=
  ∀ (ρ0 : Rho) (H0 : Heap) (w0 : World) (ρ : Rho) (a : Act) (w : World) (Q : Exit → Act → World → Prop), Rel ρ0 H0 w0 ρ s.H s.lo w → FR ρ nt s.F a →
    (∀ ρ' a' w', Rel ρ0 H0 w0 ρ' s'.H s'.lo w' → FR ρ' nt s'.F a' → Q (toExit x) a' w') → c.wp P Q a w

/-- The slots of F are known in G, too. -/
def Sub (F G : Slots) : Prop := ∀ t v, at? t F = some v → at? t G = some v

theorem Sub.refl (F : Slots) : Sub F F := fun _ _ h => h

theorem FR.sub {ρ : Rho} {nt : Nat} {F G : Slots} {a : Act} (h : Sub F G) (hG : FR ρ nt G a) : FR ρ nt F a := ⟨hG.defers, hG.size, fun t v hv => hG.slot t v (h t v hv)⟩

theorem WP.weaken {P : Program} {nt : Nat} {c : Code} {F G : Slots} {H : Heap} {lo : Nat} {x : Ex} {F' G' : Slots} {H' : Heap} {lo' : Nat} (h : WP P nt c ⟨F, H, lo⟩ x ⟨F', H', lo'⟩) (h1 : Sub F G) (h2 : Sub G' F') : WP P nt c ⟨G, H, lo⟩ x ⟨G', H', lo'⟩ :=
  fun ρ0 H0 w0 ρ a w Q hR hF hQ => h ρ0 H0 w0 ρ a w Q hR (hF.sub h1) fun ρ' a' w' hR' hF' => hQ ρ' a' w' hR' (hF'.sub h2)

/-- A loop, by a row of states. -/
theorem WP.loop {P : Program} {nt : Nat} {b : Code} (S : Nat → St) (n : Nat) {x : Ex} {s' : St} (hx : x ≠ .normal) (h1 : ∀ i, i < n → WP P nt b (S i) .normal (S (i + 1))) (h2 : WP P nt b (S n) x s') : WP P nt (.loop b) (S 0) x s' := by
  intro ρ0 H0 w0 ρ a w Q hR hF hQ
  have key : ∀ (m i : Nat), i + m = n → ∀ (ρ : Rho) (a : Act) (w : World), Rel ρ0 H0 w0 ρ (S i).H (S i).lo w → FR ρ nt (S i).F a →
      ∀ (b0 : Frame) (k : List Item) (cs : List Frame), ∃ e a' w', Q e a' w' ∧ Arrives P (lone (b0.at a (.code b :: .inLoop b :: k)) cs w) b0 k cs e a' w' := by
    intro m
    induction m with
    | zero =>
      intro i hi ρ a w hR hF b0 k cs
      have : i = n := by omega
      subst this
      obtain ⟨e, a1, w1, ⟨he, hq⟩, harr⟩ := h2 ρ0 H0 w0 ρ a w (fun e a' w' => e = toExit x ∧ Q e a' w') hR hF (fun ρ' a' w' p q => ⟨rfl, hQ ρ' a' w' p q⟩) b0 (.inLoop b :: k) cs
      subst he
      cases x with
      | normal => exact (hx rfl).elim
      | exit i => exact ⟨_, a1, w1, hq, .pass (x := .inLoop b) rfl (fun _ _ => .inl (by simp [toExit])) harr⟩
      | ret => exact ⟨_, a1, w1, hq, .pass (x := .inLoop b) rfl (fun _ _ => .inl (by simp [toExit])) harr⟩
    | succ m ih =>
      intro i hi ρ a w hR hF b0 k cs
      obtain ⟨e, a1, w1, ⟨he, ρ1, hR1, hF1⟩, harr⟩ := h1 i (by omega) ρ0 H0 w0 ρ a w (fun e a' w' => e = .normal ∧ ∃ ρ', Rel ρ0 H0 w0 ρ' (S (i + 1)).H (S (i + 1)).lo w' ∧ FR ρ' nt (S (i + 1)).F a') hR hF (fun ρ' a' w' p q => ⟨rfl, ρ', p, q⟩) b0 (.inLoop b :: k) cs
      subst he
      obtain ⟨e2, a2, w2, hq, harr2⟩ := ih (i + 1) (by omega) ρ1 a1 w1 hR1 hF1 b0 k cs
      exact ⟨e2, a2, w2, hq, .of_steps (Steps.trans harr (.one step_inLoop)) harr2⟩
  intro b0 k cs
  obtain ⟨e, a', w', hq, harr⟩ := key n 0 (by omega) ρ a w hR hF b0 k cs
  exact ⟨e, a', w', hq, .of_steps (.one step_loop) harr⟩

/-- The number of a loop: its first region's. -/
def firstId : Code → Nat
  | .region id _ _ => id
  | .seq a _ => firstId a
  | .block _ b => firstId b
  | .loop b => firstId b
  | .cond _ a _ => firstId a
  | _ => 0

/-- What is said of loops: the loop's number, and a state: the exit, the state behind it, and what that asks. And names: ahead of a region, a slot's whole number (renF), a cell's (renH: block, place), by another text for the same number. And the slots that are kept from round to round (keys). -/
structure Loops where
  loop : Nat → St → Option (Ex × St × Obs) := fun _ _ => none
  renF : Nat → List (Nat × Int) := fun _ => []
  renH : Nat → List (Nat × Nat × Int) := fun _ => []
  keys : Nat → Slots → List Nat := fun _ F => keysOf F

def noLoops : Loops := {}

def goF : List (Nat × Int) → Slots → Obs → Option (Slots × Obs)
  | [], F, ob => some (F, ob)
  | (t, y) :: l, F, ob => match at? t F with
    | some (.int k n) => goF l ((t, .int k y) :: F) ((decide (n = y), true) :: ob)
    | _ => none

def goH : List (Nat × Nat × Int) → Heap → Obs → Option (Heap × Obs)
  | [], H, ob => some (H, ob)
  | (b, o, y) :: l, H, ob => match H[b]? with
    | some blk => match blk.cells[o]? with
      | some (.int k n) => goH l (H.set b { blk with cells := blk.cells.set o (.int k y) }) ((decide (n = y), true) :: ob)
      | _ => none
    | none => none

theorem goF_ok : ∀ (l : List (Nat × Int)) (F : Slots) (ob : Obs) (F' : Slots) (ob' : Obs), goF l F ob = some (F', ob') → Holds ob' → Sub F' F ∧ Holds ob := by
  intro l
  induction l with
  | nil =>
    intro F ob F' ob' h hh
    simp only [goF, Option.some.injEq, Prod.mk.injEq] at h
    obtain ⟨rfl, rfl⟩ := h
    exact ⟨Sub.refl _, hh⟩
  | cons p l ih =>
    obtain ⟨t, y⟩ := p
    intro F ob F' ob' h hh
    simp only [goF] at h
    split at h
    · rename_i k n ht
      obtain ⟨h1, h2⟩ := ih _ _ _ _ h hh
      have e : n = y := by simpa using h2 (decide (n = y), true) (by simp)
      subst e
      refine ⟨fun u v hv => ?_, fun p hp => h2 p (by simp [hp])⟩
      have := h1 u v hv
      simp only [at?] at this
      split at this
      · rename_i hb
        have : t = u := Nat.eq_of_beq_eq_true hb
        subst this
        rw [ht]; assumption
      · exact this
    · simp at h

theorem set_self {α : Type} (l : List α) (i : Nat) (a : α) (h : l[i]? = some a) : l.set i a = l := by
  apply List.ext_getElem?
  intro j
  rw [List.getElem?_set]
  split
  · rename_i hij
    subst hij
    obtain ⟨hlt, _⟩ := List.getElem?_eq_some_iff.1 h
    rw [if_pos hlt, h]
  · rfl

theorem goH_ok : ∀ (l : List (Nat × Nat × Int)) (H : Heap) (ob : Obs) (H' : Heap) (ob' : Obs), goH l H ob = some (H', ob') → Holds ob' → H' = H ∧ Holds ob := by
  intro l
  induction l with
  | nil =>
    intro H ob H' ob' h hh
    simp only [goH, Option.some.injEq, Prod.mk.injEq] at h
    obtain ⟨rfl, rfl⟩ := h
    exact ⟨rfl, hh⟩
  | cons p l ih =>
    obtain ⟨b, o, y⟩ := p
    intro H ob H' ob' h hh
    simp only [goH] at h
    split at h
    · rename_i blk hb
      split at h
      · rename_i k n hc
        obtain ⟨h1, h2⟩ := ih _ _ _ _ h hh
        have e : n = y := by simpa using h2 (decide (n = y), true) (by simp)
        subst e
        rw [set_self _ _ _ hc, set_self _ _ _ hb] at h1
        exact ⟨h1, fun p hp => h2 p (by simp [hp])⟩
      · simp at h
    · simp at h

/-- By other names, ahead of a region. -/
def goR (L : Loops) (id : Nat) (s : SS) : Option SS :=
  match goF (L.renF id) s.s.F s.ob with
  | some (F, ob) => match goH (L.renH id) s.s.H ob with
    | some (H, ob) => some ⟨⟨F, H, s.s.lo⟩, s.os, ob⟩
    | none => none
  | none => none

theorem goR_ok {L : Loops} {id : Nat} {s s' : SS} (h : goR L id s = some s') (hh : Holds s'.ob) : Sub s'.s.F s.s.F ∧ s'.s.H = s.s.H ∧ s'.s.lo = s.s.lo ∧ Holds s.ob := by
  unfold goR at h
  split at h
  · rename_i F ob hF
    split at h
    · rename_i H ob' hH
      simp only [Option.some.injEq] at h
      subst h
      obtain ⟨h1, h2⟩ := goH_ok _ _ _ _ _ hH hh
      obtain ⟨h3, h4⟩ := goF_ok _ _ _ _ _ hF h2
      exact ⟨h3, h1, rfl, h4⟩
    · simp at h
  · simp at h

def evCodeL (P : Program) (X : Ext) (pre : Pre) (C : Oracle) (L : Loops) (N nt : Nat) : Code → SS → Option (Ex × SS)
  | .skip, s => some (.normal, s)
  | .label _, s => some (.normal, s)
  | .region id ops draw, s => match goR L id s with
    | some s => evCodeS P X pre C N nt (.region id ops draw) s
    | none => none
  | .seq a b, s => match evCodeL P X pre C L N nt a s with
    | some (.normal, s) => evCodeL P X pre C L N nt b s
    | r => r
  | .cond c x y, ⟨s, os, ob⟩ => match ev s.F c with
    | some (.bool b) => ask os ob b fun t os ob => match t with
      | true => evCodeL P X pre C L N nt x ⟨s, os, ob⟩
      | false => evCodeL P X pre C L N nt y ⟨s, os, ob⟩
    | _ => none
  | .block id b, s => match evCodeL P X pre C L N nt b s with
    | some (.exit i, s) => if i = id then some (.normal, s) else some (.exit i, s)
    | r => r
  | .loop b, s => match L.loop (firstId b) s.s with
    | some (x, s', o) => some (x, ⟨s', s.os, o ++ s.ob⟩)
    | none => iterS N (evCodeL P X pre C L N nt b) (L.keys (firstId b) s.s.F) s
  | .exit id, s => some (.exit id, s)
  | .ret, s => some (.ret, s)
  | _, _ => none

/-- The loops of a text. -/
def loopsOf : Code → List Code
  | .seq a b => loopsOf a ++ loopsOf b
  | .cond _ a b => loopsOf a ++ loopsOf b
  | .block _ b => loopsOf b
  | .loop b => b :: loopsOf b
  | _ => []

/-- What is said of a loop holds. -/
def LoopsOk (P : Program) (nt : Nat) (L : Loops) (c : Code) : Prop := ∀ b ∈ loopsOf c, ∀ s x s' o, L.loop (firstId b) s = some (x, s', o) → Holds o → WP P nt (.loop b) s x s'

section
variable {P : Program} {X : Ext} {pre : Pre} {C : Oracle} {L : Loops} {N nt : Nat}

theorem evCode_WP (ok : ProgOk P) (hX : XSound P X) (hC : Sound P C) {c : Code} (hc : codeOk c = true) {s : St} {x : Ex} {s' : St} (h : evCode P X C N nt c s = some (x, s')) : WP P nt c s x s' :=
  fun ρ0 H0 w0 ρ a w Q hR hF hQ => evCode_sound (ρ0 := ρ0) (H0 := H0) (w0 := w0) ok hX hC c hc s x s' Q ρ a w h hR hF hQ

theorem WP.forget {c : Code} {s : St} {x : Ex} {F' : Slots} {H' : Heap} {lo' : Nat} (h : WP P nt c s x ⟨F', H', lo'⟩) (m : List Nat) : WP P nt c s x ⟨forget F' m, H', lo'⟩ :=
  fun ρ0 H0 w0 ρ a w Q hR hF hQ => h ρ0 H0 w0 ρ a w Q hR hF fun ρ' a' w' p q => hQ ρ' a' w' p (q.forget m)

theorem evCodeL_WP (ok : ProgOk P) (hX : XSound P X) (hC : Sound P (strict pre C)) :
    ∀ (c : Code), codeOk c = true → LoopsOk P nt L c → ∀ (s : SS) (x : Ex) (s' : SS), evCodeL P X pre C L N nt c s = some (x, s') → Holds s'.ob → WP P nt c s.s x s'.s ∧ Holds s.ob := by
  intro c
  induction c with
  | region id ops draw =>
    intro hok _ s x s' h hh
    simp only [evCodeL] at h
    split at h
    · rename_i s1 hg
      obtain ⟨h1, h2⟩ := evCodeS_eq _ _ _ _ h hh
      obtain ⟨g1, g2, g3, g4⟩ := goR_ok hg h2
      obtain ⟨⟨F, H, lo⟩, os, ob⟩ := s
      obtain ⟨⟨F1, H1, lo1⟩, os1, ob1⟩ := s1
      simp only at g1 g2 g3
      subst g2 g3
      exact ⟨(evCode_WP ok hX hC hok h1).weaken g1 (Sub.refl _), g4⟩
    · simp at h
  | seq a b iha ihb =>
    intro hok hl s x s' h hh
    simp only [codeOk, Bool.and_eq_true] at hok
    have la : LoopsOk P nt L a := fun b hb => hl b (by simp [loopsOf, hb])
    have lb : LoopsOk P nt L b := fun b hb => hl b (by simp [loopsOf, hb])
    simp only [evCodeL] at h
    split at h
    · rename_i s1 hs
      obtain ⟨h1, h2⟩ := ihb hok.2 lb _ _ _ h hh
      obtain ⟨h3, h4⟩ := iha hok.1 la _ _ _ hs h2
      refine ⟨fun ρ0 H0 w0 ρ a w Q hR hF hQ => wp_seq (h3 ρ0 H0 w0 ρ a w _ hR hF fun ρ1 a1 w1 p q => h1 ρ0 H0 w0 ρ1 a1 w1 Q p q hQ), h4⟩
    · rename_i hne
      obtain ⟨h1, h2⟩ := iha hok.1 la _ _ _ h hh
      refine ⟨fun ρ0 H0 w0 ρ a w Q hR hF hQ => wp_seq (h1 ρ0 H0 w0 ρ a w _ hR hF fun ρ1 a1 w1 p q => ?_), h2⟩
      have := hQ ρ1 a1 w1 p q
      cases x with
      | normal => exact (hne s' h).elim
      | exit i => exact this
      | ret => exact this
  | cond c a b iha ihb =>
    intro hok hl s x s' h hh
    simp only [codeOk, Bool.and_eq_true] at hok
    have la : LoopsOk P nt L a := fun b hb => hl b (by simp [loopsOf, hb])
    have lb : LoopsOk P nt L b := fun b hb => hl b (by simp [loopsOf, hb])
    obtain ⟨s, os, ob⟩ := s
    simp only [evCodeL] at h
    split at h
    · rename_i b0 hb
      obtain ⟨t, os1, ob1, hk, hob⟩ := ask_eq h
      cases t with
      | true =>
        obtain ⟨h1, h2⟩ := iha hok.1 la _ _ _ hk hh
        obtain ⟨h3, h4⟩ := hob h2
        subst h3
        exact ⟨fun ρ0 H0 w0 ρ a w Q hR hF hQ => wp_cond_true (bool_of (hF.opR [c] c (by simp) _ hb)) (h1 ρ0 H0 w0 ρ a w Q hR hF hQ), h4⟩
      | false =>
        obtain ⟨h1, h2⟩ := ihb hok.2 lb _ _ _ hk hh
        obtain ⟨h3, h4⟩ := hob h2
        subst h3
        exact ⟨fun ρ0 H0 w0 ρ a w Q hR hF hQ => wp_cond_false (bool_of (hF.opR [c] c (by simp) _ hb)) (h1 ρ0 H0 w0 ρ a w Q hR hF hQ), h4⟩
    · simp at h
  | block id b ih =>
    intro hok hl s x s' h hh
    simp only [codeOk] at hok
    have lb : LoopsOk P nt L b := fun b hb => hl b (by simp [loopsOf, hb])
    simp only [evCodeL] at h
    split at h
    · rename_i i s1 hs
      split at h
      · rename_i hid
        simp only [Option.some.injEq, Prod.mk.injEq] at h
        obtain ⟨rfl, rfl⟩ := h
        obtain ⟨h1, h2⟩ := ih hok lb _ _ _ hs hh
        refine ⟨fun ρ0 H0 w0 ρ a w Q hR hF hQ => wp_block (h1 ρ0 H0 w0 ρ a w _ hR hF fun ρ1 a1 w1 p q => ?_), h2⟩
        simp only [toExit, Exit.inBlock, hid, if_true]
        exact hQ ρ1 a1 w1 p q
      · rename_i hid
        simp only [Option.some.injEq, Prod.mk.injEq] at h
        obtain ⟨rfl, rfl⟩ := h
        obtain ⟨h1, h2⟩ := ih hok lb _ _ _ hs hh
        refine ⟨fun ρ0 H0 w0 ρ a w Q hR hF hQ => wp_block (h1 ρ0 H0 w0 ρ a w _ hR hF fun ρ1 a1 w1 p q => ?_), h2⟩
        simp only [toExit, Exit.inBlock, hid, if_false]
        exact hQ ρ1 a1 w1 p q
    · rename_i hne
      obtain ⟨h1, h2⟩ := ih hok lb _ _ _ h hh
      refine ⟨fun ρ0 H0 w0 ρ a w Q hR hF hQ => wp_block (h1 ρ0 H0 w0 ρ a w _ hR hF fun ρ1 a1 w1 p q => ?_), h2⟩
      have := hQ ρ1 a1 w1 p q
      cases x with
      | normal => exact this
      | exit i => exact (hne i s' h).elim
      | ret => exact this
  | loop b ih =>
    intro hok hl s x s' h hh
    simp only [codeOk] at hok
    have lb : LoopsOk P nt L b := fun c hc => hl c (by simp [loopsOf, hc])
    simp only [evCodeL] at h
    split at h
    · rename_i x1 s1 o1 hL
      simp only [Option.some.injEq, Prod.mk.injEq] at h
      obtain ⟨rfl, rfl⟩ := h
      exact ⟨hl b (by simp [loopsOf]) _ _ _ _ hL fun p hp => hh p (by simp [hp]), fun p hp => hh p (by simp [hp])⟩
    · -- round by round
      clear hl
      generalize L.keys (firstId b) s.s.F = m at h
      have key : ∀ (n : Nat) (s : SS), iterS n (evCodeL P X pre C L N nt b) m s = some (x, s') → Holds s.ob ∧
          ∀ (ρ0 : Rho) (H0 : Heap) (w0 : World) (ρ : Rho) (a : Act) (w : World) (Q : Exit → Act → World → Prop), Rel ρ0 H0 w0 ρ s.s.H s.s.lo w → FR ρ nt s.s.F a →
            (∀ ρ' a' w', Rel ρ0 H0 w0 ρ' s'.s.H s'.s.lo w' → FR ρ' nt s'.s.F a' → Q (toExit x) a' w') →
            ∀ (b0 : Frame) (k : List Item) (cs : List Frame), ∃ e a' w', Q e a' w' ∧ Arrives P (lone (b0.at a (.code b :: .inLoop b :: k)) cs w) b0 k cs e a' w' := by
        intro n
        induction n with
        | zero => intro s h; simp [iterS] at h
        | succ n ihn =>
          intro s h
          simp only [iterS] at h
          split at h
          · rename_i F H lo os ob hs
            obtain ⟨h2, h1⟩ := ihn _ h
            obtain ⟨h3, h4⟩ := ih hok lb _ _ _ hs h2
            refine ⟨h4, fun ρ0 H0 w0 ρ a w Q hR hF hQ b0 k cs => ?_⟩
            obtain ⟨e, a1, w1, ⟨he, ρ1, hR1, hF1⟩, harr⟩ := h3 ρ0 H0 w0 ρ a w (fun e a' w' => e = .normal ∧ ∃ ρ', Rel ρ0 H0 w0 ρ' H lo w' ∧ FR ρ' nt F a') hR hF (fun ρ' a' w' p q => ⟨rfl, ρ', p, q⟩) b0 (.inLoop b :: k) cs
            subst he
            obtain ⟨e2, a2, w2, hq, harr2⟩ := h1 ρ0 H0 w0 ρ1 a1 w1 Q hR1 (hF1.forget m) hQ b0 k cs
            exact ⟨e2, a2, w2, hq, .of_steps (Steps.trans harr (.one step_inLoop)) harr2⟩
          · rename_i hne
            obtain ⟨h3, h4⟩ := ih hok lb _ _ _ h hh
            refine ⟨h4, fun ρ0 H0 w0 ρ a w Q hR hF hQ b0 k cs => ?_⟩
            obtain ⟨e, a1, w1, ⟨he, hq⟩, harr⟩ := h3 ρ0 H0 w0 ρ a w (fun e a' w' => e = toExit x ∧ Q e a' w') hR hF (fun ρ' a' w' p q => ⟨rfl, hQ ρ' a' w' p q⟩) b0 (.inLoop b :: k) cs
            subst he
            cases x with
            | normal => obtain ⟨⟨F, H, lo⟩, os, ob⟩ := s'; exact (hne F H lo os ob h).elim
            | exit i => exact ⟨_, a1, w1, hq, .pass (x := .inLoop b) rfl (fun _ _ => .inl (by simp [toExit])) harr⟩
            | ret => exact ⟨_, a1, w1, hq, .pass (x := .inLoop b) rfl (fun _ _ => .inl (by simp [toExit])) harr⟩
      obtain ⟨k1, k2⟩ := key N s h
      refine ⟨fun ρ0 H0 w0 ρ a w Q hR hF hQ b0 k cs => ?_, k1⟩
      obtain ⟨e, a', w', hq, harr⟩ := k2 ρ0 H0 w0 ρ a w Q hR hF hQ b0 k cs
      exact ⟨e, a', w', hq, .of_steps (.one step_loop) harr⟩
  | skip | label | exit | ret =>
    intro hok hl s x s' h hh
    simp only [evCodeL, Option.some.injEq, Prod.mk.injEq] at h
    obtain ⟨rfl, rfl⟩ := h
    refine ⟨fun ρ0 H0 w0 ρ a w Q hR hF hQ => ?_, hh⟩
    first
      | exact wp_skip (hQ ρ a w hR hF)
      | exact wp_label (hQ ρ a w hR hF)
      | exact wp_exit (hQ ρ a w hR hF)
      | exact wp_ret (hQ ρ a w hR hF)
  | _ =>
    intro _ _ s x s' h
    simp [evCodeL] at h

/-- What a call comes to. -/
def CallOk (P : Program) (f : FuncId) (args : List Value) (H : Heap) (v : Value) (H' : Heap) (l : Nat) : Prop :=
  ∀ (ρ : Rho) (w : World) (args' : Array Value), VRs ρ args args'.toList → SR ρ H w → Calls P f args' w fun e w' => ∃ ρ' v', e = .returned v' ∧ VR ρ' v v' ∧ Rel ρ H w ρ' H' l w'

theorem Sound.iff {P : Program} {C : Oracle} : Sound P C ↔ ∀ f args H v H' l, C f args H = some (v, H', l) → CallOk P f args H v H' l := Iff.rfl

/-- One function along a path, its loops as they are told. -/
def evFnL (P : Program) (X : Ext) (N : Nat) (pre : Pre) (C : Oracle) (L : Loops) (os : Path) (f : FuncId) (args : List Value) (H : Heap) : Option ((Value × Heap × Nat) × Obs) :=
  match P.funcs[f]? with
  | some fn => match fn.body with
    | some c => match evCodeL P X pre C L N (max args.length fn.ntmps) c ⟨⟨start 0 args, H, H.length⟩, os, []⟩ with
      | some (.normal, ⟨s, _, ob⟩) | some (.ret, ⟨s, _, ob⟩) => (evResults P fn s.F s.H).map fun v => ((v, s.H, s.lo), ob)
      | _ => none
    | none => none
  | none => none

theorem call_of_WP {f : FuncId} {fn : Func} {c : Code} (hfn : P.funcs[f]? = some fn) (hb : fn.body = some c) {args : List Value} {H : Heap} {x : Ex} {s : St} {v : Value}
    (h : WP P (max args.length fn.ntmps) c ⟨start 0 args, H, H.length⟩ x s) (hx : x = .normal ∨ x = .ret) (hv : evResults P fn s.F s.H = some v) : CallOk P f args H v s.H s.lo := by
  intro ρ w args' hargs hs
  have hsz : args.length = args'.size := by simpa using hargs.1
  have hF0 : FR ρ (max args.length fn.ntmps) (start 0 args) { tmps := args' ++ Array.replicate (fn.ntmps - args'.size) undef, defers := [] } := by
    refine ⟨rfl, by simp; omega, fun t u hu => ?_⟩
    obtain ⟨_, h2⟩ := at_start args 0 hu
    simp only [Nat.sub_zero] at h2
    obtain ⟨u', h3, h4⟩ := zip_get hargs h2
    refine ⟨u', ?_, h4⟩
    have hlt := (List.getElem?_eq_some_iff.1 h3).1
    simp only
    rw [Array.getElem?_append_left (by simpa using hlt)]
    simpa using h3
  refine calls_of_wp hfn hb (h ρ H w ρ _ w _ (Rel.of_quiet hs (Quiet.refl w) _) hF0 fun ρ1 a1 w1 hR hF => ?_)
  obtain ⟨v', h1, h2⟩ := evResults_run (P := P) hF hR.sr hv
  rcases hx with rfl | rfl
  · exact ⟨hF.defers, v', h2, ρ1, v', rfl, h1, hR⟩
  · exact ⟨hF.defers, v', h2, ρ1, v', rfl, h1, hR⟩

theorem evFnL_ok (ok : ProgOk P) (hX : XSound P X) (hC : Sound P (strict pre C)) {os : Path} {f : FuncId} {args : List Value} {H : Heap} {v : Value} {H' : Heap} {l : Nat} {ob : Obs}
    (hL : ∀ fn c, P.funcs[f]? = some fn → fn.body = some c → LoopsOk P (max args.length fn.ntmps) L c) (h : evFnL P X N pre C L os f args H = some ((v, H', l), ob)) (hh : Holds ob) : CallOk P f args H v H' l := by
  unfold evFnL at h
  split at h
  case h_2 => simp at h
  rename_i fn hfn
  split at h
  case h_2 => simp at h
  rename_i c hb
  have key : ∀ x s os1 ob1, evCodeL P X pre C L N (max args.length fn.ntmps) c ⟨⟨start 0 args, H, H.length⟩, os, []⟩ = some (x, ⟨s, os1, ob1⟩) → (x = .normal ∨ x = .ret) → (evResults P fn s.F s.H).map (fun v => ((v, s.H, s.lo), ob1)) = some ((v, H', l), ob) →
      CallOk P f args H v H' l := by
    intro x s os1 ob1 hs hx hr
    cases hv : evResults P fn s.F s.H with
    | none => simp [hv] at hr
    | some u =>
      simp [hv] at hr
      obtain ⟨⟨rfl, rfl, rfl⟩, rfl⟩ := hr
      obtain ⟨h1, _⟩ := evCodeL_WP ok hX hC c (ok.code f fn c hfn hb).1 (hL fn c hfn hb) _ _ _ hs hh
      exact call_of_WP hfn hb h1 hx hv
  split at h
  · rename_i s os1 ob1 hs
    exact key _ _ _ _ hs (.inl rfl) h
  · rename_i s os1 ob1 hs
    exact key _ _ _ _ hs (.inr rfl) h
  · simp at h

/-- No loop is told. -/
theorem noLoops_ok {c : Code} : LoopsOk P nt noLoops c := fun b _ s x s' o h => by simp [noLoops] at h

theorem evFnL_plain (ok : ProgOk P) (hX : XSound P X) (hC : Sound P (strict pre C)) {os : Path} {f : FuncId} {args : List Value} {H : Heap} {v : Value} {H' : Heap} {l : Nat} {ob : Obs}
    (h : evFnL P X N pre C noLoops os f args H = some ((v, H', l), ob)) (hh : Holds ob) : CallOk P f args H v H' l :=
  evFnL_ok ok hX hC (fun _ _ _ _ => noLoops_ok) h hh

/-- A call without addresses: nothing that was there has turned. -/
theorem CallOk.plain {f : FuncId} {args : List Value} {v : Value} {H' : Heap} {l : Nat} (h : CallOk P f args [] v H' l) (hargs : args.all (pf 3) = true) (hv : pf 3 v = true) (w : World) :
    Calls P f args.toArray w fun e w' => e = .returned v ∧ Quiet w w' := by
  have hself : VRs [] args args := ⟨rfl, fun i x x' p q => by rw [p] at q; cases q; exact pf_self 3 _ (get_all hargs p)⟩
  refine (h [] w args.toArray (by simpa using hself) (SR.empty w)).mono ?_
  rintro e w' ⟨ρ', v', rfl, hvr, hR⟩
  refine ⟨by rw [pf_eq 3 _ _ hv hvr], hR.os, hR.tape, hR.output, hR.size, fun k hk => hR.keep k hk fun j e0 b0 hj => by simp at hj, hR.frozen⟩

theorem Sound.strict {pre : Pre} {C : Oracle} (h : ∀ f args H v H' l, pre f args H = true → C f args H = some (v, H', l) → CallOk P f args H v H' l) : Sound P (Den.strict pre C) := by
  intro f args H v H' l hc
  unfold Den.strict at hc
  split at hc
  · rename_i hp
    exact h f args H v H' l hp hc
  · simp at hc
end

end Go.Proofs.Ytfbjpenbpbpcaaa.Den
