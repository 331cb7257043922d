/-
  A verified evaluator, twelfth part: code, functions, and calls down to a depth.
-/
import Derived.Test.YtfbjpenbpbpcaaaDen10
import Derived.LoopN
namespace Go.Proofs.Ytfbjpenbpbpcaaa.Den
open Go

def toExit : Ex → Exit
  | .normal => .normal
  | .exit i => .exit i
  | .ret => .ret

theorem at_forget {F : Slots} {t : Tmp} {v : Value} : ∀ (m : List Nat), at? t (forget F m) = some v → at? t F = some v := by
  intro m
  induction m with
  | nil => intro h; simp [forget, at?] at h
  | cons u m ih =>
    intro h
    simp only [forget] at h
    split at h
    · rename_i x hx
      simp only [at?] at h
      split at h
      · rename_i hb
        have := Nat.eq_of_beq_eq_true hb
        subst this
        injection h with h
        subst h
        exact hx
      · exact ih h
    · exact ih h

theorem FR.forget {ρ : Rho} {nt : Nat} {F : Slots} {a : Act} (h : FR ρ nt F a) (m : List Nat) : FR ρ nt (forget F m) a :=
  ⟨h.defers, h.size, fun t v hv => h.slot t v (at_forget m hv)⟩

theorem iter_sound {P : Program} {c : Code} {nt : Nat} {ρ0 : Rho} {H0 : Heap} {w0 : World} {body : St → Option (Ex × St)} {m : List Nat} {Q : Exit → Act → World → Prop} {x : Ex} {s' : St}
    (hbody : ∀ (s : St) (x : Ex) (s' : St) (Q : Exit → Act → World → Prop) (ρ : Rho) (a : Act) (w : World), body s = some (x, s') → Rel ρ0 H0 w0 ρ s.H s.lo w → FR ρ nt s.F a →
      (∀ ρ' a' w', Rel ρ0 H0 w0 ρ' s'.H s'.lo w' → FR ρ' nt s'.F a' → Q (toExit x) a' w') → c.wp P Q a w)
    (hQ : ∀ ρ' a' w', Rel ρ0 H0 w0 ρ' s'.H s'.lo w' → FR ρ' nt s'.F a' → Q (toExit x) a' w') :
    ∀ (n : Nat) (s : St) (ρ : Rho) (a : Act) (w : World), iter n body m s = some (x, s') → Rel ρ0 H0 w0 ρ s.H s.lo w → FR ρ nt s.F a →
      ∀ (b : Frame) (k : List Item) (cs : List Frame), ∃ e a' w', Q e a' w' ∧ Arrives P (lone (b.at a (.code c :: .inLoop c :: k)) cs w) b k cs e a' w' := by
  intro n
  induction n with
  | zero => intro s ρ a w h; simp [iter] at h
  | succ n ih =>
    intro s ρ a w h hR hF b k cs
    simp only [iter] at h
    split at h
    · rename_i s1 hs1
      obtain ⟨e, a1, w1, ⟨he, ρ1, hR1, hF1⟩, harr⟩ := hbody s .normal s1 (fun e a' w' => e = .normal ∧ ∃ ρ', Rel ρ0 H0 w0 ρ' s1.H s1.lo w' ∧ FR ρ' nt s1.F a') ρ a w hs1 hR hF (fun ρ' a' w' h1 h2 => ⟨rfl, ρ', h1, h2⟩) b (.inLoop c :: k) cs
      subst he
      obtain ⟨e2, a2, w2, hq, harr2⟩ := ih ⟨Den.forget s1.F m, s1.H, s1.lo⟩ ρ1 a1 w1 h hR1 (hF1.forget m) b k cs
      exact ⟨e2, a2, w2, hq, .of_steps (Steps.trans harr (.one step_inLoop)) harr2⟩
    · rename_i hne
      obtain ⟨e, a1, w1, ⟨he, hq⟩, harr⟩ := hbody s x s' (fun e a' w' => e = toExit x ∧ Q e a' w') ρ a w h hR hF (fun ρ' a' w' h1 h2 => ⟨rfl, hQ ρ' a' w' h1 h2⟩) b (.inLoop c :: k) cs
      subst he
      cases x with
      | normal => exact (hne s' h).elim
      | exit i => exact ⟨_, a1, w1, hq, .pass (x := .inLoop c) rfl (fun _ _ => .inl (by simp [toExit])) harr⟩
      | ret => exact ⟨_, a1, w1, hq, .pass (x := .inLoop c) rfl (fun _ _ => .inl (by simp [toExit])) harr⟩

theorem evCode_sound {P : Program} {X : Ext} {C : Oracle} (ok : ProgOk P) (hX : XSound P X) (hC : Sound P C) {N nt : Nat} {ρ0 : Rho} {H0 : Heap} {w0 : World} :
    ∀ (c : Code), codeOk c = true → ∀ (s : St) (x : Ex) (s' : St) (Q : Exit → Act → World → Prop) (ρ : Rho) (a : Act) (w : World), evCode P X C N nt c s = some (x, s') → Rel ρ0 H0 w0 ρ s.H s.lo w → FR ρ nt s.F a →
      (∀ ρ' a' w', Rel ρ0 H0 w0 ρ' s'.H s'.lo w' → FR ρ' nt s'.F a' → Q (toExit x) a' w') → c.wp P Q a w := by
  intro c
  induction c with
  | skip =>
    intro _ s x s' Q ρ a w h hR hF hQ
    simp only [evCode, Option.some.injEq, Prod.mk.injEq] at h
    obtain ⟨rfl, rfl⟩ := h
    exact wp_skip (hQ ρ a w hR hF)
  | label l =>
    intro _ s x s' Q ρ a w h hR hF hQ
    simp only [evCode, Option.some.injEq, Prod.mk.injEq] at h
    obtain ⟨rfl, rfl⟩ := h
    exact wp_label (hQ ρ a w hR hF)
  | exit id =>
    intro _ s x s' Q ρ a w h hR hF hQ
    simp only [evCode, Option.some.injEq, Prod.mk.injEq] at h
    obtain ⟨rfl, rfl⟩ := h
    exact wp_exit (hQ ρ a w hR hF)
  | ret =>
    intro _ s x s' Q ρ a w h hR hF hQ
    simp only [evCode, Option.some.injEq, Prod.mk.injEq] at h
    obtain ⟨rfl, rfl⟩ := h
    exact wp_ret (hQ ρ a w hR hF)
  | region id ops draw =>
    intro hok s x s' Q ρ a w h hR hF hQ
    simp only [codeOk, Bool.and_eq_true] at hok
    simp only [evCode] at h
    split at h
    · rename_i F1 H1 lo1 hev
      simp only [Option.some.injEq, Prod.mk.injEq] at h
      obtain ⟨rfl, rfl⟩ := h
      cases draw with
      | true =>
        simp only at hev
        refine evDraw_sound ok hX hC (by simpa using hok.2) hev (fun ρ' a' w' h1 h2 => hQ ρ' a' w' h1 h2) hR hF
      | false =>
        simp only at hev
        refine wp_region ?_
        have := evOps_sound ok hX hC hok.1 (Q := Q) (fun ρ' a' w' h1 h2 => hQ ρ' a' w' h1 h2) ops.toList 0 s.F s.H s.lo rfl hev ρ a w hR hF
        rw [List.range_eq_range']
        simpa using this
    · simp at h
  | seq c1 c2 ih1 ih2 =>
    intro hok s x s' Q ρ a w h hR hF hQ
    simp only [codeOk, Bool.and_eq_true] at hok
    simp only [evCode] at h
    refine wp_seq ?_
    split at h
    · rename_i s1 hs1
      exact ih1 hok.1 s .normal s1 _ ρ a w hs1 hR hF fun ρ1 a1 w1 h1 h2 => ih2 hok.2 s1 x s' Q ρ1 a1 w1 h h1 h2 hQ
    · rename_i hne
      refine ih1 hok.1 s x s' _ ρ a w h hR hF fun ρ1 a1 w1 h1 h2 => ?_
      have := hQ ρ1 a1 w1 h1 h2
      cases x with
      | normal => exact (hne s' h).elim
      | exit i => exact this
      | ret => exact this
  | cond c x1 y1 ih1 ih2 =>
    intro hok s x s' Q ρ a w h hR hF hQ
    simp only [codeOk, Bool.and_eq_true] at hok
    simp only [evCode] at h
    split at h
    · rename_i hc
      have hv := bool_of (hF.opR [c] c (by simp) _ hc)
      exact wp_cond_true hv (ih1 hok.1 s x s' Q ρ a w h hR hF hQ)
    · rename_i hc
      have hv := bool_of (hF.opR [c] c (by simp) _ hc)
      exact wp_cond_false hv (ih2 hok.2 s x s' Q ρ a w h hR hF hQ)
    · simp at h
  | block id b ih =>
    intro hok s x s' Q ρ a w h hR hF hQ
    simp only [codeOk] at hok
    simp only [evCode] at h
    refine wp_block ?_
    split at h
    · rename_i i s1 hs1
      split at h
      · rename_i hid
        simp only [Option.some.injEq, Prod.mk.injEq] at h
        obtain ⟨rfl, rfl⟩ := h
        refine ih hok s (.exit i) s1 _ ρ a w hs1 hR hF fun ρ1 a1 w1 h1 h2 => ?_
        simp only [toExit, Exit.inBlock, hid, if_true]
        exact hQ ρ1 a1 w1 h1 h2
      · rename_i hid
        simp only [Option.some.injEq, Prod.mk.injEq] at h
        obtain ⟨rfl, rfl⟩ := h
        refine ih hok s (.exit i) s1 _ ρ a w hs1 hR hF fun ρ1 a1 w1 h1 h2 => ?_
        simp only [toExit, Exit.inBlock, hid, if_false]
        exact hQ ρ1 a1 w1 h1 h2
    · rename_i hne
      refine ih hok s x s' _ ρ a w h hR hF fun ρ1 a1 w1 h1 h2 => ?_
      have := hQ ρ1 a1 w1 h1 h2
      cases x with
      | normal => exact this
      | exit i => exact (hne i s' h).elim
      | ret => exact this
  | loop b ih =>
    intro hok s x s' Q ρ a w h hR hF hQ
    simp only [codeOk] at hok
    simp only [evCode] at h
    intro b0 k cs
    obtain ⟨e, a', w', hq, harr⟩ := iter_sound (P := P) (c := b) (ρ0 := ρ0) (H0 := H0) (w0 := w0) (nt := nt) (Q := Q) (fun s x s' Q ρ a w h hR hF hQ => ih hok s x s' Q ρ a w h hR hF hQ) hQ N s ρ a w h hR hF b0 k cs
    exact ⟨e, a', w', hq, .of_steps (.one step_loop) harr⟩
  | _ =>
    intro _ s x s' Q ρ a w h
    simp [evCode] at h

def rsem (tmps : Array Value) : ResultVar → Sem Value
  | .tmp t => pure (tmps.getD t undef)
  | .cell ad t => do loadVar t (← asAddr (tmps.getD ad undef))

theorem evResult_run {P : Program} {ρ : Rho} {nt : Nat} {F : Slots} {a : Act} {H : Heap} {w : World} (hF : FR ρ nt F a) (hs : SR ρ H w) {rv : ResultVar} {v : Value} (h : evResult P F H rv = some v) :
    ∃ v', VR ρ v v' ∧ (rsem a.tmps rv).run P w = .ok v' w := by
  cases rv with
  | tmp t =>
    simp only [evResult] at h
    obtain ⟨v', x, y⟩ := hF.slot t v h
    exact ⟨v', y, by simp [rsem, x]⟩
  | cell ad t =>
    simp only [evResult] at h
    split at h
    · rename_i p hp
      obtain ⟨v', x, y⟩ := hF.slot ad _ hp
      obtain ⟨e, he, hsp, rfl⟩ := ptr_of y
      obtain ⟨u, h1, h2⟩ := loadV_sound (P := P) hs h he
      exact ⟨u, h1, by simp [rsem, x, asAddr, h2]⟩
    · simp at h

theorem mapAll_run {P : Program} {ρ : Rho} {w : World} {f : ResultVar → Option Value} {g : ResultVar → Sem Value} (hfg : ∀ rv v, f rv = some v → ∃ v', VR ρ v v' ∧ (g rv).run P w = .ok v' w) :
    ∀ (l : List ResultVar) (vs : List Value), mapAll f l = some vs → ∃ vs', VRs ρ vs vs' ∧ (l.mapM g).run P w = .ok vs' w := by
  intro l
  induction l with
  | nil => intro vs h; simp [mapAll] at h; subst h; exact ⟨[], VRs.nil, by simp⟩
  | cons rv l ih =>
    intro vs h
    simp only [mapAll] at h
    split at h
    · rename_i y hy
      cases hm : mapAll f l with
      | none => simp [hm] at h
      | some us =>
        simp [hm] at h
        subst h
        obtain ⟨y', h1, h2⟩ := hfg rv y hy
        obtain ⟨us', h3, h4⟩ := ih us hm
        exact ⟨y' :: us', VRs.cons h1 h3, by simp [List.mapM_cons, h2, h4]⟩
    · simp at h

theorem evResults_run {P : Program} {ρ : Rho} {nt : Nat} {F : Slots} {a : Act} {H : Heap} {w : World} (hF : FR ρ nt F a) (hs : SR ρ H w) {fn : Func} {v : Value} (h : evResults P fn F H = some v) :
    ∃ v', VR ρ v v' ∧ (results fn a.tmps).run P w = .ok v' w := by
  unfold evResults at h
  have key := fun vs hm => mapAll_run (P := P) (ρ := ρ) (w := w) (g := rsem a.tmps) (fun rv v h => evResult_run (P := P) hF hs (rv := rv) h) fn.results.toList vs hm
  split at h
  · rename_i u hm
    injection h with h
    subst h
    obtain ⟨vs', h1, h2⟩ := key _ hm
    match vs', h1.1 with
    | [u'], _ =>
      refine ⟨u', h1.2 0 _ _ rfl rfl, ?_⟩
      show (do let vs ← fn.results.mapM (rsem a.tmps); pure (if h : vs.size = 1 then vs[0] else .tuple vs) : Sem Value).run P w = _
      rw [Sem.run_bind, Array.mapM_eq_mapM_toList, Sem.run_map, h2]
      rfl
  · rename_i vs hne hm
    injection h with h
    subst h
    obtain ⟨vs', h1, h2⟩ := key _ hm
    refine ⟨.tuple vs'.toArray, h1.toTuple, ?_⟩
    show (do let vs ← fn.results.mapM (rsem a.tmps); pure (if h : vs.size = 1 then vs[0] else .tuple vs) : Sem Value).run P w = _
    rw [Sem.run_bind, Array.mapM_eq_mapM_toList, Sem.run_map, h2]
    have hl : vs'.length ≠ 1 := by
      intro h1'
      rw [← h1.1] at h1'
      match vs, h1' with
      | [u], _ => exact hne u rfl
    simp [hl]
  · simp at h

theorem at_start {t : Nat} {v : Value} : ∀ (args : List Value) (i : Nat), at? t (start i args) = some v → i ≤ t ∧ args[t - i]? = some v := by
  intro args
  induction args with
  | nil => intro i h; simp [start, at?] at h
  | cons u args ih =>
    intro i h
    simp only [start, at?] at h
    split at h
    · rename_i hb
      have := Nat.eq_of_beq_eq_true hb
      subst this
      injection h with h
      subst h
      exact ⟨Nat.le_refl _, by simp⟩
    · rename_i hb
      obtain ⟨h1, h2⟩ := ih (i + 1) h
      refine ⟨by omega, ?_⟩
      rw [show t - i = (t - (i + 1)) + 1 by omega]
      simpa using h2

theorem evFn_sound {P : Program} {X : Ext} {C : Oracle} (ok : ProgOk P) (hX : XSound P X) (hC : Sound P C) (N : Nat) : Sound P (evFn P X N C) := by
  intro f args H v H' l h ρ w args' hargs hs
  unfold evFn at h
  split at h
  case h_2 => simp at h
  rename_i fn hfn
  split at h
  case h_2 => simp at h
  rename_i c hb
  have hsz : args.length = args'.size := by simpa using hargs.1
  have hF0 : FR ρ (max args.length fn.ntmps) (start 0 args) { tmps := args' ++ Array.replicate (fn.ntmps - args'.size) undef, defers := [] } := by
    refine ⟨rfl, by simp; omega, fun t u hu => ?_⟩
    obtain ⟨_, h2⟩ := at_start args 0 hu
    simp only [Nat.sub_zero] at h2
    obtain ⟨u', h3, h4⟩ := zip_get hargs h2
    refine ⟨u', ?_, h4⟩
    have hlt := (List.getElem?_eq_some_iff.1 h3).1
    simp only
    rw [Array.getElem?_append_left (by simpa using hlt)]
    simpa using h3
  have fin : ∀ (x : Ex) (s : St), evCode P X C N (max args.length fn.ntmps) c ⟨start 0 args, H, H.length⟩ = some (x, s) → (x = .normal ∨ x = .ret) → (evResults P fn s.F s.H).map (fun v => (v, s.H, s.lo)) = some (v, H', l) →
      Calls P f args' w fun e w' => ∃ ρ' v', e = .returned v' ∧ VR ρ' v v' ∧ Rel ρ H w ρ' H' l w' := by
    intro x s hev hx hres
    refine calls_of_wp hfn hb (evCode_sound (ρ0 := ρ) (H0 := H) (w0 := w) ok hX hC c (ok.code f fn c hfn hb).1 ⟨start 0 args, H, H.length⟩ x s _ ρ _ w hev (Rel.of_quiet hs (Quiet.refl w) _) hF0 fun ρ1 a1 w1 hR hF => ?_)
    cases hr : evResults P fn s.F s.H with
    | none => simp [hr] at hres
    | some u =>
      simp [hr] at hres
      obtain ⟨rfl, rfl, rfl⟩ := hres
      obtain ⟨v', h1, h2⟩ := evResults_run (P := P) hF hR.sr hr
      rcases hx with rfl | rfl
      · exact ⟨hF.defers, v', h2, ρ1, v', rfl, h1, hR⟩
      · exact ⟨hF.defers, v', h2, ρ1, v', rfl, h1, hR⟩
  split at h
  · rename_i s hev
    exact fin .normal s hev (.inl rfl) h
  · rename_i s hev
    exact fin .ret s hev (.inr rfl) h
  · simp at h

theorem evAll_sound {P : Program} {X : Ext} (ok : ProgOk P) (hX : XSound P X) (N : Nat) : ∀ n, Sound P (evAll P X N n) := by
  intro n
  induction n with
  | zero => intro f args H v H' l h; simp [evAll] at h
  | succ n ih => exact evFn_sound ok hX ih N

/-- One oracle, or else another. -/
def orElse (C D : Oracle) : Oracle := fun f args H => match C f args H with
  | some r => some r
  | none => D f args H

theorem Sound.or {P : Program} {C D : Oracle} (hC : Sound P C) (hD : Sound P D) : Sound P (orElse C D) := by
  intro f args H v H' l h
  unfold orElse at h
  split at h
  · rename_i r hr
    rw [h] at hr
    exact hC f args H v H' l hr
  · exact hD f args H v H' l h

/-- What a sound call says of a world: nothing that was there has turned. -/
theorem calls_plain {P : Program} {C : Oracle} (hC : Sound P C) {f : FuncId} {args : List Value} {v : Value} {H' : Heap} {l : Nat} (h : C f args [] = some (v, H', l)) (hargs : args.all (pf 3) = true) (hv : pf 3 v = true) (w : World) :
    Calls P f args.toArray w fun e w' => e = .returned v ∧ Quiet w w' := by
  have hself : VRs [] args args := ⟨rfl, fun i x x' p q => by rw [p] at q; cases q; exact pf_self 3 _ (get_all hargs p)⟩
  refine (hC f args [] v H' l h [] w args.toArray (by simpa using hself) (SR.empty w)).mono ?_
  rintro e w' ⟨ρ', v', rfl, hvr, hR⟩
  refine ⟨by rw [pf_eq 3 _ _ hv hvr], hR.os, hR.tape, hR.output, hR.size, fun k hk => hR.keep k hk fun j e0 b0 hj => by simp at hj, hR.frozen⟩

theorem Quiet.grown {w w' : World} (h : Quiet w w') : Go.RowKit.Grown w w' :=
  ⟨⟨h.os, h.output, fun i hi => by rw [h.keep i hi]; split <;> simp_all⟩, h.frozen, h.size⟩

end Go.Proofs.Ytfbjpenbpbpcaaa.Den
