/-
  A verified evaluator, seventh part: the operations of a region, one behind the other.
-/
import Derived.Test.YtfbjpenbpbpcaaaDen5
namespace Go.Proofs.Ytfbjpenbpbpcaaa.Den
open Go

/-- The frame and the slots. nt: how many slots there are. -/
structure FR (ρ : Rho) (nt : Nat) (F : Slots) (a : Act) : Prop where
  defers : a.defers = []
  size : a.tmps.size = nt
  slot : ∀ t v, at? t F = some v → ∃ v', a.tmps[t]? = some v' ∧ VR ρ v v'

theorem FR.mono {ρ ρ' : Rho} (hp : ρ <+: ρ') {nt : Nat} {F : Slots} {a : Act} (h : FR ρ nt F a) : FR ρ' nt F a :=
  ⟨h.defers, h.size, fun t v hv => let ⟨v', x, y⟩ := h.slot t v hv; ⟨v', x, y.mono hp⟩⟩

theorem eval_slot {ρ : Rho} {F : Slots} {a : Act} {x : Operand} {v : Value} (hs : ∀ t v, x = .tmp t → at? t F = some v → ∃ v', a.tmps[t]? = some v' ∧ VR ρ v v') (h : ev F x = some v) : VR ρ v (a.eval x) := by
  cases x with
  | tmp t =>
    obtain ⟨v', h1, h2⟩ := hs t v rfl h
    have : a.eval (.tmp t) = v' := by simp [Act.eval, h1]
    rw [this]; exact h2
  | const u =>
    simp only [ev] at h
    split at h
    · rename_i hp
      injection h with h
      subst h
      exact pf_self 3 _ hp
    · simp at h
  | global g => simp [ev] at h
  | func f =>
    simp only [ev] at h
    injection h with h
    subst h
    exact .func rfl (fun i v v' p => by simp at p) rfl (fun i v v' p => by simp at p)

theorem FR.opR {ρ : Rho} {nt : Nat} {F : Slots} {a : Act} (h : FR ρ nt F a) (xs : List Operand) : OpR ρ F a xs := fun _ _ _ hv => eval_slot (fun t v _ ht => h.slot t v ht) hv

theorem put_size (a : Act) (dst : Option Tmp) (v : Value) : (a.put dst v).tmps.size = a.tmps.size := by cases dst <;> simp [Act.put]
theorem put_defers (a : Act) (dst : Option Tmp) (v : Value) : (a.put dst v).defers = a.defers := by cases dst <;> rfl
theorem put_same (a : Act) (d : Tmp) (v : Value) (h : d < a.tmps.size) : (a.put (some d) v).tmps[d]? = some v := by simp [Act.put, h]
theorem put_other (a : Act) (dst : Option Tmp) (v : Value) (t : Tmp) (h : dst ≠ some t) : (a.put dst v).tmps[t]? = a.tmps[t]? := by
  cases dst with
  | none => rfl
  | some d => simp only [Act.put]; rw [Array.getElem?_setIfInBounds_ne (fun e => h (by rw [e]))]

theorem at_putF (nt : Nat) (F : Slots) (dst : Option Tmp) (v : Value) (t : Tmp) : at? t (putF nt F dst v) = if dst = some t ∧ t < nt then some v else at? t F := by
  unfold putF
  cases dst with
  | none => simp
  | some d =>
    simp only
    by_cases hd : d < nt
    · have : Nat.blt d nt = true := by simpa [Nat.blt_eq] using hd
      rw [this]
      simp only [at?]
      by_cases hdt : d = t
      · subst hdt
        simp [hd]
      · have h1 : Nat.beq d t = false := by
          cases hb : Nat.beq d t
          · rfl
          · exact absurd (Nat.eq_of_beq_eq_true hb) hdt
        rw [h1]
        simp [hdt]
    · have : Nat.blt d nt = false := by
        cases hb : Nat.blt d nt
        · rfl
        · exact absurd (by simpa [Nat.blt_eq] using hb) hd
      rw [this]
      simp only
      rw [if_neg]
      rintro ⟨h1, h2⟩
      injection h1 with h1
      rw [h1] at hd
      exact hd h2

theorem FR.put {ρ : Rho} {nt : Nat} {F : Slots} {a : Act} (h : FR ρ nt F a) (dst : Option Tmp) {v v' : Value} (hv : VR ρ v v') : FR ρ nt (putF nt F dst v) (a.put dst v') :=
  ⟨by rw [put_defers, h.defers], by rw [put_size, h.size], fun t u hu => by
    rw [at_putF] at hu
    split at hu
    · rename_i hd
      obtain ⟨rfl, hlt⟩ := hd
      injection hu with hu
      subst hu
      exact ⟨v', put_same a t v' (by rw [h.size]; exact hlt), hv⟩
    · rename_i hd
      by_cases hdt : dst = some t
      · subst hdt
        have hge : ¬ t < nt := fun hh => hd ⟨rfl, hh⟩
        obtain ⟨u', x, y⟩ := h.slot t u hu
        have := (Array.getElem?_eq_some_iff.1 x).1
        rw [h.size] at this
        omega
      · obtain ⟨u', x, y⟩ := h.slot t u hu
        exact ⟨u', by rw [put_other a dst v' t hdt]; exact x, y⟩⟩

theorem wanted_of {ρ : Rho} {F : Slots} {a : Act} {ops : Array Oper} {o : Oper} {b : Bool} (hs : ∀ j w d v, o.guard = some (j, w) → (ops[j]?).bind (·.dst) = some d → at? d F = some v → ∃ v', a.tmps[d]? = some v' ∧ VR ρ v v')
    (h : wantedF ops.toList F o = some b) : Region.wanted o (yielded ops a.tmps) = b := by
  unfold wantedF at h
  unfold Region.wanted
  split at h
  · rename_i hg
    injection h with h
    rw [hg, h]
  · rename_i j want hg
    rw [hg]
    simp only
    have hl : ops.toList[j]? = ops[j]? := by simp
    rw [hl] at h
    unfold yielded
    split at h
    · rename_i oj hoj
      rw [hoj]
      split at h
      · rename_i d hd
        have hbind : (ops[j]?).bind (·.dst) = some d := by rw [hoj]; exact hd
        simp only [Option.bind_some, hd]
        split at h
        · rename_i b0 hb0
          obtain ⟨v', x, y⟩ := hs j want d _ hg hbind hb0
          rw [x, bool_of y]
          cases h
          rfl
        · rename_i v0 hnb hv0
          obtain ⟨v', x, y⟩ := hs j want d _ hg hbind hv0
          injection h with h
          subst h
          rw [x]
          cases y with
          | flat hf => cases v0 <;> first | (rename_i b1; exact (hnb b1 rfl).elim) | rfl
          | _ => rfl
        · simp at h
      · rename_i hd
        injection h with h
        subst h
        simp [hd]
    · rename_i hoj
      injection h with h
      subst h
      simp [hoj]

/-- One operation: whatever it is. -/
theorem op_step {P : Program} {F : Slots} {H : Heap} {lo : Nat} {o : Oper} {r : Out} (hop : OpSound P F H lo o r) {ρ0 : Rho} {H0 : Heap} {w0 : World} {ρ : Rho} {a : Act} {w : World} {next : Act → World → Prop} {Q : Exit → Act → World → Prop}
    (hr : OpR ρ F a o.op.operands.toList) (hR : Rel ρ0 H0 w0 ρ H lo w)
    (hn : ∀ ρ' v' w', ρ <+: ρ' → VR ρ' r.v v' → Rel ρ0 H0 w0 ρ' r.H r.lo w' → next (a.put o.dst v') w') : o.wp P a w next Q := by
  cases he : r.eff with
  | pure =>
    obtain ⟨h1, h2, h3⟩ := hop.pure he
    refine h3 ρ a w next Q hr fun v' w' hv hq => hn ρ v' w' (List.prefix_refl _) hv ?_
    have := hR.trans (Rel.of_quiet hR.sr hq lo)
    rw [Nat.min_self] at this
    rw [h1, h2]; exact this
  | read =>
    obtain ⟨h1, h2, h3⟩ := hop.read he
    refine h3 ρ a w next Q hr hR.sr fun v' w' hv hq => hn ρ v' w' (List.prefix_refl _) hv ?_
    have := hR.trans (Rel.of_quiet hR.sr hq lo)
    rw [Nat.min_self] at this
    rw [h1, h2]; exact this
  | write =>
    obtain ⟨l, h1, h2⟩ := hop.write he
    refine h2 ρ a w next Q hr hR.sr fun ρ' v' w' hv hq => hn ρ' v' w' hq.pre hv ?_
    rw [h1]
    exact hR.trans hq

theorem evOps_sound {P : Program} {X : Ext} {C : Oracle} (ok : ProgOk P) (hX : XSound P X) (hC : Sound P C) {nt : Nat} {ops : Array Oper} (hsel : ops.toList.all noSel = true) {ρ0 : Rho} {H0 : Heap} {w0 : World}
    {F' : Slots} {H' : Heap} {lo' : Nat} {Q : Exit → Act → World → Prop} (hQ : ∀ ρ' a' w', Rel ρ0 H0 w0 ρ' H' lo' w' → FR ρ' nt F' a' → Q .normal a' w') :
    ∀ (rest : List Oper) (k : Nat) (F : Slots) (H : Heap) (lo : Nat), ops.toList.drop k = rest → evOps P X C nt ops.toList rest F H lo = some (F', H', lo') →
      ∀ (ρ : Rho) (a : Act) (w : World), Rel ρ0 H0 w0 ρ H lo w → FR ρ nt F a → wpOps P ops Q (List.range' k rest.length) a w := by
  intro rest
  induction rest with
  | nil =>
    intro k F H lo _ h ρ a w hR hF
    simp only [evOps] at h
    simp only [Option.some.injEq, Prod.mk.injEq] at h
    rw [h.1] at hF
    rw [h.2.1, h.2.2] at hR
    exact hQ ρ a w hR hF
  | cons o rest ih =>
    intro k F H lo hd h ρ a w hR hF
    have hk : ops[k]? = some o := by
      have := congrArg (fun l => l[0]?) hd
      simpa using this
    have hd' : ops.toList.drop (k + 1) = rest := by
      have := congrArg (fun l => l.drop 1) hd
      simpa using this
    have ho : noSel o = true := List.all_eq_true.1 hsel o (by
      have : o ∈ ops.toList.drop k := by rw [hd]; simp
      exact List.mem_of_mem_drop this)
    simp only [List.length_cons, List.range'_succ]
    rw [wpOps_cons]
    unfold wpOp
    rw [hk]
    simp only
    simp only [evOps] at h
    have hw : ∀ b, wantedF ops.toList F o = some b → Region.wanted o (yielded ops a.tmps) = b := fun b hb => wanted_of (fun j w d v _ _ hv => hF.slot d v hv) hb
    split at h
    · rename_i hwt
      rw [hw true hwt, if_pos rfl]
      split at h
      · rename_i r hr
        refine .inl (op_step (evOp_sound ok hX hC ho hr) (hF.opR _) hR ?_)
        intro ρ' v' w' hp hv hR'
        exact ih (k + 1) _ _ _ hd' h ρ' _ w' hR' ((hF.mono hp).put o.dst hv)
      · simp at h
    · rename_i hwt
      rw [hw false hwt]
      simp only [Bool.false_eq_true, if_false]
      exact ih (k + 1) _ _ _ hd' h ρ _ w hR (hF.put o.dst (pf_self 3 undef rfl))
    · simp at h

end Go.Proofs.Ytfbjpenbpbpcaaa.Den
