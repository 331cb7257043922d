/-
  A verified evaluator, fourth part: one operation.
-/
import Derived.Test.YtfbjpenbpbpcaaaDen2
namespace Go.Proofs.Ytfbjpenbpbpcaaa.Den
open Go

/-- The operands' values in the frame are those of the slots. -/
def OpR (ρ : Rho) (F : Slots) (a : Act) (xs : List Operand) : Prop := ∀ x ∈ xs, ∀ v, ev F x = some v → VR ρ v (a.eval x)

def Sound (P : Program) (C : Oracle) : Prop :=
  ∀ (f : FuncId) (args : List Value) (H : Heap) (v : Value) (H' : Heap) (l : Nat), C f args H = some (v, H', l) →
    ∀ (ρ : Rho) (w : World) (args' : Array Value), VRs ρ args args'.toList → SR ρ H w →
      Calls P f args' w fun e w' => ∃ ρ' v', e = .returned v' ∧ VR ρ' v v' ∧ Rel ρ H w ρ' H' l w'

theorem pureRun_sound {α : Type} {P : Program} : ∀ (s : Sem α) (x : α), pureRun P s = some x → ∀ w, s.run P w = .ok x w := by
  intro s
  induction s with
  | pure a => intro x h w; simp [pureRun] at h; subst h; rfl
  | program k ih => intro x h w; exact ih P x h w
  | mark m k ih => intro x h w; exact ih x h w
  | _ => intro x h; simp [pureRun] at h

theorem allFlat_look {ρ : Rho} {F : Slots} {a : Act} {xs : List Operand} (h : allFlat F xs = true) (hr : OpR ρ F a xs) : ∀ x ∈ xs, look F x = a.eval x := by
  intro x hx
  have h1 := List.all_eq_true.1 h x hx
  unfold look
  split at h1
  · rename_i v hv
    rw [hv]
    exact (pf_eq 3 _ _ h1 (hr x hx v hv)).symm
  · simp at h1

theorem evFlat_sound {P : Program} {F : Slots} {H : Heap} {lo : Nat} {o : Oper} {r : Out} (hsel : noSel o = true) (h : evFlat P F H lo o = some r) :
    r.eff = .pure ∧ r.H = H ∧ r.lo = lo ∧ ∀ (ρ : Rho) (a : Act) (w : World), OpR ρ F a o.op.operands.toList → VR ρ r.v r.v ∧ (execOp a.eval o).run P w = .ok (.value r.v) w := by
  unfold evFlat at h
  split at h
  · rename_i hf
    split at h
    · rename_i v hv
      split at h
      · rename_i hp
        injection h with h
        subst h
        refine ⟨rfl, rfl, rfl, fun ρ a w hr => ⟨pf_self 3 _ hp, ?_⟩⟩
        have hc : execOp (look F) o = execOp a.eval o := execOp_congr o (by
          intro cs b hb
          simp [noSel, hb] at hsel) (fun x hx => allFlat_look hf hr x (by simpa using hx))
        rw [← hc]
        exact pureRun_sound _ _ hv w
      · simp at h
    · simp at h
  · simp at h

theorem evs_sound {ρ : Rho} {F : Slots} {a : Act} : ∀ (xs : List Operand) (vs : List Value), evs F xs = some vs → OpR ρ F a xs → VRs ρ vs (xs.map a.eval)
  | [], vs, h, _ => by simp [evs] at h; subst h; exact VRs.nil
  | x :: xs, vs, h, hr => by
    unfold evs at h
    split at h
    · rename_i v hv
      cases he : evs F xs with
      | none => simp [he] at h
      | some us =>
        simp [he] at h
        subst h
        exact VRs.cons (hr x (by simp) v hv) (evs_sound xs us he fun y hy => hr y (by simp [hy]))
    · simp at h

/-- What an operation comes to, in the world. Q: nothing that was there has turned. -/
structure OpSound (P : Program) (F : Slots) (H : Heap) (lo : Nat) (o : Oper) (r : Out) : Prop where
  pure : r.eff = .pure → r.H = H ∧ r.lo = lo ∧ ∀ (ρ : Rho) (a : Act) (w : World) (next : Act → World → Prop) (Q : Exit → Act → World → Prop), OpR ρ F a o.op.operands.toList →
    (∀ v' w', VR ρ r.v v' → Quiet w w' → next (a.put o.dst v') w') → o.wp P a w next Q
  read : r.eff = .read → r.H = H ∧ r.lo = lo ∧ ∀ (ρ : Rho) (a : Act) (w : World) (next : Act → World → Prop) (Q : Exit → Act → World → Prop), OpR ρ F a o.op.operands.toList → SR ρ H w →
    (∀ v' w', VR ρ r.v v' → Quiet w w' → next (a.put o.dst v') w') → o.wp P a w next Q
  write : r.eff = .write → ∃ l, r.lo = min lo l ∧ ∀ (ρ : Rho) (a : Act) (w : World) (next : Act → World → Prop) (Q : Exit → Act → World → Prop), OpR ρ F a o.op.operands.toList → SR ρ H w →
    (∀ ρ' v' w', VR ρ' r.v v' → Rel ρ H w ρ' r.H l w' → next (a.put o.dst v') w') → o.wp P a w next Q

/-- A value, the world as it was. -/
theorem OpSound.of_pure {P : Program} {F : Slots} {H : Heap} {lo : Nat} {o : Oper} {v : Value}
    (h : ∀ (ρ : Rho) (a : Act) (w : World), OpR ρ F a o.op.operands.toList → ∃ v', VR ρ v v' ∧ (execOp a.eval o).run P w = .ok (.value v') w) : OpSound P F H lo o ⟨v, H, lo, .pure⟩ where
  pure _ := ⟨rfl, rfl, fun ρ a w next Q hr hn => by
    obtain ⟨v', h1, h2⟩ := h ρ a w hr
    unfold Oper.wp
    rw [h2]
    exact hn v' w h1 (Quiet.refl w)⟩
  read h := by cases h
  write h := by cases h

theorem OpSound.of_read {P : Program} {F : Slots} {H : Heap} {lo : Nat} {o : Oper} {v : Value}
    (h : ∀ (ρ : Rho) (a : Act) (w : World), OpR ρ F a o.op.operands.toList → SR ρ H w → ∃ v', VR ρ v v' ∧ (execOp a.eval o).run P w = .ok (.value v') w) : OpSound P F H lo o ⟨v, H, lo, .read⟩ where
  read _ := ⟨rfl, rfl, fun ρ a w next Q hr hs hn => by
    obtain ⟨v', h1, h2⟩ := h ρ a w hr hs
    unfold Oper.wp
    rw [h2]
    exact hn v' w h1 (Quiet.refl w)⟩
  pure h := by cases h
  write h := by cases h

/-- A new value in a new world. -/
theorem OpSound.of_write {P : Program} {F : Slots} {H H' : Heap} {lo l : Nat} {o : Oper} {v : Value}
    (h : ∀ (ρ : Rho) (a : Act) (w : World), OpR ρ F a o.op.operands.toList → SR ρ H w → ∃ ρ' v' w', VR ρ' v v' ∧ Rel ρ H w ρ' H' l w' ∧
      ((execOp a.eval o).run P w = .ok (.value v') w' ∨ ((execOp a.eval o).run P w = .ok .skip w' ∧ v' = undef))) : OpSound P F H lo o ⟨v, H', min lo l, .write⟩ where
  write _ := ⟨l, rfl, fun ρ a w next Q hr hs hn => by
    obtain ⟨ρ', v', w', h1, h2, h3⟩ := h ρ a w hr hs
    unfold Oper.wp
    rcases h3 with h3 | ⟨h3, rfl⟩ <;> (rw [h3]; exact hn _ _ _ h1 h2)⟩
  pure h := by cases h
  read h := by cases h

theorem isAgg_run {P : Program} {t : TypeId} {b : Bool} (h : isAggT P t = some b) (w : World) : (isAgg t).run P w = .ok b w := by
  unfold isAggT at h
  cases hu : P.underlying t with
  | none => simp [hu] at h
  | some d =>
    rw [hu] at h
    unfold isAgg
    simp only [Sem.run_bind, run_underlying hu, Result.andThen_ok]
    cases d <;> simp at h <;> subst h <;> rfl

theorem sizeOf_run {P : Program} {t : TypeId} {n : Nat} (h : sizeT P t = some n) (w : World) : (sizeOf t).run P w = .ok n w := by
  unfold sizeT at h
  cases hi : P.info? t with
  | none => simp [hi] at h
  | some i => simp [hi] at h; simp [sizeOf, typeInfo, hi, h]

theorem zero_run {P : Program} {t : TypeId} {z : Value} (h : zeroT P t = some z) (w : World) : (zeroValue t).run P w = .ok z w := by
  unfold zeroT at h
  cases hi : P.info? t with
  | none => simp [hi] at h
  | some i => simp [hi] at h; simp [zeroValue, typeInfo, hi, h]

theorem ptr_of {ρ : Rho} {a : Addr} {v' : Value} (h : VR ρ (.pointer (some a)) v') : ∃ e, ρ[a.block]? = some e ∧ a.spot = none ∧ v' = .pointer (some ⟨e.r, e.d + a.off, none⟩) := by
  cases h with
  | flat hf => simp [isFlat] at hf
  | ptr h => exact ⟨_, h, rfl, rfl⟩

theorem slice_of {ρ : Rho} {a : Addr} {l c : Nat} {v' : Value} (h : VR ρ (.slice (some a) l c) v') :
    ∃ e c', ρ[a.block]? = some e ∧ a.spot = none ∧ v' = .slice (some ⟨e.r, e.d + a.off, none⟩) l c' ∧ (l ≤ c → c' = c) ∧ l ≤ c' := by
  cases h with
  | flat hf => simp [isFlat] at hf
  | slice h hl => exact ⟨_, _, h, rfl, rfl, fun _ => rfl, hl⟩
  | sliceU h h0 hl => exact ⟨_, _, h, rfl, rfl, fun hh => by omega, hl⟩

theorem loadV_sound {P : Program} {ρ : Rho} {H : Heap} {w : World} (hs : SR ρ H w) {t : TypeId} {a : Addr} {v : Value} {e : Ent} (h : loadV P H t a = some v) (he : ρ[a.block]? = some e) :
    ∃ v', VR ρ v v' ∧ (loadVar t ⟨e.r, e.d + a.off, none⟩).run P w = .ok v' w := by
  unfold loadV at h
  split at h
  · rename_i n hag hsz
    cases hr : rd H a n with
    | none => simp [hr] at h
    | some cs =>
      simp [hr] at h
      subst h
      obtain ⟨_, hlen, _, cs', h1, h2⟩ := rd_sound hs hr he
      refine ⟨.agg cs'.toArray, h1.toAgg, ?_⟩
      have hl := run_loadCells_list (P := P) w ⟨e.r, e.d + a.off, none⟩ cs' h2
      rw [← h1.1, hlen] at hl
      unfold loadVar
      simp [isAgg_run hag, sizeOf_run hsz, hl]
  · rename_i hag
    split at h
    · rename_i x hr
      split at h
      case h_2 => simp at h
      injection h with h
      subst h
      obtain ⟨_, _, _, cs', h1, h2⟩ := rd_sound hs hr he
      have hn : cs'.length = 1 := by rw [← h1.1]; rfl
      match cs', hn with
      | [x'], _ =>
        refine ⟨x', h1.2 0 _ _ rfl rfl, ?_⟩
        have hc := h2 0 x' rfl
        have e0 : (⟨e.r, e.d + a.off, none⟩ : Addr).add 0 = ⟨e.r, e.d + a.off, none⟩ := rfl
        rw [e0] at hc
        unfold loadVar
        simp [isAgg_run hag, load, Sem.run, hc]
    · simp at h
  · simp at h

theorem storeV_sound {P : Program} {ρ : Rho} {H H' : Heap} {w : World} (hs : SR ρ H w) {t : TypeId} {a : Addr} {v v' : Value} {e : Ent} (h : storeV P H t a v = some H') (he : ρ[a.block]? = some e) (hv : VR ρ v v') :
    ∃ w', (storeVar t ⟨e.r, e.d + a.off, none⟩ v').run P w = .ok () w' ∧ Rel ρ H w ρ H' a.block w' := by
  unfold storeV at h
  split at h
  · rename_i n hsz
    split at h
    · rename_i hn
      obtain ⟨_, w', h1, h2⟩ := wr_sound (P := P) hs h he hv.cells
      refine ⟨w', ?_, h2⟩
      have hl : v'.cells.size = n := by have := hv.cells.1; simp at this; omega
      unfold storeVar
      simp [sizeOf_run hsz, hl, h1]
    · simp at h
  · simp at h

theorem newB_sound {ρ : Rho} {H H' : Heap} {w : World} (hs : SR ρ H w) {v v' p : Value} (h : newB H v = some (p, H')) (hv : VR ρ v v') (t : TypeId) (lo : Nat) :
    ∃ ρ', VR ρ' p (.pointer (some ⟨w.heap.size, 0, none⟩)) ∧ Rel ρ H w ρ' H' lo (w.alloc (.cells v'.cells t)) := by
  unfold newB at h
  simp only [forceL_eq] at h
  split at h
  · rename_i hone
    injection h with h
    obtain ⟨rfl, rfl⟩ := Prod.mk.inj h
    obtain ⟨h1, h2⟩ := new_sound hs hone hv.cells t lo
    refine ⟨_, .ptr h2, ?_⟩
    simpa using h1
  · simp at h

end Go.Proofs.Ytfbjpenbpbpcaaa.Den
