/-
  A verified evaluator, fifth part: every operation that it runs.
-/
import Derived.Test.YtfbjpenbpbpcaaaDen3
namespace Go.Proofs.Ytfbjpenbpbpcaaa.Den
open Go

theorem flat_sound {P : Program} {F : Slots} {H : Heap} {lo : Nat} {o : Oper} {r : Out} (hsel : noSel o = true) (h : evFlat P F H lo o = some r) : OpSound P F H lo o r := by
  obtain ⟨h1, h2, h3, h4⟩ := evFlat_sound hsel h
  obtain ⟨v, H', lo', eff⟩ := r
  subst h1 h2 h3
  exact OpSound.of_pure fun ρ a w hr => ⟨v, (h4 ρ a w hr).1, (h4 ρ a w hr).2⟩

theorem int_of {ρ : Rho} {k : IntKind} {n : Int} {v' : Value} (h : VR ρ (.int k n) v') : v' = .int k n := isFlat_eq rfl h
theorem bool_of {ρ : Rho} {b : Bool} {v' : Value} (h : VR ρ (.bool b) v') : v' = .bool b := isFlat_eq rfl h

theorem eqK_eq {k k' : IntKind} (h : eqK k k' = true) : k = k' := by cases k <;> cases k' <;> first | rfl | simp [eqK] at h

theorem fastBin_run {P : Program} {op : BinOp} {k k' : IntKind} {a b : Int} {v : Value} (t : TypeId) (x y : Operand) (h : fastBin op k a k' b = some v) (w : World) :
    (do eqGuard op t x y (.int k a) (.int k' b); binOp op t (.int k a) (.int k' b) : Sem Value).run P w = .ok v w := by
  have hg : eqGuard op t x y (.int k a) (.int k' b) = pure () := by cases op <;> rfl
  rw [hg]
  unfold fastBin at h
  have pass : ∀ s : Sem Value, (do pure (); s : Sem Value).run P w = s.run P w := fun s => by simp
  rw [pass]
  split at h
  · split at h
    · simp at h
    · rename_i hb
      injection h with h
      subst h
      simp [binOp, Op.shift, hb]
  · split at h
    · simp at h
    · rename_i hb
      injection h with h
      subst h
      simp [binOp, Op.shift, hb]
  · split at h
    · simp at h
    · rename_i hk
      have hk := eqK_eq hk
      subst hk
      split at h
      all_goals first
        | (injection h with h; subst h; simp [binOp, Op.intArith, Op.intCmp]; done)
        | (split at h
           · simp at h
           · rename_i hb
             injection h with h
             subst h
             simp [binOp, Op.intDiv, hb])
        | simp at h

theorem zip_get {ρ : Rho} {vs vs' : List Value} (h : VRs ρ vs vs') {i : Nat} {v : Value} (hv : vs[i]? = some v) : ∃ v', vs'[i]? = some v' ∧ VR ρ v v' := by
  have hlt : i < vs'.length := by rw [← h.1]; exact (List.getElem?_eq_some_iff.1 hv).1
  exact ⟨vs'[i], List.getElem?_eq_getElem hlt, h.2 i v _ hv (List.getElem?_eq_getElem hlt)⟩

theorem agg_of {ρ : Rho} {cs : Array Value} {v' : Value} (h : VR ρ (.agg cs) v') : ∃ cs' : Array Value, v' = .agg cs' ∧ VRs ρ cs.toList cs'.toList := by
  cases h with
  | flat hf => simp [isFlat] at hf
  | agg hn h => exact ⟨_, rfl, VR.arr hn h⟩

theorem tuple_of {ρ : Rho} {cs : Array Value} {v' : Value} (h : VR ρ (.tuple cs) v') : ∃ cs' : Array Value, v' = .tuple cs' ∧ VRs ρ cs.toList cs'.toList := by
  cases h with
  | flat hf => simp [isFlat] at hf
  | tuple hn h => exact ⟨_, rfl, VR.arr hn h⟩

theorem iface_of {ρ : Rho} {t : TypeId} {v v' : Value} (h : VR ρ (.iface t v) v') : ∃ u, v' = .iface t u ∧ VR ρ v u := by
  cases h with
  | flat hf => simp [isFlat] at hf
  | iface h => exact ⟨_, rfl, h⟩

theorem func_of {ρ : Rho} {fn : Fn} {a b : Array Value} {v' : Value} (h : VR ρ (.func fn a b) v') : ∃ a' b' : Array Value, v' = .func fn a' b' ∧ VRs ρ a.toList a'.toList ∧ VRs ρ b.toList b'.toList := by
  cases h with
  | flat hf => simp [isFlat] at hf
  | func ha h1 hb h2 => exact ⟨_, _, rfl, VR.arr ha h1, VR.arr hb h2⟩

theorem ptr_add {ρ : Rho} {a : Addr} {e : Ent} (h : ρ[a.block]? = some e) (hs : a.spot = none) (n : Nat) : VR ρ (.pointer (some (a.add n))) (.pointer (some ((⟨e.r, e.d + a.off, none⟩ : Addr).add n))) := by
  obtain ⟨b, o, s⟩ := a
  simp only at hs
  subst hs
  have e1 : (⟨b, o, none⟩ : Addr).add n = ⟨b, o + n, none⟩ := by unfold Addr.add; split <;> simp_all
  have e2 : (⟨e.r, e.d + o, none⟩ : Addr).add n = ⟨e.r, e.d + (o + n), none⟩ := by unfold Addr.add; split <;> simp_all <;> omega
  rw [e1]
  show VR ρ _ (.pointer (some ((⟨e.r, e.d + o, none⟩ : Addr).add n)))
  rw [e2]
  exact .ptr h

theorem slice_add {ρ : Rho} {a : Addr} {e : Ent} (h : ρ[a.block]? = some e) (hs : a.spot = none) (n l c : Nat) (hl : l ≤ c) : VR ρ (.slice (some (a.add n)) l c) (.slice (some ((⟨e.r, e.d + a.off, none⟩ : Addr).add n)) l c) := by
  obtain ⟨b, o, s⟩ := a
  simp only at hs
  subst hs
  have e1 : (⟨b, o, none⟩ : Addr).add n = ⟨b, o + n, none⟩ := by unfold Addr.add; split <;> simp_all
  have e2 : (⟨e.r, e.d + o, none⟩ : Addr).add n = ⟨e.r, e.d + (o + n), none⟩ := by unfold Addr.add; split <;> simp_all <;> omega
  rw [e1]
  show VR ρ _ (.slice (some ((⟨e.r, e.d + o, none⟩ : Addr).add n)) _ _)
  rw [e2]
  exact .slice h hl

theorem partV_run {P : Program} {ρ : Rho} {t : TypeId} {cs : List Value} {cs' : Array Value} {off : Nat} {v : Value} (h : partV P t cs off = some v) (hv : VRs ρ cs cs'.toList) (w : World) :
    ∃ v', VR ρ v v' ∧ (part t cs' off).run P w = .ok v' w := by
  unfold partV at h
  split at h
  · rename_i n hag hsz
    injection h with h
    subst h
    refine ⟨.agg ((cs'.toList.drop off).take n).toArray, ((hv.drop off).take n).toAgg, ?_⟩
    have e1 : cs'.extract off (off + n) = ((cs'.toList.drop off).take n).toArray := by
      apply Array.ext'
      simp [Array.toList_extract, List.extract]
    unfold part
    simp [isAgg_run hag, sizeOf_run hsz, e1]
  · rename_i hag
    obtain ⟨v', h1, h2⟩ := zip_get hv h
    refine ⟨v', h2, ?_⟩
    have h1' : cs'[off]? = some v' := by simpa using h1
    unfold part
    simp [isAgg_run hag, h1']
  · simp at h

def bsem (x : Option Value) (d y : Nat) (code : BoundsCode) : Sem Nat := match x with
  | some v => Instr.sliceBound v y code
  | none => pure d

theorem bound_run {P : Program} {x : Option Value} {d y n : Nat} (h : bound x d y = some n) (hd : d ≤ y) : n ≤ y ∧ ∀ (code : BoundsCode) (w : World), (bsem x d y code).run P w = .ok n w := by
  cases x with
  | none =>
    simp [bound] at h
    subst h
    exact ⟨hd, fun _ w => rfl⟩
  | some v =>
    cases v with
    | int k i =>
      simp only [bound] at h
      split at h
      · rename_i hi
        injection h with h
        subst h
        refine ⟨by omega, fun code w => ?_⟩
        simp [bsem, Instr.sliceBound, asIntOf, hi]
      · simp at h
    | _ => simp [bound] at h

theorem evOpt_sound {ρ : Rho} {F : Slots} {a : Act} {x : Option Operand} {v : Option Value} (h : evOpt F x = some v) (hr : OpR ρ F a x.toList) :
    (x = none ∧ v = none) ∨ ∃ y u, x = some y ∧ v = some u ∧ VR ρ u (a.eval y) := by
  unfold evOpt at h
  split at h
  · injection h with h; exact .inl ⟨rfl, h.symm⟩
  · rename_i y
    cases he : ev F y with
    | none => simp [he] at h
    | some u => simp [he] at h; exact .inr ⟨y, u, rfl, h.symm, hr y (by simp) u he⟩

/-- A bound of a slice expression is the same number in the frame. -/
theorem bound_map {ρ : Rho} {F : Slots} {a : Act} {x : Option Operand} {v : Option Value} {d y n : Nat} (h : evOpt F x = some v) (hr : OpR ρ F a x.toList) (hb : bound v d y = some n) : bound (x.map a.eval) d y = some n := by
  rcases evOpt_sound h hr with ⟨rfl, rfl⟩ | ⟨z, u, rfl, rfl, hv⟩
  · exact hb
  · unfold bound at hb
    cases u with
    | int k i => rw [Option.map_some, int_of hv]; exact hb
    | _ => simp at hb

end Go.Proofs.Ytfbjpenbpbpcaaa.Den
