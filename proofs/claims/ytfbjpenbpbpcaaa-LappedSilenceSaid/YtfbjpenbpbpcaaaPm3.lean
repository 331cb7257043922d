/-
  Regions whose order is open and that make blocks: the blocks' order is open, too; they are told by the slots that hold them.
-/
import Derived.Test.YtfbjpenbpbpcaaaPm2
import Derived.Test.YtfbjpenbpbpcaaaGc
namespace Go.Proofs.Ytfbjpenbpbpcaaa.Den
open Go

def blockOf : Value → Option Nat
  | .pointer (some a) => some a.block
  | .slice (some a) _ _ => some a.block
  | _ => none

def pickB (F : Slots) : List Nat → Option (List Nat)
  | [] => some []
  | t :: ts => match at? t F with
    | some v => match blockOf v with
      | some b => match pickB F ts with
        | some l => some (b :: l)
        | none => none
      | none => none
    | none => none

def getAll (H : Heap) : List Nat → Option Heap
  | [] => some []
  | i :: l => match H[i]? with
    | some b => match getAll H l with
      | some bs => some (b :: bs)
      | none => none
    | none => none

def renF (φ : Nat → Option Nat) (F : Slots) : List Nat → Option Slots
  | [] => some []
  | t :: ts => match at? t F with
    | some v => match ren φ 3 v with
      | some u => match renF φ F ts with
        | some l => some ((t, u) :: l)
        | none => none
      | none => none
    | none => none

/-- Of the blocks behind the first K only those that these slots hold, in this order. -/
def gcS (K : Nat) (sl ks : List Nat) (s : St) : Option (Slots × Heap × Nat) := match pickB s.F sl with
  | some sel => match nodupB sel && sel.all (fun i => Nat.ble K i && Nat.blt i s.H.length) && Nat.ble K s.H.length with
    | true => match getAll s.H sel, renF (gcN K sel) s.F ks with
      | some bs, some F2 => match (s.H.take K ++ bs).all fun b => b.cells.all (pf 3) with
        | true => some (F2, s.H.take K ++ bs, s.lo)
        | false => none
      | _, _ => none
    | false => none
  | none => none

theorem getAll_get {H : Heap} : ∀ {l : List Nat} {bs : Heap}, getAll H l = some bs → bs.length = l.length ∧ ∀ (j i : Nat), l[j]? = some i → bs[j]? = H[i]? := by
  intro l
  induction l with
  | nil => intro bs h; simp only [getAll, Option.some.injEq] at h; subst h; exact ⟨rfl, fun j i hj => by simp at hj⟩
  | cons x l ih =>
    intro bs h
    simp only [getAll] at h
    split at h
    · rename_i b hb
      split at h
      · rename_i bs1 hbs
        injection h with h
        subst h
        obtain ⟨h1, h2⟩ := ih hbs
        refine ⟨by simp [h1], fun j i hj => ?_⟩
        cases j with
        | zero => simp at hj; subst hj; simp [hb]
        | succ j => simpa using h2 j i (by simpa using hj)
      · simp at h
    · simp at h

theorem renF_get {φ : Nat → Option Nat} {F : Slots} : ∀ {ks : List Nat} {F2 : Slots}, renF φ F ks = some F2 → ∀ t v, at? t F2 = some v → ∃ u, at? t F = some u ∧ ren φ 3 u = some v := by
  intro ks
  induction ks with
  | nil => intro F2 h t v hv; simp only [renF, Option.some.injEq] at h; subst h; simp [at?] at hv
  | cons k ks ih =>
    intro F2 h t v hv
    simp only [renF] at h
    split at h
    · rename_i x hx
      split at h
      · rename_i u hu
        split at h
        · rename_i l hl
          injection h with h
          subst h
          simp only [at?] at hv
          split at hv
          · rename_i hb
            injection hv with hv
            subst hv
            have : k = t := Nat.eq_of_beq_eq_true hb
            subst this
            exact ⟨x, hx, hu⟩
          · exact ih hl t v hv
        · simp at h
      · simp at h
    · simp at h

theorem gcS_ok {K : Nat} {sl ks : List Nat} {s : St} {F2 : Slots} {H2 : Heap} {lo2 : Nat} (h : gcS K sl ks s = some (F2, H2, lo2)) : GcOk K s ⟨F2, H2, lo2⟩ := by
  unfold gcS at h
  split at h
  case h_2 => simp at h
  rename_i sel _
  split at h
  case h_2 => simp at h
  rename_i hc
  simp only [Bool.and_eq_true] at hc
  obtain ⟨⟨h1, h2⟩, h3⟩ := hc
  have h3 : K ≤ s.H.length := Nat.le_of_ble_eq_true h3
  split at h
  case h_2 => simp at h
  rename_i bs F3 hbs hF
  split at h
  case h_2 => simp at h
  rename_i hfl
  simp only [Option.some.injEq, Prod.mk.injEq] at h
  obtain ⟨rfl, rfl, rfl⟩ := h
  obtain ⟨g1, g2⟩ := getAll_get hbs
  have htk : (s.H.take K).length = K := by rw [List.length_take]; omega
  refine ⟨rfl, h3, sel, nodupB_ok h1, fun i hi => ?_, by simp [htk, g1], fun i hi => ?_, fun j i hj => ?_, fun i b hb => ?_, renF_get hF⟩
  · have := List.all_eq_true.1 h2 i hi
    simp only [Bool.and_eq_true] at this
    exact ⟨Nat.le_of_ble_eq_true this.1, by simpa [Nat.blt_eq] using this.2⟩
  · show (s.H.take K ++ bs)[i]? = _
    rw [List.getElem?_append_left (by omega), List.getElem?_take, if_pos hi]
  · show (s.H.take K ++ bs)[K + j]? = _
    rw [List.getElem?_append_right (by omega), htk, Nat.add_sub_cancel_left]
    exact g2 j i hj
  · exact List.all_eq_true.1 hfl b (List.mem_of_getElem? hb)

section
variable {P : Program} {X : Ext} {pre : Pre} {C : Oracle} {nt : Nat}

/-- The end's blocks that are not held any more, forgotten. -/
theorem FR.gc {ds : List Deferred} {ρ0 : Rho} {H0 : Heap} {w0 : World} {ρ : Rho} {K : Nat} {s s2 : St} {a : Act} {w : World} (hR : Rel ρ0 H0 w0 ρ s.H s.lo w) (hF : FR ds ρ nt s.F a) (hK : H0.length ≤ K) (hg : GcOk K s s2) :
    ∃ ρ2, Rel ρ0 H0 w0 ρ2 s2.H s2.lo w ∧ FR ds ρ2 nt s2.F a ∧ ∀ t : Rho, t.length ≤ K → t <+: ρ → t <+: ρ2 := by
  obtain ⟨e1, e2, sel, s1, s2', s3, s4, s5, s6, s7⟩ := hg
  have hr := gc_rel hR hK e2 s1 s2' s3 s4 s5 s6
  rw [← e1] at hr
  refine ⟨_, hr, ⟨hF.defers, hF.size, fun t v hv => ?_⟩, fun t ht hp => ?_⟩
  · obtain ⟨u, hu, hren⟩ := s7 t v hv
    obtain ⟨v', h3, h4⟩ := hF.slot t u hu
    refine ⟨v', h3, VR.ren ?_ 3 _ _ _ hren h4⟩
    intro bb c e hb he
    unfold gcN at hb
    split at hb
    · rename_i hlt
      injection hb with hb
      subst hb
      have hlt : bb < K := by simpa [Nat.blt_eq] using hlt
      rw [List.getElem?_append_left (by rw [List.length_take, hR.sr.len]; omega), List.getElem?_take, if_pos hlt]
      exact he
    · split at hb
      · rename_i j hj
        injection hb with hb
        subst hb
        have hs := pos_get hj
        have htk : (ρ.take K).length = K := by rw [List.length_take, hR.sr.len]; omega
        rw [List.getElem?_append_right (by rw [htk]; omega), htk, Nat.add_sub_cancel_left, List.getElem?_map, hs]
        simp [List.getD_eq_getElem?_getD, he]
      · simp at hb
  · obtain ⟨r, hr⟩ := hp
    have e : ρ.take K = t ++ r.take (K - t.length) := by rw [← hr, List.take_append, List.take_of_length_le (l := t) ht]
    exact ⟨r.take (K - t.length) ++ sel.map fun i => ρ.getD i ⟨0, 0, 0⟩, by rw [e, List.append_assoc]⟩

theorem WP.permG (ok : ProgOk P) (hX : XSound P X) (hC : Sound P (strict pre C)) {c : Code} (hc : (isDraw c && (opsOf c).toList.all noSel) = true) {F : Slots} {H : Heap} {lo : Nat} (os : Path) (sl ks : List Nat) (k : Nat) {F' : Slots} {H' : Heap} {lo' : Nat} {ob : Obs}
    (h : (evPermS P X pre C nt (opsOf c).toList (opsOf c).toList.length (List.replicate (opsOf c).toList.length false) ⟨⟨F, H, lo⟩, os, []⟩).map (fun L => L.map fun t => (gcS H.length sl ks t.s, t.ob)) = some (List.replicate k (some (F', H', lo'), ob))) (hh : Holds ob) (hlo : lo' ≤ lo) :
    WP P nt c ⟨F, H, lo⟩ .normal ⟨F', H', lo'⟩ := by
  cases hL : evPermS P X pre C nt (opsOf c).toList (opsOf c).toList.length (List.replicate (opsOf c).toList.length false) ⟨⟨F, H, lo⟩, os, []⟩ with
  | none => rw [hL] at h; simp at h
  | some L =>
    rw [hL] at h
    simp only [Option.map_some, Option.some.injEq] at h
    have hall : ∀ t ∈ L, gcS H.length sl ks t.s = some (F', H', lo') ∧ t.ob = ob := by
      intro t ht
      have : (gcS H.length sl ks t.s, t.ob) ∈ L.map fun t => (gcS H.length sl ks t.s, t.ob) := List.mem_map.2 ⟨t, ht, rfl⟩
      rw [h] at this
      have := (List.mem_replicate.1 this).2
      simpa using this
    obtain ⟨hP, _, _⟩ := evPermS_eq _ _ _ _ hL fun t ht => by rw [(hall t ht).2]; exact hh
    simp only [Bool.and_eq_true] at hc
    obtain ⟨hd, hsel⟩ := hc
    unfold isDraw at hd
    split at hd
    case h_2 => simp at hd
    rename_i id ops
    simp only [opsOf] at hP hsel
    intro B Ds ρ0 H0 w0 ρ a w Q hR hF hM hQ
    refine wpIn_mono (Q := onlyN (Q .normal)) ?_ (fun e a w h => by cases e <;> first | exact h | exact h.elim)
    have hq0 : Quiet w { w with drawn := w.drawn + 1 } := ⟨rfl, rfl, rfl, Nat.le_refl _, fun _ _ => rfl, fun _ => rfl⟩
    have hR1 : Rel ρ H w ρ H lo { w with drawn := w.drawn + 1 } := Rel.of_quiet hR.sr hq0 lo
    refine wpIn_region_any ok.mixed (anyx hsel (onlyN_out _) _ _ _ _ (perm_any (Q := onlyN (Q .normal)) ok hX hC hsel ops.size (Array.replicate ops.size false) ⟨F, H, lo⟩ (L.map (·.s)) (by simp) ?_ (by simpa using hP) ?_ ρ a _ hR1 hF))
    · unfold left
      have := List.length_filter_le (fun i => !(Array.replicate ops.size false).getD i true) (List.range ops.size)
      simpa using this
    · intro s' hs' ρ' a' w' p q
      obtain ⟨t, ht, rfl⟩ := List.mem_map.1 hs'
      obtain ⟨e1, _⟩ := hall t ht
      obtain ⟨ρ2, r1, r2, r3⟩ := FR.gc p q (Nat.le_refl _) (gcS_ok e1)
      have hk := r1.others hR.sr
      have htr := hR.trans r1
      rw [Nat.min_eq_right hlo] at htr
      exact hQ ρ2 Ds a' w' (r3 ρ (by rw [hR.sr.len]; exact Nat.le_refl _) p.pre) htr r2 (hM.keep hk) hk
end
end Go.Proofs.Ytfbjpenbpbpcaaa.Den

