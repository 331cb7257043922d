/- Parts of the proof, joined: Den17, Vw, Fr. -/
import Derived.Test.YtpgmabpaiijipaaGreatDoorZ04
import Derived.Test.YtpgmabpaiijipaaGreatDoorZ03
namespace Go.Proofs.YtpgmabpaiijipaaGreatDoor.Den
open Go
def heldBy (n : Nat) (v : Value) (Hs : Heap) : List Nat :=
  (reach Hs Hs.length (addN [] (refs 3 v ++ (Hs.take n).flatMap fun b => b.cells.flatMap (refs 3)))).filter fun b => Nat.ble n b
def backS (e sel : List Nat) (k : Nat) (b : Nat) : Option Nat := match e[b]? with
  | some c => some c
  | none => match pos b sel with
    | some j => some (k + j)
    | none => none
def backG (e sel : List Nat) (H : Heap) (v : Value) (Hs' : Heap) (ls : Nat) : Option (Value × Heap × Nat) :=
  match nodupB sel && sel.all (fun i => Nat.ble e.length i && Nat.blt i Hs'.length) with
  | true => match ren (backS e sel H.length) 3 v with
    | some v => match mapAll (renB (backS e sel H.length)) (Hs'.take e.length) with
      | some olds => match blks (backS e sel H.length) Hs' sel with
        | some news => forceL (putAll e olds H ++ news) fun H' => some (v, H', (e.drop ls).foldl min H.length)
        | none => none
      | none => none
    | none => none
  | false => none
def cutG (args : List Value) (H : Heap) : Option (List Nat × List Value × Heap) :=
  cutE (reach H H.length (addN [] (args.flatMap (refs 3)))) args H
def frameG (C : Oracle) : Oracle := fun f args H => match cutG args H with
  | some (e, a, Hs) => match C f a Hs with
    | some (v, Hs', ls) => backG e (heldBy e.length v Hs') H v Hs' ls
    | none => none
  | none => none
theorem frameG_sound {P : Program} {C : Oracle} (hC : Sound P C) : Sound P (frameG C) := by
  intro f args H v H' l h
  unfold frameG at h
  split at h
  case h_2 => simp at h
  rename_i e a Hs hcut
  split at h
  case h_2 => simp at h
  rename_i vS Hs' ls hc
  have hcall : CallOk P f a Hs vS Hs' ls := hC f a Hs vS Hs' ls hc
  obtain ⟨h1, h2, h3, h4, h5⟩ := cutE_ok hcut
  rw [← h1] at h2 h3 h4 h5
  obtain ⟨b1, b2⟩ := blks_get h5
  generalize heldBy e.length vS Hs' = sel at h
  unfold backG at h
  split at h
  case h_2 => simp at h
  rename_i hsel
  simp only [Bool.and_eq_true] at hsel
  split at h
  case h_2 => simp at h
  rename_i v2 hv
  split at h
  case h_2 => simp at h
  rename_i olds ho
  split at h
  case h_2 => simp at h
  rename_i news hnw
  simp only [forceL_eq, Option.some.injEq, Prod.mk.injEq] at h
  obtain ⟨rfl, rfl, rfl⟩ := h
  obtain ⟨m1, m2⟩ := foldl_min (e.drop ls) H.length
  refine hcall.frame (ψ := fun b => pos b e) (φ := backS e sel H.length) (sel := sel) h2 b1 (fun b c hb => pos_get hb) h4 (fun i k hi => ?_) h3 (nodupB_ok hsel.1) (fun j i hj => ?_) (fun b c hb => ?_) hv ?_ hnw ?_
  · obtain ⟨B, b, p, q, r⟩ := b2 i k hi
    exact ⟨B, b, p, q, r⟩
  · have := List.all_eq_true.1 hsel.2 i (List.mem_of_getElem? hj)
    simp only [Bool.and_eq_true, Nat.ble_eq, Nat.blt_eq] at this
    rw [← b1]
    exact this
  · unfold backS at hb
    split at hb
    · rename_i c' hc'
      injection hb with hb
      subst hb
      obtain ⟨B, _, p, _⟩ := b2 b _ hc'
      exact .inl ⟨(List.getElem?_eq_some_iff.1 p).1, hc'⟩
    · split at hb
      · rename_i j hj
        injection hb with hb
        subst hb
        exact .inr ⟨j, rfl, pos_get hj⟩
      · simp at hb
  · rw [← b1]; exact ho
  · intro j x hj hlj
    refine m2 x (List.mem_iff_getElem?.2 ⟨j - ls, ?_⟩)
    rw [List.getElem?_drop, show ls + (j - ls) = j by omega]
    exact hj
structure Tld where
  f : FuncId
  args : List Value
  H : Heap
  v : Value
  H' : Heap
  l : Nat
def tellT : List Tld → Oracle
  | [], _, _, _ => none
  | t :: T, f, args, H => match Nat.beq t.f f && (eqV.eqVs (eqV 6) args t.args && eqH H t.H) with
    | true => some (t.v, t.H', t.l)
    | false => tellT T f args H
theorem tellT_sound {P : Program} : ∀ (T : List Tld), (∀ t ∈ T, CallOk P t.f t.args t.H t.v t.H' t.l) → Sound P (tellT T) := by
  intro T
  induction T with
  | nil => intro _ f args H v H' l h; simp [tellT] at h
  | cons t T ih =>
    intro hT f args H v H' l h
    simp only [tellT] at h
    split at h
    · rename_i hc
      simp only [Bool.and_eq_true] at hc
      simp only [Option.some.injEq, Prod.mk.injEq] at h
      obtain ⟨rfl, rfl, rfl⟩ := h
      have h1 : t.f = f := Nat.eq_of_beq_eq_true hc.1
      have h2 := eqVs_eq (eqV_eq 6) _ _ hc.2.1
      have h3 := eqH_eq _ _ hc.2.2
      subst h1 h2 h3
      exact hT t (by simp)
    · exact ih (fun t ht => hT t (by simp [ht])) f args H v H' l h
def evG (P : Program) (X : Ext) (N : Nat) (C0 : Oracle) : Nat → Oracle
  | 0 => C0
  | n + 1 => frameG fun f args H => match C0 f args H with
    | some r => some r
    | none => evFn P X N (evG P X N C0 n) f args H
theorem evG_sound {P : Program} {X : Ext} (ok : ProgOk P) (hX : XSound P X) (N : Nat) {C0 : Oracle} (h0 : Sound P C0) : ∀ n, Sound P (evG P X N C0 n) := by
  intro n
  induction n with
  | zero => exact h0
  | succ n ih => exact frameG_sound (Sound.or h0 (evFn_sound ok hX ih N))
end Go.Proofs.YtpgmabpaiijipaaGreatDoor.Den
namespace Go.Proofs.YtpgmabpaiijipaaGreatDoor.Den
open Go
def Views (K : Nat) (s s2 : St) : Prop := ∀ (ρ0 : Rho) (H0 : Heap) (w0 : World) (ρ : Rho) (w : World), H0.length ≤ K → Rel ρ0 H0 w0 ρ s.H s.lo w →
  ∃ ρ2, ρ.take K <+: ρ2 ∧ Rel ρ0 H0 w0 ρ2 s2.H s2.lo w ∧ ∀ ds nt a, FR ds ρ nt s.F a → FR ds ρ2 nt s2.F a
theorem Views.refl (K : Nat) (s : St) : Views K s s := fun _ _ _ ρ _ _ hR => ⟨ρ, List.take_prefix _ _, hR, fun _ _ _ h => h⟩
theorem take_take_prefix {ρ ρ2 : Rho} {K : Nat} (h : ρ.take K <+: ρ2) : ρ.take K <+: ρ2.take K := by
  obtain ⟨t, ht⟩ := h
  have hl : (ρ.take K).length ≤ K := by rw [List.length_take]; omega
  refine ⟨t.take (K - (ρ.take K).length), ?_⟩
  rw [← ht, List.take_append, List.take_of_length_le hl]
theorem Views.trans {K : Nat} {s s2 s3 : St} (h : Views K s s2) (k : Views K s2 s3) : Views K s s3 := by
  intro ρ0 H0 w0 ρ w hK hR
  obtain ⟨ρ2, p2, R2, F2⟩ := h ρ0 H0 w0 ρ w hK hR
  obtain ⟨ρ3, p3, R3, F3⟩ := k ρ0 H0 w0 ρ2 w hK R2
  exact ⟨ρ3, (take_take_prefix p2).trans p3, R3, fun ds nt a hF => F3 ds nt a (F2 ds nt a hF)⟩
theorem Views.sub {K : Nat} {F G : Slots} {H : Heap} {lo : Nat} (h : Sub F G) : Views K ⟨G, H, lo⟩ ⟨F, H, lo⟩ := fun _ _ _ ρ _ _ hR => ⟨ρ, List.take_prefix _ _, hR, fun _ _ _ hF => hF.sub h⟩
theorem Views.lo {K : Nat} {F : Slots} {H : Heap} {lo lo' : Nat} (h : lo' ≤ lo) : Views K ⟨F, H, lo⟩ ⟨F, H, lo'⟩ := fun _ _ _ ρ _ _ hR => ⟨ρ, List.take_prefix _ _, hR.mono h, fun _ _ _ hF => hF⟩
theorem Views.canon {K : Nat} {F : Slots} {H : Heap} {lo : Nat} {F2 : Slots} {H2 : Heap} (sel : List Nat) (hK : K ≤ H.length) (hsn : sel.Nodup) (hsel : ∀ i ∈ sel, K ≤ i ∧ i < H.length)
    (hlen : H2.length = K + sel.length) (hold : ∀ i b2, i < K → H2[i]? = some b2 → ∃ b, H[i]? = some b ∧ Den.renA (gcN K sel) b = some b2)
    (hnew : ∀ j i b2, sel[j]? = some i → H2[K + j]? = some b2 → ∃ b, H[i]? = some b ∧ Den.renA (gcN K sel) b = some b2)
    (hF : ∀ t v, at? t F2 = some v → ∃ u, at? t F = some u ∧ ren (gcN K sel) 3 u = some v) : Views K ⟨F, H, lo⟩ ⟨F2, H2, lo⟩ := by
  intro ρ0 H0 w0 ρ w hK0 hR
  obtain ⟨h1, h2⟩ := canon_rel hR hK0 hK hsn hsel hlen hold hnew
  refine ⟨_, List.prefix_append _ _, h1, fun ds nt a hF' => ⟨hF'.defers, hF'.size, fun t v hv => ?_⟩⟩
  obtain ⟨u, hu, hren⟩ := hF t v hv
  obtain ⟨v', h3, h4⟩ := hF'.slot t u hu
  exact ⟨v', h3, VR.ren h2 3 _ _ _ hren h4⟩
def moveN (g n : Nat) (b : Nat) : Option Nat := some (match Nat.beq b g with
  | true => n
  | false => b)
theorem moveN_eq {g n b c : Nat} (h : moveN g n b = some c) : (b = g ∧ c = n) ∨ (b ≠ g ∧ c = b) := by
  unfold moveN at h
  injection h with h
  split at h
  · rename_i hb
    exact .inl ⟨Nat.eq_of_beq_eq_true hb, h.symm⟩
  · rename_i hb
    exact .inr ⟨fun e => by subst e; simp at hb, h.symm⟩
theorem Views.spend {K g : Nat} {F F2 : Slots} {H H2 : Heap} {lo : Nat} {old : Blk} (hg : H[g]? = some old) (hlive : live old = true) (hown : old.own = true)
    (hlen : H2.length = H.length + 1) (hold : ∀ i b2, i < H.length → i ≠ g → H2[i]? = some b2 → ∃ b, H[i]? = some b ∧ Den.renA (moveN g H.length) b = some b2)
    (hsp : H2[g]? = some ⟨false, none, []⟩) (hnew : ∀ b2, H2[H.length]? = some b2 → Den.renA (moveN g H.length) old = some b2)
    (hF : ∀ t v, at? t F2 = some v → ∃ u, at? t F = some u ∧ ren (moveN g H.length) 3 u = some v) : Views K ⟨F, H, lo⟩ ⟨F2, H2, min lo g⟩ := by
  intro ρ0 H0 w0 ρ w hK0 hR0
  have hR : Rel ρ0 H0 w0 ρ H (min lo g) w := Rel.mono hR0 (Nat.min_le_left _ _)
  have hgl := (List.getElem?_eq_some_iff.1 hg).1
  have hlρ : ρ.length = H.length := hR.sr.len
  obtain ⟨e, he⟩ : ∃ e, ρ[g]? = some e := ⟨_, List.getElem?_eq_getElem (by omega)⟩
  have hpre : ρ <+: ρ ++ [e] := List.prefix_append _ _
  have hφ : ∀ (b c : Nat) (x : Ent), moveN g H.length b = some c → ρ[b]? = some x → (ρ ++ [e])[c]? = some x := by
    intro b c x hb hx
    rcases moveN_eq hb with ⟨rfl, rfl⟩ | ⟨_, rfl⟩
    · rw [he] at hx
      injection hx with hx
      subst hx
      rw [← hlρ, List.getElem?_append_right (Nat.le_refl _), Nat.sub_self]
      rfl
    · exact prefix_get hpre hx
  have hlast : (ρ ++ [e])[H.length]? = some e := by rw [← hlρ, List.getElem?_append_right (Nat.le_refl _), Nat.sub_self]; rfl
  have place : ∀ (i : Nat) (x : Ent) (b2 : Blk), (ρ ++ [e])[i]? = some x → H2[i]? = some b2 → (i = g ∧ b2 = ⟨false, none, []⟩ ∧ x = e) ∨
      (∃ k b, ρ[k]? = some x ∧ H[k]? = some b ∧ Den.renA (moveN g H.length) b = some b2 ∧ ((i = H.length ∧ k = g) ∨ (i < H.length ∧ i ≠ g ∧ k = i))) := by
    intro i x b2 hi hb
    have hil : i < H.length + 1 := by rw [← hlen]; exact (List.getElem?_eq_some_iff.1 hb).1
    by_cases h1 : i = H.length
    · subst h1
      rw [hlast] at hi
      injection hi with hi
      subst hi
      exact .inr ⟨g, old, he, hg, hnew b2 hb, .inl ⟨rfl, rfl⟩⟩
    · have hlt : i < H.length := by omega
      rw [List.getElem?_append_left (by omega)] at hi
      by_cases h2 : i = g
      · subst h2
        rw [hsp] at hb
        injection hb with hb
        rw [he] at hi
        injection hi with hi
        exact .inl ⟨rfl, hb.symm, hi.symm⟩
      · obtain ⟨b, h3, h4⟩ := hold i b2 hlt h2 hb
        exact .inr ⟨i, b, hi, h3, h4, .inr ⟨hlt, h2, rfl⟩⟩
  refine ⟨ρ ++ [e], (List.take_prefix _ _).trans hpre, ⟨hR.gl0, hR.len0, hR.pre.trans hpre, ⟨?_, ?_, ?_⟩, by have := hR.len; rw [hlen]; omega, ?_, ?_, hR.os, hR.tape, hR.output, hR.size, hR.keep⟩, ?_⟩
  · rw [List.length_append, hlen, hlρ]; rfl
  · intro i x b2 hi hb
    rcases place i x b2 hi hb with ⟨rfl, rfl, rfl⟩ | ⟨k, b, h1, h2, h3, _⟩
    · obtain ⟨c, el, fz, k1, _⟩ := (hR.sr.blk i x old he hg).row hlive
      exact .inl ⟨rfl, c, el, fz, k1, fun i v hv => by simp at hv, fun h => by simp at h, fun sz h => by simp at h⟩
    · exact BR.renA hφ h3 (hR.sr.blk k x b h1 h2)
  · intro i j x x' b b' hij hi hj hb hb' ho hc
    rcases place i x b hi hb with ⟨rfl, rfl, rfl⟩ | ⟨k, c, h1, h2, h3, p1⟩
    · simp at ho
    rcases place j x' b' hj hb' with ⟨rfl, rfl, rfl⟩ | ⟨k', c', h1', h2', h3', p2⟩
    · simp at hc
    refine hR.sr.inj k k' x x' c c' (fun hh => hij ?_) h1 h1' h2 h2' ((renA_eq h3).1 ▸ ho) ((renA_ne h3').1 hc)
    rcases p1 with ⟨a, b⟩ | ⟨a, b, d⟩ <;> rcases p2 with ⟨a', b'⟩ | ⟨a', b', d'⟩ <;> omega
  · intro i b2 hi hb ho
    have hle := hR.len
    have hx : (ρ ++ [e])[i]? = some ((ρ ++ [e])[i]'(by simp; omega)) := List.getElem?_eq_getElem _
    rcases place i _ b2 hx hb with ⟨rfl, rfl, _⟩ | ⟨k, c, _, h2, h3, p⟩
    · simp at ho
    · rcases p with ⟨a, b⟩ | ⟨a, b, d⟩
      · omega
      · subst d
        exact hR.own k c hi h2 ((renA_eq h3).1 ▸ ho)
  · intro i x hi hx
    by_cases h1 : i < H.length
    · rw [List.getElem?_append_left (by omega)] at hx
      exact hR.new i x hi hx
    · have : i = H.length := by
        have := (List.getElem?_eq_some_iff.1 hx).1
        simp at this
        omega
      subst this
      rw [hlast] at hx
      injection hx with hx
      subst hx
      by_cases h2 : g < H0.length
      · obtain ⟨b0, hb0, ho0⟩ := hR.own g old h2 hg hown
        have hρ0 : ρ0[g]? = some e := by
          obtain ⟨z, hz⟩ : ∃ z, ρ0[g]? = some z := ⟨_, List.getElem?_eq_getElem (by rw [hR.len0]; exact h2)⟩
          have := prefix_get hR.pre hz
          rw [he] at this
          injection this with this
          rw [this]; exact hz
        exact .inr ⟨g, e, b0, hρ0, hb0, ho0, Nat.min_le_right _ _, rfl⟩
      · exact hR.new g e (by omega) he
  · intro ds nt a hF'
    refine ⟨hF'.defers, hF'.size, fun t v hv => ?_⟩
    obtain ⟨u, hu, hren⟩ := hF t v hv
    obtain ⟨v', h3, h4⟩ := hF'.slot t u hu
    exact ⟨v', h3, VR.ren hφ 3 _ _ _ hren h4⟩
section
variable {P : Program} {nt : Nat}
theorem WP.loopV {b : Code} (s0 : St) (S T : Nat → St) (n : Nat) {x : Ex} {s' : St} (hx : x ≠ .normal) (h0 : Views s0.H.length s0 (S 0)) (h1 : ∀ i, i < n → WP P nt b (S i) .normal (T i)) (hv : ∀ i, i < n → Views s0.H.length (T i) (S (i + 1)))
    (h2 : WP P nt b (S n) x s') : WP P nt (.loop b) s0 x s' := by
  intro B Ds ρ0 H0 w0 ρ a w Q hR hF hM hQ
  refine wpIn_loop_rounds (n + 1) ?_
  have hl0 : ρ.length = s0.H.length := hR.sr.len
  have ht0 : ρ.take s0.H.length = ρ := by rw [← hl0]; exact List.take_length
  have key : ∀ (m i : Nat), i + m = n → ∀ (ρ1 : Rho) (Ds : List Nat) (a : Act) (w1 : World), ρ <+: ρ1 → Rel ρ0 H0 w0 ρ1 (S i).H (S i).lo w1 → FR (marks Ds) ρ1 nt (S i).F a → Marked B w1 Ds → KeepsOthers w w1 → Code.roundsIn (FX none) 0 P b Q (m + 1) a w1 := by
    intro m
    induction m with
    | zero =>
      intro i hi ρ1 Ds a w1 hpre hR hF hM hk
      have : i = n := by omega
      subst this
      refine h2 B Ds ρ0 H0 w0 ρ1 a w1 _ hR hF hM fun ρ' Ds' a' w' g p q m k => ?_
      have := hQ ρ' Ds' a' w' (hpre.trans g) p q m (hk.trans k)
      cases x with
      | normal => exact (hx rfl).elim
      | exit i => exact this
      | ret => exact this
    | succ m ih =>
      intro i hi ρ1 Ds a w1 hpre hR1 hF hM hk
      refine h1 i (by omega) B Ds ρ0 H0 w0 ρ1 a w1 _ hR1 hF hM fun ρ' Ds' a' w' g p q m k => ?_
      obtain ⟨ρ3, p3, R3, F3⟩ := hv i (by omega) ρ0 H0 w0 ρ' w' hR.len p
      have hpre' : ρ <+: ρ3 := by
        obtain ⟨t, ht⟩ := hpre.trans g
        refine List.IsPrefix.trans ?_ p3
        rw [← ht, ← hl0, List.take_left]
        exact List.prefix_refl _
      exact ih (i + 1) (by omega) ρ3 Ds' a' w' hpre' R3 (F3 _ _ _ q) m (hk.trans k)
  obtain ⟨ρ2, p2, R2, F2⟩ := h0 ρ0 H0 w0 ρ w hR.len hR
  rw [ht0] at p2
  exact key n 0 (by omega) ρ2 Ds a w p2 R2 (F2 _ _ _ hF) hM (KeepsOthers.refl w)
theorem WP.whileV {b : Code} {α : Type} (s0 : St) (S : α → St) (inv : α → Prop) (μ : α → Nat) {x : Ex} {s' : St} (hx : x ≠ .normal)
    (h : ∀ a, inv a → WP P nt b (S a) x s' ∨ ∃ a' T, inv a' ∧ μ a' < μ a ∧ WP P nt b (S a) .normal T ∧ Views s0.H.length T (S a')) (a : α) (ha : inv a) (h0 : Views s0.H.length s0 (S a)) : WP P nt (.loop b) s0 x s' := by
  have key : ∀ (n : Nat) (a : α), μ a ≤ n → inv a → ∃ (k : Nat) (R : Nat → α) (T : Nat → St), R 0 = a ∧ (∀ i, i < k → WP P nt b (S (R i)) .normal (T i)) ∧ (∀ i, i < k → Views s0.H.length (T i) (S (R (i + 1)))) ∧ WP P nt b (S (R k)) x s' := by
    intro n
    induction n with
    | zero =>
      intro a ha hi
      rcases h a hi with h1 | ⟨a', _, _, hl, _⟩
      · exact ⟨0, fun _ => a, fun _ => s0, rfl, fun i hi => by omega, fun i hi => by omega, h1⟩
      · omega
    | succ n ih =>
      intro a ha hi
      rcases h a hi with h1 | ⟨a', T0, hi', hl, hw, hvw⟩
      · exact ⟨0, fun _ => a, fun _ => s0, rfl, fun i hi => by omega, fun i hi => by omega, h1⟩
      · obtain ⟨k, R, T, h0, h1, h2, h3⟩ := ih a' (by omega) hi'
        refine ⟨k + 1, fun i => match i with
          | 0 => a
          | i + 1 => R i, fun i => match i with
          | 0 => T0
          | i + 1 => T i, rfl, fun i hik => ?_, fun i hik => ?_, h3⟩
        · cases i with
          | zero => exact hw
          | succ i => exact h1 i (by omega)
        · cases i with
          | zero => simp only [h0]; exact hvw
          | succ i => exact h2 i (by omega)
  obtain ⟨k, R, T, h1, h2, h3, h4⟩ := key _ a (Nat.le_refl _) ha
  exact WP.loopV s0 (fun i => S (R i)) T k hx (by simpa only [h1] using h0) h2 h3 h4
theorem CallOk.view {f : FuncId} {args : List Value} {H : Heap} {v : Value} {H' : Heap} {l : Nat} (h : CallOk P f args H v H' l) {v2 : Value} {H2 : Heap} {l2 : Nat} (hv : Views H.length ⟨[(0, v)], H', l⟩ ⟨[(0, v2)], H2, l2⟩) : CallOk P f args H v2 H2 l2 := by
  intro ρ w args' ha hs
  refine (h ρ w args' ha hs).mono ?_
  rintro ex w' ⟨ρ', v', rfl, hvr, hR⟩
  obtain ⟨ρ2, _, R2, F2⟩ := hv ρ H w ρ' w' (Nat.le_refl _) hR
  have hF : FR [] ρ' 1 [(0, v)] { tmps := #[v'], defers := [] } := ⟨rfl, rfl, fun t u hu => by
    simp only [at?] at hu
    split at hu
    · rename_i hb
      have : 0 = t := Nat.eq_of_beq_eq_true hb
      subst this
      injection hu with hu
      subst hu
      exact ⟨v', rfl, hvr⟩
    · simp at hu⟩
  obtain ⟨u', h1, h2⟩ := (F2 _ _ _ hF).slot 0 v2 rfl
  simp at h1
  subst h1
  exact ⟨ρ2, v', rfl, h2, R2⟩
end
end Go.Proofs.YtpgmabpaiijipaaGreatDoor.Den
namespace Go.Proofs.YtpgmabpaiijipaaGreatDoor.Den
open Go
def opq (b : Blk) : Bool := match b.grown with
  | none => !b.own
  | some n => Nat.beq n 1
def Flat (b : Blk) : Prop := ∀ φ, mapAll (Den.ren φ 3) b.cells = some b.cells
def renQ (φ : Nat → Option Nat) (b : Blk) : Option Blk := match opq b with
  | true => some b
  | false => renB φ b
theorem opq_live {b : Blk} (h : opq b = true) : live b = true := by
  unfold opq at h
  unfold live
  split at h
  · rename_i hg; rw [hg]
  · rename_i n hg
    have := Nat.eq_of_beq_eq_true h
    subst this
    rw [hg]
    rfl
theorem renQ_ok {φ : Nat → Option Nat} {b c : Blk} (hf : opq b = true → Flat b) (h : renQ φ b = some c) : renB φ b = some c := by
  unfold renQ at h
  split at h
  · rename_i ho
    injection h with h
    subst h
    unfold renB
    rw [opq_live ho, hf ho φ]
  · exact h
def cellRefsQ (H : Heap) (b : Nat) : List Nat := match H[b]? with
  | some blk => match opq blk with
    | true => []
    | false => blk.cells.flatMap (refs 3)
  | none => []
def reachQ (H : Heap) : Nat → List Nat → List Nat
  | 0, l => l
  | n + 1, l => match addN l (l.flatMap (cellRefsQ H)) with
    | l' => match Nat.beq l'.length l.length with
      | true => l
      | false => reachQ H n l'
def blksQ (φ : Nat → Option Nat) (H : Heap) (sel : List Nat) : Option (List Blk) :=
  mapAll (fun i => match H[i]? with | some b => renQ φ b | none => none) sel
def cutQE (e : List Nat) (args : List Value) (H : Heap) : Option (List Nat × List Value × Heap) :=
  match nodupB e && H.all (fun b => match opq b with
    | true => true
    | false => !b.cells.isEmpty) with
  | true => match mapAll (ren (fun b => pos b e) 3) args with
    | some a => match blksQ (fun b => pos b e) H e with
      | some Hs => some (e, a, Hs)
      | none => none
    | none => none
  | false => none
def cutQ (args : List Value) (H : Heap) : Option (List Nat × List Value × Heap) :=
  cutQE (reachQ H H.length (addN [] (args.flatMap (refs 3)))) args H
def heldQ (n : Nat) (v : Value) (Hs : Heap) : List Nat :=
  (reachQ Hs Hs.length (addN [] (refs 3 v ++ (Hs.take n).flatMap fun b => match opq b with
    | true => []
    | false => b.cells.flatMap (refs 3)))).filter fun b => Nat.ble n b
def backQ (e sel : List Nat) (H : Heap) (v : Value) (Hs' : Heap) (ls : Nat) : Option (Value × Heap × Nat) :=
  match nodupB sel && sel.all (fun i => Nat.ble e.length i && Nat.blt i Hs'.length) with
  | true => match ren (backS e sel H.length) 3 v with
    | some v => match mapAll (renQ (backS e sel H.length)) (Hs'.take e.length) with
      | some olds => match blksQ (backS e sel H.length) Hs' sel with
        | some news => forceL (putAll e olds H ++ news) fun H' => some (v, H', (e.drop ls).foldl min H.length)
        | none => none
      | none => none
    | none => none
  | false => none
def RowsOk (e : List Nat) : Nat → Heap → Prop
  | _, [] => True
  | i, b :: H => (opq b = true → Flat b ∧ (b.cells ≠ [] ∨ (b.own = false ∧ b.grown = none ∧ i ∉ e))) ∧ RowsOk e (i + 1) H
theorem RowsOk.get {e : List Nat} : ∀ {H : Heap} {k : Nat}, RowsOk e k H → ∀ {i : Nat} {b : Blk}, H[i]? = some b → opq b = true → Flat b ∧ (b.cells ≠ [] ∨ (b.own = false ∧ b.grown = none ∧ k + i ∉ e)) := by
  intro H
  induction H with
  | nil => intro k _ i b h; simp at h
  | cons x H ih =>
    intro k h i b hi ho
    cases i with
    | zero =>
      simp at hi
      subst hi
      exact h.1 ho
    | succ i =>
      have := ih h.2 (i := i) (by simpa using hi) ho
      rwa [show k + 1 + i = k + (i + 1) by omega] at this
def RowsFlat : Heap → Prop
  | [] => True
  | b :: H => (opq b = true → Flat b) ∧ RowsFlat H
theorem RowsFlat.get : ∀ {H : Heap}, RowsFlat H → ∀ {b : Blk}, b ∈ H → opq b = true → Flat b := by
  intro H
  induction H with
  | nil => intro _ b h; simp at h
  | cons x H ih =>
    intro h b hb ho
    rcases List.mem_cons.1 hb with rfl | hb
    · exact h.1 ho
    · exact ih h.2 hb ho
def frameQ (C : Oracle) : Oracle := fun f args H => match cutQ args H with
  | some (e, a, Hs) => match C f a Hs with
    | some (v, Hs', ls) => backQ e (heldQ e.length v Hs') H v Hs' ls
    | none => none
  | none => none
noncomputable def frameQPre (pre : Pre) (C : Oracle) : Pre := fun f args H => match cutQ args H with
  | some (e, a, Hs) => match C f a Hs with
    | some (_, Hs', _) => pre f a Hs && cdec (RowsOk e 0 H ∧ RowsFlat Hs')
    | none => pre f a Hs
  | none => true
theorem frameQPre_ok {pre : Pre} {C : Oracle} {f : FuncId} {args : List Value} {H : Heap} {e : List Nat} {a : List Value} {Hs : Heap} {v : Value} {Hs' : Heap} {ls : Nat} (hcut : cutQ args H = some (e, a, Hs)) (hc : C f a Hs = some (v, Hs', ls))
    (hp : pre f a Hs = true) (h1 : RowsOk e 0 H) (h2 : RowsFlat Hs') : frameQPre pre C f args H = true := by
  unfold frameQPre
  simp only [hcut, hc, hp, Bool.true_and]
  exact cdec_iff.2 ⟨h1, h2⟩
theorem mapAll_congr {α β : Type} {f g : α → Option β} : ∀ {l : List α} {l' : List β}, (∀ x ∈ l, ∀ y, f x = some y → g x = some y) → mapAll f l = some l' → mapAll g l = some l' := by
  intro l
  induction l with
  | nil => intro l' _ h; simpa [mapAll] using h
  | cons x l ih =>
    intro l' hfg h
    simp only [mapAll] at h ⊢
    split at h
    · rename_i y hy
      rw [hfg x (by simp) y hy]
      cases hm : mapAll f l with
      | none => rw [hm] at h; simp at h
      | some ys =>
        rw [hm] at h
        simp only [ih (fun z hz => hfg z (by simp [hz])) hm]
        exact h
    · simp at h
theorem frameQ_sound {P : Program} {pre : Pre} {C : Oracle} (hC : Sound P (strict pre C)) : Sound P (strict (frameQPre pre C) (frameQ C)) := by
  intro f args H v H' l h
  unfold strict at h
  split at h
  case h_2 => simp at h
  rename_i hp
  unfold frameQ at h
  split at h
  case h_2 => simp at h
  rename_i e a Hs hcut
  split at h
  case h_2 => simp at h
  rename_i vS Hs' ls hc
  unfold frameQPre at hp
  simp only [hcut, hc, Bool.and_eq_true] at hp
  obtain ⟨hpre, hrows⟩ := hp
  obtain ⟨hrow, hflat⟩ := cdec_iff.1 hrows
  have hcall : CallOk P f a Hs vS Hs' ls := hC f a Hs vS Hs' ls (by unfold strict; rw [hpre]; exact hc)
  unfold cutQ cutQE at hcut
  split at hcut
  case h_2 => simp at hcut
  rename_i hcond
  split at hcut
  case h_2 => simp at hcut
  rename_i a0 ha
  split at hcut
  case h_2 => simp at hcut
  rename_i Hs0 hb
  simp only [Option.some.injEq, Prod.mk.injEq] at hcut
  obtain ⟨he, rfl, rfl⟩ := hcut
  rw [he] at hcond ha hb
  simp only [Bool.and_eq_true] at hcond
  obtain ⟨hnd, hall⟩ := hcond
  have h3 : ∀ (i : Nat) (b : Blk), H[i]? = some b → b.cells ≠ [] ∨ (b.own = false ∧ b.grown = none ∧ i ∉ e) := by
    intro i b hi
    have := List.all_eq_true.1 hall b (List.mem_of_getElem? hi)
    split at this
    · rename_i ho
      have := (hrow.get hi ho).2
      rwa [Nat.zero_add] at this
    · left
      simpa [List.isEmpty_eq_false_iff] using this
  have h5 : blks (fun b => pos b e) H e = some Hs0 := by
    unfold blks
    unfold blksQ at hb
    refine mapAll_congr (fun i _ y hy => ?_) hb
    split at hy
    · rename_i b hi
      simp only [hi]
      exact renQ_ok (fun ho => (hrow.get hi ho).1) hy
    · simp at hy
  obtain ⟨b1, b2⟩ := blks_get h5
  generalize heldQ e.length vS Hs' = sel at h
  unfold backQ at h
  split at h
  case h_2 => simp at h
  rename_i hsel
  simp only [Bool.and_eq_true] at hsel
  split at h
  case h_2 => simp at h
  rename_i v2 hv
  split at h
  case h_2 => simp at h
  rename_i olds ho
  split at h
  case h_2 => simp at h
  rename_i news hnw
  simp only [forceL_eq, Option.some.injEq, Prod.mk.injEq] at h
  obtain ⟨rfl, rfl, rfl⟩ := h
  have ho' : mapAll (renB (backS e sel H.length)) (Hs'.take e.length) = some olds := mapAll_congr (fun b hb y hy => renQ_ok (fun hq => hflat.get (List.mem_of_mem_take hb) hq) hy) ho
  have hnw' : blks (backS e sel H.length) Hs' sel = some news := by
    unfold blks
    unfold blksQ at hnw
    refine mapAll_congr (fun i _ y hy => ?_) hnw
    split at hy
    · rename_i b hi
      simp only [hi]
      exact renQ_ok (fun hq => hflat.get (List.mem_of_getElem? hi) hq) hy
    · simp at hy
  obtain ⟨m1, m2⟩ := foldl_min (e.drop ls) H.length
  refine hcall.frame (ψ := fun b => pos b e) (φ := backS e sel H.length) (sel := sel) (nodupB_ok hnd) b1 (fun b c hb => pos_get hb) ha (fun i k hi => ?_) h3 (nodupB_ok hsel.1) (fun j i hj => ?_) (fun b c hb => ?_) hv ?_ hnw' ?_
  · obtain ⟨B, b, p, q, r⟩ := b2 i k hi
    exact ⟨B, b, p, q, r⟩
  · have := List.all_eq_true.1 hsel.2 i (List.mem_of_getElem? hj)
    simp only [Bool.and_eq_true, Nat.ble_eq, Nat.blt_eq] at this
    rw [← b1]
    exact this
  · unfold backS at hb
    split at hb
    · rename_i c' hc'
      injection hb with hb
      subst hb
      obtain ⟨B, _, p, _⟩ := b2 b _ hc'
      exact .inl ⟨(List.getElem?_eq_some_iff.1 p).1, hc'⟩
    · split at hb
      · rename_i j hj
        injection hb with hb
        subst hb
        exact .inr ⟨j, rfl, pos_get hj⟩
      · simp at hb
  · rw [← b1]; exact ho'
  · intro j x hj hlj
    refine m2 x (List.mem_iff_getElem?.2 ⟨j - ls, ?_⟩)
    rw [List.getElem?_drop, show ls + (j - ls) = j by omega]
    exact hj
end Go.Proofs.YtpgmabpaiijipaaGreatDoor.Den
