/-
  A verified evaluator, sixteenth part: a call in a part of the heap is a call in the whole of it.
-/
import Derived.Test.YtfbjpenbpbpcaaaDen14
namespace Go.Proofs.Ytfbjpenbpbpcaaa.Den
open Go

/-- An address by another block number. -/
def ren0 (φ : Nat → Option Nat) : Value → Option Value
  | .pointer (some ⟨b, o, none⟩) => match φ b with
    | some c => some (.pointer (some ⟨c, o, none⟩))
    | none => none
  | .slice (some ⟨b, o, none⟩) l k => match φ b with
    | some c => some (.slice (some ⟨c, o, none⟩) l k)
    | none => none
  | v => if isFlat v then some v else none

/-- By other block numbers, down to a depth. -/
def ren (φ : Nat → Option Nat) : Nat → Value → Option Value
  | n + 1, .agg cs => match mapAll (ren φ n) cs.toList with
    | some l => some (.agg l.toArray)
    | none => none
  | n + 1, .tuple cs => match mapAll (ren φ n) cs.toList with
    | some l => some (.tuple l.toArray)
    | none => none
  | n + 1, .iface t v => match ren φ n v with
    | some v => some (.iface t v)
    | none => none
  | n + 1, .func f a b => match mapAll (ren φ n) a.toList with
    | some a => match mapAll (ren φ n) b.toList with
      | some b => some (.func f a.toArray b.toArray)
      | none => none
    | none => none
  | _, v => ren0 φ v

theorem mapAll_get {α β : Type} {f : α → Option β} : ∀ {l : List α} {l' : List β}, mapAll f l = some l' → l.length = l'.length ∧ ∀ (i : Nat) (x : α), l[i]? = some x → ∃ y, f x = some y ∧ l'[i]? = some y := by
  intro l
  induction l with
  | nil => intro l' h; simp [mapAll] at h; subst h; exact ⟨rfl, fun i x h => by simp at h⟩
  | cons x l ih =>
    intro l' h
    simp only [mapAll] at h
    split at h
    · rename_i y hy
      cases hm : mapAll f l with
      | none => simp [hm] at h
      | some us =>
        simp [hm] at h
        subst h
        obtain ⟨h1, h2⟩ := ih hm
        refine ⟨by simp [h1], fun i z hz => ?_⟩
        cases i with
        | zero => simp at hz; subst hz; exact ⟨y, hy, by simp⟩
        | succ i => simpa using h2 i z (by simpa using hz)
    · simp at h

theorem mapAll_back {α β : Type} {f : α → Option β} {l : List α} {l' : List β} (h : mapAll f l = some l') {i : Nat} {y : β} (hy : l'[i]? = some y) : ∃ x, l[i]? = some x ∧ f x = some y := by
  obtain ⟨h1, h2⟩ := mapAll_get h
  obtain ⟨hlt, _⟩ := List.getElem?_eq_some_iff.1 hy
  have hx : l[i]? = some l[i] := List.getElem?_eq_getElem (by omega)
  obtain ⟨z, h3, h4⟩ := h2 i _ hx
  rw [hy] at h4
  injection h4 with h4
  subst h4
  exact ⟨_, hx, h3⟩

theorem ren0_flat {φ : Nat → Option Nat} {v : Value} (h : isFlat v = true) : ren0 φ v = some v := by
  unfold ren0
  split
  · simp [isFlat] at h
  · simp [isFlat] at h
  · rw [if_pos h]

theorem VR.ren0 {φ : Nat → Option Nat} {ρ1 ρ2 : Rho} (hφ : ∀ (b c : Nat) (e : Ent), φ b = some c → ρ1[b]? = some e → ρ2[c]? = some e) {v u v' : Value} (h : Den.ren0 φ v = some u) (hv : VR ρ1 v v') : VR ρ2 u v' := by
  unfold Den.ren0 at h
  split at h
  · rename_i b o
    split at h
    · rename_i c hc
      injection h with h
      subst h
      cases hv with
      | flat hf => simp [isFlat] at hf
      | ptr h => exact .ptr (hφ _ _ _ hc h)
    · simp at h
  · rename_i b o l k
    split at h
    · rename_i c hc
      injection h with h
      subst h
      cases hv with
      | flat hf => simp [isFlat] at hf
      | slice h hl => exact .slice (hφ _ _ _ hc h) hl
      | sliceU h h0 hl => exact .sliceU (hφ _ _ _ hc h) h0 hl
    · simp at h
  · split at h
    · rename_i hf
      injection h with h
      subst h
      rw [isFlat_eq hf hv]
      exact .flat hf
    · simp at h

theorem VRs.ren {f : Value → Option Value} {ρ1 ρ2 : Rho} (hf : ∀ v u v', f v = some u → VR ρ1 v v' → VR ρ2 u v') {l l2 l' : List Value} (h : mapAll f l = some l2) (hv : VRs ρ1 l l') : VRs ρ2 l2 l' := by
  obtain ⟨h1, h2⟩ := mapAll_get h
  refine ⟨by rw [← h1, hv.1], fun i u v' hu hv' => ?_⟩
  obtain ⟨x, h3, h4⟩ := mapAll_back h hu
  exact hf _ _ _ h4 (hv.2 i x v' h3 hv')

theorem VR.ren {φ : Nat → Option Nat} {ρ1 ρ2 : Rho} (hφ : ∀ (b c : Nat) (e : Ent), φ b = some c → ρ1[b]? = some e → ρ2[c]? = some e) : ∀ (n : Nat) (v u v' : Value), Den.ren φ n v = some u → VR ρ1 v v' → VR ρ2 u v' := by
  intro n
  induction n with
  | zero => intro v u v' h hv; exact VR.ren0 hφ (by cases v <;> simpa [Den.ren] using h) hv
  | succ n ih =>
    intro v u v' h hv
    cases v with
    | agg cs =>
      simp only [Den.ren] at h
      split at h
      · rename_i l hl
        injection h with h
        subst h
        obtain ⟨cs', rfl, h2⟩ := agg_of hv
        have := (VRs.ren (fun v u v' => ih v u v') hl h2).toAgg
        simpa using this
      · simp at h
    | tuple cs =>
      simp only [Den.ren] at h
      split at h
      · rename_i l hl
        injection h with h
        subst h
        obtain ⟨cs', rfl, h2⟩ := tuple_of hv
        have := (VRs.ren (fun v u v' => ih v u v') hl h2).toTuple
        simpa using this
      · simp at h
    | iface t x =>
      simp only [Den.ren] at h
      split at h
      · rename_i y hy
        injection h with h
        subst h
        obtain ⟨x', rfl, h2⟩ := iface_of hv
        exact .iface (ih _ _ _ hy h2)
      · simp at h
    | func f a b =>
      simp only [Den.ren] at h
      split at h
      · rename_i la hla
        split at h
        · rename_i lb hlb
          injection h with h
          subst h
          obtain ⟨a', b', rfl, h2, h3⟩ := func_of hv
          have ha := VRs.ren (fun v u v' => ih v u v') hla h2
          have hb := VRs.ren (fun v u v' => ih v u v') hlb h3
          exact .func (by simpa using ha.1) (fun i v v' p q => ha.2 i v v' (by simpa using p) (by simpa using q)) (by simpa using hb.1) (fun i v v' p q => hb.2 i v v' (by simpa using p) (by simpa using q))
        · simp at h
      · simp at h
    | _ => exact VR.ren0 hφ (by simpa [Den.ren] using h) hv

def renB (φ : Nat → Option Nat) (b : Blk) : Option Blk := match mapAll (ren φ 3) b.cells with
  | some cs => some ⟨b.own, b.grown, cs⟩
  | none => none

theorem renB_eq {φ : Nat → Option Nat} {b c : Blk} (h : renB φ b = some c) : c.own = b.own ∧ c.grown = b.grown ∧ mapAll (ren φ 3) b.cells = some c.cells := by
  unfold renB at h
  split at h
  · rename_i cs hcs
    injection h with h
    subst h
    exact ⟨rfl, rfl, hcs⟩
  · simp at h

theorem BR.ren {φ : Nat → Option Nat} {ρ1 ρ2 : Rho} (hφ : ∀ (b c : Nat) (e : Ent), φ b = some c → ρ1[b]? = some e → ρ2[c]? = some e) {w : World} {e : Ent} {b c : Blk} (h : renB φ b = some c) (hb : BR ρ1 w e b) : BR ρ2 w e c := by
  obtain ⟨h1, h2, h3⟩ := renB_eq h
  obtain ⟨cs, el, fz, k1, k2, k3, k4⟩ := hb
  refine ⟨cs, el, fz, k1, fun i u hu => ?_, fun ho => k3 (by rw [← h1]; exact ho), fun sz hs => k4 sz (by rw [← h2]; exact hs)⟩
  obtain ⟨x, h4, h5⟩ := mapAll_back h3 hu
  obtain ⟨o, v', h6, h7⟩ := k2 i x h4
  have h8 := VR.ren hφ 3 _ _ _ h5 h7
  exact ⟨by rw [← h8.oneCell, h7.oneCell]; exact o, v', h6, h8⟩

theorem renB_ne {φ : Nat → Option Nat} {b c : Blk} (h : renB φ b = some c) : c.cells ≠ [] ↔ b.cells ≠ [] := by
  obtain ⟨_, _, h3⟩ := renB_eq h
  have := (mapAll_get h3).1
  rw [← List.length_pos_iff, ← List.length_pos_iff, this]

/-- The blocks with these numbers, anew. -/
def putAll : List Nat → List Blk → Heap → Heap
  | i :: e, b :: bs, H => putAll e bs (H.set i b)
  | _, _, H => H

theorem putAll_length : ∀ (e : List Nat) (bs : List Blk) (H : Heap), (putAll e bs H).length = H.length := by
  intro e
  induction e with
  | nil => intro bs H; rfl
  | cons i e ih =>
    intro bs H
    cases bs with
    | nil => rfl
    | cons b bs => simp only [putAll]; rw [ih, List.length_set]

theorem putAll_other : ∀ (e : List Nat) (bs : List Blk) (H : Heap) (k : Nat), k ∉ e → (putAll e bs H)[k]? = H[k]? := by
  intro e
  induction e with
  | nil => intro bs H k _; rfl
  | cons i e ih =>
    intro bs H k hk
    cases bs with
    | nil => rfl
    | cons b bs =>
      simp only [putAll]
      rw [ih _ _ _ (fun h => hk (by simp [h])), List.getElem?_set, if_neg (fun h => hk (by simp [h]))]

theorem putAll_at : ∀ (e : List Nat) (bs : List Blk) (H : Heap) (j k : Nat), e.Nodup → e.length = bs.length → e[j]? = some k → k < H.length → (putAll e bs H)[k]? = bs[j]? := by
  intro e
  induction e with
  | nil => intro bs H j k _ _ h; simp at h
  | cons i e ih =>
    intro bs H j k hn hl h hk
    cases bs with
    | nil => simp at hl
    | cons b bs =>
      simp only [putAll]
      rw [List.nodup_cons] at hn
      cases j with
      | zero =>
        simp at h
        subst h
        rw [putAll_other _ _ _ _ hn.1, List.getElem?_set]
        simp [hk]
      | succ j => exact ih bs _ j k hn.2 (by simpa using hl) (by simpa using h) (by simpa using hk)

theorem nodup_get {l : List Nat} (h : l.Nodup) {i j k : Nat} (hi : l[i]? = some k) (hj : l[j]? = some k) : i = j := by
  obtain ⟨h1, h2⟩ := List.getElem?_eq_some_iff.1 hi
  obtain ⟨h3, h4⟩ := List.getElem?_eq_some_iff.1 hj
  exact (List.getElem_inj h).1 (h2.trans h4.symm)

theorem get_lt {α : Type} {l : List α} {i : Nat} (h : i < l.length) : ∃ z, l[i]? = some z := ⟨l[i], List.getElem?_eq_getElem h⟩

/-- e: where the small heap's blocks are in the great one. ψ: the great one's numbers by the small one's; φ: those behind the call, back. sel: the new blocks that are kept. -/
theorem CallOk.frame {P : Program} {f : FuncId} {argsS : List Value} {Hs : Heap} {vS : Value} {Hs' : Heap} {ls : Nat} (h : CallOk P f argsS Hs vS Hs' ls)
    {args : List Value} {H : Heap} {e sel : List Nat} {v : Value} {olds news : List Blk} {l : Nat} {ψ φ : Nat → Option Nat}
    (hn : e.Nodup) (hel : e.length = Hs.length) (hψ : ∀ (b c : Nat), ψ b = some c → e[c]? = some b)
    (hargs : mapAll (Den.ren ψ 3) args = some argsS)
    (hblk : ∀ (i k : Nat), e[i]? = some k → ∃ B b, H[k]? = some B ∧ Hs[i]? = some b ∧ renB ψ B = some b)
    (hne : ∀ (i : Nat) (b : Blk), H[i]? = some b → b.cells ≠ [])
    (hsn : sel.Nodup) (hsel : ∀ (j i : Nat), sel[j]? = some i → Hs.length ≤ i ∧ i < Hs'.length)
    (hφ : ∀ (b c : Nat), φ b = some c → (c < H.length ∧ e[b]? = some c) ∨ (∃ j, c = H.length + j ∧ sel[j]? = some b))
    (hv : Den.ren φ 3 vS = some v)
    (holds : mapAll (renB φ) (Hs'.take Hs.length) = some olds)
    (hnews : mapAll (fun i => match Hs'[i]? with | some b => renB φ b | none => none) sel = some news)
    (hl : ∀ (j x : Nat), e[j]? = some x → ls ≤ j → l ≤ x) :
    CallOk P f args H v (putAll e olds H ++ news) l := by
  intro ρ w args' hva hs
  have hek : ∀ (i k : Nat), e[i]? = some k → k < H.length := by
    intro i k hi
    obtain ⟨B, b, h1, _⟩ := hblk i k hi
    exact (List.getElem?_eq_some_iff.1 h1).1
  -- the small relation
  let ρs : Rho := e.map fun k => ρ.getD k ⟨0, 0, 0⟩
  have hρs : ∀ (i k : Nat) (x : Ent), e[i]? = some k → ρ[k]? = some x → ρs[i]? = some x := by
    intro i k x hi hx
    simp [ρs, hi, List.getD_eq_getElem?_getD, hx]
  have hρs' : ∀ (i : Nat) (x : Ent), ρs[i]? = some x → ∃ k, e[i]? = some k ∧ ρ[k]? = some x := by
    intro i x hx
    simp only [ρs, List.getElem?_map, Option.map_eq_some_iff] at hx
    obtain ⟨k, hk, rfl⟩ := hx
    have := hek i k hk
    refine ⟨k, hk, ?_⟩
    rw [List.getD_eq_getElem?_getD, List.getElem?_eq_getElem (by rw [hs.len]; exact this)]; rfl
  have hψ1 : ∀ (b c : Nat) (x : Ent), ψ b = some c → ρ[b]? = some x → ρs[c]? = some x := fun b c x h1 h2 => hρs c b x (hψ b c h1) h2
  have hSs : SR ρs Hs w := by
    refine ⟨by simp [ρs, hel], ?_, ?_⟩
    · intro i x b hx hb
      obtain ⟨k, hk, hx2⟩ := hρs' i x hx
      obtain ⟨B, b2, h1, h2, h3⟩ := hblk i k hk
      rw [hb] at h2; injection h2 with h2; subst h2
      exact BR.ren hψ1 h3 (hs.blk k x B hx2 h1)
    · intro i j x y bx bj hij hx hy hbx hby ho hc
      obtain ⟨k, hk, hx2⟩ := hρs' i x hx
      obtain ⟨k2, hk2, hy2⟩ := hρs' j y hy
      obtain ⟨B, b, h1, h2, h3⟩ := hblk i k hk
      obtain ⟨B2, b2, g1, g2, g3⟩ := hblk j k2 hk2
      rw [hbx] at h2; injection h2 with h2; subst h2
      rw [hby] at g2; injection g2 with g2; subst g2
      exact hs.inj k k2 x y B B2 (fun hkk => hij (nodup_get hn (hkk ▸ hk) hk2)) hx2 hy2 h1 g1 ((renB_eq h3).1 ▸ ho) ((renB_ne g3).1 hc)
  refine (h ρs w args' (VRs.ren (fun v u v' a b => VR.ren hψ1 3 v u v' a b) hargs hva) hSs).mono ?_
  rintro ex w' ⟨ρs', v', rfl, hvr, hR⟩
  -- the great relation
  have hsl : ∀ (j i : Nat), sel[j]? = some i → ∃ x, ρs'[i]? = some x := by
    intro j i hj
    have := (hsel j i hj).2
    exact ⟨ρs'[i]'(by rw [hR.sr.len]; exact this), List.getElem?_eq_getElem (by rw [hR.sr.len]; exact this)⟩
  let ρ' : Rho := ρ ++ sel.map fun i => ρs'.getD i ⟨0, 0, 0⟩
  have hρ'0 : ∀ (k : Nat) (x : Ent), ρ[k]? = some x → ρ'[k]? = some x := fun k x hx => prefix_get (List.prefix_append _ _) hx
  have hρ'1 : ∀ (j i : Nat) (x : Ent), sel[j]? = some i → ρs'[i]? = some x → ρ'[H.length + j]? = some x := by
    intro j i x hj hx
    simp only [ρ']
    rw [List.getElem?_append_right (by rw [hs.len]; omega), hs.len, Nat.add_sub_cancel_left]
    simp [hj, List.getD_eq_getElem?_getD, hx]
  have hφ1 : ∀ (b c : Nat) (x : Ent), φ b = some c → ρs'[b]? = some x → ρ'[c]? = some x := by
    intro b c x hb hx
    rcases hφ b c hb with ⟨h1, h2⟩ | ⟨j, rfl, h2⟩
    · obtain ⟨z, hk⟩ : ∃ z, ρ[c]? = some z := get_lt (by rw [hs.len]; exact h1)
      have h3 := prefix_get hR.pre (hρs b c _ h2 hk)
      rw [hx] at h3
      injection h3 with h3
      subst h3
      exact hρ'0 _ _ hk
    · exact hρ'1 j b x h2 hx
  obtain ⟨hol, hog⟩ := mapAll_get holds
  obtain ⟨hnl, hng⟩ := mapAll_get hnews
  have hlenS := hR.len
  have hol' : e.length = olds.length := by rw [hel, ← hol, List.length_take]; omega
  have hH0 : (putAll e olds H).length = H.length := putAll_length _ _ _
  have cas : ∀ (k : Nat) (b : Blk) (x : Ent), (putAll e olds H ++ news)[k]? = some b → ρ'[k]? = some x →
      (∃ i bs, Hs'[i]? = some bs ∧ ρs'[i]? = some x ∧ renB φ bs = some b ∧ ((e[i]? = some k ∧ ρ[k]? = some x ∧ i < Hs.length) ∨ (∃ j, k = H.length + j ∧ sel[j]? = some i))) ∨ (k ∉ e ∧ H[k]? = some b ∧ ρ[k]? = some x) := by
    intro k b x hb hx
    by_cases hk : k < H.length
    · rw [List.getElem?_append_left (by omega)] at hb
      have hx0 : ρ[k]? = some x := by
        simp only [ρ'] at hx
        rwa [List.getElem?_append_left (by rw [hs.len]; exact hk)] at hx
      by_cases hke : k ∈ e
      · obtain ⟨i, hi⟩ := List.mem_iff_getElem?.1 hke
        rw [putAll_at e olds H i k hn hol' hi hk] at hb
        obtain ⟨bs, h1, h2⟩ := mapAll_back holds hb
        have hil : i < Hs.length := by rw [← hel]; exact (List.getElem?_eq_some_iff.1 hi).1
        rw [List.getElem?_take_of_lt hil] at h1
        exact .inl ⟨i, bs, h1, prefix_get hR.pre (hρs i k x hi hx0), h2, .inl ⟨hi, hx0, hil⟩⟩
      · rw [putAll_other _ _ _ _ hke] at hb
        exact .inr ⟨hke, hb, hx0⟩
    · obtain ⟨j, rfl⟩ : ∃ j, k = H.length + j := ⟨k - H.length, by omega⟩
      rw [List.getElem?_append_right (by omega), hH0, Nat.add_sub_cancel_left] at hb
      obtain ⟨i, h1, h2⟩ := mapAll_back hnews hb
      split at h2
      · rename_i bs hbs
        obtain ⟨y, hy⟩ := hsl j i h1
        have := hρ'1 j i y h1 hy
        rw [hx] at this
        injection this with this
        subst this
        exact .inl ⟨i, bs, hbs, hy, h2, .inr ⟨j, rfl, h1⟩⟩
      · simp at h2
  -- an old block of the small heap that may be written, in the great one
  have up : ∀ (j : Nat) (y : Ent) (b0 : Blk), ρs[j]? = some y → Hs[j]? = some b0 → b0.own = true → ∃ k B, e[j]? = some k ∧ ρ[k]? = some y ∧ H[k]? = some B ∧ B.own = true := by
    intro j y b0 hy hb ho
    obtain ⟨k, hk, hy2⟩ := hρs' j y hy
    obtain ⟨B, b2, h1, h2, h3⟩ := hblk j k hk
    rw [hb] at h2; injection h2 with h2; subst h2
    exact ⟨k, B, hk, hy2, h1, (renB_eq h3).1 ▸ ho⟩
  have szof : ∀ (k : Nat) (x : Ent) (b : Blk), ρ[k]? = some x → H[k]? = some b → x.r < w.heap.size := by
    intro k x b hx hb
    obtain ⟨c, el, fz, h1, _⟩ := hs.blk k x b hx hb
    exact (Array.getElem?_eq_some_iff.1 h1).1
  -- a block of the small heap against one of the rest
  have apart1 : ∀ (i : Nat) (x : Ent) (bs : Blk) (k : Nat) (y : Ent) (b : Blk), ρs'[i]? = some x → Hs'[i]? = some bs → bs.own = true → k ∉ e → H[k]? = some b → ρ[k]? = some y → x.r ≠ y.r := by
    intro i x bs k y b hx hbs ho hk hb hy
    by_cases hi : i < Hs.length
    · obtain ⟨b0, hb0, ho0⟩ := hR.own i bs hi hbs ho
      have hix : ρs[i]? = some x := by
        obtain ⟨z, h1⟩ : ∃ z, ρs[i]? = some z := get_lt (by rw [hSs.len]; exact hi)
        have h2 := prefix_get hR.pre h1
        rw [hx] at h2; injection h2 with h2; rw [h2]; exact h1
      obtain ⟨k2, B, h1, h2, h3, h4⟩ := up i x b0 hix hb0 ho0
      exact hs.inj k2 k x y B b (fun hh => hk (hh ▸ List.mem_iff_getElem?.2 ⟨i, h1⟩)) h2 hy h3 hb h4 (hne k b hb)
    · have := szof k y b hy hb
      rcases hR.new i x (by omega) hx with h1 | ⟨j, z, b0, h1, h2, h3, _, h4⟩
      · omega
      · obtain ⟨k2, B, g1, g2, g3, g4⟩ := up j z b0 h1 h2 h3
        rw [← h4]
        exact hs.inj k2 k z y B b (fun hh => hk (hh ▸ List.mem_iff_getElem?.2 ⟨j, g1⟩)) g2 hy g3 hb g4 (hne k b hb)
  have apart2 : ∀ (i : Nat) (x : Ent) (bs : Blk) (k : Nat) (y : Ent) (b : Blk), ρs'[i]? = some x → Hs'[i]? = some bs → k ∉ e → H[k]? = some b → b.own = true → ρ[k]? = some y → y.r ≠ x.r := by
    intro i x bs k y b hx hbs hk hb ho hy
    by_cases hi : i < Hs.length
    · obtain ⟨z, h1⟩ : ∃ z, ρs[i]? = some z := get_lt (by rw [hSs.len]; exact hi)
      have h2 := prefix_get hR.pre h1
      rw [hx] at h2; injection h2 with h2
      obtain ⟨k2, g1, g2⟩ := hρs' i x (by rw [h2]; exact h1)
      obtain ⟨B, b2, g3, _, _⟩ := hblk i k2 g1
      exact hs.inj k k2 y x b B (fun hh => hk (hh ▸ List.mem_iff_getElem?.2 ⟨i, g1⟩)) hy g2 hb g3 ho (hne k2 B g3)
    · have := szof k y b hy hb
      rcases hR.new i x (by omega) hx with h1 | ⟨j, z, b0, h1, h2, h3, _, h4⟩
      · omega
      · obtain ⟨k2, B, g1, g2, g3, g4⟩ := up j z b0 h1 h2 h3
        rw [← h4]
        exact hs.inj k k2 y z b B (fun hh => hk (hh ▸ List.mem_iff_getElem?.2 ⟨j, g1⟩)) hy g2 hb g3 ho (hne k2 B g3)
  refine ⟨ρ', v', rfl, VR.ren hφ1 3 _ _ _ hv hvr, ?_⟩
  refine ⟨hs.len, List.prefix_append _ _, ⟨?_, ?_, ?_⟩, ?_, ?_, ?_, hR.os, hR.tape, hR.output, hR.size, ?_, hR.frozen⟩
  · simp only [ρ', List.length_append, List.length_map, hs.len, hH0, hnl]
  · intro k x b hx hb
    rcases cas k b x hb hx with ⟨i, bs, h1, h2, h3, _⟩ | ⟨h1, h2, h3⟩
    · exact BR.ren hφ1 h3 (hR.sr.blk i x bs h2 h1)
    · have hbr := hs.blk k x b h3 h2
      obtain ⟨c, el, fz, g1, g2⟩ := hbr
      have hq : BR ρ w' x b := by
        refine ⟨c, el, fz, ?_, g2⟩
        rw [hR.keep x.r (szof k x b h3 h2) ?_]
        · exact g1
        · intro j y b0 hy hb0 ho _
          obtain ⟨k2, B, q1, q2, q3, q4⟩ := up j y b0 hy hb0 ho
          exact hs.inj k2 k y x B b (fun hh => h1 (hh ▸ List.mem_iff_getElem?.2 ⟨j, q1⟩)) q2 h3 q3 h2 q4 (hne k b h2)
      exact hq.mono (List.prefix_append _ _)
  · intro k1 k2 x y b1 b2 hk hx hy hb1 hb2 ho hc
    rcases cas k1 b1 x hb1 hx with ⟨i1, bs1, h1, h2, h3, h4⟩ | ⟨h1, h2, h3⟩
    · have ho' : bs1.own = true := (renB_eq h3).1 ▸ ho
      rcases cas k2 b2 y hb2 hy with ⟨i2, bs2, g1, g2, g3, g4⟩ | ⟨g1, g2, g3⟩
      · refine hR.sr.inj i1 i2 x y bs1 bs2 (fun hh => ?_) h2 g2 h1 g1 ho' ((renB_ne g3).1 hc)
        subst hh
        rcases h4 with ⟨p1, _, p3⟩ | ⟨j, p1, p2⟩
        · rcases g4 with ⟨q1, _, _⟩ | ⟨j, q1, q2⟩
          · rw [p1] at q1; injection q1 with q1; exact hk q1
          · have := (hsel j i1 q2).1; omega
        · rcases g4 with ⟨q1, _, q3⟩ | ⟨j2, q1, q2⟩
          · have := (hsel j i1 p2).1; omega
          · exact hk (by rw [p1, q1, nodup_get hsn p2 q2])
      · exact apart1 i1 x bs1 k2 y b2 h2 h1 ho' g1 g2 g3
    · rcases cas k2 b2 y hb2 hy with ⟨i2, bs2, g1, g2, g3, g4⟩ | ⟨g1, g2, g3⟩
      · exact apart2 i2 y bs2 k1 x b1 g2 g1 h1 h2 ho h3
      · exact hs.inj k1 k2 x y b1 b2 hk h3 g3 h2 g2 ho hc
  · rw [List.length_append, hH0]; omega
  · intro k b hk hb ho
    obtain ⟨z, hz⟩ : ∃ z, ρ[k]? = some z := get_lt (by rw [hs.len]; exact hk)
    have hx : ρ'[k]? = some z := hρ'0 _ _ hz
    rcases cas k b _ hb hx with ⟨i, bs, h1, h2, h3, h4⟩ | ⟨h1, h2, h3⟩
    · rcases h4 with ⟨p1, _, p3⟩ | ⟨j, p1, p2⟩
      · obtain ⟨b0, hb0, ho0⟩ := hR.own i bs p3 h1 ((renB_eq h3).1 ▸ ho)
        obtain ⟨B, b2, q1, q2, q3⟩ := hblk i k p1
        rw [hb0] at q2; injection q2 with q2; subst q2
        exact ⟨B, q1, (renB_eq q3).1 ▸ ho0⟩
      · omega
    · exact ⟨b, h2, ho⟩
  · intro k x hk hx
    obtain ⟨j, rfl⟩ : ∃ j, k = H.length + j := ⟨k - H.length, by omega⟩
    have hlt := (List.getElem?_eq_some_iff.1 hx).1
    simp only [ρ', List.length_append, List.length_map, hs.len] at hlt
    obtain ⟨sj, hj⟩ : ∃ z, sel[j]? = some z := get_lt (by omega)
    obtain ⟨y, hy⟩ := hsl j _ hj
    have := hρ'1 j _ y hj hy
    rw [hx] at this
    injection this with this
    subst this
    rcases hR.new _ x (hsel j _ hj).1 hy with h1 | ⟨j0, z, b0, h1, h2, h3, h4, h5⟩
    · exact .inl h1
    · obtain ⟨k2, B, g1, g2, g3, g4⟩ := up j0 z b0 h1 h2 h3
      exact .inr ⟨k2, z, B, g2, g3, g4, hl j0 k2 g1 h4, h5⟩
  · intro k hk hh
    refine hR.keep k hk fun j y b0 hy hb0 ho hlj => ?_
    obtain ⟨k2, B, g1, g2, g3, g4⟩ := up j y b0 hy hb0 ho
    exact hh k2 y B g2 g3 g4 (hl j k2 g1 hlj)

end Go.Proofs.Ytfbjpenbpbpcaaa.Den
