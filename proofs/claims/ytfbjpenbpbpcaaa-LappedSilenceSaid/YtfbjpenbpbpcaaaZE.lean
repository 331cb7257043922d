/-
  A verified evaluator, sixteenth part: a call in a part of the heap is a call in the whole of it.
-/
import Derived.Test.YtfbjpenbpbpcaaaZC
import Derived.Test.YtfbjpenbpbpcaaaZD
namespace Go.Proofs.Ytfbjpenbpbpcaaa.Den
open Go

/-- An address by another block number. -/
def ren0 (φ : Nat → Option Nat) : Value → Option Value
  | .pointer (some ⟨b, o, none⟩) => match φ b with
    | some c => some (.pointer (some ⟨c, o, none⟩))
    | none => none
  | .slice (some ⟨b, o, none⟩) l k => match φ b with
    | some c => some (.slice (some ⟨c, o, none⟩) l k)
    | none => none
  | v => if isFlat v then some v else none

/-- By other block numbers, down to a depth. -/
def ren (φ : Nat → Option Nat) : Nat → Value → Option Value
  | n + 1, .agg cs => match mapAll (ren φ n) cs.toList with
    | some l => some (.agg l.toArray)
    | none => none
  | n + 1, .tuple cs => match mapAll (ren φ n) cs.toList with
    | some l => some (.tuple l.toArray)
    | none => none
  | n + 1, .iface t v => match ren φ n v with
    | some v => some (.iface t v)
    | none => none
  | n + 1, .func f a b => match mapAll (ren φ n) a.toList with
    | some a => match mapAll (ren φ n) b.toList with
      | some b => some (.func f a.toArray b.toArray)
      | none => none
    | none => none
  | _, v => ren0 φ v

theorem mapAll_get {α β : Type} {f : α → Option β} : ∀ {l : List α} {l' : List β}, mapAll f l = some l' → l.length = l'.length ∧ ∀ (i : Nat) (x : α), l[i]? = some x → ∃ y, f x = some y ∧ l'[i]? = some y := by
  intro l
  induction l with
  | nil => intro l' h; simp [mapAll] at h; subst h; exact ⟨rfl, fun i x h => by simp at h⟩
  | cons x l ih =>
    intro l' h
    simp only [mapAll] at h
    split at h
    · rename_i y hy
      cases hm : mapAll f l with
      | none => simp [hm] at h
      | some us =>
        simp [hm] at h
        subst h
        obtain ⟨h1, h2⟩ := ih hm
        refine ⟨by simp [h1], fun i z hz => ?_⟩
        cases i with
        | zero => simp at hz; subst hz; exact ⟨y, hy, by simp⟩
        | succ i => simpa using h2 i z (by simpa using hz)
    · simp at h

theorem mapAll_back {α β : Type} {f : α → Option β} {l : List α} {l' : List β} (h : mapAll f l = some l') {i : Nat} {y : β} (hy : l'[i]? = some y) : ∃ x, l[i]? = some x ∧ f x = some y := by
  obtain ⟨h1, h2⟩ := mapAll_get h
  obtain ⟨hlt, _⟩ := List.getElem?_eq_some_iff.1 hy
  have hx : l[i]? = some l[i] := List.getElem?_eq_getElem (by omega)
  obtain ⟨z, h3, h4⟩ := h2 i _ hx
  rw [hy] at h4
  injection h4 with h4
  subst h4
  exact ⟨_, hx, h3⟩

theorem ren0_flat {φ : Nat → Option Nat} {v : Value} (h : isFlat v = true) : ren0 φ v = some v := by
  unfold ren0
  split
  · simp [isFlat] at h
  · simp [isFlat] at h
  · rw [if_pos h]

theorem VR.ren0 {φ : Nat → Option Nat} {ρ1 ρ2 : Rho} (hφ : ∀ (b c : Nat) (e : Ent), φ b = some c → ρ1[b]? = some e → ρ2[c]? = some e) {v u v' : Value} (h : Den.ren0 φ v = some u) (hv : VR ρ1 v v') : VR ρ2 u v' := by
  unfold Den.ren0 at h
  split at h
  · rename_i b o
    split at h
    · rename_i c hc
      injection h with h
      subst h
      cases hv with
      | flat hf => simp [isFlat] at hf
      | ptr h => exact .ptr (hφ _ _ _ hc h)
    · simp at h
  · rename_i b o l k
    split at h
    · rename_i c hc
      injection h with h
      subst h
      cases hv with
      | flat hf => simp [isFlat] at hf
      | slice h hl => exact .slice (hφ _ _ _ hc h) hl
      | sliceU h h0 hl => exact .sliceU (hφ _ _ _ hc h) h0 hl
    · simp at h
  · split at h
    · rename_i hf
      injection h with h
      subst h
      rw [isFlat_eq hf hv]
      exact .flat hf
    · simp at h

theorem VRs.ren {f : Value → Option Value} {ρ1 ρ2 : Rho} (hf : ∀ v u v', f v = some u → VR ρ1 v v' → VR ρ2 u v') {l l2 l' : List Value} (h : mapAll f l = some l2) (hv : VRs ρ1 l l') : VRs ρ2 l2 l' := by
  obtain ⟨h1, h2⟩ := mapAll_get h
  refine ⟨by rw [← h1, hv.1], fun i u v' hu hv' => ?_⟩
  obtain ⟨x, h3, h4⟩ := mapAll_back h hu
  exact hf _ _ _ h4 (hv.2 i x v' h3 hv')

theorem VR.ren {φ : Nat → Option Nat} {ρ1 ρ2 : Rho} (hφ : ∀ (b c : Nat) (e : Ent), φ b = some c → ρ1[b]? = some e → ρ2[c]? = some e) : ∀ (n : Nat) (v u v' : Value), Den.ren φ n v = some u → VR ρ1 v v' → VR ρ2 u v' := by
  intro n
  induction n with
  | zero => intro v u v' h hv; exact VR.ren0 hφ (by cases v <;> simpa [Den.ren] using h) hv
  | succ n ih =>
    intro v u v' h hv
    cases v with
    | agg cs =>
      simp only [Den.ren] at h
      split at h
      · rename_i l hl
        injection h with h
        subst h
        obtain ⟨cs', rfl, h2⟩ := agg_of hv
        have := (VRs.ren (fun v u v' => ih v u v') hl h2).toAgg
        simpa using this
      · simp at h
    | tuple cs =>
      simp only [Den.ren] at h
      split at h
      · rename_i l hl
        injection h with h
        subst h
        obtain ⟨cs', rfl, h2⟩ := tuple_of hv
        have := (VRs.ren (fun v u v' => ih v u v') hl h2).toTuple
        simpa using this
      · simp at h
    | iface t x =>
      simp only [Den.ren] at h
      split at h
      · rename_i y hy
        injection h with h
        subst h
        obtain ⟨x', rfl, h2⟩ := iface_of hv
        exact .iface (ih _ _ _ hy h2)
      · simp at h
    | func f a b =>
      simp only [Den.ren] at h
      split at h
      · rename_i la hla
        split at h
        · rename_i lb hlb
          injection h with h
          subst h
          obtain ⟨a', b', rfl, h2, h3⟩ := func_of hv
          have ha := VRs.ren (fun v u v' => ih v u v') hla h2
          have hb := VRs.ren (fun v u v' => ih v u v') hlb h3
          exact .func (by simpa using ha.1) (fun i v v' p q => ha.2 i v v' (by simpa using p) (by simpa using q)) (by simpa using hb.1) (fun i v v' p q => hb.2 i v v' (by simpa using p) (by simpa using q))
        · simp at h
      · simp at h
    | _ => exact VR.ren0 hφ (by simpa [Den.ren] using h) hv

def renB (φ : Nat → Option Nat) (b : Blk) : Option Blk := match mapAll (ren φ 3) b.cells with
  | some cs => some ⟨b.own, b.grown, cs⟩
  | none => none

theorem renB_eq {φ : Nat → Option Nat} {b c : Blk} (h : renB φ b = some c) : c.own = b.own ∧ c.grown = b.grown ∧ mapAll (ren φ 3) b.cells = some c.cells := by
  unfold renB at h
  split at h
  · rename_i cs hcs
    injection h with h
    subst h
    exact ⟨rfl, rfl, hcs⟩
  · simp at h

theorem BR.ren {φ : Nat → Option Nat} {ρ1 ρ2 : Rho} (hφ : ∀ (b c : Nat) (e : Ent), φ b = some c → ρ1[b]? = some e → ρ2[c]? = some e) {w : World} {e : Ent} {b c : Blk} (h : renB φ b = some c) (hb : BR ρ1 w e b) : BR ρ2 w e c := by
  obtain ⟨h1, h2, h3⟩ := renB_eq h
  obtain ⟨cs, el, fz, k1, k2, k3, k4⟩ := hb
  refine ⟨cs, el, fz, k1, fun i u hu => ?_, fun ho => k3 (by rw [← h1]; exact ho), fun sz hs => k4 sz (by rw [← h2]; exact hs)⟩
  obtain ⟨x, h4, h5⟩ := mapAll_back h3 hu
  obtain ⟨o, v', h6, h7⟩ := k2 i x h4
  have h8 := VR.ren hφ 3 _ _ _ h5 h7
  exact ⟨by rw [← h8.oneCell, h7.oneCell]; exact o, v', h6, h8⟩

theorem renB_ne {φ : Nat → Option Nat} {b c : Blk} (h : renB φ b = some c) : c.cells ≠ [] ↔ b.cells ≠ [] := by
  obtain ⟨_, _, h3⟩ := renB_eq h
  have := (mapAll_get h3).1
  rw [← List.length_pos_iff, ← List.length_pos_iff, this]

/-- The blocks with these numbers, anew. -/
def putAll : List Nat → List Blk → Heap → Heap
  | i :: e, b :: bs, H => putAll e bs (H.set i b)
  | _, _, H => H

theorem putAll_length : ∀ (e : List Nat) (bs : List Blk) (H : Heap), (putAll e bs H).length = H.length := by
  intro e
  induction e with
  | nil => intro bs H; rfl
  | cons i e ih =>
    intro bs H
    cases bs with
    | nil => rfl
    | cons b bs => simp only [putAll]; rw [ih, List.length_set]

theorem putAll_other : ∀ (e : List Nat) (bs : List Blk) (H : Heap) (k : Nat), k ∉ e → (putAll e bs H)[k]? = H[k]? := by
  intro e
  induction e with
  | nil => intro bs H k _; rfl
  | cons i e ih =>
    intro bs H k hk
    cases bs with
    | nil => rfl
    | cons b bs =>
      simp only [putAll]
      rw [ih _ _ _ (fun h => hk (by simp [h])), List.getElem?_set, if_neg (fun h => hk (by simp [h]))]

theorem putAll_at : ∀ (e : List Nat) (bs : List Blk) (H : Heap) (j k : Nat), e.Nodup → e.length = bs.length → e[j]? = some k → k < H.length → (putAll e bs H)[k]? = bs[j]? := by
  intro e
  induction e with
  | nil => intro bs H j k _ _ h; simp at h
  | cons i e ih =>
    intro bs H j k hn hl h hk
    cases bs with
    | nil => simp at hl
    | cons b bs =>
      simp only [putAll]
      rw [List.nodup_cons] at hn
      cases j with
      | zero =>
        simp at h
        subst h
        rw [putAll_other _ _ _ _ hn.1, List.getElem?_set]
        simp [hk]
      | succ j => exact ih bs _ j k hn.2 (by simpa using hl) (by simpa using h) (by simpa using hk)

theorem nodup_get {l : List Nat} (h : l.Nodup) {i j k : Nat} (hi : l[i]? = some k) (hj : l[j]? = some k) : i = j := by
  obtain ⟨h1, h2⟩ := List.getElem?_eq_some_iff.1 hi
  obtain ⟨h3, h4⟩ := List.getElem?_eq_some_iff.1 hj
  exact (List.getElem_inj h).1 (h2.trans h4.symm)

theorem get_lt {α : Type} {l : List α} {i : Nat} (h : i < l.length) : ∃ z, l[i]? = some z := ⟨l[i], List.getElem?_eq_getElem h⟩

/-- e: where the small heap's blocks are in the great one. ψ: the great one's numbers by the small one's; φ: those behind the call, back. sel: the new blocks that are kept. -/
theorem CallOk.frame {P : Program} {f : FuncId} {argsS : List Value} {Hs : Heap} {vS : Value} {Hs' : Heap} {ls : Nat} (h : CallOk P f argsS Hs vS Hs' ls)
    {args : List Value} {H : Heap} {e sel : List Nat} {v : Value} {olds news : List Blk} {l : Nat} {ψ φ : Nat → Option Nat}
    (hn : e.Nodup) (hel : e.length = Hs.length) (hψ : ∀ (b c : Nat), ψ b = some c → e[c]? = some b)
    (hargs : mapAll (Den.ren ψ 3) args = some argsS)
    (hblk : ∀ (i k : Nat), e[i]? = some k → ∃ B b, H[k]? = some B ∧ Hs[i]? = some b ∧ renB ψ B = some b)
    (hne : ∀ (i : Nat) (b : Blk), H[i]? = some b → b.cells ≠ [] ∨ (b.own = false ∧ b.grown = none ∧ i ∉ e))
    (hsn : sel.Nodup) (hsel : ∀ (j i : Nat), sel[j]? = some i → Hs.length ≤ i ∧ i < Hs'.length)
    (hφ : ∀ (b c : Nat), φ b = some c → (c < H.length ∧ e[b]? = some c) ∨ (∃ j, c = H.length + j ∧ sel[j]? = some b))
    (hv : Den.ren φ 3 vS = some v)
    (holds : mapAll (renB φ) (Hs'.take Hs.length) = some olds)
    (hnews : mapAll (fun i => match Hs'[i]? with | some b => renB φ b | none => none) sel = some news)
    (hl : ∀ (j x : Nat), e[j]? = some x → ls ≤ j → l ≤ x) :
    CallOk P f args H v (putAll e olds H ++ news) l := by
  intro ρ w args' hva hs
  have hek : ∀ (i k : Nat), e[i]? = some k → k < H.length := by
    intro i k hi
    obtain ⟨B, b, h1, _⟩ := hblk i k hi
    exact (List.getElem?_eq_some_iff.1 h1).1
  -- the small relation
  let ρs : Rho := e.map fun k => ρ.getD k ⟨0, 0, 0⟩
  have hρs : ∀ (i k : Nat) (x : Ent), e[i]? = some k → ρ[k]? = some x → ρs[i]? = some x := by
    intro i k x hi hx
    simp [ρs, hi, List.getD_eq_getElem?_getD, hx]
  have hρs' : ∀ (i : Nat) (x : Ent), ρs[i]? = some x → ∃ k, e[i]? = some k ∧ ρ[k]? = some x := by
    intro i x hx
    simp only [ρs, List.getElem?_map, Option.map_eq_some_iff] at hx
    obtain ⟨k, hk, rfl⟩ := hx
    have := hek i k hk
    refine ⟨k, hk, ?_⟩
    rw [List.getD_eq_getElem?_getD, List.getElem?_eq_getElem (by rw [hs.len]; exact this)]; rfl
  have hψ1 : ∀ (b c : Nat) (x : Ent), ψ b = some c → ρ[b]? = some x → ρs[c]? = some x := fun b c x h1 h2 => hρs c b x (hψ b c h1) h2
  have hSs : SR ρs Hs w := by
    refine ⟨by simp [ρs, hel], ?_, ?_⟩
    · intro i x b hx hb
      obtain ⟨k, hk, hx2⟩ := hρs' i x hx
      obtain ⟨B, b2, h1, h2, h3⟩ := hblk i k hk
      rw [hb] at h2; injection h2 with h2; subst h2
      exact BR.ren hψ1 h3 (hs.blk k x B hx2 h1)
    · intro i j x y bx bj hij hx hy hbx hby ho hc
      obtain ⟨k, hk, hx2⟩ := hρs' i x hx
      obtain ⟨k2, hk2, hy2⟩ := hρs' j y hy
      obtain ⟨B, b, h1, h2, h3⟩ := hblk i k hk
      obtain ⟨B2, b2, g1, g2, g3⟩ := hblk j k2 hk2
      rw [hbx] at h2; injection h2 with h2; subst h2
      rw [hby] at g2; injection g2 with g2; subst g2
      exact hs.inj k k2 x y B B2 (fun hkk => hij (nodup_get hn (hkk ▸ hk) hk2)) hx2 hy2 h1 g1 ((renB_eq h3).1 ▸ ho) ((renB_ne g3).1 hc)
  refine (h ρs w args' (VRs.ren (fun v u v' a b => VR.ren hψ1 3 v u v' a b) hargs hva) hSs).mono ?_
  rintro ex w' ⟨ρs', v', rfl, hvr, hR⟩
  -- the great relation
  have hsl : ∀ (j i : Nat), sel[j]? = some i → ∃ x, ρs'[i]? = some x := by
    intro j i hj
    have := (hsel j i hj).2
    exact ⟨ρs'[i]'(by rw [hR.sr.len]; exact this), List.getElem?_eq_getElem (by rw [hR.sr.len]; exact this)⟩
  let ρ' : Rho := ρ ++ sel.map fun i => ρs'.getD i ⟨0, 0, 0⟩
  have hρ'0 : ∀ (k : Nat) (x : Ent), ρ[k]? = some x → ρ'[k]? = some x := fun k x hx => prefix_get (List.prefix_append _ _) hx
  have hρ'1 : ∀ (j i : Nat) (x : Ent), sel[j]? = some i → ρs'[i]? = some x → ρ'[H.length + j]? = some x := by
    intro j i x hj hx
    simp only [ρ']
    rw [List.getElem?_append_right (by rw [hs.len]; omega), hs.len, Nat.add_sub_cancel_left]
    simp [hj, List.getD_eq_getElem?_getD, hx]
  have hφ1 : ∀ (b c : Nat) (x : Ent), φ b = some c → ρs'[b]? = some x → ρ'[c]? = some x := by
    intro b c x hb hx
    rcases hφ b c hb with ⟨h1, h2⟩ | ⟨j, rfl, h2⟩
    · obtain ⟨z, hk⟩ : ∃ z, ρ[c]? = some z := get_lt (by rw [hs.len]; exact h1)
      have h3 := prefix_get hR.pre (hρs b c _ h2 hk)
      rw [hx] at h3
      injection h3 with h3
      subst h3
      exact hρ'0 _ _ hk
    · exact hρ'1 j b x h2 hx
  obtain ⟨hol, hog⟩ := mapAll_get holds
  obtain ⟨hnl, hng⟩ := mapAll_get hnews
  have hlenS := hR.len
  have hol' : e.length = olds.length := by rw [hel, ← hol, List.length_take]; omega
  have hH0 : (putAll e olds H).length = H.length := putAll_length _ _ _
  have cas : ∀ (k : Nat) (b : Blk) (x : Ent), (putAll e olds H ++ news)[k]? = some b → ρ'[k]? = some x →
      (∃ i bs, Hs'[i]? = some bs ∧ ρs'[i]? = some x ∧ renB φ bs = some b ∧ ((e[i]? = some k ∧ ρ[k]? = some x ∧ i < Hs.length) ∨ (∃ j, k = H.length + j ∧ sel[j]? = some i))) ∨ (k ∉ e ∧ H[k]? = some b ∧ ρ[k]? = some x) := by
    intro k b x hb hx
    by_cases hk : k < H.length
    · rw [List.getElem?_append_left (by omega)] at hb
      have hx0 : ρ[k]? = some x := by
        simp only [ρ'] at hx
        rwa [List.getElem?_append_left (by rw [hs.len]; exact hk)] at hx
      by_cases hke : k ∈ e
      · obtain ⟨i, hi⟩ := List.mem_iff_getElem?.1 hke
        rw [putAll_at e olds H i k hn hol' hi hk] at hb
        obtain ⟨bs, h1, h2⟩ := mapAll_back holds hb
        have hil : i < Hs.length := by rw [← hel]; exact (List.getElem?_eq_some_iff.1 hi).1
        rw [List.getElem?_take_of_lt hil] at h1
        exact .inl ⟨i, bs, h1, prefix_get hR.pre (hρs i k x hi hx0), h2, .inl ⟨hi, hx0, hil⟩⟩
      · rw [putAll_other _ _ _ _ hke] at hb
        exact .inr ⟨hke, hb, hx0⟩
    · obtain ⟨j, rfl⟩ : ∃ j, k = H.length + j := ⟨k - H.length, by omega⟩
      rw [List.getElem?_append_right (by omega), hH0, Nat.add_sub_cancel_left] at hb
      obtain ⟨i, h1, h2⟩ := mapAll_back hnews hb
      split at h2
      · rename_i bs hbs
        obtain ⟨y, hy⟩ := hsl j i h1
        have := hρ'1 j i y h1 hy
        rw [hx] at this
        injection this with this
        subst this
        exact .inl ⟨i, bs, hbs, hy, h2, .inr ⟨j, rfl, h1⟩⟩
      · simp at h2
  -- an old block of the small heap that may be written, in the great one
  have up : ∀ (j : Nat) (y : Ent) (b0 : Blk), ρs[j]? = some y → Hs[j]? = some b0 → b0.own = true → ∃ k B, e[j]? = some k ∧ ρ[k]? = some y ∧ H[k]? = some B ∧ B.own = true := by
    intro j y b0 hy hb ho
    obtain ⟨k, hk, hy2⟩ := hρs' j y hy
    obtain ⟨B, b2, h1, h2, h3⟩ := hblk j k hk
    rw [hb] at h2; injection h2 with h2; subst h2
    exact ⟨k, B, hk, hy2, h1, (renB_eq h3).1 ▸ ho⟩
  have szof : ∀ (k : Nat) (x : Ent) (b : Blk), ρ[k]? = some x → H[k]? = some b → x.r < w.heap.size := by
    intro k x b hx hb
    obtain ⟨c, el, fz, h1, _⟩ := hs.blk k x b hx hb
    exact (Array.getElem?_eq_some_iff.1 h1).1
  have hne2 : ∀ (k i : Nat) (B : Blk), e[i]? = some k → H[k]? = some B → B.cells ≠ [] := by
    intro k i B hi hB
    rcases hne k B hB with h | ⟨_, _, h⟩
    · exact h
    · exact (h (List.mem_iff_getElem?.2 ⟨i, hi⟩)).elim
  -- a block of the small heap against one of the rest
  have apart1 : ∀ (i : Nat) (x : Ent) (bs : Blk) (k : Nat) (y : Ent) (b : Blk), ρs'[i]? = some x → Hs'[i]? = some bs → bs.own = true → k ∉ e → H[k]? = some b → ρ[k]? = some y → b.cells ≠ [] → x.r ≠ y.r := by
    intro i x bs k y b hx hbs ho hk hb hy hcb
    by_cases hi : i < Hs.length
    · obtain ⟨b0, hb0, ho0⟩ := hR.own i bs hi hbs ho
      have hix : ρs[i]? = some x := by
        obtain ⟨z, h1⟩ : ∃ z, ρs[i]? = some z := get_lt (by rw [hSs.len]; exact hi)
        have h2 := prefix_get hR.pre h1
        rw [hx] at h2; injection h2 with h2; rw [h2]; exact h1
      obtain ⟨k2, B, h1, h2, h3, h4⟩ := up i x b0 hix hb0 ho0
      exact hs.inj k2 k x y B b (fun hh => hk (hh ▸ List.mem_iff_getElem?.2 ⟨i, h1⟩)) h2 hy h3 hb h4 hcb
    · have := szof k y b hy hb
      rcases hR.new i x (by omega) hx with h1 | ⟨j, z, b0, h1, h2, h3, _, h4⟩
      · omega
      · obtain ⟨k2, B, g1, g2, g3, g4⟩ := up j z b0 h1 h2 h3
        rw [← h4]
        exact hs.inj k2 k z y B b (fun hh => hk (hh ▸ List.mem_iff_getElem?.2 ⟨j, g1⟩)) g2 hy g3 hb g4 hcb
  have apart2 : ∀ (i : Nat) (x : Ent) (bs : Blk) (k : Nat) (y : Ent) (b : Blk), ρs'[i]? = some x → Hs'[i]? = some bs → k ∉ e → H[k]? = some b → b.own = true → ρ[k]? = some y → y.r ≠ x.r := by
    intro i x bs k y b hx hbs hk hb ho hy
    by_cases hi : i < Hs.length
    · obtain ⟨z, h1⟩ : ∃ z, ρs[i]? = some z := get_lt (by rw [hSs.len]; exact hi)
      have h2 := prefix_get hR.pre h1
      rw [hx] at h2; injection h2 with h2
      obtain ⟨k2, g1, g2⟩ := hρs' i x (by rw [h2]; exact h1)
      obtain ⟨B, b2, g3, _, _⟩ := hblk i k2 g1
      exact hs.inj k k2 y x b B (fun hh => hk (hh ▸ List.mem_iff_getElem?.2 ⟨i, g1⟩)) hy g2 hb g3 ho (hne2 k2 i B g1 g3)
    · have := szof k y b hy hb
      rcases hR.new i x (by omega) hx with h1 | ⟨j, z, b0, h1, h2, h3, _, h4⟩
      · omega
      · obtain ⟨k2, B, g1, g2, g3, g4⟩ := up j z b0 h1 h2 h3
        rw [← h4]
        exact hs.inj k k2 y z b B (fun hh => hk (hh ▸ List.mem_iff_getElem?.2 ⟨j, g1⟩)) hy g2 hb g3 ho (hne2 k2 j B g1 g3)
  refine ⟨ρ', v', rfl, VR.ren hφ1 3 _ _ _ hv hvr, ?_⟩
  refine ⟨hs.len, List.prefix_append _ _, ⟨?_, ?_, ?_⟩, ?_, ?_, ?_, hR.os, hR.tape, hR.output, hR.size, ?_, hR.frozen⟩
  · simp only [ρ', List.length_append, List.length_map, hs.len, hH0, hnl]
  · intro k x b hx hb
    rcases cas k b x hb hx with ⟨i, bs, h1, h2, h3, _⟩ | ⟨h1, h2, h3⟩
    · exact BR.ren hφ1 h3 (hR.sr.blk i x bs h2 h1)
    · have hbr := hs.blk k x b h3 h2
      obtain ⟨c, el, fz, g1, g2⟩ := hbr
      by_cases hcb : b.cells = []
      · -- a block of which nothing is known
        have hsp : b.own = false ∧ b.grown = none := by
          rcases hne k b h2 with h | ⟨p, q, _⟩
          · exact (h hcb).elim
          · exact ⟨p, q⟩
        obtain ⟨c', el', fz', hc'⟩ : ∃ c' el' fz', w'.heap[x.r]? = some (.cells c' el' fz') := by
          by_cases hex : ∃ (j : Nat) (y : Ent) (b0 : Blk), ρs[j]? = some y ∧ Hs[j]? = some b0 ∧ y.r = x.r
          · obtain ⟨j, y, b0, hy, hb0, hyr⟩ := hex
            have hjl := (List.getElem?_eq_some_iff.1 hb0).1
            obtain ⟨bs, hbs⟩ : ∃ z, Hs'[j]? = some z := get_lt (by omega)
            obtain ⟨c', el', fz', hc', _⟩ := hR.sr.blk j y bs (prefix_get hR.pre hy) hbs
            exact ⟨c', el', fz', by rw [← hyr]; exact hc'⟩
          · refine ⟨c, el, fz, ?_⟩
            rw [hR.keep x.r (szof k x b h3 h2) fun j y b0 hy hb0 _ _ hyr => hex ⟨j, y, b0, hy, hb0, hyr⟩]
            exact g1
        exact ⟨c', el', fz', hc', fun i v hi => by rw [hcb] at hi; simp at hi, fun h => by rw [hsp.1] at h; simp at h, fun sz h => by rw [hsp.2] at h; simp at h⟩
      have hq : BR ρ w' x b := by
        refine ⟨c, el, fz, ?_, g2⟩
        rw [hR.keep x.r (szof k x b h3 h2) ?_]
        · exact g1
        · intro j y b0 hy hb0 ho _
          obtain ⟨k2, B, q1, q2, q3, q4⟩ := up j y b0 hy hb0 ho
          exact hs.inj k2 k y x B b (fun hh => h1 (hh ▸ List.mem_iff_getElem?.2 ⟨j, q1⟩)) q2 h3 q3 h2 q4 hcb
      exact hq.mono (List.prefix_append _ _)
  · intro k1 k2 x y b1 b2 hk hx hy hb1 hb2 ho hc
    rcases cas k1 b1 x hb1 hx with ⟨i1, bs1, h1, h2, h3, h4⟩ | ⟨h1, h2, h3⟩
    · have ho' : bs1.own = true := (renB_eq h3).1 ▸ ho
      rcases cas k2 b2 y hb2 hy with ⟨i2, bs2, g1, g2, g3, g4⟩ | ⟨g1, g2, g3⟩
      · refine hR.sr.inj i1 i2 x y bs1 bs2 (fun hh => ?_) h2 g2 h1 g1 ho' ((renB_ne g3).1 hc)
        subst hh
        rcases h4 with ⟨p1, _, p3⟩ | ⟨j, p1, p2⟩
        · rcases g4 with ⟨q1, _, _⟩ | ⟨j, q1, q2⟩
          · rw [p1] at q1; injection q1 with q1; exact hk q1
          · have := (hsel j i1 q2).1; omega
        · rcases g4 with ⟨q1, _, q3⟩ | ⟨j2, q1, q2⟩
          · have := (hsel j i1 p2).1; omega
          · exact hk (by rw [p1, q1, nodup_get hsn p2 q2])
      · exact apart1 i1 x bs1 k2 y b2 h2 h1 ho' g1 g2 g3 hc
    · rcases cas k2 b2 y hb2 hy with ⟨i2, bs2, g1, g2, g3, g4⟩ | ⟨g1, g2, g3⟩
      · exact apart2 i2 y bs2 k1 x b1 g2 g1 h1 h2 ho h3
      · exact hs.inj k1 k2 x y b1 b2 hk h3 g3 h2 g2 ho hc
  · rw [List.length_append, hH0]; omega
  · intro k b hk hb ho
    obtain ⟨z, hz⟩ : ∃ z, ρ[k]? = some z := get_lt (by rw [hs.len]; exact hk)
    have hx : ρ'[k]? = some z := hρ'0 _ _ hz
    rcases cas k b _ hb hx with ⟨i, bs, h1, h2, h3, h4⟩ | ⟨h1, h2, h3⟩
    · rcases h4 with ⟨p1, _, p3⟩ | ⟨j, p1, p2⟩
      · obtain ⟨b0, hb0, ho0⟩ := hR.own i bs p3 h1 ((renB_eq h3).1 ▸ ho)
        obtain ⟨B, b2, q1, q2, q3⟩ := hblk i k p1
        rw [hb0] at q2; injection q2 with q2; subst q2
        exact ⟨B, q1, (renB_eq q3).1 ▸ ho0⟩
      · omega
    · exact ⟨b, h2, ho⟩
  · intro k x hk hx
    obtain ⟨j, rfl⟩ : ∃ j, k = H.length + j := ⟨k - H.length, by omega⟩
    have hlt := (List.getElem?_eq_some_iff.1 hx).1
    simp only [ρ', List.length_append, List.length_map, hs.len] at hlt
    obtain ⟨sj, hj⟩ : ∃ z, sel[j]? = some z := get_lt (by omega)
    obtain ⟨y, hy⟩ := hsl j _ hj
    have := hρ'1 j _ y hj hy
    rw [hx] at this
    injection this with this
    subst this
    rcases hR.new _ x (hsel j _ hj).1 hy with h1 | ⟨j0, z, b0, h1, h2, h3, h4, h5⟩
    · exact .inl h1
    · obtain ⟨k2, B, g1, g2, g3, g4⟩ := up j0 z b0 h1 h2 h3
      exact .inr ⟨k2, z, B, g2, g3, g4, hl j0 k2 g1 h4, h5⟩
  · intro k hk hh
    refine hR.keep k hk fun j y b0 hy hb0 ho hlj => ?_
    obtain ⟨k2, B, g1, g2, g3, g4⟩ := up j y b0 hy hb0 ho
    exact hh k2 y B g2 g3 g4 (hl j k2 g1 hlj)

end Go.Proofs.Ytfbjpenbpbpcaaa.Den

/-
  A verified evaluator, seventeenth part: contracts over the part of the heap that a call reaches, as an oracle for any heap; what is no longer held, dropped.
-/
namespace Go.Proofs.Ytfbjpenbpbpcaaa.Den
open Go

/-- The blocks that a value names. -/
def refs : Nat → Value → List Nat
  | n + 1, .agg cs => cs.toList.flatMap (refs n)
  | n + 1, .tuple cs => cs.toList.flatMap (refs n)
  | n + 1, .iface _ v => refs n v
  | n + 1, .func _ a b => a.toList.flatMap (refs n) ++ b.toList.flatMap (refs n)
  | _, .pointer (some a) => [a.block]
  | _, .slice (some a) _ _ => [a.block]
  | _, _ => []

def addN (l : List Nat) : List Nat → List Nat
  | [] => l
  | x :: xs => match l.contains x with
    | true => addN l xs
    | false => addN (l ++ [x]) xs

def cellRefs (H : Heap) (b : Nat) : List Nat := match H[b]? with
  | some blk => blk.cells.flatMap (refs 3)
  | none => []

def reach (H : Heap) : Nat → List Nat → List Nat
  | 0, l => l
  | n + 1, l => match addN l (l.flatMap (cellRefs H)) with
    | l' => match Nat.beq l'.length l.length with
      | true => l
      | false => reach H n l'

def pos (b : Nat) : List Nat → Option Nat
  | [] => none
  | x :: l => match Nat.beq x b with
    | true => some 0
    | false => match pos b l with
      | some i => some (i + 1)
      | none => none

theorem pos_get {b : Nat} : ∀ {l : List Nat} {c : Nat}, pos b l = some c → l[c]? = some b := by
  intro l
  induction l with
  | nil => intro c h; simp [pos] at h
  | cons x l ih =>
    intro c h
    simp only [pos] at h
    split at h
    · rename_i hb
      injection h with h
      subst h
      rw [Nat.eq_of_beq_eq_true hb]; rfl
    · split at h
      · rename_i i hi
        injection h with h
        subst h
        simpa using ih hi
      · simp at h

def nodupB : List Nat → Bool
  | [] => true
  | x :: l => !l.contains x && nodupB l

theorem nodupB_ok : ∀ {l : List Nat}, nodupB l = true → l.Nodup := by
  intro l
  induction l with
  | nil => intro _; exact List.nodup_nil
  | cons x l ih =>
    intro h
    simp [nodupB] at h
    exact List.nodup_cons.2 ⟨h.1, ih h.2⟩

/-- The blocks with these numbers, renamed. -/
def blks (φ : Nat → Option Nat) (H : Heap) (sel : List Nat) : Option (List Blk) :=
  mapAll (fun i => match H[i]? with | some b => renB φ b | none => none) sel

/-- The part of the heap that a call reaches. -/
def cutE (e : List Nat) (args : List Value) (H : Heap) : Option (List Nat × List Value × Heap) :=
  match nodupB e && H.zipIdx.all (fun p => !p.1.cells.isEmpty || (!p.1.own && (p.1.grown.isNone && !e.contains p.2))) with
  | true => match mapAll (ren (fun b => pos b e) 3) args with
    | some a => match blks (fun b => pos b e) H e with
      | some Hs => some (e, a, Hs)
      | none => none
    | none => none
  | false => none

def cut (args : List Value) (H : Heap) : Option (List Nat × List Value × Heap) :=
  cutE (reach H 4 (addN [] (args.flatMap (refs 3)))) args H

theorem cutE_ok {e e' : List Nat} {args a : List Value} {H Hs : Heap} (h : cutE e args H = some (e', a, Hs)) :
    e' = e ∧ e.Nodup ∧ (∀ (i : Nat) (b : Blk), H[i]? = some b → b.cells ≠ [] ∨ (b.own = false ∧ b.grown = none ∧ i ∉ e)) ∧ mapAll (ren (fun b => pos b e) 3) args = some a ∧ blks (fun b => pos b e) H e = some Hs := by
  unfold cutE at h
  split at h
  · rename_i hc
    split at h
    · rename_i a0 ha
      split at h
      · rename_i Hs0 hb
        simp only [Option.some.injEq, Prod.mk.injEq] at h
        obtain ⟨rfl, rfl, rfl⟩ := h
        simp only [Bool.and_eq_true] at hc
        refine ⟨rfl, nodupB_ok hc.1, fun i b hi => ?_, ha, hb⟩
        have := List.all_eq_true.1 hc.2 (b, i) (List.mem_zipIdx_iff_getElem?.2 (by simpa using hi))
        simp only [Bool.or_eq_true, Bool.and_eq_true, Bool.not_eq_true', List.isEmpty_eq_false_iff] at this
        rcases this with h | ⟨h1, h2, h3⟩
        · exact .inl h
        · exact .inr ⟨h1, by simpa using h2, by simpa using h3⟩
      · simp at h
    · simp at h
  · simp at h

theorem blks_get {φ : Nat → Option Nat} {H : Heap} {sel : List Nat} {bs : List Blk} (h : blks φ H sel = some bs) :
    sel.length = bs.length ∧ ∀ (j i : Nat), sel[j]? = some i → ∃ B b, H[i]? = some B ∧ bs[j]? = some b ∧ renB φ B = some b := by
  obtain ⟨h1, h2⟩ := mapAll_get h
  refine ⟨h1, fun j i hj => ?_⟩
  obtain ⟨y, h3, h4⟩ := h2 j i hj
  split at h3
  · rename_i B hB
    exact ⟨B, y, hB, h4, h3⟩
  · simp at h3

def newsOf (n m : Nat) : List Nat := (List.range (m - n)).map (n + ·)

def backN (e : List Nat) (k m : Nat) (b : Nat) : Option Nat := match e[b]? with
  | some c => some c
  | none => match Nat.blt b m with
    | true => some (k + (b - e.length))
    | false => none

def back (e : List Nat) (H : Heap) (v : Value) (Hs' : Heap) (ls : Nat) : Option (Value × Heap × Nat) :=
  match ren (backN e H.length Hs'.length) 3 v with
  | some v => match mapAll (renB (backN e H.length Hs'.length)) (Hs'.take e.length) with
    | some olds => match blks (backN e H.length Hs'.length) Hs' (newsOf e.length Hs'.length) with
      | some news => some (v, putAll e olds H ++ news, (e.drop ls).foldl min H.length)
      | none => none
    | none => none
  | none => none

def frameC (C : Oracle) : Oracle := fun f args H => match cut args H with
  | some (e, a, Hs) => match C f a Hs with
    | some (v, Hs', ls) => back e H v Hs' ls
    | none => none
  | none => none

def framePre (pre : Pre) : Pre := fun f args H => match cut args H with
  | some (_, a, Hs) => pre f a Hs
  | none => true

theorem foldl_min : ∀ (l : List Nat) (a : Nat), l.foldl min a ≤ a ∧ ∀ x ∈ l, l.foldl min a ≤ x := by
  intro l
  induction l with
  | nil => intro a; simp
  | cons y l ih =>
    intro a
    obtain ⟨h1, h2⟩ := ih (min a y)
    simp only [List.foldl_cons]
    refine ⟨by omega, fun x hx => ?_⟩
    rcases List.mem_cons.1 hx with rfl | hx
    · omega
    · exact h2 x hx

theorem newsOf_get {n m j i : Nat} (h : (newsOf n m)[j]? = some i) : i = n + j ∧ i < m := by
  simp only [newsOf, List.getElem?_map, Option.map_eq_some_iff] at h
  obtain ⟨k, hk, rfl⟩ := h
  obtain ⟨h1, h2⟩ := List.getElem?_eq_some_iff.1 hk
  simp at h1 h2
  omega

theorem newsOf_nodup (n m : Nat) : (newsOf n m).Nodup :=
  List.Pairwise.map (R := (· ≠ ·)) _ (fun a b h => by omega) List.nodup_range

theorem frame_sound {P : Program} {pre : Pre} {C : Oracle} (hC : Sound P (strict pre C)) : Sound P (strict (framePre pre) (frameC C)) := by
  intro f args H v H' l h
  unfold strict at h
  split at h
  case h_2 => simp at h
  rename_i hp
  unfold frameC at h
  split at h
  case h_2 => simp at h
  rename_i e a Hs hcut
  split at h
  case h_2 => simp at h
  rename_i vS Hs' ls hc
  have hpre : pre f a Hs = true := by simpa [framePre, hcut] using hp
  have hcall : CallOk P f a Hs vS Hs' ls := hC f a Hs vS Hs' ls (by unfold strict; rw [hpre]; exact hc)
  obtain ⟨h1, h2, h3, h4, h5⟩ := cutE_ok hcut
  rw [← h1] at h2 h3 h4 h5
  obtain ⟨b1, b2⟩ := blks_get h5
  unfold back at h
  split at h
  case h_2 => simp at h
  rename_i v2 hv
  split at h
  case h_2 => simp at h
  rename_i olds ho
  split at h
  case h_2 => simp at h
  rename_i news hnw
  simp only [Option.some.injEq, Prod.mk.injEq] at h
  obtain ⟨rfl, rfl, rfl⟩ := h
  obtain ⟨m1, m2⟩ := foldl_min (e.drop ls) H.length
  refine hcall.frame (ψ := fun b => pos b e) (φ := backN e H.length Hs'.length) (sel := newsOf e.length Hs'.length) h2 b1 (fun b c hb => pos_get hb) h4 (fun i k hi => ?_) h3 (newsOf_nodup _ _) (fun j i hj => ?_) (fun b c hb => ?_) hv ?_ hnw ?_
  · obtain ⟨B, b, p, q, r⟩ := b2 i k hi
    exact ⟨B, b, p, q, r⟩
  · have := newsOf_get hj
    omega
  · unfold backN at hb
    split at hb
    · rename_i c' hc'
      injection hb with hb
      subst hb
      obtain ⟨B, _, p, _⟩ := b2 b _ hc'
      exact .inl ⟨(List.getElem?_eq_some_iff.1 p).1, hc'⟩
    · rename_i hn
      split at hb
      · rename_i hlt
        injection hb with hb
        subst hb
        have hlt' : b < Hs'.length := by simpa [Nat.blt_eq] using hlt
        have : e.length ≤ b := List.getElem?_eq_none_iff.1 hn
        refine .inr ⟨b - e.length, rfl, ?_⟩
        simp only [newsOf, List.getElem?_map]
        rw [List.getElem?_range (by omega)]
        simp
        omega
      · simp at hb
  · rw [← b1]; exact ho
  · intro j x hj hlj
    refine m2 x (List.mem_iff_getElem?.2 ⟨j - ls, ?_⟩)
    rw [List.getElem?_drop, show ls + (j - ls) = j by omega]
    exact hj

/-- Of the new blocks those that are held still. -/
def selN (sel : List Nat) (b : Nat) : Option Nat := pos b sel

/-- A call that is given no address: of the blocks that it makes only some are held. -/
theorem CallOk.gc {P : Program} {f : FuncId} {args : List Value} {v : Value} {H' : Heap} {l : Nat} (h : CallOk P f args [] v H' l) (sel : List Nat) {v2 : Value} {H2 : Heap}
    (hargs : mapAll (ren (fun _ => none) 3) args = some args) (hs : (nodupB sel && sel.all fun i => Nat.blt i H'.length) = true)
    (hv : ren (selN sel) 3 v = some v2) (hH : blks (selN sel) H' sel = some H2) : CallOk P f args [] v2 H2 0 := by
  simp only [Bool.and_eq_true] at hs
  have hf := h.frame (args := args) (H := []) (e := []) (sel := sel) (v := v2) (olds := []) (news := H2) (l := 0) (ψ := fun _ => none) (φ := selN sel)
    List.nodup_nil rfl (fun b c hb => by simp at hb) hargs (fun i k hi => by simp at hi) (fun i b hi => by simp at hi) (nodupB_ok hs.1)
    (fun j i hj => ⟨Nat.zero_le _, by simpa [Nat.blt_eq] using List.all_eq_true.1 hs.2 i (List.mem_of_getElem? hj)⟩) (fun b c hb => .inr ⟨c, by simp, pos_get hb⟩) hv rfl hH (fun j x hj => by simp at hj)
  simpa [putAll] using hf

end Go.Proofs.Ytfbjpenbpbpcaaa.Den

/-
  Chapter 06: the circle's points (table.around), worked out once.
-/
namespace Go.Proofs.Ytfbjpenbpbpcaaa
open Go Den
set_option maxRecDepth 100000
set_option linter.unusedSimpArgs false
set_option linter.unusedVariables false

/-- Calls down to a depth, over contracts. -/
noncomputable def over (B : Oracle) : Nat → Oracle
  | 0 => B
  | n + 1 => orElse B (evFn Try.prog ext 300 (over B n))

theorem over_sound {B : Oracle} (hB : Sound Try.prog B) : ∀ n, Sound Try.prog (over B n)
  | 0 => hB
  | n + 1 => hB.or (evFn_sound progOk extSound (over_sound hB n) 300)

theorem plain_sound {C : Oracle} (hC : Sound Try.prog C) : Sound Try.prog (strict noPre C) := by
  intro f args H v H' l h
  exact hC f args H v H' l (by simpa [strict, noPre] using h)

/-- Names of slots. -/
def nmPre (pre : Pre) : Pre := fun f args H => match Nat.beq f 1000001 with
  | true => false
  | false => pre f args H
def nmAt (t : Int) : List (Nat × Int) → Option Int
  | [] => none
  | (u, y) :: l => match decide ((u : Int) = t) with
    | true => some y
    | false => nmAt t l
def nmC (l : List (Nat × Int)) (C : Oracle) : Oracle := fun f args H => match Nat.beq f 1000001 with
  | true => match args with
    | [.int _ t] => match nmAt t l with
      | some y => some (.int .i64 y, [], 0)
      | none => none
    | _ => none
  | false => C f args H
theorem nm_sound {pre : Pre} {C : Oracle} (l : List (Nat × Int)) (h : Sound Try.prog (strict pre C)) : Sound Try.prog (strict (nmPre pre) (nmC l C)) := by
  intro f args H v H' n hc
  unfold strict at hc
  split at hc
  · rename_i hp
    unfold nmPre at hp
    unfold nmC at hc
    split at hp
    · simp at hp
    · rename_i hf
      rw [hf] at hc
      exact h f args H v H' n (by unfold strict; rw [hp]; exact hc)
  · simp at hc

/-- A function whose value holds no address. -/
theorem pf_ok {N : Nat} {pre : Pre} {C : Oracle} {L : Loops} {os : Path} {f : FuncId} {args : List Value} {v : Value} {ob : Obs} (hC : Sound Try.prog (strict pre C))
    (hL : LoopsOk Try.prog (ntOf Try.prog f args.length) L (bodyOf Try.prog f)) (h : (evFnL Try.prog ext N pre C L os f args []).map (fun r => (r.1.1, r.2)) = some (v, ob)) (hh : Holds ob) (hv : pf 3 v = true) : CallOk Try.prog f args [] v [] 0 := by
  cases hr : evFnL Try.prog ext N pre C L os f args [] with
  | none => rw [hr] at h; simp at h
  | some r =>
    obtain ⟨⟨v', H', l⟩, ob'⟩ := r
    rw [hr] at h
    simp at h
    obtain ⟨rfl, rfl⟩ := h
    exact CallOk.drop (fnL_ok progOk extSound hC hL hr hh) hv

theorem of_over {B : Oracle} (hB : Sound Try.prog B) {n : Nat} {f : FuncId} {args : List Value} {v : Value} (h : (over B n f args []).map (·.1) = some v) (hv : pf 3 v = true) : CallOk Try.prog f args [] v [] 0 := by
  cases hr : over B n f args [] with
  | none => rw [hr] at h; simp at h
  | some r =>
    obtain ⟨v', H', l⟩ := r
    rw [hr] at h
    simp at h
    subst h
    exact CallOk.drop (over_sound hB n f args [] _ H' l hr) hv

theorem of_list {α : Type} {f g : Nat → α} {n m : Nat} (h : (List.range' m n).map f = (List.range' m n).map g) {i : Nat} (h1 : m ≤ i) (h2 : i < m + n) : f i = g i := by
  have hi : (List.range' m n)[i - m]? = some i := by rw [List.getElem?_range' (by omega)]; simp; omega
  have := congrArg (fun l : List α => l[i - m]?) h
  simpa [hi] using this

noncomputable def c3 : Oracle := strict fx3Pre fx3

theorem inI_wrap (n : Int) : inI (IntKind.wrap IntKind.i64 n) = true := by
  rw [inI_iff]
  unfold IntKind.wrap
  simp [IntKind.bits, IntKind.signed]
  omega

def tnX (x y b c : Int) : Int := roundZ (IntKind.wrap IntKind.i64 (IntKind.wrap IntKind.i64 (x * b) - IntKind.wrap IntKind.i64 (y * c))) 30
def tnY (x y b c : Int) : Int := roundZ (IntKind.wrap IntKind.i64 (IntKind.wrap IntKind.i64 (x * c) + IntKind.wrap IntKind.i64 (y * b))) 30

theorem turned_ok (x y b c : Int) : CallOk Try.prog 136 [.agg #[.int .i64 x, .int .i64 y], .agg #[.int .i64 b, .int .i64 c]] [] (.agg #[.int .i64 (tnX x y b c), .int .i64 (tnY x y b c)]) [] 0 :=
  pf_ok (N := 300) (pre := fx3Pre) (C := fx3) (L := noLoops) (os := [(0, true), (0, true)])
    (ob := [(fx3Pre 45 [.int .i64 (IntKind.wrap IntKind.i64 (IntKind.wrap IntKind.i64 (x * c) + IntKind.wrap IntKind.i64 (y * b))), .int .i64 30] [], true), (fx3Pre 45 [.int .i64 (IntKind.wrap IntKind.i64 (IntKind.wrap IntKind.i64 (x * b) - IntKind.wrap IntKind.i64 (y * c))), .int .i64 30] [], true)])
    fx3_sound noLoops_ok (by kernel_rfl) (by simp [Holds, fx3Pre, inI_wrap]; rfl) rfl

def tnO : Oracle := fun f args H => match H with
  | [] => match f, args with
    | 136, [.agg p, .agg q] => match p.toList, q.toList with
      | [.int .i64 x, .int .i64 y], [.int .i64 b, .int .i64 c] => some (.agg #[.int .i64 (tnX x y b c), .int .i64 (tnY x y b c)], [], 0)
      | _, _ => none
    | _, _ => none
  | _ => none
theorem tnO_sound : Sound Try.prog tnO := by
  intro f args H v H' l h
  unfold tnO at h
  split at h
  · split at h
    · rename_i p q
      obtain ⟨p⟩ := p
      obtain ⟨q⟩ := q
      split at h
      · rename_i hp hq
        simp only [Option.some.injEq, Prod.mk.injEq] at h; obtain ⟨rfl, rfl, rfl⟩ := h
        simp only at hp hq
        subst hp hq
        exact turned_ok _ _ _ _
      · simp at h
    · simp at h
  · simp at h

noncomputable def c3o : Oracle := orElse tnO c3
theorem c3o_sound : Sound Try.prog (strict noPre c3o) := plain_sound (tnO_sound.or fx3_sound)

def hvZ : List Int := [0, 0, (-1073741824), 0, 0, 1073741824, 759250124, 759250124, 992008094, 410903207, 1053110175, 209476638, 1068571463, 105245105, 1072448454, 52686017]
def ptZ : List Int := [1073741824, 0, 1072448454, 52686017, 1068571463, 105245105, 1062120188, 157550652, 1053110175, 209476638, 1041563125, 260897984, 1027506860, 311690800, 1010975239, 361732729, 992008094, 410903207, 970651110, 459083788, 946955745, 506158394, 920979078, 552013622, 892783697, 596538995, 862437516, 639627259, 830013651, 681174603, 795590207, 721080939, 759250124, 759250124, 721080933, 795590213, 681174599, 830013654, 639627252, 862437521, 596538994, 892783696, 552013614, 920979081, 506158389, 946955745, 459083780, 970651111, 410903206, 992008093, 361732722, 1010975241, 311690796, 1027506860, 260897976, 1041563125, 209476638, 1053110173, 157550644, 1062120187, 105245101, 1068571460, 52686009, 1072448451, 0, 1073741824, (-52686017), 1072448454, (-105245105), 1068571463, (-157550652), 1062120188, (-209476638), 1053110175, (-260897984), 1041563125, (-311690800), 1027506860, (-361732729), 1010975239, (-410903207), 992008094, (-459083788), 970651110, (-506158394), 946955745, (-552013622), 920979078, (-596538995), 892783697, (-639627259), 862437516, (-681174603), 830013651, (-721080939), 795590207, (-759250124), 759250124, (-795590213), 721080933, (-830013654), 681174599, (-862437521), 639627252, (-892783696), 596538994, (-920979081), 552013614, (-946955745), 506158389, (-970651111), 459083780, (-992008093), 410903206, (-1010975241), 361732722, (-1027506860), 311690796, (-1041563125), 260897976, (-1053110173), 209476638, (-1062120187), 157550644, (-1068571460), 105245101, (-1072448451), 52686009, (-1073741824), 0, (-1072448454), (-52686017), (-1068571463), (-105245105), (-1062120188), (-157550652), (-1053110175), (-209476638), (-1041563125), (-260897984), (-1027506860), (-311690800), (-1010975239), (-361732729), (-992008094), (-410903207), (-970651110), (-459083788), (-946955745), (-506158394), (-920979078), (-552013622), (-892783697), (-596538995), (-862437516), (-639627259), (-830013651), (-681174603), (-795590207), (-721080939), (-759250124), (-759250124), (-721080933), (-795590213), (-681174599), (-830013654), (-639627252), (-862437521), (-596538994), (-892783696), (-552013614), (-920979081), (-506158389), (-946955745), (-459083780), (-970651111), (-410903206), (-992008093), (-361732722), (-1010975241), (-311690796), (-1027506860), (-260897976), (-1041563125), (-209476638), (-1053110173), (-157550644), (-1062120187), (-105245101), (-1068571460), (-52686009), (-1072448451), 0, (-1073741824), 52686017, (-1072448454), 105245105, (-1068571463), 157550652, (-1062120188), 209476638, (-1053110175), 260897984, (-1041563125), 311690800, (-1027506860), 361732729, (-1010975239), 410903207, (-992008094), 459083788, (-970651110), 506158394, (-946955745), 552013622, (-920979078), 596538995, (-892783697), 639627259, (-862437516), 681174603, (-830013651), 721080939, (-795590207), 759250124, (-759250124), 795590213, (-721080933), 830013654, (-681174599), 862437521, (-639627252), 892783696, (-596538994), 920979081, (-552013614), 946955745, (-506158389), 970651111, (-459083780), 992008093, (-410903206), 1010975241, (-361732722), 1027506860, (-311690796), 1041563125, (-260897976), 1053110173, (-209476638), 1062120187, (-157550644), 1068571460, (-105245101), 1072448451, (-52686009)]
def ints (l : List Int) : List Value := l.map (.int .i64)
def outC (m : Nat) : List Value := ints (ptZ.take (2 * m)) ++ ints (List.replicate (256 - 2 * m) 0)
def garb (m : Nat) : Heap := (List.range m).map fun i => ⟨true, none, [.int .i64 (ptZ.getD (2 * i) 0), .int .i64 (ptZ.getD (2 * i + 1) 0)]⟩
def arF (m : Nat) : Slots := [(1, .pointer (some ⟨0, 0, none⟩)), (2, .pointer (some ⟨1, 0, none⟩)), (7, .int .i64 m)]
def arH (m : Nat) : Heap := ⟨true, none, outC m⟩ :: ⟨true, none, ints hvZ⟩ :: garb m

theorem halves_ok : CallOk Try.prog 110 [] [] (.agg (ints hvZ).toArray) [] 0 := of_over (B := c3) fx3_sound (n := 2) (by kernel_rfl) rfl
theorem ar_step0 : (List.range' 0 32).map (fun m => evL Try.prog ext noPre c3o noLoops 300 30 (loopAt Try.prog 114 0) (arF m) (arH m) 0 [] [1, 2, 7]) = (List.range' 0 32).map fun m => some (.normal, arF (m + 1), arH (m + 1), 0, []) := by kernel_rfl
theorem ar_step1 : (List.range' 32 32).map (fun m => evL Try.prog ext noPre c3o noLoops 300 30 (loopAt Try.prog 114 0) (arF m) (arH m) 0 [] [1, 2, 7]) = (List.range' 32 32).map fun m => some (.normal, arF (m + 1), arH (m + 1), 0, []) := by kernel_rfl
theorem ar_step2 : (List.range' 64 32).map (fun m => evL Try.prog ext noPre c3o noLoops 300 30 (loopAt Try.prog 114 0) (arF m) (arH m) 0 [] [1, 2, 7]) = (List.range' 64 32).map fun m => some (.normal, arF (m + 1), arH (m + 1), 0, []) := by kernel_rfl
theorem ar_step3 : (List.range' 96 32).map (fun m => evL Try.prog ext noPre c3o noLoops 300 30 (loopAt Try.prog 114 0) (arF m) (arH m) 0 [] [1, 2, 7]) = (List.range' 96 32).map fun m => some (.normal, arF (m + 1), arH (m + 1), 0, []) := by kernel_rfl

end Go.Proofs.Ytfbjpenbpbpcaaa

/-
  Chapter 06: the contracts of around, at, Turn, Cos, Sin.
-/
namespace Go.Proofs.Ytfbjpenbpbpcaaa
open Go Den
set_option maxRecDepth 100000
set_option linter.unusedSimpArgs false
set_option linter.unusedVariables false

theorem codeOk114 : codeOk (loopAt Try.prog 114 0) = true := by kernel_rfl
theorem loops114f : loopsOf (bodyOf Try.prog 114) = [loopAt Try.prog 114 0, loopAt Try.prog 114 1] := by kernel_rfl
theorem first114 : firstId (loopAt Try.prog 114 1) = 8 := by kernel_rfl

theorem ar_step (m : Nat) (h : m < 128) : WP Try.prog 30 (loopAt Try.prog 114 0) ⟨arF m, arH m, 0⟩ .normal ⟨arF (m + 1), arH (m + 1), 0⟩ := by
  have key : evL Try.prog ext noPre c3o noLoops 300 30 (loopAt Try.prog 114 0) (arF m) (arH m) 0 [] [1, 2, 7] = some (.normal, arF (m + 1), arH (m + 1), 0, []) := by
    by_cases h0 : m < 32
    · exact of_list ar_step0 (by omega) (by omega)
    by_cases h1 : m < 64
    · exact of_list ar_step1 (by omega) (by omega)
    by_cases h2 : m < 96
    · exact of_list ar_step2 (by omega) (by omega)
    · exact of_list ar_step3 (by omega) (by omega)
  exact WP.run progOk extSound c3o_sound codeOk114 noLoops_ok [1, 2, 7] key (by simp [Holds])

theorem ar_end : evL Try.prog ext noPre c3o noLoops 300 30 (loopAt Try.prog 114 0) (arF 128) (arH 128) 0 [] [1, 2, 7] = some (.exit 0, arF 128, arH 128, 0, []) := by kernel_rfl

theorem ar_loop : WP Try.prog 30 (.loop (loopAt Try.prog 114 0)) ⟨arF 0, arH 0, 0⟩ (.exit 0) ⟨arF 128, arH 128, 0⟩ :=
  WP.loop (fun m => ⟨arF m, arH m, 0⟩) 128 (by simp) (fun i hi => ar_step i hi) (WP.run progOk extSound c3o_sound codeOk114 noLoops_ok [1, 2, 7] ar_end (by simp [Holds]))

def hvO : Oracle := fun f args H => match H with
  | [] => match f, args with
    | 110, [] => some (.agg (ints hvZ).toArray, [], 0)
    | _, _ => none
  | _ => none
theorem hvO_sound : Sound Try.prog hvO := by
  intro f args H v H' l h
  unfold hvO at h
  split at h
  · split at h
    · simp only [Option.some.injEq, Prod.mk.injEq] at h; obtain ⟨rfl, rfl, rfl⟩ := h
      exact halves_ok
    · simp at h
  · simp at h

noncomputable def arN : Loops := { loop := sumL 4 ⟨arF 0, arH 0, 0⟩ (.exit 0) ⟨arF 128, arH 128, 0⟩ }

theorem arN_ok : LoopsOk Try.prog (ntOf Try.prog 114 0) arN (bodyOf Try.prog 114) := LoopsOk.sum rfl (by
  intro b hb hid
  rw [loops114f] at hb
  simp only [List.mem_cons, List.not_mem_nil, or_false] at hb
  rcases hb with rfl | rfl
  · exact ar_loop
  · rw [first114] at hid; simp at hid)

theorem ar_run : evFnL Try.prog ext 300 noPre hvO arN [] 114 [] [] = some ((.pointer (some ⟨0, 0, none⟩), arH 128, 0), [(cdec (arF 0 = arF 0), true), (cdec (arH 0 = arH 0), true), (cdec (0 = 0), true)]) := by kernel_rfl

theorem around_ok : CallOk Try.prog 114 [] [] (.pointer (some ⟨0, 0, none⟩)) [⟨true, none, ints ptZ⟩] 0 := by
  have h := fnL_ok progOk extSound (plain_sound hvO_sound) arN_ok ar_run (by simp [Holds, cdec])
  exact h.gc [0] rfl (by kernel_rfl) (by kernel_rfl) (by kernel_rfl)

def arO : Oracle := fun f args H => match H with
  | [] => match f, args with
    | 114, [] => some (.pointer (some ⟨0, 0, none⟩), [⟨true, none, ints ptZ⟩], 0)
    | _, _ => none
  | _ => none
theorem arO_sound : Sound Try.prog arO := by
  intro f args H v H' l h
  unfold arO at h
  split at h
  · split at h
    · simp only [Option.some.injEq, Prod.mk.injEq] at h; obtain ⟨rfl, rfl, rfl⟩ := h
      exact around_ok
    · simp at h
  · simp at h

/-- around, in any heap. -/
def arC : Oracle := frameC arO
theorem arC_sound : Sound Try.prog arC := by
  have h := frame_sound (pre := noPre) (plain_sound arO_sound)
  intro f args H v H' l hc
  refine h f args H v H' l ?_
  unfold strict framePre
  split
  · exact hc
  · rename_i hp
    split at hp <;> simp [noPre] at hp

noncomputable def atC : Oracle := orElse arC (over arC 2)
end Go.Proofs.Ytfbjpenbpbpcaaa

/-
  Chapter 06: the contracts of at, Turn, Cos, Sin, Half, and the reference's.
-/
namespace Go.Proofs.Ytfbjpenbpbpcaaa
open Go Den
set_option maxRecDepth 100000
set_option linter.unusedSimpArgs false
set_option linter.unusedVariables false

theorem over_arC_sound (n : Nat) : Sound Try.prog (strict noPre (over arC n)) := plain_sound (over_sound arC_sound n)

def ptX (m : Int) : Int := ptZ.getD (2 * (m % 128).toNat) 0
def ptY (m : Int) : Int := ptZ.getD (2 * (m % 128).toNat + 1) 0
def cosZ (m : Int) : Int := roundZ (ptX m) 6
def sinZ (m : Int) : Int := roundZ (ptY m) 6

theorem and127 (m : Int) : (IntKind.wrap IntKind.i64 ((BitVec.ofInt (IntKind.bits IntKind.i64) m &&& BitVec.ofInt (IntKind.bits IntKind.i64) 127).toNat : Int)) = m % 128 := by
  have h1 : (BitVec.ofInt (IntKind.bits IntKind.i64) 127).toNat = 2 ^ 7 - 1 := by decide
  rw [BitVec.toNat_and, h1, Nat.and_two_pow_sub_one_eq_mod, BitVec.toNat_ofInt]
  have : ((2 ^ IntKind.bits IntKind.i64 : Nat) : Int) = 18446744073709551616 := by decide
  rw [this, wrap_in (inI_iff.2 (by omega))]
  omega

theorem at_runs (m : Int) : (List.range' 0 128).map (fun (r : Nat) => (evFnL Try.prog ext 300 (nmPre noPre) (nmC [(10, (r : Int))] (over arC 2)) noLoops [] 109 [.int .i64 m] []).map (fun r => (r.1.1, r.2))) =
    (List.range' 0 128).map fun (r : Nat) => some (.agg #[.int .i64 (ptZ.getD (2 * r) 0), .int .i64 (ptZ.getD (2 * r + 1) 0)], [(decide (IntKind.wrap IntKind.i64 ((BitVec.ofInt (IntKind.bits IntKind.i64) m &&& BitVec.ofInt (IntKind.bits IntKind.i64) 127).toNat : Int) = (r : Int)), true)]) := by kernel_rfl

theorem at_ok (m : Int) : CallOk Try.prog 109 [.int .i64 m] [] (.agg #[.int .i64 (ptX m), .int .i64 (ptY m)]) [] 0 := by
  have h := of_list (at_runs m) (i := (m % 128).toNat) (by omega) (by omega)
  refine pf_ok (nm_sound _ (over_arC_sound 2)) noLoops_ok h ?_ rfl
  rw [and127]
  simp [Holds]
  omega

theorem half_runs : (List.range' 1 7).map (fun (i : Nat) => (over c3 7 111 [.int .i64 (i : Int)] []).map (·.1)) = (List.range' 1 7).map fun (i : Nat) => some (.tuple #[.int .i64 (hvZ.getD (2 * i) 0), .int .i64 (hvZ.getD (2 * i + 1) 0)]) := by kernel_rfl

def hfO : Oracle := fun f args H => match H with
  | [] => match f, args with
    | 111, [.int .i64 i] => match Nat.ble 1 i.toNat && Nat.ble i.toNat 7 with
      | true => some (.tuple #[.int .i64 (hvZ.getD (2 * i.toNat) 0), .int .i64 (hvZ.getD (2 * i.toNat + 1) 0)], [], 0)
      | false => none
    | _, _ => none
  | _ => none
theorem hfO_sound : Sound Try.prog hfO := by
  intro f args H v H' l h
  unfold hfO at h
  split at h
  · split at h
    · rename_i i
      split at h
      · rename_i hi
        simp only [Option.some.injEq, Prod.mk.injEq] at h; obtain ⟨rfl, rfl, rfl⟩ := h
        simp only [Bool.and_eq_true, Nat.ble_eq] at hi
        have hr := of_list half_runs (i := i.toNat) (by omega) (by omega)
        rw [show ((i.toNat : Nat) : Int) = i by omega] at hr
        exact of_over fx3_sound hr rfl
      · simp at h
    · simp at h
  · simp at h

noncomputable def rtC : Oracle := orElse hfO c3
theorem rtC_sound : Sound Try.prog (strict noPre rtC) := plain_sound (hfO_sound.or fx3_sound)

theorem rt_runs0 (m : Int) : (List.range' 0 32).map (fun (r : Nat) => (evFnL Try.prog ext 300 (nmPre noPre) (nmC [(14, (r : Int))] rtC) noLoops [] 39 [.int .i64 m] []).map (fun r => (r.1.1, r.2))) =
    (List.range' 0 32).map fun (r : Nat) => some (.tuple #[.int .i64 (ptZ.getD (2 * r) 0), .int .i64 (ptZ.getD (2 * r + 1) 0)], [(decide (Int.tmod (IntKind.wrap IntKind.i64 (Int.tmod m 128 + 128)) 128 = (r : Int)), true)]) := by kernel_rfl

theorem rt_runs1 (m : Int) : (List.range' 32 32).map (fun (r : Nat) => (evFnL Try.prog ext 300 (nmPre noPre) (nmC [(14, (r : Int))] rtC) noLoops [] 39 [.int .i64 m] []).map (fun r => (r.1.1, r.2))) =
    (List.range' 32 32).map fun (r : Nat) => some (.tuple #[.int .i64 (ptZ.getD (2 * r) 0), .int .i64 (ptZ.getD (2 * r + 1) 0)], [(decide (Int.tmod (IntKind.wrap IntKind.i64 (Int.tmod m 128 + 128)) 128 = (r : Int)), true)]) := by kernel_rfl

theorem rt_runs2 (m : Int) : (List.range' 64 32).map (fun (r : Nat) => (evFnL Try.prog ext 300 (nmPre noPre) (nmC [(14, (r : Int))] rtC) noLoops [] 39 [.int .i64 m] []).map (fun r => (r.1.1, r.2))) =
    (List.range' 64 32).map fun (r : Nat) => some (.tuple #[.int .i64 (ptZ.getD (2 * r) 0), .int .i64 (ptZ.getD (2 * r + 1) 0)], [(decide (Int.tmod (IntKind.wrap IntKind.i64 (Int.tmod m 128 + 128)) 128 = (r : Int)), true)]) := by kernel_rfl

theorem rt_runs3 (m : Int) : (List.range' 96 32).map (fun (r : Nat) => (evFnL Try.prog ext 300 (nmPre noPre) (nmC [(14, (r : Int))] rtC) noLoops [] 39 [.int .i64 m] []).map (fun r => (r.1.1, r.2))) =
    (List.range' 96 32).map fun (r : Nat) => some (.tuple #[.int .i64 (ptZ.getD (2 * r) 0), .int .i64 (ptZ.getD (2 * r + 1) 0)], [(decide (Int.tmod (IntKind.wrap IntKind.i64 (Int.tmod m 128 + 128)) 128 = (r : Int)), true)]) := by kernel_rfl

theorem tmod_lit (m b : Int) : (0 ≤ m ∧ m.tmod b = m % b) ∨ (m < 0 ∧ m.tmod b = -((-m) % b)) := by
  rcases Int.lt_or_le m 0 with h | h
  · right
    have := Int.neg_tmod (-m) b
    rw [Int.neg_neg] at this
    rw [this, Int.tmod_eq_emod_of_nonneg (by omega)]
    exact ⟨h, rfl⟩
  · left; exact ⟨h, Int.tmod_eq_emod_of_nonneg h⟩
theorem rem128 (m : Int) : Int.tmod (IntKind.wrap IntKind.i64 (Int.tmod m 128 + 128)) 128 = m % 128 := by
  have h1 := tmod_lit m 128
  rw [wrap_in (inI_iff.2 (by omega))]
  have h2 := tmod_lit (m.tmod 128 + 128) 128
  omega

theorem ref_turn_ok (m : Int) : CallOk Try.prog 39 [.int .i64 m] [] (.tuple #[.int .i64 (ptX m), .int .i64 (ptY m)]) [] 0 := by
  have h : (evFnL Try.prog ext 300 (nmPre noPre) (nmC [(14, ((m % 128).toNat : Int))] rtC) noLoops [] 39 [.int .i64 m] []).map (fun r => (r.1.1, r.2)) =
      some (.tuple #[.int .i64 (ptX m), .int .i64 (ptY m)], [(decide (Int.tmod (IntKind.wrap IntKind.i64 (Int.tmod m 128 + 128)) 128 = ((m % 128).toNat : Int)), true)]) := by
    have hm : (m % 128).toNat < 128 := by omega
    unfold ptX ptY
    generalize (m % 128).toNat = r at *
    by_cases h0 : r < 32
    · exact of_list (rt_runs0 m) (by omega) (by omega)
    by_cases h1 : r < 64
    · exact of_list (rt_runs1 m) (by omega) (by omega)
    by_cases h2 : r < 96
    · exact of_list (rt_runs2 m) (by omega) (by omega)
    · exact of_list (rt_runs3 m) (by omega) (by omega)
  refine pf_ok (nm_sound _ rtC_sound) noLoops_ok h ?_ rfl
  rw [rem128]
  simp [Holds]
  omega

theorem strict_or {pre : Pre} {A B : Oracle} (hA : Sound Try.prog A) (hB : Sound Try.prog (strict pre B)) : Sound Try.prog (strict pre (orElse A B)) := by
  intro f args H v H' l h
  unfold strict at h
  split at h
  · rename_i hp
    unfold orElse at h
    split at h
    · rename_i r hr
      injection h with h
      subst h
      exact hA f args H v H' l hr
    · exact hB f args H v H' l (by unfold strict; rw [hp]; exact h)
  · simp at h

def t6a : Oracle := fun f args H => match H with
  | [] => match f, args with
    | 109, [.int .i64 m] => some (.agg #[.int .i64 (ptX m), .int .i64 (ptY m)], [], 0)
    | 39, [.int .i64 m] => some (.tuple #[.int .i64 (ptX m), .int .i64 (ptY m)], [], 0)
    | _, _ => none
  | _ => none
theorem t6a_sound : Sound Try.prog t6a := by
  intro f args H v H' l h
  unfold t6a at h
  split at h
  · split at h
    · simp only [Option.some.injEq, Prod.mk.injEq] at h; obtain ⟨rfl, rfl, rfl⟩ := h
      exact at_ok _
    · simp only [Option.some.injEq, Prod.mk.injEq] at h; obtain ⟨rfl, rfl, rfl⟩ := h
      exact ref_turn_ok _
    · simp at h
  · simp at h

def x6a : Oracle := orElse t6a (orElse hvO (orElse hfO fx3))
theorem x6a_sound : Sound Try.prog (strict fx3Pre x6a) := strict_or t6a_sound (strict_or hvO_sound (strict_or hfO_sound fx3_sound))

end Go.Proofs.Ytfbjpenbpbpcaaa

/-
  Chapter 06: the contracts of Turn, Cos, Sin, Half, and the reference's.
-/
namespace Go.Proofs.Ytfbjpenbpbpcaaa
open Go Den
set_option maxRecDepth 100000
set_option linter.unusedSimpArgs false
set_option linter.unusedVariables false

theorem pt_all : (List.range 256).all (fun i => decide (-1073741824 ≤ ptZ.getD i 0) && decide (ptZ.getD i 0 ≤ 1073741824)) = true := by kernel_rfl
theorem pt_le (i : Nat) (h : i < 256) : -1073741824 ≤ ptZ.getD i 0 ∧ ptZ.getD i 0 ≤ 1073741824 := by
  have := List.all_eq_true.1 pt_all i (List.mem_range.2 h)
  simpa using this
theorem ptX_le (m : Int) : -1073741824 ≤ ptX m ∧ ptX m ≤ 1073741824 := pt_le _ (by omega)
theorem ptY_le (m : Int) : -1073741824 ≤ ptY m ∧ ptY m ≤ 1073741824 := pt_le _ (by omega)
theorem ptX_in (m : Int) : inI (ptX m) = true := by have := ptX_le m; exact inI_iff.2 (by omega)
theorem ptY_in (m : Int) : inI (ptY m) = true := by have := ptY_le m; exact inI_iff.2 (by omega)
theorem in6 : inI 6 = true := rfl

theorem turn_ok (m : Int) : CallOk Try.prog 38 [.int .i64 m] [] (.tuple #[.int .i64 (ptX m), .int .i64 (ptY m)]) [] 0 :=
  pf_ok (N := 300) (L := noLoops) (os := []) (ob := []) x6a_sound noLoops_ok (by kernel_rfl) (by simp [Holds]) rfl
theorem cos_ok (m : Int) : CallOk Try.prog 33 [.int .i64 m] [] (.int .i64 (cosZ m)) [] 0 :=
  pf_ok (N := 300) (L := noLoops) (os := [(1, true)]) (ob := [(fx3Pre 45 [.int .i64 (ptX m), .int .i64 6] [], true)]) x6a_sound noLoops_ok (by kernel_rfl) (by simp [Holds, fx3Pre, ptX_in, in6]) rfl
theorem sin_ok (m : Int) : CallOk Try.prog 34 [.int .i64 m] [] (.int .i64 (sinZ m)) [] 0 :=
  pf_ok (N := 300) (L := noLoops) (os := [(1, true)]) (ob := [(fx3Pre 45 [.int .i64 (ptY m), .int .i64 6] [], true)]) x6a_sound noLoops_ok (by kernel_rfl) (by simp [Holds, fx3Pre, ptY_in, in6]) rfl
theorem ref_cos_ok (m : Int) : CallOk Try.prog 40 [.int .i64 m] [] (.int .i64 (cosZ m)) [] 0 :=
  pf_ok (N := 300) (L := noLoops) (os := [(1, true)]) (ob := [(fx3Pre 46 [.int .i64 (ptX m), .int .i64 6] [], true)]) x6a_sound noLoops_ok (by kernel_rfl) (by simp [Holds, fx3Pre, ptX_in, in6]) rfl
theorem ref_sin_ok (m : Int) : CallOk Try.prog 41 [.int .i64 m] [] (.int .i64 (sinZ m)) [] 0 :=
  pf_ok (N := 300) (L := noLoops) (os := [(1, true)]) (ob := [(fx3Pre 46 [.int .i64 (ptY m), .int .i64 6] [], true)]) x6a_sound noLoops_ok (by kernel_rfl) (by simp [Holds, fx3Pre, ptY_in, in6]) rfl

def hxZ (i : Int) : Int := if 1 ≤ i ∧ i ≤ 7 then hvZ.getD (2 * i.toNat) 0 else 0
def hyZ (i : Int) : Int := if 1 ≤ i ∧ i ≤ 7 then hvZ.getD (2 * i.toNat + 1) 0 else 0
def heZ (i : Int) : Int := if 1 ≤ i ∧ i ≤ 7 then 0 else 1

theorem half_list : (List.range' 1 7).map (fun (i : Nat) => (evFnL Try.prog ext 300 noPre (orElse hvO hfO) noLoops [] 36 [.int .i64 (i : Int)] []).map (fun r => (r.1.1, r.2))) =
  (List.range' 1 7).map (fun (i : Nat) => some (.tuple #[.int .i64 (hvZ.getD (2 * i) 0), .int .i64 (hvZ.getD (2 * i + 1) 0), .int .i64 0], [])) := by kernel_rfl
theorem ref_half_list : (List.range' 1 7).map (fun (i : Nat) => (evFnL Try.prog ext 300 noPre (orElse hvO hfO) noLoops [] 37 [.int .i64 (i : Int)] []).map (fun r => (r.1.1, r.2))) =
  (List.range' 1 7).map (fun (i : Nat) => some (.tuple #[.int .i64 (hvZ.getD (2 * i) 0), .int .i64 (hvZ.getD (2 * i + 1) 0), .int .i64 0], [])) := by kernel_rfl

theorem x6a0 : Sound Try.prog (strict noPre (orElse hvO hfO)) := plain_sound (hvO_sound.or hfO_sound)

theorem halfs_ok (f : FuncId) (hf : f = 36 ∨ f = 37) (i : Int) : CallOk Try.prog f [.int .i64 i] [] (.tuple #[.int .i64 (hxZ i), .int .i64 (hyZ i), .int .i64 (heZ i)]) [] 0 := by
  by_cases h : 1 ≤ i ∧ i ≤ 7
  · unfold hxZ hyZ heZ
    rw [if_pos h, if_pos h, if_pos h]
    have e : ((i.toNat : Nat) : Int) = i := by omega
    rcases hf with rfl | rfl
    · have hr := of_list half_list (i := i.toNat) (by omega) (by omega)
      rw [e] at hr
      exact pf_ok x6a0 noLoops_ok hr (by simp [Holds]) rfl
    · have hr := of_list ref_half_list (i := i.toNat) (by omega) (by omega)
      rw [e] at hr
      exact pf_ok x6a0 noLoops_ok hr (by simp [Holds]) rfl
  · unfold hxZ hyZ heZ
    rw [if_neg h, if_neg h, if_neg h]
    by_cases h1 : i < 1
    · rcases hf with rfl | rfl
      all_goals exact pf_ok (N := 300) (L := noLoops) (os := [(0, false), (0, false), (0, true)]) (ob := [(decide (i < 1), true), (decide (i < 1) == false, false), (decide (i < 1) == false, false)]) x6a_sound noLoops_ok (by kernel_rfl) (by simp [Holds]; omega) rfl
    · rcases hf with rfl | rfl
      all_goals exact pf_ok (N := 300) (L := noLoops) (os := [(0, true), (0, true), (0, true)]) (ob := [(bif decide (i < 1) then true else decide (i > 7), true), (decide (i < 1) == false, true), (decide (i < 1) == false, true)]) x6a_sound noLoops_ok (by kernel_rfl) (by simp [Holds]; omega) rfl
end Go.Proofs.Ytfbjpenbpbpcaaa

/-
  Chapter 06: the contracts so far, joined; the chapter's examples.
-/
namespace Go.Proofs.Ytfbjpenbpbpcaaa
open Go Den
set_option maxRecDepth 100000
set_option linter.unusedSimpArgs false
set_option linter.unusedVariables false

def t6b : Oracle := fun f args H => match H with
  | [] => match f, args with
    | 33, [.int .i64 m] => some (.int .i64 (cosZ m), [], 0)
    | 40, [.int .i64 m] => some (.int .i64 (cosZ m), [], 0)
    | 34, [.int .i64 m] => some (.int .i64 (sinZ m), [], 0)
    | 41, [.int .i64 m] => some (.int .i64 (sinZ m), [], 0)
    | 38, [.int .i64 m] => some (.tuple #[.int .i64 (ptX m), .int .i64 (ptY m)], [], 0)
    | 39, [.int .i64 m] => some (.tuple #[.int .i64 (ptX m), .int .i64 (ptY m)], [], 0)
    | 36, [.int .i64 i] => some (.tuple #[.int .i64 (hxZ i), .int .i64 (hyZ i), .int .i64 (heZ i)], [], 0)
    | 37, [.int .i64 i] => some (.tuple #[.int .i64 (hxZ i), .int .i64 (hyZ i), .int .i64 (heZ i)], [], 0)
    | _, _ => none
  | _ => none
theorem t6b_sound : Sound Try.prog t6b := by
  intro f args H v H' l h
  unfold t6b at h
  split at h
  · split at h
    all_goals first | (simp at h; done) | (simp only [Option.some.injEq, Prod.mk.injEq] at h; obtain ⟨rfl, rfl, rfl⟩ := h)
    · exact cos_ok _
    · exact ref_cos_ok _
    · exact sin_ok _
    · exact ref_sin_ok _
    · exact turn_ok _
    · exact ref_turn_ok _
    · exact halfs_ok 36 (.inl rfl) _
    · exact halfs_ok 37 (.inr rfl) _
  · simp at h

theorem live6_ok : CallOk Try.prog 31 [] [] (.bool true) [] 0 := of_over t6b_sound (n := 1) (by kernel_rfl) rfl

def l6O : Oracle := fun f args H => match H with
  | [] => match f, args with
    | 31, [] => some (.bool true, [], 0)
    | _, _ => none
  | _ => none
theorem l6O_sound : Sound Try.prog l6O := by
  intro f args H v H' l h
  unfold l6O at h
  split at h
  · split at h
    · simp only [Option.some.injEq, Prod.mk.injEq] at h; obtain ⟨rfl, rfl, rfl⟩ := h
      exact live6_ok
    · simp at h
  · simp at h

def x6b : Oracle := orElse l6O (orElse t6b fx3)
theorem x6b_sound : Sound Try.prog (strict fx3Pre x6b) := strict_or l6O_sound (strict_or t6b_sound fx3_sound)
theorem t6p_sound : Sound Try.prog (strict noPre (orElse l6O t6b)) := plain_sound (l6O_sound.or t6b_sound)

end Go.Proofs.Ytfbjpenbpbpcaaa

/-
  Names for bools; joined runs.
-/
namespace Go.Proofs.Ytfbjpenbpbpcaaa
open Go Den
set_option maxRecDepth 100000
set_option linter.unusedSimpArgs false
set_option linter.unusedVariables false

def nbAt (t : Int) : List (Nat × Bool) → Option Bool
  | [] => none
  | (u, y) :: l => match decide ((u : Int) = t) with
    | true => some y
    | false => nbAt t l
/-- Names of slots: numbers, and bools. -/
def nbC (l : List (Nat × Int)) (bs : List (Nat × Bool)) (C : Oracle) : Oracle := fun f args H => match Nat.beq f 1000001 with
  | true => match args with
    | [.int _ t] => match nbAt t bs with
      | some y => some (.bool y, [], 0)
      | none => match nmAt t l with
        | some y => some (.int .i64 y, [], 0)
        | none => none
    | _ => none
  | false => C f args H
theorem nb_sound {pre : Pre} {C : Oracle} (l : List (Nat × Int)) (bs : List (Nat × Bool)) (h : Sound Try.prog (strict pre C)) : Sound Try.prog (strict (nmPre pre) (nbC l bs C)) := by
  intro f args H v H' n hc
  unfold strict at hc
  split at hc
  · rename_i hp
    unfold nmPre at hp
    unfold nbC at hc
    split at hp
    · simp at hp
    · rename_i hf
      rw [hf] at hc
      exact h f args H v H' n (by unfold strict; rw [hp]; exact hc)
  · simp at hc

def allT (l : List Nat) : List (Nat × Bool) := l.map fun t => (t, true)

def nearB (a b y : Int) : Bool := bif decide (IntKind.wrap IntKind.i64 (a - b) ≤ y) then decide (IntKind.wrap IntKind.i64 (b - a) ≤ y) else false

def weZ (n : Int) : Int := if 0 ≤ n ∧ n ≤ 31 then 0 else 1
def wnZ (n : Int) : Int := if 0 ≤ n ∧ n ≤ 31 then sinZ (2 * n + 1) else 0
def knZ (n k : Int) : Int := if (0 ≤ n ∧ n ≤ 31) ∧ 0 ≤ k ∧ k ≤ 15 then cosZ ((2 * n + 17) * (2 * k + 1)) else 0
def keZ (n k : Int) : Int := if (0 ≤ n ∧ n ≤ 31) ∧ 0 ≤ k ∧ k ≤ 15 then 0 else 1

theorem window_ok (n : Int) : CallOk Try.prog 35 [.int .i64 n] [] (.tuple #[.int .i64 (wnZ n), .int .i64 (weZ n)]) [] 0 := by
  by_cases h : 0 ≤ n ∧ n ≤ 31
  · have e : IntKind.wrap IntKind.i64 (IntKind.wrap IntKind.i64 (2 * n) + 1) = 2 * n + 1 := by rw [wrap_in (n := 2 * n) (inI_iff.2 (by omega)), wrap_in (inI_iff.2 (by omega))]
    unfold wnZ weZ
    rw [if_pos h, if_pos h, ← e]
    exact pf_ok (N := 300) (L := noLoops) (os := [(0, true), (0, true), (0, false)]) (ob := [(bif decide (n < 0) then true else decide (n ≥ 32), false), (decide (n < 0) == false, true), (decide (n < 0) == false, true)]) t6p_sound noLoops_ok (by kernel_rfl) (by simp [Holds]; omega) rfl
  · unfold wnZ weZ
    rw [if_neg h, if_neg h]
    by_cases h1 : n < 0
    · exact pf_ok (N := 300) (L := noLoops) (os := [(0, false), (0, false), (0, true)]) (ob := [(decide (n < 0), true), (decide (n < 0) == false, false), (decide (n < 0) == false, false)]) t6p_sound noLoops_ok (by kernel_rfl) (by simp [Holds]; omega) rfl
    · exact pf_ok (N := 300) (L := noLoops) (os := [(0, true), (0, true), (0, true)]) (ob := [(bif decide (n < 0) then true else decide (n ≥ 32), true), (decide (n < 0) == false, true), (decide (n < 0) == false, true)]) t6p_sound noLoops_ok (by kernel_rfl) (by simp [Holds]; omega) rfl

theorem ref_window_ok (n : Int) : CallOk Try.prog 50 [.int .i64 n] [] (.tuple #[.int .i64 (wnZ n), .int .i64 (weZ n)]) [] 0 := by
  by_cases h : 0 ≤ n ∧ n ≤ 31
  · have e : IntKind.wrap IntKind.i64 (IntKind.wrap IntKind.i64 (2 * n) + 1) = 2 * n + 1 := by rw [wrap_in (n := 2 * n) (inI_iff.2 (by omega)), wrap_in (inI_iff.2 (by omega))]
    unfold wnZ weZ
    rw [if_pos h, if_pos h, ← e]
    exact pf_ok (N := 300) (L := noLoops) (os := [(0, true), (0, true), (0, false)]) (ob := [(bif decide (n < 0) then true else decide (n > 31), false), (decide (n < 0) == false, true), (decide (n < 0) == false, true)]) t6p_sound noLoops_ok (by kernel_rfl) (by simp [Holds]; omega) rfl
  · unfold wnZ weZ
    rw [if_neg h, if_neg h]
    by_cases h1 : n < 0
    · exact pf_ok (N := 300) (L := noLoops) (os := [(0, false), (0, false), (0, true)]) (ob := [(decide (n < 0), true), (decide (n < 0) == false, false), (decide (n < 0) == false, false)]) t6p_sound noLoops_ok (by kernel_rfl) (by simp [Holds]; omega) rfl
    · exact pf_ok (N := 300) (L := noLoops) (os := [(0, true), (0, true), (0, true)]) (ob := [(bif decide (n < 0) then true else decide (n > 31), true), (decide (n < 0) == false, true), (decide (n < 0) == false, true)]) t6p_sound noLoops_ok (by kernel_rfl) (by simp [Holds]; omega) rfl

theorem near_ok (a b y : Int) : CallOk Try.prog 32 [.int .i64 a, .int .i64 b, .int .i64 y] [] (.bool (nearB a b y)) [] 0 := by
  unfold nearB
  by_cases h : IntKind.wrap IntKind.i64 (a - b) ≤ y
  · exact pf_ok (N := 300) (L := noLoops) (os := [(0, true), (0, true), (0, true), (0, true), (0, true)]) (ob := [(decide (IntKind.wrap IntKind.i64 (a - b) ≤ y) == true, true), (decide (IntKind.wrap IntKind.i64 (a - b) ≤ y) == true, true), (decide (IntKind.wrap IntKind.i64 (a - b) ≤ y) == true, true), (decide (IntKind.wrap IntKind.i64 (a - b) ≤ y) == true, true), (decide (IntKind.wrap IntKind.i64 (a - b) ≤ y) == true, true)]) noC_sound noLoops_ok (by kernel_rfl) (by simp [Holds, h]) rfl
  · have hh := pf_ok (N := 300) (L := noLoops) (os := [(0, false), (0, false), (0, false), (0, false), (0, false), (0, false)]) (ob := [(decide (IntKind.wrap IntKind.i64 (a - b) ≤ y), false), (decide (IntKind.wrap IntKind.i64 (a - b) ≤ y) == true, false), (decide (IntKind.wrap IntKind.i64 (a - b) ≤ y) == true, false), (decide (IntKind.wrap IntKind.i64 (a - b) ≤ y) == true, false), (decide (IntKind.wrap IntKind.i64 (a - b) ≤ y) == true, false), (decide (IntKind.wrap IntKind.i64 (a - b) ≤ y) == true, false)]) (f := 32) (args := [.int .i64 a, .int .i64 b, .int .i64 y]) (v := .bool false) noC_sound noLoops_ok (by kernel_rfl) (by simp [Holds, h]) rfl
    simp only [h, decide_false, cond_false]
    exact hh
/-- Places that are not computed, by the slots of their first operands. -/
def symPre (ks : List Nat) (pre : Pre) : Pre := fun f args H => (match Nat.beq f 1000000 with
  | true => match args with
    | [.int _ t] => !(ks.any fun u => decide ((u : Int) = t))
    | _ => true
  | false => true) && pre f args H
theorem sym_sound {pre : Pre} {C : Oracle} (ks : List Nat) (h : Sound Try.prog (strict pre C)) : Sound Try.prog (strict (symPre ks pre) C) := by
  intro f args H v H' n hc
  unfold strict at hc
  split at hc
  · rename_i hp
    unfold symPre at hp
    simp only [Bool.and_eq_true] at hp
    exact h f args H v H' n (by unfold strict; rw [hp.2]; exact hc)
  · simp at hc


end Go.Proofs.Ytfbjpenbpbpcaaa

/-
  Chapter 06: the laws TableTurns, TableOpposite, TableCircle as calls.
-/
namespace Go.Proofs.Ytfbjpenbpbpcaaa
open Go Den
set_option maxRecDepth 100000
set_option linter.unusedSimpArgs false
set_option linter.unusedVariables false

theorem turns_call (i m : Int) : CallOk Try.prog 5 [.int .i64 i, .int .i64 m] [] (.bool true) [] 0 :=
  pf_ok (N := 300) (L := noLoops) (os := []) (ob := [(sinZ m == sinZ m, true), (cosZ m == cosZ m, true), (ptY m == ptY m, true), (ptX m == ptX m, true),
      (heZ i == heZ i, true), (hyZ i == hyZ i, true), (hxZ i == hxZ i, true)]) (nb_sound [] (allT [45, 50, 55, 60, 65, 72, 79]) t6p_sound) noLoops_ok (by kernel_rfl) (by simp [Holds]) rfl

def t6c : Oracle := fun f args H => match H with
  | [] => match f, args with
    | 32, [.int .i64 a, .int .i64 b, .int .i64 y] => some (.bool (nearB a b y), [], 0)
    | 35, [.int .i64 n] => some (.tuple #[.int .i64 (wnZ n), .int .i64 (weZ n)], [], 0)
    | 50, [.int .i64 n] => some (.tuple #[.int .i64 (wnZ n), .int .i64 (weZ n)], [], 0)
    | _, _ => none
  | _ => none
theorem t6c_sound : Sound Try.prog t6c := by
  intro f args H v H' l h
  unfold t6c at h
  split at h
  · split at h
    all_goals first | (simp at h; done) | (simp only [Option.some.injEq, Prod.mk.injEq] at h; obtain ⟨rfl, rfl, rfl⟩ := h)
    · exact near_ok _ _ _
    · exact window_ok _
    · exact ref_window_ok _
  · simp at h
def x6c : Oracle := orElse t6c (orElse l6O t6b)
theorem x6c_sound : Sound Try.prog (strict noPre x6c) := plain_sound (t6c_sound.or (l6O_sound.or t6b_sound))

theorem cosZ_mod {m r : Int} (h : m % 128 = r % 128) : cosZ m = cosZ r := by unfold cosZ ptX; rw [h]
theorem sinZ_mod {m r : Int} (h : m % 128 = r % 128) : sinZ m = sinZ r := by unfold sinZ ptY; rw [h]

def oppB (r : Int) : Bool := nearB (cosZ (r - 32)) (sinZ r) 4 && (nearB (sinZ (0 - r)) (IntKind.wrap IntKind.i64 (0 - sinZ r)) 4 && (nearB (cosZ (0 - r)) (cosZ r) 4 && (nearB (sinZ (r + 64)) (IntKind.wrap IntKind.i64 (0 - sinZ r)) 1 && nearB (cosZ (r + 64)) (IntKind.wrap IntKind.i64 (0 - cosZ r)) 1)))
theorem opp_all : (List.range 128).all (fun r => oppB (r : Int)) = true := by kernel_rfl
theorem oppB_ok (m : Int) : oppB m = true := by
  have h := List.all_eq_true.1 opp_all (m % 128).toNat (List.mem_range.2 (by omega))
  have e : (((m % 128).toNat : Nat) : Int) = m % 128 := by omega
  rw [e] at h
  have e1 : cosZ (m - 32) = cosZ (m % 128 - 32) := cosZ_mod (by omega)
  have e2 : sinZ (0 - m) = sinZ (0 - m % 128) := sinZ_mod (by omega)
  have e3 : cosZ (0 - m) = cosZ (0 - m % 128) := cosZ_mod (by omega)
  have e4 : sinZ (m + 64) = sinZ (m % 128 + 64) := sinZ_mod (by omega)
  have e5 : cosZ (m + 64) = cosZ (m % 128 + 64) := cosZ_mod (by omega)
  have e6 : sinZ m = sinZ (m % 128) := sinZ_mod (by omega)
  have e7 : cosZ m = cosZ (m % 128) := cosZ_mod (by omega)
  unfold oppB at h ⊢
  rw [e1, e2, e3, e4, e5, e6, e7]
  exact h

theorem tmod_lt (m : Int) : -1099511627776 < m.tmod 1099511627776 ∧ m.tmod 1099511627776 < 1099511627776 := by
  have := tmod_lit m 1099511627776
  omega

theorem opp_call (m : Int) : CallOk Try.prog 3 [.int .i64 m] [] (.bool true) [] 0 := by
  refine pf_ok (N := 300) (L := noLoops) (os := []) (ob := [(nearB (cosZ (IntKind.wrap IntKind.i64 (Int.tmod m 1099511627776 - 32))) (sinZ (Int.tmod m 1099511627776)) 4, true),
      (nearB (sinZ (IntKind.wrap IntKind.i64 (0 - Int.tmod m 1099511627776))) (IntKind.wrap IntKind.i64 (0 - sinZ (Int.tmod m 1099511627776))) 4, true),
      (nearB (cosZ (IntKind.wrap IntKind.i64 (0 - Int.tmod m 1099511627776))) (cosZ (Int.tmod m 1099511627776)) 4, true),
      (nearB (sinZ (IntKind.wrap IntKind.i64 (Int.tmod m 1099511627776 + 64))) (IntKind.wrap IntKind.i64 (0 - sinZ (Int.tmod m 1099511627776))) 1, true),
      (nearB (cosZ (IntKind.wrap IntKind.i64 (Int.tmod m 1099511627776 + 64))) (IntKind.wrap IntKind.i64 (0 - cosZ (Int.tmod m 1099511627776))) 1, true)])
    (nb_sound [] (allT [24, 33, 41, 50, 58]) x6c_sound) noLoops_ok (by kernel_rfl) ?_ rfl
  have h := tmod_lt m
  have hb := oppB_ok (Int.tmod m 1099511627776)
  generalize Int.tmod m 1099511627776 = M at *
  rw [wrap_in (n := M - 32) (inI_iff.2 (by omega)), wrap_in (n := 0 - M) (inI_iff.2 (by omega)), wrap_in (n := M + 64) (inI_iff.2 (by omega))]
  simp only [oppB, Bool.and_eq_true] at hb
  simp only [Holds, List.mem_cons, List.not_mem_nil, or_false, forall_eq_or_imp, forall_eq]
  exact ⟨hb.1, hb.2.1, hb.2.2.1, hb.2.2.2.1, hb.2.2.2.2⟩

end Go.Proofs.Ytfbjpenbpbpcaaa

/-
  Chapter 06: the contracts of Kernel and Row.
-/
namespace Go.Proofs.Ytfbjpenbpbpcaaa
open Go Den
set_option maxRecDepth 100000
set_option linter.unusedSimpArgs false
set_option linter.unusedVariables false

theorem over6_sound : Sound Try.prog (strict noPre (over x6c 1)) := plain_sound (over_sound (t6c_sound.or (l6O_sound.or t6b_sound)) 1)

theorem kn_in {n k : Int} (h : (0 ≤ n ∧ n ≤ 31) ∧ 0 ≤ k ∧ k ≤ 15) : inI ((2 * n + 17) * (2 * k + 1)) = true := by
  have h0 : 0 ≤ (2 * n + 17) * (2 * k + 1) := Int.mul_nonneg (by omega) (by omega)
  have h1 : (2 * n + 17) * (2 * k + 1) ≤ 79 * 31 := Int.mul_le_mul (by omega) (by omega) (by omega) (by omega)
  exact inI_iff.2 (by omega)

theorem kernel_ok (n k : Int) : CallOk Try.prog 51 [.int .i64 n, .int .i64 k] [] (.tuple #[.int .i64 (knZ n k), .int .i64 (keZ n k)]) [] 0 := by
  by_cases h : (0 ≤ n ∧ n ≤ 31) ∧ 0 ≤ k ∧ k ≤ 15
  · have e : IntKind.wrap IntKind.i64 (IntKind.wrap IntKind.i64 (IntKind.wrap IntKind.i64 (IntKind.wrap IntKind.i64 (2 * n) + 16) + 1) * IntKind.wrap IntKind.i64 (IntKind.wrap IntKind.i64 (2 * k) + 1)) = (2 * n + 17) * (2 * k + 1) := by
      rw [wrap_in (n := 2 * n) (inI_iff.2 (by omega)), wrap_in (n := 2 * n + 16) (inI_iff.2 (by omega)), wrap_in (n := 2 * n + 16 + 1) (inI_iff.2 (by omega)), wrap_in (n := 2 * k) (inI_iff.2 (by omega)), wrap_in (n := 2 * k + 1) (inI_iff.2 (by omega)), show 2 * n + 16 + 1 = 2 * n + 17 by omega, wrap_in (kn_in h)]
    unfold knZ keZ
    rw [if_pos h, if_pos h, ← e]
    exact pf_ok (N := 300) (L := noLoops) (os := [(0, true), (0, true), (0, true), (0, true), (0, true), (0, true), (0, false)]) (ob := [(bif bif bif decide (n < 0) then true else decide (n ≥ 32) then true else decide (k < 0) then true else decide (k ≥ 16), false),
      ((bif bif decide (n < 0) then true else decide (n ≥ 32) then true else decide (k < 0)) == false, true),
      ((bif bif decide (n < 0) then true else decide (n ≥ 32) then true else decide (k < 0)) == false, true),
      ((bif decide (n < 0) then true else decide (n ≥ 32)) == false, true),
      ((bif decide (n < 0) then true else decide (n ≥ 32)) == false, true), (decide (n < 0) == false, true), (decide (n < 0) == false, true)]) over6_sound noLoops_ok (by kernel_rfl) (by simp [Holds]; omega) rfl
  · unfold knZ keZ
    rw [if_neg h, if_neg h]
    by_cases h1 : n < 0
    · exact pf_ok (N := 300) (L := noLoops) (os := [(0, false), (0, false), (0, true)]) (ob := [(decide (n < 0), true), (decide (n < 0) == false, false), (decide (n < 0) == false, false)]) over6_sound noLoops_ok (by kernel_rfl) (by simp [Holds]; omega) rfl
    by_cases h2 : n ≥ 32
    · exact pf_ok (N := 300) (L := noLoops) (os := [(0, true), (0, true), (0, false), (0, false), (0, true)]) (ob := [(bif decide (n < 0) then true else decide (n ≥ 32), true),
      ((bif decide (n < 0) then true else decide (n ≥ 32)) == false, false),
      ((bif decide (n < 0) then true else decide (n ≥ 32)) == false, false), (decide (n < 0) == false, true),
      (decide (n < 0) == false, true)]) over6_sound noLoops_ok (by kernel_rfl) (by simp [Holds]; omega) rfl
    by_cases h3 : k < 0
    · exact pf_ok (N := 300) (L := noLoops) (os := [(0, true), (0, true), (0, true), (0, true), (0, false), (0, false), (0, true)]) (ob := [(bif bif decide (n < 0) then true else decide (n ≥ 32) then true else decide (k < 0), true),
      ((bif bif decide (n < 0) then true else decide (n ≥ 32) then true else decide (k < 0)) == false, false),
      ((bif bif decide (n < 0) then true else decide (n ≥ 32) then true else decide (k < 0)) == false, false),
      ((bif decide (n < 0) then true else decide (n ≥ 32)) == false, true),
      ((bif decide (n < 0) then true else decide (n ≥ 32)) == false, true), (decide (n < 0) == false, true),
      (decide (n < 0) == false, true)]) over6_sound noLoops_ok (by kernel_rfl) (by simp [Holds]; omega) rfl
    · exact pf_ok (N := 300) (L := noLoops) (os := [(0, true), (0, true), (0, true), (0, true), (0, true), (0, true), (0, true)]) (ob := [(bif bif bif decide (n < 0) then true else decide (n ≥ 32) then true else decide (k < 0) then true else decide (k ≥ 16), true),
      ((bif bif decide (n < 0) then true else decide (n ≥ 32) then true else decide (k < 0)) == false, true),
      ((bif bif decide (n < 0) then true else decide (n ≥ 32) then true else decide (k < 0)) == false, true),
      ((bif decide (n < 0) then true else decide (n ≥ 32)) == false, true),
      ((bif decide (n < 0) then true else decide (n ≥ 32)) == false, true), (decide (n < 0) == false, true),
      (decide (n < 0) == false, true)]) over6_sound noLoops_ok (by kernel_rfl) (by simp [Holds]; omega) rfl
theorem ref_kernel_ok (n k : Int) : CallOk Try.prog 52 [.int .i64 n, .int .i64 k] [] (.tuple #[.int .i64 (knZ n k), .int .i64 (keZ n k)]) [] 0 := by
  by_cases h : (0 ≤ n ∧ n ≤ 31) ∧ 0 ≤ k ∧ k ≤ 15
  · have e : IntKind.wrap IntKind.i64 (IntKind.wrap IntKind.i64 (IntKind.wrap IntKind.i64 (2 * n) + 17) * IntKind.wrap IntKind.i64 (IntKind.wrap IntKind.i64 (2 * k) + 1)) = (2 * n + 17) * (2 * k + 1) := by
      rw [wrap_in (n := 2 * n) (inI_iff.2 (by omega)), wrap_in (n := 2 * n + 17) (inI_iff.2 (by omega)), wrap_in (n := 2 * k) (inI_iff.2 (by omega)), wrap_in (n := 2 * k + 1) (inI_iff.2 (by omega)), wrap_in (kn_in h)]
    unfold knZ keZ
    rw [if_pos h, if_pos h, ← e]
    exact pf_ok (N := 300) (L := noLoops) (os := [(0, true), (0, true), (0, true), (0, true), (0, true), (0, true), (0, false)]) (ob := [(bif bif bif decide (n < 0) then true else decide (n > 31) then true else decide (k < 0) then true else decide (k > 15), false),
      ((bif bif decide (n < 0) then true else decide (n > 31) then true else decide (k < 0)) == false, true),
      ((bif bif decide (n < 0) then true else decide (n > 31) then true else decide (k < 0)) == false, true),
      ((bif decide (n < 0) then true else decide (n > 31)) == false, true),
      ((bif decide (n < 0) then true else decide (n > 31)) == false, true), (decide (n < 0) == false, true), (decide (n < 0) == false, true)]) over6_sound noLoops_ok (by kernel_rfl) (by simp [Holds]; omega) rfl
  · unfold knZ keZ
    rw [if_neg h, if_neg h]
    by_cases h1 : n < 0
    · exact pf_ok (N := 300) (L := noLoops) (os := [(0, false), (0, false), (0, true)]) (ob := [(decide (n < 0), true), (decide (n < 0) == false, false), (decide (n < 0) == false, false)]) over6_sound noLoops_ok (by kernel_rfl) (by simp [Holds]; omega) rfl
    by_cases h2 : n > 31
    · exact pf_ok (N := 300) (L := noLoops) (os := [(0, true), (0, true), (0, false), (0, false), (0, true)]) (ob := [(bif decide (n < 0) then true else decide (n > 31), true),
      ((bif decide (n < 0) then true else decide (n > 31)) == false, false),
      ((bif decide (n < 0) then true else decide (n > 31)) == false, false), (decide (n < 0) == false, true),
      (decide (n < 0) == false, true)]) over6_sound noLoops_ok (by kernel_rfl) (by simp [Holds]; omega) rfl
    by_cases h3 : k < 0
    · exact pf_ok (N := 300) (L := noLoops) (os := [(0, true), (0, true), (0, true), (0, true), (0, false), (0, false), (0, true)]) (ob := [(bif bif decide (n < 0) then true else decide (n > 31) then true else decide (k < 0), true),
      ((bif bif decide (n < 0) then true else decide (n > 31) then true else decide (k < 0)) == false, false),
      ((bif bif decide (n < 0) then true else decide (n > 31) then true else decide (k < 0)) == false, false),
      ((bif decide (n < 0) then true else decide (n > 31)) == false, true),
      ((bif decide (n < 0) then true else decide (n > 31)) == false, true), (decide (n < 0) == false, true),
      (decide (n < 0) == false, true)]) over6_sound noLoops_ok (by kernel_rfl) (by simp [Holds]; omega) rfl
    · exact pf_ok (N := 300) (L := noLoops) (os := [(0, true), (0, true), (0, true), (0, true), (0, true), (0, true), (0, true)]) (ob := [(bif bif bif decide (n < 0) then true else decide (n > 31) then true else decide (k < 0) then true else decide (k > 15), true),
      ((bif bif decide (n < 0) then true else decide (n > 31) then true else decide (k < 0)) == false, true),
      ((bif bif decide (n < 0) then true else decide (n > 31) then true else decide (k < 0)) == false, true),
      ((bif decide (n < 0) then true else decide (n > 31)) == false, true),
      ((bif decide (n < 0) then true else decide (n > 31)) == false, true), (decide (n < 0) == false, true),
      (decide (n < 0) == false, true)]) over6_sound noLoops_ok (by kernel_rfl) (by simp [Holds]; omega) rfl
end Go.Proofs.Ytfbjpenbpbpcaaa

/-
  Chapter 06: the contract of Row.
-/
namespace Go.Proofs.Ytfbjpenbpbpcaaa
open Go Den
set_option maxRecDepth 100000
set_option linter.unusedSimpArgs false
set_option linter.unusedVariables false

def rowZ (k : Int) : List Int := (List.range 32).map fun (n : Nat) => cosZ ((2 * (n : Int) + 17) * (2 * k + 1))

noncomputable def rowC : Oracle := orElse arC (over c3 1)
theorem rowC_sound : Sound Try.prog (strict noPre rowC) := plain_sound (arC_sound.or (over_sound fx3_sound 1))
theorem row_runs0 : (List.range' 0 4).map (fun (k : Nat) => evFnL Try.prog ext 300 noPre rowC noLoops [] 53 [.int .i64 (k : Int)] []) =
  (List.range' 0 4).map fun (k : Nat) => some ((.tuple #[.slice (some ⟨1, 0, none⟩) 32 32, .int .i64 0], [⟨true, none, ints ptZ⟩, ⟨true, none, ints (rowZ (k : Int))⟩], 0), []) := by kernel_rfl
theorem row_runs1 : (List.range' 4 4).map (fun (k : Nat) => evFnL Try.prog ext 300 noPre rowC noLoops [] 53 [.int .i64 (k : Int)] []) =
  (List.range' 4 4).map fun (k : Nat) => some ((.tuple #[.slice (some ⟨1, 0, none⟩) 32 32, .int .i64 0], [⟨true, none, ints ptZ⟩, ⟨true, none, ints (rowZ (k : Int))⟩], 0), []) := by kernel_rfl
theorem row_runs2 : (List.range' 8 4).map (fun (k : Nat) => evFnL Try.prog ext 300 noPre rowC noLoops [] 53 [.int .i64 (k : Int)] []) =
  (List.range' 8 4).map fun (k : Nat) => some ((.tuple #[.slice (some ⟨1, 0, none⟩) 32 32, .int .i64 0], [⟨true, none, ints ptZ⟩, ⟨true, none, ints (rowZ (k : Int))⟩], 0), []) := by kernel_rfl
theorem row_runs3 : (List.range' 12 4).map (fun (k : Nat) => evFnL Try.prog ext 300 noPre rowC noLoops [] 53 [.int .i64 (k : Int)] []) =
  (List.range' 12 4).map fun (k : Nat) => some ((.tuple #[.slice (some ⟨1, 0, none⟩) 32 32, .int .i64 0], [⟨true, none, ints ptZ⟩, ⟨true, none, ints (rowZ (k : Int))⟩], 0), []) := by kernel_rfl

theorem row_ok (k : Int) (h : 0 ≤ k ∧ k ≤ 15) : CallOk Try.prog 53 [.int .i64 k] [] (.tuple #[.slice (some ⟨0, 0, none⟩) 32 32, .int .i64 0]) [⟨true, none, ints (rowZ k)⟩] 0 := by
  have hr : evFnL Try.prog ext 300 noPre rowC noLoops [] 53 [.int .i64 k] [] = some ((.tuple #[.slice (some ⟨1, 0, none⟩) 32 32, .int .i64 0], [⟨true, none, ints ptZ⟩, ⟨true, none, ints (rowZ k)⟩], 0), []) := by
    rw [show k = ((k.toNat : Nat) : Int) by omega]
    have hk : k.toNat < 16 := by omega
    generalize k.toNat = r at *
    by_cases h0 : r < 4
    · exact of_list row_runs0 (by omega) (by omega)
    by_cases h1 : r < 8
    · exact of_list row_runs1 (by omega) (by omega)
    by_cases h2 : r < 12
    · exact of_list row_runs2 (by omega) (by omega)
    · exact of_list row_runs3 (by omega) (by omega)
  have hc := fnL_ok progOk extSound rowC_sound noLoops_ok hr (by simp [Holds])
  exact hc.gc [1] rfl (by kernel_rfl) (by kernel_rfl) (by kernel_rfl)

theorem row_none (k : Int) (h : ¬ (0 ≤ k ∧ k ≤ 15)) : CallOk Try.prog 53 [.int .i64 k] [] (.tuple #[.slice none 0 0, .int .i64 1]) [] 0 := by
  by_cases h1 : k < 0
  · exact pf_ok (N := 300) (L := noLoops) (os := [(0, false), (0, false), (0, true)]) (ob := [(decide (k < 0), true), (decide (k < 0) == false, false), (decide (k < 0) == false, false)]) rowC_sound noLoops_ok (by kernel_rfl) (by simp [Holds]; omega) rfl
  · exact pf_ok (N := 300) (L := noLoops) (os := [(0, true), (0, true), (0, true)]) (ob := [(bif decide (k < 0) then true else decide (k ≥ 16), true), (decide (k < 0) == false, true), (decide (k < 0) == false, true)]) rowC_sound noLoops_ok (by kernel_rfl) (by simp [Holds]; omega) rfl

end Go.Proofs.Ytfbjpenbpbpcaaa

/-
  Chapter 06: the law TableRows as a call.
-/
namespace Go.Proofs.Ytfbjpenbpbpcaaa
open Go Den
set_option maxRecDepth 100000
set_option linter.unusedSimpArgs false
set_option linter.unusedVariables false

def t6d : Oracle := fun f args H => match H with
  | [] => match f, args with
    | 51, [.int .i64 n, .int .i64 k] => some (.tuple #[.int .i64 (knZ n k), .int .i64 (keZ n k)], [], 0)
    | 52, [.int .i64 n, .int .i64 k] => some (.tuple #[.int .i64 (knZ n k), .int .i64 (keZ n k)], [], 0)
    | 53, [.int .i64 k] => some (.tuple #[.slice (some ⟨0, 0, none⟩) 32 32, .int .i64 0], [⟨true, none, ints (rowZ k)⟩], 0)
    | _, _ => none
  | _ => none
def t6dPre : Pre := fun f args H => match f, args with
  | 53, [.int .i64 k] => decide (0 ≤ k ∧ k ≤ 15)
  | _, _ => true
theorem t6d_sound : Sound Try.prog (strict t6dPre t6d) := by
  refine Sound.strict fun f args H v H' l hp h => ?_
  unfold t6d at h
  split at h
  · split at h
    all_goals first | (simp at h; done) | (simp only [Option.some.injEq, Prod.mk.injEq] at h; obtain ⟨rfl, rfl, rfl⟩ := h)
    · exact kernel_ok _ _
    · exact ref_kernel_ok _ _
    · exact row_ok _ (by simpa [t6dPre] using hp)
  · simp at h
def x6d : Oracle := orElse x6c t6d
theorem x6d_sound : Sound Try.prog (strict (framePre t6dPre) (frameC x6d)) := frame_sound (strict_or (t6c_sound.or (l6O_sound.or t6b_sound)) t6d_sound)

theorem rem32 (m : Int) : Int.tmod (IntKind.wrap IntKind.i64 (Int.tmod m 32 + 32)) 32 = m % 32 := by
  have h1 := tmod_lit m 32
  rw [wrap_in (inI_iff.2 (by omega))]
  have h2 := tmod_lit (m.tmod 32 + 32) 32
  omega
theorem rem16' (m : Int) : Int.tmod (IntKind.wrap IntKind.i64 (Int.tmod m 16 + 16)) 16 = m % 16 := by
  have h1 := tmod_lit m 16
  rw [wrap_in (inI_iff.2 (by omega))]
  have h2 := tmod_lit (m.tmod 16 + 16) 16
  omega

theorem wn_all : (List.range 32).all (fun r => decide (wnZ (r : Int) > 0)) = true := by kernel_rfl

theorem rows_call (n k : Int) : CallOk Try.prog 9 [.int .i64 n, .int .i64 k] [] (.bool true) [] 0 := by
  have hN : 0 ≤ n % 32 ∧ n % 32 < 32 := by omega
  have hK : 0 ≤ k % 16 ∧ k % 16 < 16 := by omega
  have eN := rem32 n
  have eK := rem16' k
  generalize n % 32 = N at *
  generalize k % 16 = K at *
  refine pf_ok (N := 300) (L := noLoops) (os := [(6, true), (13, true), (1, true)]) (ob := [(decide (wnZ N > 0), true), (wnZ N == sinZ (IntKind.wrap IntKind.i64 (IntKind.wrap IntKind.i64 (2 * N) + 1)), true),
      (knZ N K == cosZ (IntKind.wrap IntKind.i64 (IntKind.wrap IntKind.i64 (IntKind.wrap IntKind.i64 (2 * N) + 17) * IntKind.wrap IntKind.i64 (IntKind.wrap IntKind.i64 (2 * K) + 1))), true),
      (intAt (ints (rowZ K)) (0 + N.toNat) == knZ N K, true), (isIntAt .i64 (ints (rowZ K)) (0 + N.toNat), true), (decide (0 ≤ N ∧ N < ((32 : Nat) : Int)), true),
      (weZ N != 0, false), (keZ N K != 0, false), ((0 : Int) != 0, false), (decide (0 ≤ K ∧ K ≤ 15), true),
      (decide (Int.tmod (IntKind.wrap IntKind.i64 (Int.tmod k 16 + 16)) 16 = K), true), (decide (Int.tmod (IntKind.wrap IntKind.i64 (Int.tmod n 32 + 32)) 32 = N), true)])
    (sym_sound [56, 58] (nb_sound [(18, N), (22, K)] (allT [61, 73, 81, 85] ++ [(40, false), (43, false), (47, false)]) x6d_sound)) noLoops_ok (by kernel_rfl) ?_ rfl
  have hin : (0 ≤ N ∧ N ≤ 31) ∧ 0 ≤ K ∧ K ≤ 15 := by omega
  have hlen : N.toNat < (rowZ K).length := by simp [rowZ]; omega
  have g0 : (rowZ K).getD N.toNat 0 = knZ N K := by
    have hr : N.toNat < 32 := by omega
    simp only [rowZ, List.getD_eq_getElem?_getD, List.getElem?_map, List.getElem?_range hr, Option.map_some, Option.getD_some]
    unfold knZ
    rw [if_pos hin, show ((N.toNat : Nat) : Int) = N by omega]
  have g1 : intAt (ints (rowZ K)) (0 + N.toNat) = knZ N K := by
    unfold intAt ints
    rw [Nat.zero_add, List.getElem?_map]
    rw [List.getD_eq_getElem?_getD] at g0
    rw [List.getElem?_eq_getElem hlen] at g0 ⊢
    simpa using g0
  have g2 : isIntAt .i64 (ints (rowZ K)) (0 + N.toNat) = true := by
    unfold isIntAt ints
    rw [Nat.zero_add, List.getElem?_map, List.getElem?_eq_getElem hlen]
    rfl
  have hw := List.all_eq_true.1 wn_all N.toNat (List.mem_range.2 (by omega))
  rw [show ((N.toNat : Nat) : Int) = N by omega] at hw
  have e1 : IntKind.wrap IntKind.i64 (IntKind.wrap IntKind.i64 (2 * N) + 1) = 2 * N + 1 := by rw [wrap_in (n := 2 * N) (inI_iff.2 (by omega)), wrap_in (inI_iff.2 (by omega))]
  have e2 : IntKind.wrap IntKind.i64 (IntKind.wrap IntKind.i64 (IntKind.wrap IntKind.i64 (2 * N) + 17) * IntKind.wrap IntKind.i64 (IntKind.wrap IntKind.i64 (2 * K) + 1)) = (2 * N + 17) * (2 * K + 1) := by
    rw [wrap_in (n := 2 * N) (inI_iff.2 (by omega)), wrap_in (n := 2 * N + 17) (inI_iff.2 (by omega)), wrap_in (n := 2 * K) (inI_iff.2 (by omega)), wrap_in (n := 2 * K + 1) (inI_iff.2 (by omega)), wrap_in (kn_in hin)]
  have w1 : wnZ N = sinZ (2 * N + 1) := by unfold wnZ; rw [if_pos hin.1]
  have w2 : knZ N K = cosZ ((2 * N + 17) * (2 * K + 1)) := by unfold knZ; rw [if_pos hin]
  have w3 : weZ N = 0 := by unfold weZ; rw [if_pos hin.1]
  have w4 : keZ N K = 0 := by unfold keZ; rw [if_pos hin]
  rw [eN, eK, g1, g2, e1, e2, w3, w4, hw, w2, w1]
  simp [Holds]
  omega
end Go.Proofs.Ytfbjpenbpbpcaaa

