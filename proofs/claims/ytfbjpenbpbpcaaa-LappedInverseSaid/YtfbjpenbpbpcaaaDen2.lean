/-
  A verified evaluator, third part: memory: cells read, cells written, a new block.
-/
import Derived.Test.YtfbjpenbpbpcaaaDen1
import Derived.Laws.CopyRow
import Derived.Laws.Rows
import Derived.Laws.Cells
namespace Go.Proofs.Ytfbjpenbpbpcaaa.Den
open Go

theorem oneCell_eq (v : Value) : v.oneCell' = oneCell v := by cases v <;> rfl

theorem VRs.nil {ρ : Rho} : VRs ρ [] [] := ⟨rfl, fun i v v' a _ => by simp at a⟩

theorem VRs.cons {ρ : Rho} {v v' : Value} {l l' : List Value} (h : VR ρ v v') (t : VRs ρ l l') : VRs ρ (v :: l) (v' :: l') :=
  ⟨by simp [t.1], fun i x x' a b => by
    cases i with
    | zero => simp at a b; subst a b; exact h
    | succ i => simp at a b; exact t.2 i x x' a b⟩

theorem VRs.append {ρ : Rho} {a a' b b' : List Value} (h : VRs ρ a a') (k : VRs ρ b b') : VRs ρ (a ++ b) (a' ++ b') :=
  ⟨by simp [h.1, k.1], fun i v v' x y => by
    rw [List.getElem?_append] at x y
    by_cases hi : i < a.length
    · rw [if_pos hi] at x
      rw [if_pos (by rw [← h.1]; exact hi)] at y
      exact h.2 i v v' x y
    · rw [if_neg hi] at x
      rw [if_neg (by rw [← h.1]; exact hi), ← h.1] at y
      exact k.2 _ v v' x y⟩

theorem VRs.take {ρ : Rho} {a a' : List Value} (h : VRs ρ a a') (n : Nat) : VRs ρ (a.take n) (a'.take n) :=
  ⟨by simp [h.1], fun i v v' x y => by
    rw [List.getElem?_take] at x y
    split at x
    · rename_i hi; rw [if_pos hi] at y; exact h.2 i v v' x y
    · simp at x⟩

theorem VRs.drop {ρ : Rho} {a a' : List Value} (h : VRs ρ a a') (n : Nat) : VRs ρ (a.drop n) (a'.drop n) :=
  ⟨by simp [h.1], fun i v v' x y => by
    rw [List.getElem?_drop] at x y
    exact h.2 _ v v' x y⟩

theorem VRs.allOne {ρ : Rho} {a a' : List Value} (h : VRs ρ a a') (ho : a.all oneCell = true) : ∀ v ∈ a', v.oneCell' = true := by
  intro v' hv
  obtain ⟨i, hi⟩ := List.getElem?_of_mem hv
  have hlt : i < a.length := by rw [h.1]; exact (List.getElem?_eq_some_iff.1 hi).1
  have hx : a[i]? = some a[i] := List.getElem?_eq_getElem hlt
  rw [oneCell_eq, (h.2 i _ v' hx hi).oneCell]
  exact get_all ho hx

theorem VR.arr {ρ : Rho} {cs cs' : Array Value} (hn : cs.size = cs'.size) (h : ∀ (i : Nat) (v v' : Value), cs[i]? = some v → cs'[i]? = some v' → VR ρ v v') : VRs ρ cs.toList cs'.toList :=
  ⟨by simpa using hn, fun i v v' a b => h i v v' (by simpa using a) (by simpa using b)⟩

theorem VRs.toAgg {ρ : Rho} {l l' : List Value} (h : VRs ρ l l') : VR ρ (.agg l.toArray) (.agg l'.toArray) :=
  .agg (by simpa using h.1) fun i v v' a b => h.2 i v v' (by simpa using a) (by simpa using b)

theorem VRs.toTuple {ρ : Rho} {l l' : List Value} (h : VRs ρ l l') : VR ρ (.tuple l.toArray) (.tuple l'.toArray) :=
  .tuple (by simpa using h.1) fun i v v' a b => h.2 i v v' (by simpa using a) (by simpa using b)

theorem VR.cells {ρ : Rho} {v v' : Value} (h : VR ρ v v') : VRs ρ v.cells.toList v'.cells.toList := by
  have one : VRs ρ [v] [v'] := VRs.cons h VRs.nil
  cases h with
  | agg hn h => exact VR.arr hn h
  | flat hf => cases v <;> first | exact one | simp [isFlat] at hf
  | _ => exact one

theorem VRs.eq_of_pf {ρ : Rho} {n : Nat} {l l' : List Value} (h : VRs ρ l l') (hp : l.all (pf n) = true) : l' = l := by
  refine List.ext_getElem? fun i => ?_
  by_cases hi : i < l.length
  · have a : l[i]? = some l[i] := List.getElem?_eq_getElem hi
    have b : l'[i]? = some (l'[i]'(by rw [← h.1]; exact hi)) := List.getElem?_eq_getElem _
    rw [a, b, pf_eq n _ _ (get_all hp a) (h.2 i _ _ a b)]
  · have := h.1; rw [List.getElem?_eq_none (by omega), List.getElem?_eq_none (by omega)]

/-- The cells of a block, where they lie. -/
theorem cell_at {w : World} {r d o i : Nat} {c : Array Value} {el : TypeId} {fz : Nat × Nat} (h : w.heap[r]? = some (.cells c el fz)) :
    w.cell? ((⟨r, d + o, none⟩ : Addr).add i) = c[d + (o + i)]? := by
  have e : (⟨r, d + o, none⟩ : Addr).add i = ⟨r, d + o + i, none⟩ := by unfold Addr.add; split <;> simp_all
  rw [e, cell_of_row w r _ c el fz h]
  congr 1
  omega

theorem rd_sound {ρ : Rho} {H : Heap} {w : World} (hs : SR ρ H w) {a : Addr} {n : Nat} {cs : List Value} {e : Ent} (h : rd H a n = some cs) (he : ρ[a.block]? = some e) :
    a.spot = none ∧ cs.length = n ∧ cs.all oneCell = true ∧ ∃ cs', VRs ρ cs cs' ∧ ∀ j v, cs'[j]? = some v → w.cell? ((⟨e.r, e.d + a.off, none⟩ : Addr).add j) = some v := by
  unfold rd at h
  split at h
  · rename_i b hsp hb
    split at h
    · rename_i hle
      injection h with h
      subst h
      obtain ⟨c, el, fz, h1, h2, _, _⟩ := hs.blk _ _ _ he hb
      have hone : ∀ v ∈ (b.cells.drop a.off).take n, oneCell v = true := by
        intro v hv
        obtain ⟨j, hj⟩ := List.getElem?_of_mem hv
        rw [List.getElem?_take] at hj
        split at hj
        · rw [List.getElem?_drop] at hj; exact (h2 _ v hj).1
        · simp at hj
      have hlen : ((b.cells.drop a.off).take n).length = n := by simp; omega
      -- the world's cells, place by place
      have hc : ∀ j, j < n → ∃ v v', ((b.cells.drop a.off).take n)[j]? = some v ∧ c[e.d + (a.off + j)]? = some v' ∧ VR ρ v v' := by
        intro j hj
        have hlt : a.off + j < b.cells.length := by omega
        have hx : b.cells[a.off + j]? = some b.cells[a.off + j] := List.getElem?_eq_getElem hlt
        obtain ⟨_, v', x, y⟩ := h2 _ _ hx
        refine ⟨b.cells[a.off + j], v', ?_, x, y⟩
        rw [List.getElem?_take, if_pos hj, List.getElem?_drop, hx]
      refine ⟨hsp, hlen, List.all_eq_true.2 hone, (List.range n).map fun j => (c[e.d + (a.off + j)]?).getD undef, ⟨by rw [hlen]; simp, ?_⟩, ?_⟩
      · intro i v v' x y
        rw [List.getElem?_map, List.getElem?_range (by
          have := (List.getElem?_eq_some_iff.1 x).1; omega)] at y
        obtain ⟨u, u', p, q, r⟩ := hc i (by have := (List.getElem?_eq_some_iff.1 x).1; omega)
        rw [x] at p
        injection p with p
        simp [q] at y
        rw [p, ← y]; exact r
      · intro j v hj
        rw [List.getElem?_map] at hj
        by_cases hjn : j < n
        · rw [List.getElem?_range hjn] at hj
          obtain ⟨u, u', p, q, r⟩ := hc j hjn
          rw [cell_at h1, q]
          simpa [q] using hj
        · rw [List.getElem?_eq_none (by simp; omega)] at hj
          simp at hj
    · simp at h
  · simp at h

theorem frozen_setRow {w : World} {g : Nat} {cur cs : Array Value} {el : TypeId} {fz : Nat × Nat} (hg : w.heap[g]? = some (.cells cur el fz)) (a : Addr) : (w.setRow g cs).frozen? a = w.frozen? a := by
  by_cases h : a.block = g
  · have e1 : (w.setRow g cs).heap[a.block]? = some (.cells cs el fz) := by rw [h]; exact setRow_heap w g cur cs el fz hg
    have e2 : w.heap[a.block]? = some (.cells cur el fz) := by rw [h]; exact hg
    simp [World.frozen?, e1, e2]
  · have e1 : (w.setRow g cs).heap[a.block]? = w.heap[a.block]? := by
      simp only [World.setRow, Array.getElem?_modify]
      rw [if_neg (fun e => h e.symm)]
    simp [World.frozen?, e1]

theorem heap_setRow_other {w : World} {g k : Nat} {cs : Array Value} (h : k ≠ g) : (w.setRow g cs).heap[k]? = w.heap[k]? := by
  simp only [World.setRow, Array.getElem?_modify]
  rw [if_neg (fun e => h e.symm)]

theorem get_splice {cells vs : List Value} {off i : Nat} {v : Value} (hfit : off + vs.length ≤ cells.length) (h : (splice cells off vs)[i]? = some v) :
    (off ≤ i ∧ i < off + vs.length ∧ vs[i - off]? = some v) ∨ ((i < off ∨ off + vs.length ≤ i) ∧ cells[i]? = some v) := by
  unfold splice at h
  have ht : (cells.take off).length = off := by simp; omega
  rw [List.getElem?_append, ht] at h
  split at h
  · rename_i hi
    rw [List.getElem?_take, if_pos hi] at h
    exact .inr ⟨.inl hi, h⟩
  · rename_i hi
    rw [List.getElem?_append] at h
    split at h
    · rename_i hj
      exact .inl ⟨by omega, by omega, h⟩
    · rename_i hj
      rw [List.getElem?_drop] at h
      rw [show off + vs.length + (i - off - vs.length) = i by omega] at h
      exact .inr ⟨.inr (by omega), h⟩

theorem length_splice {cells vs : List Value} {off : Nat} (hfit : off + vs.length ≤ cells.length) : (splice cells off vs).length = cells.length := by
  unfold splice; simp; omega

theorem wr_sound {P : Program} {ρ : Rho} {H H' : Heap} {w : World} (hs : SR ρ H w) {a : Addr} {vs vs' : List Value} {e : Ent} (h : wr H a vs = some H') (he : ρ[a.block]? = some e) (hv : VRs ρ vs vs') :
    a.spot = none ∧ ∃ w', (storeCells ⟨e.r, e.d + a.off, none⟩ vs').run P w = .ok () w' ∧ Rel ρ H w ρ H' a.block w' := by
  unfold wr at h
  simp only [forceL_eq] at h
  split at h
  · rename_i b hsp hb
    split at h
    · rename_i hc
      simp only [Bool.and_eq_true, decide_eq_true_eq] at hc
      obtain ⟨hown, hfit, hone⟩ := hc
      injection h with h
      subst h
      refine ⟨hsp, ?_⟩
      obtain ⟨c, el, fz, h1, h2, h3, h4⟩ := hs.blk _ _ _ he hb
      have hfz := h3 hown
      subst hfz
      have hblen : a.block < H.length := (List.getElem?_eq_some_iff.1 hb).1
      cases vs with
      | nil =>
        have hv0 : vs' = [] := by have := hv.1; simpa using this.symm
        subst hv0
        have hsame : H.set a.block { b with cells := splice b.cells a.off [] } = H := by
          have e1 : splice b.cells a.off [] = b.cells := by simp [splice]
          rw [e1]
          refine List.ext_getElem? fun i => ?_
          rw [List.getElem?_set]
          split
          · rename_i hi
            subst hi
            rw [hb]
          · rfl
        rw [hsame]
        exact ⟨w, rfl, Rel.of_quiet hs (Quiet.refl w) _⟩
      | cons v0 vr =>
        -- the row is long enough
        have hrow : e.d + a.off + vs'.length ≤ c.size := by
          have hlt : a.off + (v0 :: vr).length - 1 < b.cells.length := by simp at hfit ⊢; omega
          have hx := List.getElem?_eq_getElem hlt
          obtain ⟨_, v', x, _⟩ := h2 _ _ hx
          have h5 := (Array.getElem?_eq_some_iff.1 x).1
          have h6 := hv.1
          simp only [List.length_cons] at h5 h6
          omega
        have hst := run_storeCells_at P e.r (e.d + a.off) el vs' 0 c w h1 (by simpa using hrow) (hv.allOne hone)
        simp only [Nat.add_zero] at hst
        refine ⟨_, hst, ?_⟩
        generalize hnew : (c.toList.take (e.d + a.off) ++ vs' ++ c.toList.drop (e.d + a.off + vs'.length)).toArray = new
        have hnews : new.size = c.size := by rw [← hnew]; simp; omega
        have hr' : (w.setRow e.r new).heap[e.r]? = some (.cells new el (0, 0)) := setRow_heap w e.r c new el _ h1
        have hrlt : e.r < w.heap.size := (Array.getElem?_eq_some_iff.1 h1).1
        have hnget : ∀ k, new[k]? = if k < e.d + a.off then c[k]? else if k < e.d + a.off + vs'.length then vs'[k - (e.d + a.off)]? else c[k]? := by
          intro k
          rw [← hnew]
          have ht : (c.toList.take (e.d + a.off)).length = e.d + a.off := by simp; omega
          simp only [List.getElem?_toArray, List.append_assoc]
          rw [List.getElem?_append, ht]
          split
          · rename_i hk; rw [List.getElem?_take, if_pos hk]; simp
          · rename_i hk
            rw [List.getElem?_append]
            split
            · rename_i hk2; rw [if_pos (by omega)]
            · rename_i hk2
              rw [if_neg (by omega), List.getElem?_drop, show e.d + a.off + vs'.length + (k - (e.d + a.off) - vs'.length) = k by omega]
              simp
        have hH' : ∀ (i : Nat) (b' : Blk), (H.set a.block { b with cells := splice b.cells a.off (v0 :: vr) })[i]? = some b' → (i = a.block ∧ b' = { b with cells := splice b.cells a.off (v0 :: vr) }) ∨ (i ≠ a.block ∧ H[i]? = some b') := by
          intro i b' hi
          rw [List.getElem?_set] at hi
          split at hi
          · rename_i heq
            subst heq
            injection hi with hi
            exact .inl ⟨rfl, hi.symm⟩
          · rename_i hne
            exact .inr ⟨fun h => hne h.symm, hi⟩
        have hown' : ∀ (i : Nat) (b' : Blk), (H.set a.block { b with cells := splice b.cells a.off (v0 :: vr) })[i]? = some b' → ∃ b0, H[i]? = some b0 ∧ b0.own = b'.own ∧ (b0.cells = [] → b'.cells = []) := by
          intro i b' hi
          rcases hH' i b' hi with ⟨rfl, rfl⟩ | ⟨_, hi⟩
          · refine ⟨b, hb, rfl, fun h0 => ?_⟩
            rw [h0] at hfit
            simp at hfit
          · exact ⟨b', hi, rfl, id⟩
        refine ⟨hs.len, List.prefix_refl _, ⟨?_, ?_, ?_⟩, by simp, ?_, ?_, rfl, rfl, rfl, by simp [World.setRow], ?_, fun x => frozen_setRow h1 x⟩
        · simpa using hs.len
        · intro i e' b' hi hb'
          rcases hH' i b' hb' with ⟨rfl, rfl⟩ | ⟨hne, hb'⟩
          · rw [he] at hi
            injection hi with hi
            subst hi
            refine ⟨new, el, (0, 0), hr', ?_, fun _ => rfl, fun sz hsz => by rw [hnews]; exact h4 sz hsz⟩
            intro k v hk
            have h6 := hv.1
            rcases get_splice hfit hk with ⟨p, q, r⟩ | ⟨p, q⟩
            · have hlt : k - a.off < vs'.length := by omega
              have hx : vs'[k - a.off]? = some vs'[k - a.off] := List.getElem?_eq_getElem hlt
              refine ⟨get_all hone r, _, ?_, hv.2 _ _ _ r hx⟩
              rw [hnget, if_neg (by omega), if_pos (by omega), show e.d + k - (e.d + a.off) = k - a.off by omega, hx]
            · obtain ⟨o1, v', x, y⟩ := h2 _ _ q
              refine ⟨o1, v', ?_, y⟩
              rw [hnget, ← x]
              split
              · rfl
              · rw [if_neg (by omega)]
          · by_cases hcell : b'.cells = []
            · obtain ⟨c', el', fz', x, y, z, t⟩ := hs.blk i e' b' hi hb'
              by_cases hee : e'.r = e.r
              · rw [hee] at x
                rw [h1] at x
                injection x with x
                injection x with x1 x2 x3
                subst x1 x2 x3
                refine ⟨new, el, (0, 0), by rw [hee]; exact hr', fun k v hk => by rw [hcell] at hk; simp at hk, fun _ => rfl, fun sz hsz => by rw [hnews]; exact t sz hsz⟩
              · exact ⟨c', el', fz', by rw [heap_setRow_other hee]; exact x, y, z, t⟩
            · have hee : e.r ≠ e'.r := hs.inj _ _ _ _ _ _ (fun h => hne h.symm) he hi hb hb' hown hcell
              obtain ⟨c', el', fz', x, y, z, t⟩ := hs.blk i e' b' hi hb'
              exact ⟨c', el', fz', by rw [heap_setRow_other (fun h => hee h.symm)]; exact x, y, z, t⟩
        · intro i j e1 e2 b1 b2 hij hi hj hb1 hb2 ho1 hc2
          obtain ⟨b1', x1, y1, _⟩ := hown' i b1 hb1
          obtain ⟨b2', x2, _, z2⟩ := hown' j b2 hb2
          exact hs.inj i j e1 e2 b1' b2' hij hi hj x1 x2 (by rw [y1]; exact ho1) (fun h => hc2 (z2 h))
        · intro i b1 _ hb1 ho1
          obtain ⟨b1', x1, y1, _⟩ := hown' i b1 hb1
          exact ⟨b1', x1, by rw [y1]; exact ho1⟩
        · intro i e1 hi hi2
          have := (List.getElem?_eq_some_iff.1 hi2).1
          have := hs.len
          omega
        · intro k hk hh
          exact heap_setRow_other (fun h => hh a.block e b he hb hown (Nat.le_refl _) h.symm)
    · simp at h
  · simp at h

/-- A new block. -/
theorem new_sound {ρ : Rho} {H : Heap} {w : World} (hs : SR ρ H w) {vs vs' : List Value} (hone : vs.all oneCell = true) (hv : VRs ρ vs vs') (t : TypeId) (lo : Nat) :
    Rel ρ H w (ρ ++ [⟨w.heap.size, 0, 0⟩]) (H ++ [⟨true, none, vs⟩]) lo (w.alloc (.cells vs'.toArray t)) ∧
      (ρ ++ [⟨w.heap.size, 0, 0⟩] : Rho)[H.length]? = some ⟨w.heap.size, 0, 0⟩ := by
  have hlast : (ρ ++ [⟨w.heap.size, 0, 0⟩] : Rho)[H.length]? = some ⟨w.heap.size, 0, 0⟩ := by rw [← hs.len]; simp
  have hpre : ρ <+: ρ ++ [⟨w.heap.size, 0, 0⟩] := ⟨_, rfl⟩
  have old : ∀ (i : Nat) (e : Ent) (b : Blk), (ρ ++ [⟨w.heap.size, 0, 0⟩] : Rho)[i]? = some e → (H ++ [⟨true, none, vs⟩] : Heap)[i]? = some b →
      (i < H.length ∧ ρ[i]? = some e ∧ H[i]? = some b) ∨ (i = H.length ∧ e = ⟨w.heap.size, 0, 0⟩ ∧ b = ⟨true, none, vs⟩) := by
    intro i e b hi hb
    by_cases hlt : i < H.length
    · refine .inl ⟨hlt, ?_, ?_⟩
      · rwa [List.getElem?_append_left (by rw [hs.len]; exact hlt)] at hi
      · rwa [List.getElem?_append_left hlt] at hb
    · have h1 := (List.getElem?_eq_some_iff.1 hb).1
      simp at h1
      have : i = H.length := by omega
      subst this
      rw [hlast] at hi
      simp at hb
      exact .inr ⟨rfl, by injection hi with hi; exact hi.symm, hb.symm⟩
  have rlt : ∀ (i : Nat) (e : Ent) (b : Blk), ρ[i]? = some e → H[i]? = some b → e.r < w.heap.size := by
    intro i e b hi hb
    obtain ⟨c, el, fz, x, _⟩ := hs.blk i e b hi hb
    exact (Array.getElem?_eq_some_iff.1 x).1
  refine ⟨⟨hs.len, hpre, ⟨by simp [hs.len], ?_, ?_⟩, by simp, ?_, ?_, rfl, rfl, rfl, by simp, ?_, ?_⟩, hlast⟩
  · intro i e b hi hb
    rcases old i e b hi hb with ⟨hlt, hi, hb⟩ | ⟨rfl, rfl, rfl⟩
    · obtain ⟨c, el, fz, x, y⟩ := (hs.blk i e b hi hb).mono hpre
      refine ⟨c, el, fz, ?_, y⟩
      rw [heap_alloc_old w _ _ (rlt i e b hi hb)]; exact x
    · refine ⟨vs'.toArray, t, (0, 0), heap_alloc_new w _, ?_, fun _ => rfl, fun sz h => by simp at h⟩
      intro k v hk
      have hlt : k < vs'.length := by rw [← hv.1]; exact (List.getElem?_eq_some_iff.1 hk).1
      have hx : vs'[k]? = some vs'[k] := List.getElem?_eq_getElem hlt
      refine ⟨get_all hone hk, vs'[k], by simp [hx], (hv.2 k v _ hk hx).mono hpre⟩
  · intro i j e e' b b' hij hi hj hb hb' ho hc
    rcases old i e b hi hb with ⟨hlt, hi, hb⟩ | ⟨rfl, rfl, rfl⟩ <;> rcases old j e' b' hj hb' with ⟨hlt', hj, hb'⟩ | ⟨rfl, rfl, rfl⟩
    · exact hs.inj i j e e' b b' hij hi hj hb hb' ho hc
    · have := rlt i e b hi hb
      show e.r ≠ w.heap.size
      omega
    · have := rlt j e' b' hj hb'
      show w.heap.size ≠ e'.r
      omega
    · exact (hij rfl).elim
  · intro i b hi hb ho
    rw [List.getElem?_append_left hi] at hb
    exact ⟨b, hb, ho⟩
  · intro i e hi he
    have h1 := (List.getElem?_eq_some_iff.1 he).1
    simp at h1
    have h2 := hs.len
    have : i = H.length := by omega
    subst this
    rw [hlast] at he
    injection he with he
    subst he
    exact .inl (Nat.le_refl _)
  · intro k hk _
    exact heap_alloc_old w _ _ hk
  · intro x
    by_cases hx : x.block = w.heap.size
    · have e1 : (w.alloc (.cells vs'.toArray t)).heap[x.block]? = some (.cells vs'.toArray t (0, 0)) := by rw [hx]; exact heap_alloc_new w _
      have e2 : w.heap[x.block]? = none := by rw [hx]; simp
      simp [World.frozen?, e1, e2]
    · exact World.frozen?_alloc_old w _ x hx

end Go.Proofs.Ytfbjpenbpbpcaaa.Den
