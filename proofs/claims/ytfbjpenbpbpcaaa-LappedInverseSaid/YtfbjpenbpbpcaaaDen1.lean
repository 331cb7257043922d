/-
  A verified evaluator, second part: how a small heap stands to a world; values, blocks.
-/
import Derived.Test.YtfbjpenbpbpcaaaDen0
namespace Go.Proofs.Ytfbjpenbpbpcaaa.Den
open Go

/-- Where a block of the small heap lies: the block in the world, the first cell, the capacity (of a row made by append). -/
structure Ent where
  r : Nat
  d : Nat
  k : Nat

abbrev Rho := List Ent

inductive VR (ρ : Rho) : Value → Value → Prop
  | flat {v : Value} (h : isFlat v = true) : VR ρ v v
  | ptr {b o : Nat} {e : Ent} (h : ρ[b]? = some e) : VR ρ (.pointer (some ⟨b, o, none⟩)) (.pointer (some ⟨e.r, e.d + o, none⟩))
  | slice {b o l c : Nat} {e : Ent} (h : ρ[b]? = some e) (hl : l ≤ c) : VR ρ (.slice (some ⟨b, o, none⟩) l c) (.slice (some ⟨e.r, e.d + o, none⟩) l c)
  | sliceU {b l : Nat} {e : Ent} (h : ρ[b]? = some e) (h0 : 0 < l) (hl : l ≤ e.k) : VR ρ (.slice (some ⟨b, 0, none⟩) l 0) (.slice (some ⟨e.r, e.d, none⟩) l e.k)
  | agg {cs cs' : Array Value} (hn : cs.size = cs'.size) (h : ∀ (i : Nat) (v v' : Value), cs[i]? = some v → cs'[i]? = some v' → VR ρ v v') : VR ρ (.agg cs) (.agg cs')
  | tuple {cs cs' : Array Value} (hn : cs.size = cs'.size) (h : ∀ (i : Nat) (v v' : Value), cs[i]? = some v → cs'[i]? = some v' → VR ρ v v') : VR ρ (.tuple cs) (.tuple cs')
  | iface {t : TypeId} {v v' : Value} (h : VR ρ v v') : VR ρ (.iface t v) (.iface t v')
  | func {fn : Fn} {a a' b b' : Array Value} (ha : a.size = a'.size) (h : ∀ (i : Nat) (v v' : Value), a[i]? = some v → a'[i]? = some v' → VR ρ v v')
      (hb : b.size = b'.size) (h2 : ∀ (i : Nat) (v v' : Value), b[i]? = some v → b'[i]? = some v' → VR ρ v v') : VR ρ (.func fn a b) (.func fn a' b')

/-- Rows of values, place by place. -/
def VRs (ρ : Rho) (l l' : List Value) : Prop := l.length = l'.length ∧ ∀ (i : Nat) (v v' : Value), l[i]? = some v → l'[i]? = some v' → VR ρ v v'

theorem prefix_get {ρ ρ' : Rho} (h : ρ <+: ρ') {i : Nat} {e : Ent} (hi : ρ[i]? = some e) : ρ'[i]? = some e := by
  obtain ⟨t, rfl⟩ := h
  rw [List.getElem?_append_left (List.getElem?_eq_some_iff.1 hi).1]; exact hi

theorem VR.mono {ρ ρ' : Rho} (hp : ρ <+: ρ') {v v' : Value} (h : VR ρ v v') : VR ρ' v v' := by
  induction h with
  | flat h => exact .flat h
  | ptr h => exact .ptr (prefix_get hp h)
  | slice h hl => exact .slice (prefix_get hp h) hl
  | sliceU h h0 hl => exact .sliceU (prefix_get hp h) h0 hl
  | agg hn _ ih => exact .agg hn ih
  | tuple hn _ ih => exact .tuple hn ih
  | iface _ ih => exact .iface ih
  | func ha _ hb _ ih ih2 => exact .func ha ih hb ih2

theorem VRs.mono {ρ ρ' : Rho} (hp : ρ <+: ρ') {l l' : List Value} (h : VRs ρ l l') : VRs ρ' l l' :=
  ⟨h.1, fun i v v' a b => (h.2 i v v' a b).mono hp⟩

theorem isFlat_eq {ρ : Rho} {v v' : Value} (hf : isFlat v = true) (h : VR ρ v v') : v' = v := by
  cases h <;> first | rfl | simp [isFlat] at hf

theorem get_all {l : List Value} {p : Value → Bool} (h : l.all p = true) {i : Nat} {v : Value} (hi : l[i]? = some v) : p v = true :=
  List.all_eq_true.1 h v (List.mem_of_getElem? hi)

theorem arr_get_all {l : Array Value} {p : Value → Bool} (h : l.toList.all p = true) {i : Nat} {v : Value} (hi : l[i]? = some v) : p v = true :=
  get_all (i := i) h (by rw [← hi]; simp)

theorem pf_self {ρ : Rho} : ∀ (n : Nat) (v : Value), pf n v = true → VR ρ v v := by
  intro n
  induction n with
  | zero => intro v h; exact .flat (by simpa [pf] using h)
  | succ n ih =>
    intro v h
    cases v with
    | agg cs =>
      simp only [pf] at h
      exact .agg rfl fun i v v' a b => by rw [a] at b; cases b; exact ih _ (arr_get_all h a)
    | tuple cs =>
      simp only [pf] at h
      exact .tuple rfl fun i v v' a b => by rw [a] at b; cases b; exact ih _ (arr_get_all h a)
    | iface t x => simp only [pf] at h; exact .iface (ih _ h)
    | func fn x y =>
      simp only [pf, Bool.and_eq_true] at h
      exact .func rfl (fun i v v' a b => by rw [a] at b; cases b; exact ih _ (arr_get_all h.1 a)) rfl (fun i v v' a b => by rw [a] at b; cases b; exact ih _ (arr_get_all h.2 a))
    | _ => exact .flat (by simpa [pf] using h)

theorem arr_ext {a b : Array Value} (hn : a.size = b.size) (h : ∀ (i : Nat) (v v' : Value), a[i]? = some v → b[i]? = some v' → v' = v) : b = a := by
  refine Array.ext hn.symm fun i h1 h2 => ?_
  exact h i _ _ (Array.getElem?_eq_getElem h2) (Array.getElem?_eq_getElem h1)

theorem pf_eq {ρ : Rho} : ∀ (n : Nat) (v v' : Value), pf n v = true → VR ρ v v' → v' = v := by
  intro n
  induction n with
  | zero => intro v v' h hv; exact isFlat_eq (by simpa [pf] using h) hv
  | succ n ih =>
    intro v v' h hv
    cases hv with
    | flat _ => rfl
    | ptr _ => simp [pf, isFlat] at h
    | slice _ _ => simp [pf, isFlat] at h
    | sliceU _ _ _ => simp [pf, isFlat] at h
    | agg hn hh => simp only [pf] at h; rw [arr_ext hn fun i v v' a b => ih _ _ (arr_get_all h a) (hh i v v' a b)]
    | tuple hn hh => simp only [pf] at h; rw [arr_ext hn fun i v v' a b => ih _ _ (arr_get_all h a) (hh i v v' a b)]
    | iface hh => simp only [pf] at h; rw [ih _ _ h hh]
    | func ha h1 hb h2 =>
      simp only [pf, Bool.and_eq_true] at h
      rw [arr_ext ha fun i v v' a b => ih _ _ (arr_get_all h.1 a) (h1 i v v' a b), arr_ext hb fun i v v' a b => ih _ _ (arr_get_all h.2 a) (h2 i v v' a b)]

theorem VR.oneCell {ρ : Rho} {v v' : Value} (h : VR ρ v v') : oneCell v' = oneCell v := by cases h <;> rfl

/-- A block of the small heap, in the world. -/
def BR (ρ : Rho) (w : World) (e : Ent) (b : Blk) : Prop :=
  ∃ c el fz, w.heap[e.r]? = some (.cells c el fz) ∧ (∀ (i : Nat) (v : Value), b.cells[i]? = some v → oneCell v = true ∧ ∃ v', c[e.d + i]? = some v' ∧ VR ρ v v') ∧
    (b.own = true → fz = (0, 0)) ∧ (∀ sz, b.grown = some sz → e.d = 0 ∧ c.size = e.k * sz)

structure SR (ρ : Rho) (H : Heap) (w : World) : Prop where
  len : ρ.length = H.length
  blk : ∀ (i : Nat) (e : Ent) (b : Blk), ρ[i]? = some e → H[i]? = some b → BR ρ w e b
  inj : ∀ (i j : Nat) (e e' : Ent) (b b' : Blk), i ≠ j → ρ[i]? = some e → ρ[j]? = some e' → H[i]? = some b → H[j]? = some b' → b.own = true → b'.cells ≠ [] → e.r ≠ e'.r

/-- From a world to a later one: what was there is as it was. -/
structure Quiet (w w' : World) : Prop where
  os : w'.os = w.os
  tape : w'.tape = w.tape
  output : w'.output = w.output
  size : w.heap.size ≤ w'.heap.size
  keep : ∀ k, k < w.heap.size → w'.heap[k]? = w.heap[k]?
  frozen : ∀ a, w'.frozen? a = w.frozen? a

theorem Quiet.refl (w : World) : Quiet w w := ⟨rfl, rfl, rfl, Nat.le_refl _, fun _ _ => rfl, fun _ => rfl⟩

theorem Quiet.trans {a b c : World} (h : Quiet a b) (k : Quiet b c) : Quiet a c :=
  ⟨k.os.trans h.os, k.tape.trans h.tape, k.output.trans h.output, Nat.le_trans h.size k.size,
   fun i hi => (k.keep i (Nat.lt_of_lt_of_le hi h.size)).trans (h.keep i hi), fun a => (k.frozen a).trans (h.frozen a)⟩

theorem BR.quiet {ρ : Rho} {w w' : World} {e : Ent} {b : Blk} (h : BR ρ w e b) (q : Quiet w w') : BR ρ w' e b := by
  obtain ⟨c, el, fz, h1, h2⟩ := h
  refine ⟨c, el, fz, ?_, h2⟩
  rw [q.keep e.r (by have := Array.getElem?_eq_some_iff.1 h1; exact this.1)]; exact h1

theorem BR.mono {ρ ρ' : Rho} (hp : ρ <+: ρ') {w : World} {e : Ent} {b : Blk} (h : BR ρ w e b) : BR ρ' w e b := by
  obtain ⟨c, el, fz, h1, h2, h3⟩ := h
  exact ⟨c, el, fz, h1, fun i v hv => let ⟨o, v', a, b⟩ := h2 i v hv; ⟨o, v', a, b.mono hp⟩, h3⟩

theorem SR.quiet {ρ : Rho} {H : Heap} {w w' : World} (h : SR ρ H w) (q : Quiet w w') : SR ρ H w' :=
  ⟨h.len, fun i e b a c => (h.blk i e b a c).quiet q, h.inj⟩

/-- From a start (0) to a later state: l: no old block below it has been written. -/
structure Rel (ρ0 : Rho) (H0 : Heap) (w0 : World) (ρ : Rho) (H : Heap) (lo : Nat) (w : World) : Prop where
  len0 : ρ0.length = H0.length
  pre : ρ0 <+: ρ
  sr : SR ρ H w
  len : H0.length ≤ H.length
  own : ∀ (i : Nat) (b : Blk), i < H0.length → H[i]? = some b → b.own = true → ∃ b0, H0[i]? = some b0 ∧ b0.own = true
  new : ∀ (i : Nat) (e : Ent), H0.length ≤ i → ρ[i]? = some e → w0.heap.size ≤ e.r ∨ ∃ (j : Nat) (e0 : Ent) (b0 : Blk), ρ0[j]? = some e0 ∧ H0[j]? = some b0 ∧ b0.own = true ∧ lo ≤ j ∧ e0.r = e.r
  os : w.os = w0.os
  tape : w.tape = w0.tape
  output : w.output = w0.output
  size : w0.heap.size ≤ w.heap.size
  keep : ∀ k, k < w0.heap.size → (∀ (j : Nat) (e0 : Ent) (b0 : Blk), ρ0[j]? = some e0 → H0[j]? = some b0 → b0.own = true → lo ≤ j → e0.r ≠ k) → w.heap[k]? = w0.heap[k]?
  frozen : ∀ a, w.frozen? a = w0.frozen? a

theorem Rel.of_quiet {ρ : Rho} {H : Heap} {w w' : World} (h : SR ρ H w) (q : Quiet w w') (lo : Nat) : Rel ρ H w ρ H lo w' where
  len0 := h.len
  pre := List.prefix_refl _
  sr := h.quiet q
  len := Nat.le_refl _
  own := fun _ b _ hb ho => ⟨b, hb, ho⟩
  new := fun i e hi he => by
    have := (List.getElem?_eq_some_iff.1 he).1
    have := h.len
    omega
  os := q.os
  tape := q.tape
  output := q.output
  size := q.size
  keep := fun k hk _ => q.keep k hk
  frozen := q.frozen

theorem Rel.mono {ρ0 : Rho} {H0 : Heap} {w0 : World} {ρ : Rho} {H : Heap} {lo lo' : Nat} {w : World} (h : Rel ρ0 H0 w0 ρ H lo' w) (hl : lo ≤ lo') : Rel ρ0 H0 w0 ρ H lo w :=
  { h with
    new := fun i e hi he => (h.new i e hi he).imp id fun ⟨j, e0, b0, a, b, c, d, f⟩ => ⟨j, e0, b0, a, b, c, Nat.le_trans hl d, f⟩
    keep := fun k hk hh => h.keep k hk fun j e0 b0 a b c d => hh j e0 b0 a b c (Nat.le_trans hl d) }

theorem Rel.trans {ρ0 : Rho} {H0 : Heap} {w0 : World} {ρ : Rho} {H : Heap} {lo : Nat} {w : World} {ρ' : Rho} {H' : Heap} {l : Nat} {w' : World}
    (h : Rel ρ0 H0 w0 ρ H lo w) (k : Rel ρ H w ρ' H' l w') : Rel ρ0 H0 w0 ρ' H' (min lo l) w' := by
  have key : ∀ (j : Nat) (e : Ent) (b : Blk), ρ[j]? = some e → H[j]? = some b → b.own = true → l ≤ j →
      w0.heap.size ≤ e.r ∨ ∃ (j0 : Nat) (e0 : Ent) (b0 : Blk), ρ0[j0]? = some e0 ∧ H0[j0]? = some b0 ∧ b0.own = true ∧ min lo l ≤ j0 ∧ e0.r = e.r := by
    intro j e b hj hb ho hlj
    by_cases hlt : j < H0.length
    · obtain ⟨b0, hb0, ho0⟩ := h.own j b hlt hb ho
      have hρ0 : j < ρ0.length := by rw [h.len0]; exact hlt
      have e0 : ρ0[j]? = some ρ0[j] := List.getElem?_eq_getElem hρ0
      have := prefix_get h.pre e0
      rw [hj] at this
      injection this with this
      exact .inr ⟨j, ρ0[j], b0, e0, hb0, ho0, by omega, by rw [this]⟩
    · rcases h.new j e (by omega) hj with h1 | ⟨j0, e0, b0, a, b, c, d, f⟩
      · exact .inl h1
      · exact .inr ⟨j0, e0, b0, a, b, c, by omega, f⟩
  have hlen := h.len
  have hsz := h.size
  refine ⟨h.len0, h.pre.trans k.pre, k.sr, Nat.le_trans h.len k.len, ?_, ?_, k.os.trans h.os, k.tape.trans h.tape, k.output.trans h.output, Nat.le_trans h.size k.size, ?_, fun a => (k.frozen a).trans (h.frozen a)⟩
  · intro i b hi hb ho
    obtain ⟨b1, hb1, ho1⟩ := k.own i b (by omega) hb ho
    exact h.own i b1 hi hb1 ho1
  · intro i e hi he
    by_cases hlt : i < H.length
    · have hi' : i < ρ.length := by rw [k.len0]; exact hlt
      have e1 : ρ[i]? = some ρ[i] := List.getElem?_eq_getElem hi'
      have := prefix_get k.pre e1
      rw [he] at this
      injection this with this
      rw [this]
      rcases h.new i _ hi e1 with h1 | ⟨j0, e0, b0, a, b, c, d, f⟩
      · exact .inl h1
      · exact .inr ⟨j0, e0, b0, a, b, c, by omega, f⟩
    · rcases k.new i e (by omega) he with h1 | ⟨j, e1, b1, a, b, c, d, f⟩
      · exact .inl (by omega)
      · rw [← f]; exact key j e1 b1 a b c d
  · intro q hq hh
    rw [k.keep q (by omega) ?_]
    · exact h.keep q hq fun j e0 b0 a b c d => hh j e0 b0 a b c (by omega)
    · intro j e b hj hb ho hlj
      rcases key j e b hj hb ho hlj with h1 | ⟨j0, e0, b0, a, b, c, d, f⟩
      · omega
      · rw [← f]; exact hh j0 e0 b0 a b c d

end Go.Proofs.Ytfbjpenbpbpcaaa.Den
