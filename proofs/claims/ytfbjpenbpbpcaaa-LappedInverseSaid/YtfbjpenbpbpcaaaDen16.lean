/-
  A verified evaluator, seventeenth part: contracts over the part of the heap that a call reaches, as an oracle for any heap; what is no longer held, dropped.
-/
import Derived.Test.YtfbjpenbpbpcaaaDen15
namespace Go.Proofs.Ytfbjpenbpbpcaaa.Den
open Go

/-- The blocks that a value names. -/
def refs : Nat → Value → List Nat
  | n + 1, .agg cs => cs.toList.flatMap (refs n)
  | n + 1, .tuple cs => cs.toList.flatMap (refs n)
  | n + 1, .iface _ v => refs n v
  | n + 1, .func _ a b => a.toList.flatMap (refs n) ++ b.toList.flatMap (refs n)
  | _, .pointer (some a) => [a.block]
  | _, .slice (some a) _ _ => [a.block]
  | _, _ => []

def addN (l : List Nat) : List Nat → List Nat
  | [] => l
  | x :: xs => match l.contains x with
    | true => addN l xs
    | false => addN (l ++ [x]) xs

def cellRefs (H : Heap) (b : Nat) : List Nat := match H[b]? with
  | some blk => blk.cells.flatMap (refs 3)
  | none => []

def reach (H : Heap) : Nat → List Nat → List Nat
  | 0, l => l
  | n + 1, l => match addN l (l.flatMap (cellRefs H)) with
    | l' => match Nat.beq l'.length l.length with
      | true => l
      | false => reach H n l'

def pos (b : Nat) : List Nat → Option Nat
  | [] => none
  | x :: l => match Nat.beq x b with
    | true => some 0
    | false => match pos b l with
      | some i => some (i + 1)
      | none => none

theorem pos_get {b : Nat} : ∀ {l : List Nat} {c : Nat}, pos b l = some c → l[c]? = some b := by
  intro l
  induction l with
  | nil => intro c h; simp [pos] at h
  | cons x l ih =>
    intro c h
    simp only [pos] at h
    split at h
    · rename_i hb
      injection h with h
      subst h
      rw [Nat.eq_of_beq_eq_true hb]; rfl
    · split at h
      · rename_i i hi
        injection h with h
        subst h
        simpa using ih hi
      · simp at h

def nodupB : List Nat → Bool
  | [] => true
  | x :: l => !l.contains x && nodupB l

theorem nodupB_ok : ∀ {l : List Nat}, nodupB l = true → l.Nodup := by
  intro l
  induction l with
  | nil => intro _; exact List.nodup_nil
  | cons x l ih =>
    intro h
    simp [nodupB] at h
    exact List.nodup_cons.2 ⟨h.1, ih h.2⟩

/-- The blocks with these numbers, renamed. -/
def blks (φ : Nat → Option Nat) (H : Heap) (sel : List Nat) : Option (List Blk) :=
  mapAll (fun i => match H[i]? with | some b => renB φ b | none => none) sel

/-- The part of the heap that a call reaches. -/
def cutE (e : List Nat) (args : List Value) (H : Heap) : Option (List Nat × List Value × Heap) :=
  match nodupB e && H.all (fun b => !b.cells.isEmpty) with
  | true => match mapAll (ren (fun b => pos b e) 3) args with
    | some a => match blks (fun b => pos b e) H e with
      | some Hs => some (e, a, Hs)
      | none => none
    | none => none
  | false => none

def cut (args : List Value) (H : Heap) : Option (List Nat × List Value × Heap) :=
  cutE (reach H 4 (addN [] (args.flatMap (refs 3)))) args H

theorem cutE_ok {e e' : List Nat} {args a : List Value} {H Hs : Heap} (h : cutE e args H = some (e', a, Hs)) :
    e' = e ∧ e.Nodup ∧ (∀ (i : Nat) (b : Blk), H[i]? = some b → b.cells ≠ []) ∧ mapAll (ren (fun b => pos b e) 3) args = some a ∧ blks (fun b => pos b e) H e = some Hs := by
  unfold cutE at h
  split at h
  · rename_i hc
    split at h
    · rename_i a0 ha
      split at h
      · rename_i Hs0 hb
        simp only [Option.some.injEq, Prod.mk.injEq] at h
        obtain ⟨rfl, rfl, rfl⟩ := h
        simp only [Bool.and_eq_true] at hc
        refine ⟨rfl, nodupB_ok hc.1, fun i b hi hb => ?_, ha, hb⟩
        have := List.all_eq_true.1 hc.2 b (List.mem_of_getElem? hi)
        simp [hb] at this
      · simp at h
    · simp at h
  · simp at h

theorem blks_get {φ : Nat → Option Nat} {H : Heap} {sel : List Nat} {bs : List Blk} (h : blks φ H sel = some bs) :
    sel.length = bs.length ∧ ∀ (j i : Nat), sel[j]? = some i → ∃ B b, H[i]? = some B ∧ bs[j]? = some b ∧ renB φ B = some b := by
  obtain ⟨h1, h2⟩ := mapAll_get h
  refine ⟨h1, fun j i hj => ?_⟩
  obtain ⟨y, h3, h4⟩ := h2 j i hj
  split at h3
  · rename_i B hB
    exact ⟨B, y, hB, h4, h3⟩
  · simp at h3

def newsOf (n m : Nat) : List Nat := (List.range (m - n)).map (n + ·)

def backN (e : List Nat) (k m : Nat) (b : Nat) : Option Nat := match e[b]? with
  | some c => some c
  | none => match Nat.blt b m with
    | true => some (k + (b - e.length))
    | false => none

def back (e : List Nat) (H : Heap) (v : Value) (Hs' : Heap) (ls : Nat) : Option (Value × Heap × Nat) :=
  match ren (backN e H.length Hs'.length) 3 v with
  | some v => match mapAll (renB (backN e H.length Hs'.length)) (Hs'.take e.length) with
    | some olds => match blks (backN e H.length Hs'.length) Hs' (newsOf e.length Hs'.length) with
      | some news => some (v, putAll e olds H ++ news, (e.drop ls).foldl min H.length)
      | none => none
    | none => none
  | none => none

def frameC (C : Oracle) : Oracle := fun f args H => match cut args H with
  | some (e, a, Hs) => match C f a Hs with
    | some (v, Hs', ls) => back e H v Hs' ls
    | none => none
  | none => none

def framePre (pre : Pre) : Pre := fun f args H => match cut args H with
  | some (_, a, Hs) => pre f a Hs
  | none => true

theorem foldl_min : ∀ (l : List Nat) (a : Nat), l.foldl min a ≤ a ∧ ∀ x ∈ l, l.foldl min a ≤ x := by
  intro l
  induction l with
  | nil => intro a; simp
  | cons y l ih =>
    intro a
    obtain ⟨h1, h2⟩ := ih (min a y)
    simp only [List.foldl_cons]
    refine ⟨by omega, fun x hx => ?_⟩
    rcases List.mem_cons.1 hx with rfl | hx
    · omega
    · exact h2 x hx

theorem newsOf_get {n m j i : Nat} (h : (newsOf n m)[j]? = some i) : i = n + j ∧ i < m := by
  simp only [newsOf, List.getElem?_map, Option.map_eq_some_iff] at h
  obtain ⟨k, hk, rfl⟩ := h
  obtain ⟨h1, h2⟩ := List.getElem?_eq_some_iff.1 hk
  simp at h1 h2
  omega

theorem newsOf_nodup (n m : Nat) : (newsOf n m).Nodup :=
  List.Pairwise.map (R := (· ≠ ·)) _ (fun a b h => by omega) List.nodup_range

theorem frame_sound {P : Program} {pre : Pre} {C : Oracle} (hC : Sound P (strict pre C)) : Sound P (strict (framePre pre) (frameC C)) := by
  intro f args H v H' l h
  unfold strict at h
  split at h
  case h_2 => simp at h
  rename_i hp
  unfold frameC at h
  split at h
  case h_2 => simp at h
  rename_i e a Hs hcut
  split at h
  case h_2 => simp at h
  rename_i vS Hs' ls hc
  have hpre : pre f a Hs = true := by simpa [framePre, hcut] using hp
  have hcall : CallOk P f a Hs vS Hs' ls := hC f a Hs vS Hs' ls (by unfold strict; rw [hpre]; exact hc)
  obtain ⟨h1, h2, h3, h4, h5⟩ := cutE_ok hcut
  rw [← h1] at h2 h4 h5
  obtain ⟨b1, b2⟩ := blks_get h5
  unfold back at h
  split at h
  case h_2 => simp at h
  rename_i v2 hv
  split at h
  case h_2 => simp at h
  rename_i olds ho
  split at h
  case h_2 => simp at h
  rename_i news hnw
  simp only [Option.some.injEq, Prod.mk.injEq] at h
  obtain ⟨rfl, rfl, rfl⟩ := h
  obtain ⟨m1, m2⟩ := foldl_min (e.drop ls) H.length
  refine hcall.frame (ψ := fun b => pos b e) (φ := backN e H.length Hs'.length) (sel := newsOf e.length Hs'.length) h2 b1 (fun b c hb => pos_get hb) h4 (fun i k hi => ?_) h3 (newsOf_nodup _ _) (fun j i hj => ?_) (fun b c hb => ?_) hv ?_ hnw ?_
  · obtain ⟨B, b, p, q, r⟩ := b2 i k hi
    exact ⟨B, b, p, q, r⟩
  · have := newsOf_get hj
    omega
  · unfold backN at hb
    split at hb
    · rename_i c' hc'
      injection hb with hb
      subst hb
      obtain ⟨B, _, p, _⟩ := b2 b _ hc'
      exact .inl ⟨(List.getElem?_eq_some_iff.1 p).1, hc'⟩
    · rename_i hn
      split at hb
      · rename_i hlt
        injection hb with hb
        subst hb
        have hlt' : b < Hs'.length := by simpa [Nat.blt_eq] using hlt
        have : e.length ≤ b := List.getElem?_eq_none_iff.1 hn
        refine .inr ⟨b - e.length, rfl, ?_⟩
        simp only [newsOf, List.getElem?_map]
        rw [List.getElem?_range (by omega)]
        simp
        omega
      · simp at hb
  · rw [← b1]; exact ho
  · intro j x hj hlj
    refine m2 x (List.mem_iff_getElem?.2 ⟨j - ls, ?_⟩)
    rw [List.getElem?_drop, show ls + (j - ls) = j by omega]
    exact hj

/-- Of the new blocks those that are held still. -/
def selN (sel : List Nat) (b : Nat) : Option Nat := pos b sel

/-- A call that is given no address: of the blocks that it makes only some are held. -/
theorem CallOk.gc {P : Program} {f : FuncId} {args : List Value} {v : Value} {H' : Heap} {l : Nat} (h : CallOk P f args [] v H' l) (sel : List Nat) {v2 : Value} {H2 : Heap}
    (hargs : mapAll (ren (fun _ => none) 3) args = some args) (hs : (nodupB sel && sel.all fun i => Nat.blt i H'.length) = true)
    (hv : ren (selN sel) 3 v = some v2) (hH : blks (selN sel) H' sel = some H2) : CallOk P f args [] v2 H2 0 := by
  simp only [Bool.and_eq_true] at hs
  have hf := h.frame (args := args) (H := []) (e := []) (sel := sel) (v := v2) (olds := []) (news := H2) (l := 0) (ψ := fun _ => none) (φ := selN sel)
    List.nodup_nil rfl (fun b c hb => by simp at hb) hargs (fun i k hi => by simp at hi) (fun i b hi => by simp at hi) (nodupB_ok hs.1)
    (fun j i hj => ⟨Nat.zero_le _, by simpa [Nat.blt_eq] using List.all_eq_true.1 hs.2 i (List.mem_of_getElem? hj)⟩) (fun b c hb => .inr ⟨c, by simp, pos_get hb⟩) hv rfl hH (fun j x hj => by simp at hj)
  simpa [putAll] using hf

end Go.Proofs.Ytfbjpenbpbpcaaa.Den
