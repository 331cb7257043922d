/-
  Regions whose order is open, along a path, with what is asked told.
-/
import Derived.Test.YtfbjpenbpbpcaaaPm1
namespace Go.Proofs.Ytfbjpenbpbpcaaa.Den
open Go

def stepPS (P : Program) (X : Ext) (pre : Pre) (C : Oracle) (nt : Nat) (ops : List Oper) (t : SS) (o : Oper) : Option SS :=
  wantS ops t.s.F o t.os t.ob fun b os ob => match b with
    | true => opS P X pre C true t.s.F t.s.H t.s.lo o os ob fun r os ob => some ⟨⟨putF nt t.s.F o.dst r.v, r.H, r.lo⟩, os, ob⟩
    | false => some ⟨⟨putF nt t.s.F o.dst undef, t.s.H, t.s.lo⟩, os, ob⟩

def evPermS (P : Program) (X : Ext) (pre : Pre) (C : Oracle) (nt : Nat) (ops : List Oper) : Nat → List Bool → SS → Option (List SS)
  | 0, _, s => some [s]
  | n + 1, done, s => match gather (fun i => match rdy ops done i with
      | true => match ops[i]? with
        | some o => match stepPS P X pre C nt ops s o with
          | some s1 => evPermS P X pre C nt ops n (done.set i true) s1
          | none => none
        | none => none
      | false => some []) (List.range ops.length) with
    | some (x :: R) => some (x :: R)
    | _ => none

section
variable {P : Program} {X : Ext} {pre : Pre} {C : Oracle} {nt : Nat}

theorem stepPS_eq {ops : List Oper} {t t' : SS} {o : Oper} (h : stepPS P X pre C nt ops t o = some t') (hh : Holds t'.ob) : stepP P X (strict pre C) nt ops t.s o = some t'.s ∧ Holds t.ob := by
  unfold stepPS at h
  obtain ⟨b, os, ob, h1, h2⟩ := wantS_eq h
  cases b with
  | true =>
    obtain ⟨r, os2, ob2, h3, h4⟩ := opS_eq h1
    simp only [Option.some.injEq] at h3
    subst h3
    obtain ⟨h5, h6⟩ := h4 hh
    obtain ⟨h7, h8⟩ := h2 h6
    exact ⟨by simp only [stepP, h7, h5], h8⟩
  | false =>
    simp only [Option.some.injEq] at h1
    subst h1
    obtain ⟨h7, h8⟩ := h2 hh
    exact ⟨by simp only [stepP, h7], h8⟩

theorem gather_map {α β : Type} {f : Nat → Option (List α)} {g : Nat → Option (List β)} {m : α → β} : ∀ {l : List Nat} {R : List α}, gather f l = some R → (∀ i ∈ l, ∀ A, f i = some A → (∀ x ∈ A, x ∈ R) → g i = some (A.map m)) → gather g l = some (R.map m) := by
  intro l
  induction l with
  | nil => intro R h _; simp only [gather, Option.some.injEq] at h; subst h; rfl
  | cons j l ih =>
    intro R h hg
    simp only [gather] at h
    split at h
    · rename_i a ha
      split at h
      · rename_i b hb
        injection h with h
        subst h
        have h1 := hg j (by simp) a ha (fun x hx => List.mem_append.2 (.inl hx))
        have h2 := ih hb (fun i hi A hA hsub => hg i (by simp [hi]) A hA fun x hx => List.mem_append.2 (.inr (hsub x hx)))
        simp only [gather, h1, h2, List.map_append]
      · simp at h
    · simp at h

theorem evPermS_eq {ops : List Oper} : ∀ (n : Nat) (done : List Bool) (t : SS) (L : List SS), evPermS P X pre C nt ops n done t = some L → (∀ t' ∈ L, Holds t'.ob) →
    evPerm P X (strict pre C) nt ops n done t.s = some (L.map (·.s)) ∧ L ≠ [] ∧ Holds t.ob := by
  intro n
  induction n with
  | zero =>
    intro done t L h hh
    simp only [evPermS, Option.some.injEq] at h
    subst h
    exact ⟨rfl, by simp, hh t (by simp)⟩
  | succ n ih =>
    intro done t L h hh
    simp only [evPermS] at h
    split at h
    case h_2 => simp at h
    rename_i x R hg
    injection h with h
    subst h
    -- each branch
    have key : ∀ i ∈ List.range ops.length, ∀ A, (match rdy ops done i with
        | true => match ops[i]? with
          | some o => match stepPS P X pre C nt ops t o with
            | some s1 => evPermS P X pre C nt ops n (done.set i true) s1
            | none => none
          | none => none
        | false => some []) = some A → (∀ y ∈ A, y ∈ x :: R) → (match rdy ops done i with
        | true => match ops[i]? with
          | some o => match stepP P X (strict pre C) nt ops t.s o with
            | some s1 => evPerm P X (strict pre C) nt ops n (done.set i true) s1
            | none => none
          | none => none
        | false => some []) = some (A.map (·.s)) ∧ (A ≠ [] → Holds t.ob) := by
      intro i _ A hA hsub
      split at hA
      · rename_i hr
        split at hA
        · rename_i o ho
          split at hA
          · rename_i s1 hs1
            obtain ⟨h1, h2, h3⟩ := ih _ _ _ hA fun t' ht' => hh t' (hsub t' ht')
            obtain ⟨h4, h5⟩ := stepPS_eq hs1 h3
            rw [h4]
            exact ⟨h1, fun _ => h5⟩
          · simp at hA
        · simp at hA
      · rename_i hr
        injection hA with hA
        subst hA
        exact ⟨rfl, fun h => (h rfl).elim⟩
    refine ⟨?_, by simp, ?_⟩
    · have := gather_map (m := fun t : SS => t.s) hg fun i hi A hA hsub => (key i hi A hA hsub).1
      have e : evPerm P X (strict pre C) nt ops (n + 1) done t.s = (match (some ((x :: R).map (·.s)) : Option (List St)) with
        | some (x :: R) => some (x :: R)
        | _ => none) := by
        rw [← this]
        rfl
      rw [e]
      rfl
    · obtain ⟨i, hi, A, hA, hne⟩ := gather_some hg (by simp)
      obtain ⟨B, hB, hsub⟩ := gather_mem hg i hi
      rw [hA] at hB
      injection hB with hB
      subst hB
      exact (key i hi A hA hsub).2 hne

theorem WP.permS (ok : ProgOk P) (hX : XSound P X) (hC : Sound P (strict pre C)) {c : Code} (hc : (isDraw c && (opsOf c).toList.all noSel) = true) {F : Slots} {H : Heap} {lo : Nat} (os : Path) (ks : List Nat) (k : Nat) {F' : Slots} {H' : Heap} {lo' : Nat} {ob : Obs}
    (h : (evPermS P X pre C nt (opsOf c).toList (opsOf c).toList.length (List.replicate (opsOf c).toList.length false) ⟨⟨F, H, lo⟩, os, []⟩).map (fun L => L.map fun t => (pick t.s.F ks, t.s.H, t.s.lo, t.ob)) = some (List.replicate k (F', H', lo', ob))) (hh : Holds ob) (hlo : lo' ≤ lo) :
    WP P nt c ⟨F, H, lo⟩ .normal ⟨F', H', lo'⟩ := by
  cases hL : evPermS P X pre C nt (opsOf c).toList (opsOf c).toList.length (List.replicate (opsOf c).toList.length false) ⟨⟨F, H, lo⟩, os, []⟩ with
  | none => rw [hL] at h; simp at h
  | some L =>
    rw [hL] at h
    simp only [Option.map_some, Option.some.injEq] at h
    have hall : ∀ t ∈ L, (pick t.s.F ks, t.s.H, t.s.lo, t.ob) = (F', H', lo', ob) := by
      intro t ht
      have : (pick t.s.F ks, t.s.H, t.s.lo, t.ob) ∈ L.map fun t => (pick t.s.F ks, t.s.H, t.s.lo, t.ob) := List.mem_map.2 ⟨t, ht, rfl⟩
      rw [h] at this
      exact (List.mem_replicate.1 this).2
    obtain ⟨h1, _, _⟩ := evPermS_eq _ _ _ _ hL fun t ht => by
      have := hall t ht
      simp only [Prod.mk.injEq] at this
      rw [this.2.2.2]
      exact hh
    refine WP.perm (k := L.length) ok hX hC hc ks ?_ hlo
    rw [h1]
    simp only [Option.map_some, Option.some.injEq, List.map_map]
    refine List.eq_replicate_iff.2 ⟨by simp, fun b hb => ?_⟩
    obtain ⟨t, ht, rfl⟩ := List.mem_map.1 hb
    have := hall t ht
    simp only [Prod.mk.injEq] at this
    simp only [Function.comp, this.1, this.2.1, this.2.2.1]
end
end Go.Proofs.Ytfbjpenbpbpcaaa.Den

