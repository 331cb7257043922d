/-
  A loop whose rounds make blocks that are not held: between two rounds they are forgotten.
-/
import Derived.Test.YtfbjpenbpbpcaaaZC
import Derived.Test.YtfbjpenbpbpcaaaZE
namespace Go.Proofs.Ytfbjpenbpbpcaaa.Den
open Go

/-- The place of a kept block. -/
def gcN (K : Nat) (sel : List Nat) (b : Nat) : Option Nat := match Nat.blt b K with
  | true => some b
  | false => match pos b sel with
    | some j => some (K + j)
    | none => none

/-- From a state to one that holds fewer blocks: the first K, and sel; their cells hold no address. -/
structure GcOk (K : Nat) (s s2 : St) : Prop where
  lo : s2.lo = s.lo
  le : K ≤ s.H.length
  ex : ∃ sel : List Nat, sel.Nodup ∧ (∀ i ∈ sel, K ≤ i ∧ i < s.H.length) ∧ s2.H.length = K + sel.length ∧ (∀ i, i < K → s2.H[i]? = s.H[i]?) ∧ (∀ j i, sel[j]? = some i → s2.H[K + j]? = s.H[i]?) ∧
    (∀ (i : Nat) (b : Blk), s2.H[i]? = some b → b.cells.all (pf 3) = true) ∧ (∀ t v, at? t s2.F = some v → ∃ u, at? t s.F = some u ∧ ren (gcN K sel) 3 u = some v)

theorem gc_rel {ρ0 : Rho} {H0 : Heap} {w0 : World} {ρ : Rho} {H : Heap} {lo : Nat} {w : World} (h : Rel ρ0 H0 w0 ρ H lo w) {K : Nat} (hK0 : H0.length ≤ K) (hK : K ≤ H.length) {sel : List Nat} (hsn : sel.Nodup) (hsel : ∀ i ∈ sel, K ≤ i ∧ i < H.length)
    {H2 : Heap} (hlen : H2.length = K + sel.length) (hold : ∀ i, i < K → H2[i]? = H[i]?) (hnew : ∀ j i, sel[j]? = some i → H2[K + j]? = H[i]?) (hflat : ∀ (i : Nat) (b : Blk), H2[i]? = some b → b.cells.all (pf 3) = true) :
    Rel ρ0 H0 w0 (ρ.take K ++ sel.map fun i => ρ.getD i ⟨0, 0, 0⟩) H2 lo w := by
  have hlρ := h.sr.len
  have htk : (ρ.take K).length = K := by rw [List.length_take]; omega
  -- each new place comes of an old one
  have place : ∀ (i : Nat) (e : Ent), (ρ.take K ++ sel.map fun i => ρ.getD i ⟨0, 0, 0⟩ : Rho)[i]? = some e → ∃ k, ρ[k]? = some e ∧ H2[i]? = H[k]? ∧ ((i < K ∧ k = i) ∨ (K ≤ i ∧ sel[i - K]? = some k ∧ K ≤ k)) := by
    intro i e hi
    by_cases hlt : i < K
    · rw [List.getElem?_append_left (by rw [htk]; exact hlt), List.getElem?_take, if_pos hlt] at hi
      exact ⟨i, hi, hold i hlt, .inl ⟨hlt, rfl⟩⟩
    · rw [List.getElem?_append_right (by rw [htk]; omega), htk, List.getElem?_map] at hi
      cases hs : sel[i - K]? with
      | none => rw [hs] at hi; simp at hi
      | some k =>
        rw [hs] at hi
        obtain ⟨h1, h2⟩ := hsel k (List.mem_of_getElem? hs)
        have hk : ρ[k]? = some ρ[k] := List.getElem?_eq_getElem (by omega)
        simp [List.getD_eq_getElem?_getD, hk] at hi
        refine ⟨k, by rw [hk, hi], ?_, .inr ⟨by omega, rfl, h1⟩⟩
        have := hnew (i - K) k hs
        rwa [show K + (i - K) = i by omega] at this
  have inj : ∀ {i j k k' : Nat}, ((i < K ∧ k = i) ∨ (K ≤ i ∧ sel[i - K]? = some k ∧ K ≤ k)) → ((j < K ∧ k' = j) ∨ (K ≤ j ∧ sel[j - K]? = some k' ∧ K ≤ k')) → k = k' → i = j := by
    intro i j k k' h1 h2 e
    subst e
    rcases h1 with ⟨a, b⟩ | ⟨a, b, c⟩ <;> rcases h2 with ⟨a', b'⟩ | ⟨a', b', c'⟩
    · omega
    · omega
    · omega
    · have := nodup_get hsn b b'
      omega
  have selfs : ∀ {ρ' : Rho} {i : Nat} {b : Blk}, H2[i]? = some b → ∀ (k : Nat) (v : Value), b.cells[k]? = some v → ∀ v', VR ρ v v' → VR ρ' v v' := by
    intro ρ' i b hb k v hv v' hvr
    have hp := get_all (hflat i b hb) hv
    rw [pf_eq 3 _ _ hp hvr]
    exact pf_self 3 _ hp
  refine ⟨h.len0, ?_, ⟨?_, ?_, ?_⟩, by rw [hlen]; omega, ?_, ?_, h.os, h.tape, h.output, h.size, h.keep, h.frozen⟩
  · have e1 : ρ0 <+: ρ.take K := by
      obtain ⟨t, ht⟩ := h.pre
      refine ⟨t.take (K - ρ0.length), ?_⟩
      rw [← ht, List.take_append, List.take_of_length_le (l := ρ0) (by rw [h.len0]; exact hK0)]
    exact e1.trans (List.prefix_append _ _)
  · rw [List.length_append, htk, List.length_map, hlen]
  · intro i e b hi hb
    obtain ⟨k, hk, hkb, _⟩ := place i e hi
    have hb' : H[k]? = some b := by rw [← hkb]; exact hb
    obtain ⟨c, el, fz, x, y, z, t⟩ := h.sr.blk k e b hk hb'
    refine ⟨c, el, fz, x, fun m v hv => ?_, z, t⟩
    obtain ⟨o1, v', p, q⟩ := y m v hv
    exact ⟨o1, v', p, selfs hb m v hv v' q⟩
  · intro i j e e' b b' hij hi hj hb hb' ho hc
    obtain ⟨k, hk, hkb, p1⟩ := place i e hi
    obtain ⟨k', hk', hkb', p2⟩ := place j e' hj
    exact h.sr.inj k k' e e' b b' (fun hh => hij (inj p1 p2 hh)) hk hk' (by rw [← hkb]; exact hb) (by rw [← hkb']; exact hb') ho hc
  · intro i b hi hb ho
    rw [hold i (by omega)] at hb
    exact h.own i b hi hb ho
  · intro i e hi he
    obtain ⟨k, hk, _, p⟩ := place i e he
    refine h.new k e ?_ hk
    rcases p with ⟨a, b⟩ | ⟨a, b, c⟩ <;> omega

section
variable {P : Program} {nt : Nat}

/-- A loop, by a row of states; behind each round some blocks are forgotten. -/
theorem WP.loop_gc {b : Code} (S T : Nat → St) (n : Nat) {x : Ex} {s' : St} (hx : x ≠ .normal) (h1 : ∀ i, i < n → WP P nt b (S i) .normal (T i)) (hg : ∀ i, i < n → GcOk (S 0).H.length (T i) (S (i + 1))) (h2 : WP P nt b (S n) x s') : WP P nt (.loop b) (S 0) x s' := by
  intro B Ds ρ0 H0 w0 ρ a w Q hR hF hM hQ
  refine wpIn_loop_rounds (n + 1) ?_
  have hl0 : ρ.length = (S 0).H.length := hR.sr.len
  have key : ∀ (m i : Nat), i + m = n → ∀ (ρ1 : Rho) (Ds : List Nat) (a : Act) (w1 : World), ρ <+: ρ1 → Rel ρ0 H0 w0 ρ1 (S i).H (S i).lo w1 → FR (marks Ds) ρ1 nt (S i).F a → Marked B w1 Ds → KeepsOthers w w1 → Code.roundsIn (FX none) 0 P b Q (m + 1) a w1 := by
    intro m
    induction m with
    | zero =>
      intro i hi ρ1 Ds a w1 hpre hR hF hM hk
      have : i = n := by omega
      subst this
      refine h2 B Ds ρ0 H0 w0 ρ1 a w1 _ hR hF hM fun ρ' Ds' a' w' g p q m k => ?_
      have := hQ ρ' Ds' a' w' (hpre.trans g) p q m (hk.trans k)
      cases x with
      | normal => exact (hx rfl).elim
      | exit i => exact this
      | ret => exact this
    | succ m ih =>
      intro i hi ρ1 Ds a w1 hpre hR1 hF hM hk
      refine h1 i (by omega) B Ds ρ0 H0 w0 ρ1 a w1 _ hR1 hF hM fun ρ' Ds' a' w' g p q m k => ?_
      obtain ⟨e1, e2, sel, s1, s2, s3, s4, s5, s6, s7⟩ := hg i (by omega)
      have hr := gc_rel p hR.len e2 s1 s2 s3 s4 s5 s6
      rw [← e1] at hr
      have hpre' : ρ <+: ρ'.take (S 0).H.length ++ sel.map fun i => ρ'.getD i ⟨0, 0, 0⟩ := by
        obtain ⟨t, ht⟩ := hpre.trans g
        refine List.IsPrefix.trans ⟨[], ?_⟩ (List.prefix_append _ _)
        rw [List.append_nil, ← ht, ← hl0, List.take_left]
      refine ih (i + 1) (by omega) _ Ds' a' w' hpre' hr ⟨q.defers, q.size, fun t v hv => ?_⟩ m (hk.trans k)
      obtain ⟨u, hu, hren⟩ := s7 t v hv
      obtain ⟨v', h3, h4⟩ := q.slot t u hu
      refine ⟨v', h3, VR.ren ?_ 3 _ _ _ hren h4⟩
      intro bb c e hb he
      unfold gcN at hb
      split at hb
      · rename_i hlt
        injection hb with hb
        subst hb
        have hlt : bb < (S 0).H.length := by simpa [Nat.blt_eq] using hlt
        rw [List.getElem?_append_left (by rw [List.length_take, p.sr.len]; omega), List.getElem?_take, if_pos hlt]
        exact he
      · split at hb
        · rename_i j hj
          injection hb with hb
          subst hb
          have hs := pos_get hj
          have htk : (ρ'.take (S 0).H.length).length = (S 0).H.length := by rw [List.length_take, p.sr.len]; omega
          rw [List.getElem?_append_right (by rw [htk]; omega), htk, Nat.add_sub_cancel_left, List.getElem?_map, hs]
          simp [List.getD_eq_getElem?_getD, he]
        · simp at hb
  exact key n 0 (by omega) ρ Ds a w (List.prefix_refl _) hR hF hM (KeepsOthers.refl w)
end
end Go.Proofs.Ytfbjpenbpbpcaaa.Den

