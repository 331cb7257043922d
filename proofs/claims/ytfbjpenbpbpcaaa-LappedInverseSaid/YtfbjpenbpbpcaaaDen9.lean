/-
  A verified evaluator, tenth part: a region that draws its order, joined.
-/
import Derived.Test.YtfbjpenbpbpcaaaDen8
namespace Go.Proofs.Ytfbjpenbpbpcaaa.Den
open Go

theorem selfLoad_spec {ops : List Oper} {o : Oper} {j : Nat} (h : selfLoad ops o = some j) :
    ∃ (t : TypeId) (x y : Tmp) (p : Oper), o.op = .store t (.tmp x) (.tmp y) ∧ ops[j]? = some p ∧ p.op = .load t (.tmp x) ∧ p.guard = none ∧ p.dst = some y ∧
      ∀ (k : Nat) (q : Oper), ops[k]? = some q → (k = j ∨ q.dst ≠ some y) ∧ q.dst ≠ some x := by
  unfold selfLoad at h
  split at h
  · rename_i t x y hop
    split at h
    · rename_i j' hf
      split at h
      · rename_i hall
        injection h with h
        subst h
        obtain ⟨⟨p, k⟩, hmem, hp⟩ := List.exists_of_findSome?_eq_some hf
        simp only at hp
        split at hp
        · rename_i u z d hpo hpg hpd
          split at hp
          · rename_i hc
            simp only [Bool.and_eq_true, decide_eq_true_eq] at hc
            injection hp with hp
            subst hp
            obtain ⟨⟨rfl, rfl⟩, rfl⟩ := hc
            refine ⟨u, z, d, p, hop, mem_zip.1 hmem, hpo, hpg, hpd, fun q r hq => ?_⟩
            have := List.all_eq_true.1 hall (r, q) (mem_zip.2 hq)
            simpa using this
          · simp at hp
        · simp at hp
      · simp at h
    · simp at h
  · simp at h

section
variable {P : Program} {X : Ext} {C : Oracle} {nt : Nat} {ops : List Oper} {F0 : Slots} {H0 : Heap} {lo0 : Nat} {rs : List Rec}

theorem heap_same (ok : ProgOk P) (hX : XSound P X) (hC : Sound P C) (hsel : ∀ (i : Nat) (o : Oper), ops[i]? = some o → noSel o = true) (hrun : RunOk P X C nt ops F0 H0 lo0 rs) {k : Nat} (hk : k < ops.length)
    (he : (recAt rs k).eff ≠ .write) : heapAt H0 rs (k + 1) = heapAt H0 rs k := by
  have hx : ops[k]? = some ops[k] := List.getElem?_eq_getElem hk
  show (recAt rs k).H = _
  rcases hrun.step k _ hx with ⟨_, r, hr, h1 | ⟨j, _, _, _, _, h1⟩⟩ | ⟨_, h1⟩
  · have hs := evOp_sound ok hX hC (hsel k _ hx) hr
    rw [h1] at he ⊢
    cases hre : r.eff with
    | pure => exact (hs.pure hre).1
    | read => exact (hs.read hre).1
    | write => exact (he hre).elim
  · rw [h1]
  · rw [h1]

theorem lo_le (ok : ProgOk P) (hX : XSound P X) (hC : Sound P C) (hsel : ∀ (i : Nat) (o : Oper), ops[i]? = some o → noSel o = true) (hrun : RunOk P X C nt ops F0 H0 lo0 rs) {k : Nat} (hk : k < ops.length) : loAt lo0 rs (k + 1) ≤ loAt lo0 rs k := by
  have hx : ops[k]? = some ops[k] := List.getElem?_eq_getElem hk
  show (recAt rs k).lo ≤ _
  have key : ∀ r, evOp P X C true (slotsAt nt F0 ops rs k) (heapAt H0 rs k) (loAt lo0 rs k) ops[k] = some r → r.lo ≤ loAt lo0 rs k := by
    intro r hr
    have hs := evOp_sound ok hX hC (hsel k _ hx) hr
    cases hre : r.eff with
    | pure => rw [(hs.pure hre).2.1]; exact Nat.le_refl _
    | read => rw [(hs.read hre).2.1]; exact Nat.le_refl _
    | write =>
      obtain ⟨l, h1, _⟩ := hs.write hre
      rw [h1]
      exact Nat.min_le_left _ _
  rcases hrun.step k _ hx with ⟨_, r, hr, h1 | ⟨j, _, _, _, _, h1⟩⟩ | ⟨_, h1⟩
  · rw [h1]; exact key r hr
  · rw [h1]; exact key r hr
  · rw [h1]; exact Nat.le_refl _

theorem lo_all (ok : ProgOk P) (hX : XSound P X) (hC : Sound P C) (hsel : ∀ (i : Nat) (o : Oper), ops[i]? = some o → noSel o = true) (hrun : RunOk P X C nt ops F0 H0 lo0 rs) : ∀ n, n ≤ ops.length → ∀ k, k ≤ n → loAt lo0 rs n ≤ loAt lo0 rs k := by
  intro n
  induction n with
  | zero => intro _ k hk; have : k = 0 := by omega
            subst this; exact Nat.le_refl _
  | succ n ih =>
    intro hn k hk
    by_cases hkn : k = n + 1
    · subst hkn; exact Nat.le_refl _
    · exact Nat.le_trans (lo_le ok hX hC hsel hrun (by omega)) (ih (by omega) k (by omega))

theorem heap_cur (ok : ProgOk P) (hX : XSound P X) (hC : Sound P C) (hsel : ∀ (i : Nat) (o : Oper), ops[i]? = some o → noSel o = true) (hrun : RunOk P X C nt ops F0 H0 lo0 rs) : ∀ n, n ≤ ops.length → heapAt H0 rs n = curH H0 rs (fun _ => true) n := by
  intro n
  induction n with
  | zero => intro _; rfl
  | succ n ih =>
    intro hn
    simp only [curH, true_and]
    split
    · rfl
    · rename_i he
      rw [heap_same ok hX hC hsel hrun (by omega) he, ih (by omega)]

theorem heap_between (ok : ProgOk P) (hX : XSound P X) (hC : Sound P C) (hsel : ∀ (i : Nat) (o : Oper), ops[i]? = some o → noSel o = true) (hrun : RunOk P X C nt ops F0 H0 lo0 rs) (j : Nat) : ∀ i, j ≤ i → i ≤ ops.length →
    (∀ k, j ≤ k → k < i → (recAt rs k).eff ≠ .write) → heapAt H0 rs i = heapAt H0 rs j := by
  intro i
  induction i with
  | zero => intro h _ _; have : j = 0 := by omega
            subst this; rfl
  | succ i ih =>
    intro h1 h2 h3
    by_cases hj : j = i + 1
    · subst hj; rfl
    · rw [heap_same ok hX hC hsel hrun (by omega) (h3 i (by omega) (by omega))]
      exact ih (by omega) (by omega) fun k a b => h3 k a (by omega)

/-- A store of what was loaded leaves the heap as it is. -/
theorem self_same (ok : ProgOk P) (hX : XSound P X) (hC : Sound P C) (hsel : ∀ (i : Nat) (o : Oper), ops[i]? = some o → noSel o = true) (hrun : RunOk P X C nt ops F0 H0 lo0 rs) (hkeys : ∀ t v, at? t F0 = some v → t < nt)
    {i j : Nat} {o : Oper} {r : Out} (ho : ops[i]? = some o) (hr : evOp P X C true (slotsAt nt F0 ops rs i) (heapAt H0 rs i) (loAt lo0 rs i) o = some r) (hself : selfLoad ops o = some j) (hji : j < i)
    (hno : ∀ k, j ≤ k → k < i → (recAt rs k).eff ≠ .write) : r.H = heapAt H0 rs i := by
  obtain ⟨t, x, y, p, hop, hp, hpo, hpg, hpd, hw⟩ := selfLoad_spec hself
  have hil : i < ops.length := (List.getElem?_eq_some_iff.1 ho).1
  have hdst : ∀ k d, dstAt ops k = some d → ∃ q, ops[k]? = some q ∧ q.dst = some d := by
    intro k d hd
    unfold dstAt at hd
    cases hq : ops[k]? with
    | none => simp [hq] at hd
    | some q => exact ⟨q, rfl, by simpa [hq] using hd⟩
  -- the address' slot is never written
  have hxcur : ∀ m, cur nt F0 ops rs (fun _ => true) x m = at? x F0 := by
    intro m
    induction m with
    | zero => rfl
    | succ m ih =>
      simp only [cur]
      rw [if_neg, ih]
      rintro ⟨_, hd, _⟩
      obtain ⟨q, hq1, hq2⟩ := hdst m x hd
      exact (hw m q hq1).2 hq2
  have hxi : at? x (slotsAt nt F0 ops rs i) = at? x (slotsAt nt F0 ops rs j) := by rw [cur_all, cur_all, hxcur, hxcur]
  -- the value's slot is written by the load alone
  have hdj : dstAt ops j = some y := by simp [dstAt, hp, hpd]
  have hycur : ∀ m, j < m → y < nt → cur nt F0 ops rs (fun _ => true) y m = some (recAt rs j).v := by
    intro m
    induction m with
    | zero => intro h; omega
    | succ m ih =>
      intro hjm hy
      simp only [cur]
      by_cases hm : m = j
      · subst hm
        rw [if_pos ⟨by simp, hdj, hy⟩]
      · rw [if_neg, ih (by omega) hy]
        rintro ⟨_, hd, _⟩
        obtain ⟨q, hq1, hq2⟩ := hdst m y hd
        rcases (hw m q hq1).1 with h | h
        · exact hm h
        · exact h hq2
  have hyge : ∀ m, ¬ y < nt → cur nt F0 ops rs (fun _ => true) y m = none := by
    intro m hy
    induction m with
    | zero =>
      simp only [cur]
      cases hh : at? y F0 with
      | none => rfl
      | some v => exact (hy (hkeys y v hh)).elim
    | succ m ih =>
      simp only [cur]
      rw [if_neg (fun h => hy h.2.2), ih]
  -- the load
  have hwj : wantedF ops (slotsAt nt F0 ops rs j) p = some true := by unfold wantedF; rw [hpg]
  rcases hrun.step j p hp with ⟨_, rj, hrj, h1⟩ | ⟨h1, _⟩
  case inr => rw [hwj] at h1; simp at h1
  obtain ⟨pd, pop, pt, ppos, pa, pg⟩ := p
  simp only at hpo
  subst hpo
  simp only [evOp, ev] at hrj
  split at hrj
  case h_2 => simp at hrj
  rename_i a hxa
  cases hl : loadV P (heapAt H0 rs j) t a with
  | none => simp [hl] at hrj
  | some vj =>
    simp [hl] at hrj
    subst hrj
    have hrec : (recAt rs j).v = vj := by
      rcases h1 with h1 | ⟨_, h2, _⟩
      · rw [h1]
      · simp at h2
    -- the store
    obtain ⟨od, oop, ot, opos, oa, og⟩ := o
    simp only at hop
    subst hop
    simp only [evOp, ev] at hr
    split at hr
    case h_2 => simp at hr
    rename_i a2 v2 hxa2 hy2
    cases hst : storeV P (heapAt H0 rs i) t a2 v2 with
    | none => simp [hst] at hr
    | some H' =>
      simp [hst] at hr
      subst hr
      rw [hxi, hxa] at hxa2
      simp only [Option.some.injEq, Value.pointer.injEq] at hxa2
      subst hxa2
      rw [cur_all] at hy2
      have hyl : y < nt := by
        by_cases hh : y < nt
        · exact hh
        · rw [hyge i hh] at hy2; simp at hy2
      rw [hycur i hji hyl, hrec] at hy2
      injection hy2 with hy2
      subst hy2
      have hh := heap_between ok hX hC hsel hrun j i (by omega) (by omega) hno
      simp only
      rw [hh] at hst ⊢
      exact storeV_self hl hst
end

end Go.Proofs.Ytfbjpenbpbpcaaa.Den
