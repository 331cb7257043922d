/-
  A verified evaluator, eighth part: a region that draws its order: the run in the text's order serves every order.
-/
import Derived.Test.YtfbjpenbpbpcaaaDen6
namespace Go.Proofs.Ytfbjpenbpbpcaaa.Den
open Go

def dstAt (ops : List Oper) (i : Nat) : Option Tmp := (ops[i]?).bind (·.dst)
def recAt (rs : List Rec) (i : Nat) : Rec := (rs[i]?).getD ⟨undef, .pure, [], 0⟩

def slotsAt (nt : Nat) (F0 : Slots) (ops : List Oper) (rs : List Rec) : Nat → Slots
  | 0 => F0
  | i + 1 => putF nt (slotsAt nt F0 ops rs i) (dstAt ops i) (recAt rs i).v
def heapAt (H0 : Heap) (rs : List Rec) : Nat → Heap
  | 0 => H0
  | i + 1 => (recAt rs i).H
def loAt (lo0 : Nat) (rs : List Rec) : Nat → Nat
  | 0 => lo0
  | i + 1 => (recAt rs i).lo

/-- What the run in the text's order has shown. -/
structure RunOk (P : Program) (X : Ext) (C : Oracle) (nt : Nat) (ops : List Oper) (F0 : Slots) (H0 : Heap) (lo0 : Nat) (rs : List Rec) : Prop where
  step : ∀ (i : Nat) (o : Oper), ops[i]? = some o →
    (wantedF ops (slotsAt nt F0 ops rs i) o = some true ∧ ∃ r, evOp P X C true (slotsAt nt F0 ops rs i) (heapAt H0 rs i) (loAt lo0 rs i) o = some r ∧
      (recAt rs i = ⟨r.v, r.eff, r.H, r.lo⟩ ∨
        ∃ j, r.eff = .write ∧ selfLoad ops o = some j ∧ j < i ∧ (∀ k, j ≤ k → k < i → (recAt rs k).eff ≠ .write) ∧ recAt rs i = ⟨r.v, .read, heapAt H0 rs i, r.lo⟩)) ∨
    (wantedF ops (slotsAt nt F0 ops rs i) o = some false ∧ recAt rs i = ⟨undef, .pure, heapAt H0 rs i, loAt lo0 rs i⟩)

theorem evRecs_spec {P : Program} {X : Ext} {C : Oracle} {nt : Nat} {ops : List Oper} {F0 : Slots} {H0 : Heap} {lo0 : Nat} {Ff : Slots} (rs : List Rec) :
    ∀ (rest : List Oper) (n ws : Nat) (F : Slots) (H : Heap) (lo : Nat) (rs' : List Rec), ops.drop n = rest → n ≤ ops.length → rs.drop n = rs' → n ≤ rs.length →
      F = slotsAt nt F0 ops rs n → H = heapAt H0 rs n → lo = loAt lo0 rs n → (∀ k, k < n → (recAt rs k).eff = .write → k < ws) →
      evRecs P X C nt ops rest n ws F H lo = some (rs', Ff) →
      rs.length = ops.length ∧ Ff = slotsAt nt F0 ops rs ops.length ∧ ∀ (i : Nat) (o : Oper), n ≤ i → ops[i]? = some o →
        (wantedF ops (slotsAt nt F0 ops rs i) o = some true ∧ ∃ r, evOp P X C true (slotsAt nt F0 ops rs i) (heapAt H0 rs i) (loAt lo0 rs i) o = some r ∧
          (recAt rs i = ⟨r.v, r.eff, r.H, r.lo⟩ ∨
            ∃ j, r.eff = .write ∧ selfLoad ops o = some j ∧ j < i ∧ (∀ k, j ≤ k → k < i → (recAt rs k).eff ≠ .write) ∧ recAt rs i = ⟨r.v, .read, heapAt H0 rs i, r.lo⟩)) ∨
        (wantedF ops (slotsAt nt F0 ops rs i) o = some false ∧ recAt rs i = ⟨undef, .pure, heapAt H0 rs i, loAt lo0 rs i⟩) := by
  intro rest
  induction rest with
  | nil =>
    intro n ws F H lo rs' hd hn hrs hnr hF _ _ _ h
    simp only [evRecs, Option.some.injEq, Prod.mk.injEq] at h
    have h1 : ops.length ≤ n := by simpa using hd
    have h2 : rs.length ≤ n := by rw [← h.1] at hrs; simpa using hrs
    have hnn : n = ops.length := by omega
    refine ⟨by omega, by rw [← h.2, hF, hnn], fun i o hi ho => ?_⟩
    have := (List.getElem?_eq_some_iff.1 ho).1
    omega
  | cons o rest ih =>
    intro n ws F H lo rs' hd hn hrs hnr hF hH hlo hws h
    have hk : ops[n]? = some o := by
      have := congrArg (fun l => l[0]?) hd
      simpa using this
    have hd' : ops.drop (n + 1) = rest := by
      have := congrArg (fun l => l.drop 1) hd
      simpa using this
    have hnl : n < ops.length := (List.getElem?_eq_some_iff.1 hk).1
    -- what the head of the records says
    have head : ∀ (r0 : Rec) (tl : List Rec), rs' = r0 :: tl → recAt rs n = r0 ∧ rs.drop (n + 1) = tl ∧ n + 1 ≤ rs.length := by
      intro r0 tl e
      rw [e] at hrs
      have h1 : rs[n]? = some r0 := by
        have := congrArg (fun l => l[0]?) hrs
        simpa using this
      refine ⟨by simp [recAt, h1], ?_, (List.getElem?_eq_some_iff.1 h1).1⟩
      have := congrArg (fun l => l.drop 1) hrs
      simpa using this
    have hdst : dstAt ops n = o.dst := by simp [dstAt, hk]
    simp only [evRecs] at h
    split at h
    · rename_i hw
      split at h
      · rename_i r hr
        cases hadj : adjust ops o n ws H r with
        | mk v eff H' lo' =>
        rw [hadj] at h
        simp only at h
        split at h
        · rename_i rs2 F2 hrec
          simp only [Option.some.injEq, Prod.mk.injEq] at h
          obtain ⟨h1, h2⟩ := h
          obtain ⟨g1, g2, g3⟩ := head _ _ h1.symm
          -- the record, adjusted or not
          have hself : recAt rs n = ⟨r.v, r.eff, r.H, r.lo⟩ ∨ ∃ j, r.eff = .write ∧ selfLoad ops o = some j ∧ j < n ∧ (∀ k, j ≤ k → k < n → (recAt rs k).eff ≠ .write) ∧ recAt rs n = ⟨r.v, .read, heapAt H0 rs n, r.lo⟩ := by
            rw [g1]
            unfold adjust at hadj
            split at hadj
            · rename_i he
              split at hadj
              · rename_i j hj
                split at hadj
                · rename_i hc
                  simp only [Bool.and_eq_true, decide_eq_true_eq] at hc
                  refine .inr ⟨j, he, hj, hc.2, fun k hk1 hk2 hk3 => ?_, ?_⟩
                  · have := hws k hk2 hk3
                    omega
                  · rw [← hH, hadj]
                · exact .inl hadj.symm
              · exact .inl hadj.symm
            · exact .inl hadj.symm
          have hv : v = (recAt rs n).v := by rw [g1]
          have := ih (n + 1) (nextWs eff n ws) (putF nt F o.dst v) H' lo' rs2 hd' (by omega) g2 g3 (by simp only [slotsAt]; rw [hdst, ← hF, hv]) (by simp only [heapAt]; rw [g1]) (by simp only [loAt]; rw [g1]) (by
            intro k hk1 hk2
            by_cases hkn : k = n
            · rw [hkn, g1] at hk2
              simp only at hk2
              rw [hk2, hkn]
              show n < n + 1
              omega
            · have := hws k (by omega) hk2
              unfold nextWs
              split <;> omega) (by rw [hrec, h2])
          obtain ⟨i1, i2, i3⟩ := this
          refine ⟨i1, i2, fun i oi hi hoi => ?_⟩
          by_cases hin : i = n
          · subst hin
            rw [hk] at hoi
            injection hoi with hoi
            subst hoi
            refine .inl ⟨by rw [← hF]; exact hw, r, by rw [← hF, ← hH, ← hlo]; exact hr, hself⟩
          · exact i3 i oi (by omega) hoi
        · simp at h
      · simp at h
    · rename_i hw
      split at h
      · rename_i rs2 F2 hrec
        simp only [Option.some.injEq, Prod.mk.injEq] at h
        obtain ⟨h1, h2⟩ := h
        obtain ⟨g1, g2, g3⟩ := head _ _ h1.symm
        have := ih (n + 1) ws (putF nt F o.dst undef) H lo rs2 hd' (by omega) g2 g3 (by simp only [slotsAt]; rw [hdst, ← hF, g1]) (by simp only [heapAt]; rw [g1]) (by simp only [loAt]; rw [g1]) (by
          intro k hk1 hk2
          by_cases hkn : k = n
          · subst hkn
            rw [g1] at hk2
            simp at hk2
          · exact hws k (by omega) hk2) (by rw [hrec, h2])
        obtain ⟨i1, i2, i3⟩ := this
        refine ⟨i1, i2, fun i oi hi hoi => ?_⟩
        by_cases hin : i = n
        · subst hin
          rw [hk] at hoi
          injection hoi with hoi
          subst hoi
          exact .inr ⟨by rw [← hF]; exact hw, by rw [g1, hH, hlo]⟩
        · exact i3 i oi (by omega) hoi
      · simp at h
    · simp at h

/-! ### What a set of operations that have been run makes of a slot, and of the heap -/

/-- The value of a slot when the operations of D (of the first n) have been run. -/
def cur (nt : Nat) (F0 : Slots) (ops : List Oper) (rs : List Rec) (D : Nat → Bool) (t : Tmp) : Nat → Option Value
  | 0 => at? t F0
  | n + 1 => if D n = true ∧ dstAt ops n = some t ∧ t < nt then some (recAt rs n).v else cur nt F0 ops rs D t n

def curH (H0 : Heap) (rs : List Rec) (D : Nat → Bool) : Nat → Heap
  | 0 => H0
  | n + 1 => if D n = true ∧ (recAt rs n).eff = .write then (recAt rs n).H else curH H0 rs D n

section
variable {nt : Nat} {F0 : Slots} {ops : List Oper} {rs : List Rec} {H0 : Heap}

theorem cur_all (t : Tmp) : ∀ i, at? t (slotsAt nt F0 ops rs i) = cur nt F0 ops rs (fun _ => true) t i := by
  intro i
  induction i with
  | zero => rfl
  | succ i ih =>
    simp only [slotsAt, cur, at_putF, true_and]
    rw [ih]

theorem cur_eq (D : Nat → Bool) (t : Tmp) (i : Nat) : ∀ n, i ≤ n → (∀ j, j < n → dstAt ops j = some t → (D j = true ↔ j < i)) → cur nt F0 ops rs D t n = cur nt F0 ops rs (fun _ => true) t i := by
  intro n
  induction n with
  | zero =>
    intro hi _
    have : i = 0 := by omega
    subst this
    rfl
  | succ n ih =>
    intro hi h
    by_cases hin : i = n + 1
    · subst hin
      -- every one is in: place by place
      have : ∀ m, m ≤ n + 1 → cur nt F0 ops rs D t m = cur nt F0 ops rs (fun _ => true) t m := by
        intro m
        induction m with
        | zero => intro _; rfl
        | succ m ihm =>
          intro hm
          simp only [cur]
          rw [ihm (by omega)]
          by_cases hd : dstAt ops m = some t
          · have := (h m (by omega) hd).2 (by omega)
            simp [this]
          · simp [hd]
      exact this _ (Nat.le_refl _)
    · have h1 := ih (by omega) fun j hj hd => h j (by omega) hd
      simp only [cur]
      rw [if_neg, h1]
      rintro ⟨a, b, _⟩
      have := (h n (by omega) b).1 a
      omega

theorem cur_congr (D D' : Nat → Bool) (t : Tmp) : ∀ n, (∀ j, j < n → dstAt ops j = some t → D j = D' j) → cur nt F0 ops rs D t n = cur nt F0 ops rs D' t n := by
  intro n
  induction n with
  | zero => intro _; rfl
  | succ n ih =>
    intro h
    simp only [cur]
    rw [ih fun j hj hd => h j (by omega) hd]
    by_cases hd : dstAt ops n = some t
    · rw [h n (by omega) hd]
    · simp [hd]

theorem curH_eq (D : Nat → Bool) (i : Nat) : ∀ n, i ≤ n → (∀ j, j < n → (recAt rs j).eff = .write → (D j = true ↔ j < i)) → curH H0 rs D n = curH H0 rs (fun _ => true) i := by
  intro n
  induction n with
  | zero =>
    intro hi _
    have : i = 0 := by omega
    subst this
    rfl
  | succ n ih =>
    intro hi h
    by_cases hin : i = n + 1
    · subst hin
      have : ∀ m, m ≤ n + 1 → curH H0 rs D m = curH H0 rs (fun _ => true) m := by
        intro m
        induction m with
        | zero => intro _; rfl
        | succ m ihm =>
          intro hm
          simp only [curH]
          rw [ihm (by omega)]
          by_cases hd : (recAt rs m).eff = .write
          · have := (h m (by omega) hd).2 (by omega)
            simp [this]
          · simp [hd]
      exact this _ (Nat.le_refl _)
    · have h1 := ih (by omega) fun j hj hd => h j (by omega) hd
      simp only [curH]
      rw [if_neg, h1]
      rintro ⟨a, b⟩
      have := (h n (by omega) b).1 a
      omega

theorem curH_congr (D D' : Nat → Bool) : ∀ n, (∀ j, j < n → (recAt rs j).eff = .write → D j = D' j) → curH H0 rs D n = curH H0 rs D' n := by
  intro n
  induction n with
  | zero => intro _; rfl
  | succ n ih =>
    intro h
    simp only [curH]
    rw [ih fun j hj hd => h j (by omega) hd]
    by_cases hd : (recAt rs n).eff = .write
    · rw [h n (by omega) hd]
    · simp [hd]
end

/-! ### The masks -/

theorem foldl_or (m : Edge → Nat) (b : Edge → Bool) (k : Nat) : ∀ (es : List Edge) (s : Nat), (es.foldl (fun s e => if b e then s ||| m e else s) s).testBit k = true ↔ s.testBit k = true ∨ ∃ e ∈ es, b e = true ∧ (m e).testBit k = true := by
  intro es
  induction es with
  | nil => intro s; simp
  | cons e es ih =>
    intro s
    simp only [List.foldl_cons, ih]
    by_cases hb : b e = true
    · simp [hb, Nat.testBit_or, or_assoc]
    · simp [hb]

theorem snoc_ind {α : Type} {p : List α → Prop} (h0 : p []) (h1 : ∀ l x, p l → p (l ++ [x])) : ∀ l, p l := by
  have key : ∀ n (l : List α), l.length = n → p l := by
    intro n
    induction n with
    | zero => intro l hl; have : l = [] := by simpa using hl
              rw [this]; exact h0
    | succ n ih =>
      intro l hl
      have hne : l ≠ [] := by intro h; rw [h] at hl; simp at hl
      rw [← List.dropLast_concat_getLast hne]
      exact h1 _ _ (ih _ (by simp [hl]))
  exact fun l => key _ l rfl

/-- The mask of an operation: its own edges, and theirs. -/
theorem masks_spec : ∀ (ops : List Oper), (masks ops).length = ops.length ∧ ∀ (i : Nat) (o : Oper), ops[i]? = some o → ∀ k, ((masks ops).getD i 0).testBit k = true →
    ∃ e ∈ o.after.toList, Region.binds .any e = true ∧ (k = e.on ∨ (e.on < i ∧ ((masks ops).getD e.on 0).testBit k = true)) := by
  intro ops
  -- by the list from its end
  have snoc : ∀ (l : List Oper) (o : Oper), masks (l ++ [o]) = masks l ++ [o.after.toList.foldl (fun s e => if Region.binds .any e then s ||| (2 ^ e.on) ||| (masks l).getD e.on 0 else s) 0] := by
    intro l o
    unfold masks
    rw [List.foldl_append]
    rfl
  refine snoc_ind (p := fun ops => (masks ops).length = ops.length ∧ ∀ (i : Nat) (o : Oper), ops[i]? = some o → ∀ k, ((masks ops).getD i 0).testBit k = true →
    ∃ e ∈ o.after.toList, Region.binds .any e = true ∧ (k = e.on ∨ (e.on < i ∧ ((masks ops).getD e.on 0).testBit k = true))) ?_ ?_ ops
  · exact ⟨rfl, fun i o h => by simp at h⟩
  · intro l o ih
    obtain ⟨ih1, ih2⟩ := ih
    rw [snoc]
    refine ⟨by simp [ih1], fun i p hp k hk => ?_⟩
    have hget : ∀ j, j < l.length → (masks l ++ [o.after.toList.foldl (fun s e => if Region.binds .any e then s ||| (2 ^ e.on) ||| (masks l).getD e.on 0 else s) 0]).getD j 0 = (masks l).getD j 0 := by
      intro j hj
      simp only [List.getD_eq_getElem?_getD]
      rw [List.getElem?_append_left (by omega)]
    by_cases hi : i < l.length
    · rw [List.getElem?_append_left hi] at hp
      rw [hget i hi] at hk
      obtain ⟨e, h1, h2, h3⟩ := ih2 i p hp k hk
      refine ⟨e, h1, h2, h3.imp id fun ⟨h4, h5⟩ => ⟨h4, ?_⟩⟩
      rw [hget _ (by omega)]
      exact h5
    · have h1 := (List.getElem?_eq_some_iff.1 hp).1
      simp at h1
      have hil : i = l.length := by omega
      subst hil
      simp at hp
      subst hp
      have hk' : (o.after.toList.foldl (fun s e => if Region.binds .any e then s ||| (2 ^ e.on) ||| (masks l).getD e.on 0 else s) 0).testBit k = true := by
        simpa [List.getD_eq_getElem?_getD, ← ih1] using hk
      have hk2 : (o.after.toList.foldl (fun s e => if Region.binds .any e then s ||| ((2 ^ e.on) ||| (masks l).getD e.on 0) else s) 0).testBit k = true := by
        have : (fun (s : Nat) (e : Edge) => if Region.binds .any e then s ||| (2 ^ e.on) ||| (masks l).getD e.on 0 else s) = fun s e => if Region.binds .any e then s ||| ((2 ^ e.on) ||| (masks l).getD e.on 0) else s := by
          funext s e
          rw [Nat.or_assoc]
        rw [← this]; exact hk'
      rw [foldl_or (fun e => (2 ^ e.on) ||| (masks l).getD e.on 0) (fun e => Region.binds .any e)] at hk2
      rcases hk2 with h2 | ⟨e, h3, h4, h5⟩
      · simp at h2
      · refine ⟨e, h3, h4, ?_⟩
        rw [Nat.testBit_or, Bool.or_eq_true] at h5
        rcases h5 with h5 | h5
        · rw [Nat.testBit_two_pow] at h5
          exact .inl (by have h6 : e.on = k := by simpa using h5
                         exact h6.symm)
        · have hlt : e.on < l.length := by
            by_cases hh : e.on < l.length
            · exact hh
            · rw [List.getD_eq_getElem?_getD, List.getElem?_eq_none (by omega)] at h5
              simp at h5
          exact .inr ⟨hlt, by rw [hget _ hlt]; exact h5⟩

/-- A set that holds, of each of its operations, what that one waits for: it holds all that is in the masks. -/
theorem closed_masks {ops : List Oper} {D : Nat → Bool} (hD : ∀ i o, ops[i]? = some o → D i = true → ∀ e ∈ o.after.toList, Region.binds .any e = true → D e.on = true) :
    ∀ (i : Nat) (o : Oper), ops[i]? = some o → (∀ e ∈ o.after.toList, Region.binds .any e = true → D e.on = true) → ∀ k, ((masks ops).getD i 0).testBit k = true → D k = true := by
  intro i
  induction i using Nat.strongRecOn with
  | _ i ih =>
    intro o ho he k hk
    obtain ⟨e, h1, h2, h3⟩ := (masks_spec ops).2 i o ho k hk
    have hDe := he e h1 h2
    rcases h3 with rfl | ⟨h4, h5⟩
    · exact hDe
    · have hlt : e.on < ops.length := by
        have := (List.getElem?_eq_some_iff.1 ho).1
        omega
      have hx : ops[e.on]? = some ops[e.on] := List.getElem?_eq_getElem hlt
      exact ih e.on h4 _ hx (hD e.on _ hx hDe) k h5

end Go.Proofs.Ytfbjpenbpbpcaaa.Den
