/-
  A verified evaluator: two arrays of whole numbers, compared.
-/
import Derived.Test.YtfbjpenbpbpcaaaDen4
import Derived.ChangeKeysEq
namespace Go.Proofs.Ytfbjpenbpbpcaaa.Den
open Go
set_option linter.unusedSimpArgs false

theorem intsOf_eq {k : IntKind} : ∀ (cs : List Value) (xs : List Int), intsOf k cs = some xs → cs = xs.map (.int k) := by
  intro cs
  induction cs with
  | nil => intro xs h; simp [intsOf] at h; subst h; rfl
  | cons c cs ih =>
    intro xs h
    unfold intsOf at h
    split at h
    · rename_i he; cases he
    · rename_i k' n r he
      cases he
      split at h
      · rename_i hk
        have hk := eqK_eq hk
        subst hk
        split at h
        · rename_i l hl
          simp only [Option.some.injEq] at h
          subst h
          rw [ih l hl]
          rfl
        · simp at h
      · simp at h
    · simp at h

theorem eqItems_run {P : Program} {e : TypeId} {k : IntKind} (he : P.underlying e = some (.int k)) (hsz : sizeT P e = some 1) (xs ys : List Int) (d : Nat) :
    ∀ (is : List Nat), (∀ i ∈ is, i < xs.length ∧ i < ys.length) → ∀ w : World, (Op.eqItems (d + 1) e 1 (xs.map (Value.int k)).toArray (ys.map (Value.int k)).toArray is).run P w = .ok (is.all fun i => xs.getD i 0 == ys.getD i 0) w := by
  intro is
  induction is with
  | nil => intro _ w; simp [Op.eqItems]
  | cons i is ih =>
    intro h w
    obtain ⟨h1, h2⟩ := h i (by simp)
    have agg : isAggT P e = some false := by unfold isAggT; rw [he]
    have prt : ∀ (zs : List Int), i < zs.length → ∀ w : World, (part e (zs.map (Value.int k)).toArray (i * 1)).run P w = .ok (.int k (zs.getD i 0)) w := by
      intro zs hz w
      have hp : partV P e (zs.map (Value.int k)) (i * 1) = some (.int k (zs.getD i 0)) := by
        unfold partV
        rw [agg, hsz]
        simp [hz]
      obtain ⟨v', hv, hr⟩ := partV_run (ρ := []) (cs' := (zs.map (Value.int k)).toArray) hp ⟨by simp, fun j v v' a b => by
        simp only [List.getElem?_map, List.getElem?_toArray] at a b
        rw [a] at b
        injection b with b
        subst b
        cases hj : zs[j]? with
        | none => simp [hj] at a
        | some z => simp [hj] at a; subst a; exact .flat rfl⟩ w
      rw [hr, int_of hv]
    simp only [Op.eqItems, Sem.run_bind, prt xs h1, prt ys h2, Result.andThen_ok, run_equalIn_int w d e k k _ _ he]
    cases hc : (xs.getD i 0 == ys.getD i 0) with
    | false => simp only [Bool.not_false, if_true, List.all_cons, hc, Bool.false_and, Sem.run_pure]
    | true =>
      simp only [Bool.not_true, Bool.false_eq_true, if_false, List.all_cons, hc, Bool.true_and]
      exact ih (fun j hj => h j (by simp [hj])) w

theorem aggEq_run {P : Program} {t : TypeId} {cs ds : Array Value} {b : Bool} (h : aggEq P t cs ds = some b) (x y : Operand) (w : World) :
    (do eqGuard .eql t x y (.agg cs) (.agg ds); binOp .eql t (.agg cs) (.agg ds) : Sem Value).run P w = .ok (.bool b) w ∧
    (do eqGuard .neq t x y (.agg cs) (.agg ds); binOp .neq t (.agg cs) (.agg ds) : Sem Value).run P w = .ok (.bool (!b)) w := by
  unfold aggEq at h
  split at h
  · rename_i n e ht
    split at h
    · rename_i k he hsz
      split at h
      · rename_i xs ys hxs hys
        split at h
        · rename_i hc
          simp only [Bool.and_eq_true, Bool.not_eq_true'] at hc
          obtain ⟨c1, c2, c3⟩ := hc
          have c1 := Nat.eq_of_beq_eq_true c1
          have c2 := Nat.eq_of_beq_eq_true c2
          simp only [Option.some.injEq] at h
          subst h
          have e1 := intsOf_eq _ _ hxs
          have e2 := intsOf_eq _ _ hys
          have f1 : cs = (xs.map (Value.int k)).toArray := by rw [← e1]
          have f2 : ds = (ys.map (Value.int k)).toArray := by rw [← e2]
          obtain ⟨i, hi⟩ : ∃ i, P.info? e = some i := by
            cases hq : P.info? e with
            | none => simp [sizeT, hq] at hsz
            | some i => exact ⟨i, rfl⟩
          have hcell : P.cellsOf e = 1 := by
            simp [sizeT, hi] at hsz
            simp [Program.cellsOf, hi, hsz]
          have heq : (Op.equal t (.agg cs) (.agg ds)).run P w = .ok (decide (xs = ys)) w := by
            show (Op.equalIn (9999 + 1) t (.agg cs) (.agg ds)).run P w = _
            rw [run_equalIn_array w 9999 cs ds ht hi, hcell, f1, f2]
            rw [eqItems_run he hsz xs ys 9998 (List.range n) (fun i hi => by have := List.mem_range.1 hi; omega) w]
            congr 1
            rw [Bool.eq_iff_iff]
            simp only [List.all_eq_true, List.mem_range, beq_iff_eq, decide_eq_true_eq]
            constructor
            · intro h
              apply List.ext_getElem?
              intro i
              by_cases hin : i < n
              · have := h i hin
                rw [List.getD_eq_getElem?_getD, List.getD_eq_getElem?_getD] at this
                rw [List.getElem?_eq_getElem (by omega), List.getElem?_eq_getElem (by omega)] at this ⊢
                simpa using this
              · rw [List.getElem?_eq_none (by omega), List.getElem?_eq_none (by omega)]
            · intro h i _
              rw [h]
          constructor
          · simp [eqGuard, binOp, Sem.run_bind, c3, heq]
          · simp [eqGuard, binOp, Sem.run_bind, c3, heq]
        · simp at h
      · simp at h
    · simp at h
  · simp at h

theorem pf_ints (k : IntKind) (xs : List Int) : pf 3 (.agg (xs.map (Value.int k)).toArray) = true := by
  simp [pf, isFlat]

theorem aggEq_pf {P : Program} {t : TypeId} {cs ds : Array Value} {b : Bool} (h : aggEq P t cs ds = some b) : pf 3 (.agg cs) = true ∧ pf 3 (.agg ds) = true := by
  unfold aggEq at h
  split at h
  · split at h
    · rename_i k he hsz
      split at h
      · rename_i xs ys hxs hys
        have e1 := intsOf_eq _ _ hxs
        have e2 := intsOf_eq _ _ hys
        have f1 : cs = (xs.map (Value.int k)).toArray := by rw [← e1]
        have f2 : ds = (ys.map (Value.int k)).toArray := by rw [← e2]
        rw [f1, f2]
        exact ⟨pf_ints _ _, pf_ints _ _⟩
      · simp at h
    · simp at h
  · simp at h

end Go.Proofs.Ytfbjpenbpbpcaaa.Den
