/-
  A verified evaluator, ninth part: a region that draws its order is sound.
-/
import Derived.Test.YtfbjpenbpbpcaaaDen7
namespace Go.Proofs.Ytfbjpenbpbpcaaa.Den
open Go

theorem mem_zip {α : Type} {l : List α} {x : α} {i : Nat} : (x, i) ∈ l.zipIdx ↔ l[i]? = some x := List.mk_mem_zipIdx_iff_getElem?

theorem statOk_spec {ops : List Oper} {ms : List Nat} (h : statOk ops ms = true) :
    (∀ (i : Nat) (o : Oper), ops[i]? = some o → noSel o = true ∧ ∀ e ∈ o.after.toList, Region.binds .any e = true → e.on < i) ∧
    (∀ (i j : Nat) (o p : Oper), ops[i]? = some o → ops[j]? = some p → i < j →
      (∀ d, p.dst = some d → d ∈ looks ops o ∨ o.dst = some d → (ms.getD j 0).testBit i = true) ∧ (∀ d, o.dst = some d → d ∈ looks ops p → (ms.getD j 0).testBit i = true)) := by
  unfold statOk at h
  rw [Bool.and_eq_true] at h
  obtain ⟨h1, h2⟩ := h
  refine ⟨fun i o ho => ?_, fun i j o p ho hp hij => ?_⟩
  · have := List.all_eq_true.1 h1 (o, i) (mem_zip.2 ho)
    simp only [Bool.and_eq_true] at this
    refine ⟨this.1, fun e he hb => ?_⟩
    have h3 := List.all_eq_true.1 this.2 e he
    rw [hb] at h3
    simpa using h3
  · have := List.all_eq_true.1 (List.all_eq_true.1 h2 (o, i) (mem_zip.2 ho)) (p, j) (mem_zip.2 hp)
    simp only [Bool.or_eq_true, decide_eq_true_eq, Bool.and_eq_true] at this
    rcases this with h3 | ⟨h3, h4⟩
    · omega
    · refine ⟨fun d hd hl => ?_, fun d hd hl => ?_⟩
      · rw [hd] at h3
        simp only [Bool.or_eq_true, Bool.and_eq_true, Bool.not_eq_true', List.contains_eq_mem, decide_eq_false_iff_not, bne_iff_ne, ne_eq] at h3
        rcases h3 with ⟨h5, h6⟩ | h5
        · rcases hl with hl | hl
          · exact (h5 hl).elim
          · exact (h6 hl).elim
        · exact h5
      · rw [hd] at h4
        simp only [Bool.or_eq_true, Bool.not_eq_true', List.contains_eq_mem, decide_eq_false_iff_not] at h4
        rcases h4 with h5 | h5
        · exact (h5 hl).elim
        · exact h5

theorem recAt_mem {rs : List Rec} {i : Nat} (h : i < rs.length) : rs[i]? = some (recAt rs i) := by
  simp [recAt, List.getElem?_eq_getElem h]

theorem dynOk_spec {ms : List Nat} {rs : List Rec} (h : dynOk ms rs = true) (i j : Nat) (hi : i < rs.length) (hj : j < rs.length) (hw : (recAt rs i).eff = .write) (hr : (recAt rs j).eff ≠ .pure) (hij : i ≠ j) :
    (ms.getD (max i j) 0).testBit (min i j) = true := by
  unfold dynOk at h
  have h1 := List.all_eq_true.1 h (recAt rs i, i) (mem_zip.2 (recAt_mem hi))
  simp only [hw] at h1
  have h2 := List.all_eq_true.1 h1 (recAt rs j, j) (mem_zip.2 (recAt_mem hj))
  simp only at h2
  cases he : (recAt rs j).eff with
  | pure => exact (hr he).elim
  | read => simpa [hij] using h2
  | write => simpa [hij] using h2

theorem splice_self {cells : List Value} {off m : Nat} (h : off + m ≤ cells.length) : splice cells off ((cells.drop off).take m) = cells := by
  unfold splice
  have hl : ((cells.drop off).take m).length = m := by simp; omega
  rw [hl]
  have h1 : (cells.drop off).take m ++ cells.drop (off + m) = cells.drop off := by
    rw [← List.drop_drop]
    exact List.take_append_drop m (cells.drop off)
  rw [h1, List.take_append_drop]

theorem cells_one {x : Value} (h : oneCell x = true) : x.cells.toList = [x] := by cases x <;> first | rfl | simp [oneCell] at h

theorem storeV_self {P : Program} {H H' : Heap} {t : TypeId} {a : Addr} {v : Value} (hl : loadV P H t a = some v) (hs : storeV P H t a v = some H') : H' = H := by
  -- the row that was read
  have hcs : ∃ m, rd H a m = some v.cells.toList := by
    unfold loadV at hl
    split at hl
    · rename_i m _ _
      cases hr : rd H a m with
      | none => simp [hr] at hl
      | some cs => simp [hr] at hl; subst hl; exact ⟨m, by simp [hr, Value.cells]⟩
    · split at hl
      · rename_i x hr
        split at hl
        · rename_i hone
          injection hl with hl
          subst hl
          exact ⟨1, by rw [hr, cells_one hone]⟩
        · simp at hl
      · simp at hl
    · simp at hl
  obtain ⟨m, hr⟩ := hcs
  unfold storeV at hs
  split at hs
  · split at hs
    · unfold wr at hs
      simp only [forceL_eq] at hs
      split at hs
      · rename_i b hsp hb
        split at hs
        · injection hs with hs
          unfold rd at hr
          rw [hsp, hb] at hr
          simp only at hr
          split at hr
          · rename_i hle
            injection hr with hr
            rw [← hr, splice_self hle] at hs
            rw [← hs]
            refine List.ext_getElem? fun i => ?_
            rw [List.getElem?_set]
            split
            · rename_i hi
              subst hi
              have hlt := (List.getElem?_eq_some_iff.1 hb).1
              rw [if_pos hlt, hb]
            · rfl
          · simp at hr
        · simp at hs
      · simp at hs
    · simp at hs
  · simp at hs

end Go.Proofs.Ytfbjpenbpbpcaaa.Den
