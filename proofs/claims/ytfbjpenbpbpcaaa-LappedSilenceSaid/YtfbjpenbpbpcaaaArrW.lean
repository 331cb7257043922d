/-
  Arrays of whole numbers as arguments: what they read as, there and back.
-/
import Derived.WalkKit
import Derived.ProofKit
import Derived.OpenShut
import Derived.Test.YtfbjpenbpbpcaaaZE
namespace Go.Proofs.Ytfbjpenbpbpcaaa
open Go Den
open Go.ChangeShapes Go.WideShapes Go.ChangeAt Go.RowKit
set_option linter.unusedSimpArgs false
set_option linter.unusedVariables false

theorem mapM_some_of {α β : Type} {f : α → Option β} : ∀ (l : List α) (ys : List β), l.length = ys.length → (∀ (i : Nat) (x : α), l[i]? = some x → f x = ys[i]?) → l.mapM f = some ys := by
  intro l
  induction l with
  | nil => intro ys h _; cases ys with
    | nil => rfl
    | cons y ys => simp at h
  | cons x l ih =>
    intro ys h hi
    cases ys with
    | nil => simp at h
    | cons y ys =>
      have h0 := hi 0 x (by simp)
      have h1 := ih ys (by simpa using h) fun i z hz => by simpa using hi (i + 1) z (by simpa using hz)
      simp only [List.getElem?_cons_zero] at h0
      simp [List.mapM_cons, h0, h1]

def litsI {H : Type} (xs : List Int) : DataW H := .agg (xs.map fun x => .lit (.int .i64 x))

section
variable {H : Type} {enc : TypeId × Value → H} {P : Program} {w : World} {base : Nat} {spare : Nat → Bool} {held : Bool}

theorem open_ints {r : Reach} {b0 : Nat} {t e : TypeId} {n : Nat} {v : Value} {d : DataW H} {ps : List MemPlace} (ht : P.underlying t = some (.array n e)) (he : P.underlying e = some (.int .i64)) (hct : P.cellsOf t = n) (hce : P.cellsOf e = 1)
    (hval : Value.okWide P w r b0 t v) (hd : DataW.Trod enc P w base spare held t v d ps) :
    ∃ xs : List Int, v = .agg (ints xs).toArray ∧ d = litsI xs ∧ ps = [] ∧ xs.length = n ∧ ∀ x ∈ xs, (Lit.int .i64 x).wf = true := by
  unfold Value.okWide at hval
  rw [ht] at hval
  obtain ⟨cs, rfl, _, _⟩ := hval
  obtain ⟨fuel, hf⟩ := hd
  obtain ⟨ys, m, rfl, hx, hl, hn, hi⟩ := DataW.trod_array ht hf
  simp only [Value.cells] at hl hi
  rw [hct] at hl
  have key : ∀ i, i < n → ∃ z, cs.toList[i]? = some (.int .i64 z) ∧ ys[i]? = some (.lit (.int .i64 z), []) ∧ (Lit.int .i64 z).wf = true := by
    intro i hin
    have h1 := hi i hin
    rw [hce, Nat.mul_one] at h1
    obtain ⟨y, hy⟩ : ∃ y, ys[i]? = some y := get_lt (by omega)
    rw [hy] at h1
    obtain ⟨z, h2, h3, h4⟩ := DataW.trod_int he h1
    refine ⟨z, ?_, by rw [hy, h3], h4⟩
    have h5 : ((cs.toList.drop i).take 1)[0]? = some (.int .i64 z) := by rw [h2]; rfl
    simpa using h5
  refine ⟨(List.range n).map fun i => intAt cs.toList i, ?_, ?_, ?_, by simp, ?_⟩
  · congr 1
    apply Array.ext'
    simp only [ints, List.map_map]
    apply List.ext_getElem?
    intro i
    by_cases hin : i < n
    · obtain ⟨z, h1, _, _⟩ := key i hin
      have hv : intAt cs.toList i = z := by unfold intAt; rw [h1]
      rw [h1, List.getElem?_map, List.getElem?_range hin]
      simp [hv]
    · rw [List.getElem?_eq_none (by omega), List.getElem?_eq_none (by simp; omega)]
  · obtain ⟨hx1, hx2⟩ := Prod.mk.inj hx
    rw [hx1]
    unfold litsI
    congr 1
    apply List.ext_getElem?
    intro i
    by_cases hin : i < n
    · obtain ⟨z, h1, h2, _⟩ := key i hin
      have hv : intAt cs.toList i = z := by unfold intAt; rw [h1]
      rw [List.getElem?_map, h2, List.getElem?_map, List.getElem?_map, List.getElem?_range hin]
      simp [hv]
    · rw [List.getElem?_eq_none (by simp; omega), List.getElem?_eq_none (by simp; omega)]
  · obtain ⟨hx1, hx2⟩ := Prod.mk.inj hx
    rw [hx2, List.flatMap_eq_nil_iff]
    intro y hy
    obtain ⟨i, hiy⟩ := List.mem_iff_getElem?.1 hy
    obtain ⟨z, _, h2, _⟩ := key i (by have := (List.getElem?_eq_some_iff.1 hiy).1; omega)
    rw [hiy] at h2
    injection h2 with h2
    rw [h2]
  · intro x hx
    obtain ⟨i, hi1, rfl⟩ := List.mem_map.1 hx
    obtain ⟨z, h1, _, h3⟩ := key i (List.mem_range.1 hi1)
    have hv : intAt cs.toList i = z := by unfold intAt; rw [h1]
    rw [hv]; exact h3

theorem shut_ints {t e : TypeId} {n : Nat} {xs : List Int} (ht : P.underlying t = some (.array n e)) (he : P.underlying e = some (.int .i64)) (hct : P.cellsOf t = n) (hce : P.cellsOf e = 1)
    (hn : xs.length = n) (hw : ∀ x ∈ xs, (Lit.int .i64 x).wf = true) : DataW.Trod enc P w base spare held t (.agg (ints xs).toArray) (litsI xs) [] := by
  refine ⟨2, ?_⟩
  have hm : (List.range n).mapM (fun i => DataW.trod enc P w base spare held 1 e (((ints xs).drop (i * P.cellsOf e)).take (P.cellsOf e))) = some (xs.map fun x => (.lit (.int .i64 x), [])) := by
    apply mapM_some_of
    · simp [hn]
    · intro i j hj
      obtain ⟨hlt, hij⟩ := List.getElem?_eq_some_iff.1 hj
      simp at hlt hij
      subst hij
      obtain ⟨x, hx⟩ : ∃ x, xs[i]? = some x := get_lt (by omega)
      have hd : ((ints xs).drop (i * P.cellsOf e)).take (P.cellsOf e) = [.int .i64 x] := by
        rw [hce, Nat.mul_one]
        have : (ints xs)[i]? = some (.int .i64 x) := by simp [ints, hx]
        obtain ⟨h1, h2⟩ := List.getElem?_eq_some_iff.1 this
        rw [List.drop_eq_getElem_cons h1, h2]
        rfl
      rw [hd]
      simp [DataW.trod, he, hw x (List.mem_of_getElem? hx), hx]
  have hl : (ints xs).length = P.cellsOf t := by rw [hct]; simp [ints, hn]
  have hfl : (xs.map fun x => ((.lit (.int .i64 x), []) : DataW H × List MemPlace)).flatMap (·.2) = [] := by
    rw [List.flatMap_eq_nil_iff]
    intro y hy
    obtain ⟨x, _, rfl⟩ := List.mem_map.1 hy
    rfl
  have e1 : DataW.trod enc P w base spare held 2 t (Value.agg (ints xs).toArray).cells.toList = if (ints xs).length = P.cellsOf t then ((List.range n).mapM fun i => DataW.trod enc P w base spare held 1 e (((ints xs).drop (i * P.cellsOf e)).take (P.cellsOf e))).map fun xs => (.agg (xs.map (·.1)), xs.flatMap (·.2)) else none := by
    conv => lhs; unfold DataW.trod
    rw [ht]
    rfl
  rw [e1, if_pos hl, hm]
  simp only [Option.map_some, hfl, List.map_map]
  rfl
end
end Go.Proofs.Ytfbjpenbpbpcaaa

