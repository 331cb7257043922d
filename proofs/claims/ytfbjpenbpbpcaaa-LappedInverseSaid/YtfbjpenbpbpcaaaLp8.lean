/-
  Chapter 07: the contracts of Energy, and of the reference's; chapter 07's contracts so far, joined.
-/
import Derived.Test.YtfbjpenbpbpcaaaLp7
namespace Go.Proofs.Ytfbjpenbpbpcaaa
open Go Den
set_option maxRecDepth 100000
set_option linter.unusedSimpArgs false
set_option linter.unusedVariables false

def bdO : Oracle := fun f args H => match f, args, H with
  | 123, [.slice (some ⟨0, 0, none⟩) n m, .int .i64 b], [x] => match intsI x.cells with
    | some xs => match Nat.beq n m && (Nat.beq xs.length n && (Nat.beq n 16 || Nat.beq n 32)) with
      | true => some (.bool (xs.all (inB b)), [x], 1)
      | false => none
    | none => none
  | _, _, _ => none
theorem bdO_sound : Sound Try.prog bdO := by
  intro f args H v H' l h
  unfold bdO at h
  split at h
  · rename_i n m b x
    split at h
    · rename_i xs hxs
      split at h
      · rename_i hc
        simp only [Bool.and_eq_true, Bool.or_eq_true] at hc
        obtain ⟨c1, c2, c3⟩ := hc
        have c1 := Nat.eq_of_beq_eq_true c1
        have c2 := Nat.eq_of_beq_eq_true c2
        subst c1
        simp only [Option.some.injEq, Prod.mk.injEq] at h
        obtain ⟨rfl, rfl, rfl⟩ := h
        obtain ⟨own, gr, cells⟩ := x
        have e := intsI_eq _ _ hxs
        simp only at e
        subst e
        rcases c3 with c3 | c3
        · have c3 := Nat.eq_of_beq_eq_true c3
          subst c3
          exact bd16_ok own gr xs b c2
        · have c3 := Nat.eq_of_beq_eq_true c3
          subst c3
          exact bd32_ok own gr xs b c2
      · simp at h
    · simp at h
  · simp at h

def msO : Oracle := fun f args H => match H with
  | [] => match f, args with
    | 74, [.agg cs] => aggF 16 (fun xs => .bool (xs.all (inB 67108864))) cs
    | _, _ => none
  | _ => none
theorem msO_sound : Sound Try.prog msO := by
  intro f args H v H' l h
  unfold msO at h
  split at h
  · split at h
    · refine aggF_ok h fun xs hm => ?_
      have hk := msp_ok xs hm
      have e : (fun x => inB 67108864 x) = inB 67108864 := rfl
      rw [e] at hk
      cases hc : xs.all (inB 67108864) with
      | true => rw [hc] at hk; exact hk
      | false => rw [hc] at hk; exact hk
    · simp at h
  · simp at h

theorem unframe {C : Oracle} (hC : Sound Try.prog C) : Sound Try.prog (frameC C) := by
  have h := frame_sound (pre := noPre) (plain_sound hC)
  intro f args H v H' l hc
  refine h f args H v H' l ?_
  unfold strict framePre
  split
  · exact hc
  · rename_i hp
    split at hp <;> simp [noPre] at hp

def en7 : Oracle := frameC (orElse bdO msO)
theorem en7_sound : Sound Try.prog (strict noPre en7) := plain_sound (unframe (bdO_sound.or msO_sound))

def sumQ (xs : List Int) : Int := xs.foldl (fun n v => IntKind.wrap IntKind.u64 (n + IntKind.wrap IntKind.u64 (IntKind.wrap IntKind.i64 (v * v)))) 0
def enZ (xs : List Int) : Int := bif xs.all (inB 67108864) then sumQ xs else 0

theorem en_run (f : FuncId) (hf : f = 70 ∨ f = 71) (x0 x1 x2 x3 x4 x5 x6 x7 x8 x9 x10 x11 x12 x13 x14 x15 : Int) : (evFnL Try.prog ext 300 (nmPre noPre) (nbC [] [(7, true)] en7) noLoops [] f [.agg (ints [x0, x1, x2, x3, x4, x5, x6, x7, x8, x9, x10, x11, x12, x13, x14, x15]).toArray] []).map (fun r => (r.1.1, r.2)) = some (.int .u64 (sumQ [x0, x1, x2, x3, x4, x5, x6, x7, x8, x9, x10, x11, x12, x13, x14, x15]), [([x0, x1, x2, x3, x4, x5, x6, x7, x8, x9, x10, x11, x12, x13, x14, x15].all (inB 67108864), true)]) := by
  rcases hf with rfl | rfl <;> kernel_rfl
theorem en_bad (f : FuncId) (hf : f = 70 ∨ f = 71) (x0 x1 x2 x3 x4 x5 x6 x7 x8 x9 x10 x11 x12 x13 x14 x15 : Int) : (evFnL Try.prog ext 300 (nmPre noPre) (nbC [] [(7, false)] en7) noLoops [] f [.agg (ints [x0, x1, x2, x3, x4, x5, x6, x7, x8, x9, x10, x11, x12, x13, x14, x15]).toArray] []).map (fun r => (r.1.1, r.2)) = some (.int .u64 0, [([x0, x1, x2, x3, x4, x5, x6, x7, x8, x9, x10, x11, x12, x13, x14, x15].all (inB 67108864), false)]) := by
  rcases hf with rfl | rfl <;> kernel_rfl

theorem energy_ok (f : FuncId) (hf : f = 70 ∨ f = 71) (xs : List Int) (hm : xs.length = 16) : CallOk Try.prog f [.agg (ints xs).toArray] [] (.int .u64 (enZ xs)) [] 0 := by
  obtain ⟨x0, x1, x2, x3, x4, x5, x6, x7, x8, x9, x10, x11, x12, x13, x14, x15, rfl⟩ : ∃ x0 x1 x2 x3 x4 x5 x6 x7 x8 x9 x10 x11 x12 x13 x14 x15, xs = [x0, x1, x2, x3, x4, x5, x6, x7, x8, x9, x10, x11, x12, x13, x14, x15] := by match xs, hm with | [x0, x1, x2, x3, x4, x5, x6, x7, x8, x9, x10, x11, x12, x13, x14, x15], _ => exact ⟨x0, x1, x2, x3, x4, x5, x6, x7, x8, x9, x10, x11, x12, x13, x14, x15, rfl⟩
  unfold enZ
  cases hc : [x0, x1, x2, x3, x4, x5, x6, x7, x8, x9, x10, x11, x12, x13, x14, x15].all (inB 67108864) with
  | true =>
    rw [cond_true]
    exact pf_ok (nb_sound [] [(7, true)] en7_sound) noLoops_ok (en_run f hf x0 x1 x2 x3 x4 x5 x6 x7 x8 x9 x10 x11 x12 x13 x14 x15) (by intro p hp; simp only [List.mem_singleton] at hp; subst hp; exact hc) rfl
  | false =>
    rw [cond_false]
    exact pf_ok (nb_sound [] [(7, false)] en7_sound) noLoops_ok (en_bad f hf x0 x1 x2 x3 x4 x5 x6 x7 x8 x9 x10 x11 x12 x13 x14 x15) (by intro p hp; simp only [List.mem_singleton] at hp; subst hp; exact hc) rfl

def x7c : Oracle := fun f args H => match H with
  | [] => match f, args with
    | 66, [.agg p, .agg c] => match intsI p.toList, intsI c.toList with
      | some P, some C => match Nat.beq P.length 16 && Nat.beq C.length 16 with
        | true => some (.tuple #[.agg (ints (fwO P C)).toArray, .int .i64 (fwE P C)], [], 0)
        | false => none
      | _, _ => none
    | 67, [.agg p, .agg c] => match intsI p.toList, intsI c.toList with
      | some P, some C => match Nat.beq P.length 16 && Nat.beq C.length 16 with
        | true => some (.tuple #[.agg (ints (fwO P C)).toArray, .int .i64 (fwE P C)], [], 0)
        | false => none
      | _, _ => none
    | 70, [.agg cs] => aggF 16 (fun xs => .int .u64 (enZ xs)) cs
    | 71, [.agg cs] => aggF 16 (fun xs => .int .u64 (enZ xs)) cs
    | _, _ => none
  | _ => none

theorem agg2 {f : FuncId} {p c : Array Value} {P C : List Int} {v : Value} (hp : intsI p.toList = some P) (hc : intsI c.toList = some C) (h : CallOk Try.prog f [.agg (ints P).toArray, .agg (ints C).toArray] [] v [] 0) : CallOk Try.prog f [.agg p, .agg c] [] v [] 0 := by
  have e1 : p = (ints P).toArray := by rw [← intsI_eq _ _ hp]
  have e2 : c = (ints C).toArray := by rw [← intsI_eq _ _ hc]
  rw [e1, e2]; exact h

theorem x7c_sound : Sound Try.prog x7c := by
  intro f args H v H' l h
  unfold x7c at h
  split at h
  · split at h
    · split at h
      · rename_i P C hP hC
        split at h
        · rename_i hb
          simp only [Bool.and_eq_true] at hb
          simp only [Option.some.injEq, Prod.mk.injEq] at h; obtain ⟨rfl, rfl, rfl⟩ := h
          exact agg2 hP hC (forwards_ok 66 (.inl rfl) _ _ (Nat.eq_of_beq_eq_true hb.1) (Nat.eq_of_beq_eq_true hb.2))
        · simp at h
      · simp at h
    · split at h
      · rename_i P C hP hC
        split at h
        · rename_i hb
          simp only [Bool.and_eq_true] at hb
          simp only [Option.some.injEq, Prod.mk.injEq] at h; obtain ⟨rfl, rfl, rfl⟩ := h
          exact agg2 hP hC (forwards_ok 67 (.inr rfl) _ _ (Nat.eq_of_beq_eq_true hb.1) (Nat.eq_of_beq_eq_true hb.2))
        · simp at h
      · simp at h
    · exact aggF_ok h fun xs hm => energy_ok 70 (.inl rfl) xs hm
    · exact aggF_ok h fun xs hm => energy_ok 71 (.inr rfl) xs hm
    · simp at h
  · simp at h

def x7d : Oracle := orElse x7c (orElse msO x7a)
theorem x7d_all : Sound Try.prog x7d := x7c_sound.or (msO_sound.or x7a_sound)

theorem live7_ok : CallOk Try.prog 65 [] [] (.bool true) [] 0 := of_over x7d_all (n := 1) (by kernel_rfl) rfl

end Go.Proofs.Ytfbjpenbpbpcaaa
