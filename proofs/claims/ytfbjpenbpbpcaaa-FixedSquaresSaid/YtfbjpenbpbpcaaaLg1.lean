/-
  Chapter 05's logarithm: the contract of square as an oracle.
-/
import Derived.Test.YtfbjpenbpbpcaaaSq4
namespace Go.Proofs.Ytfbjpenbpbpcaaa
open Go Den
set_option maxRecDepth 100000
set_option linter.unusedSimpArgs false
set_option linter.unusedVariables false

def intsU : List Value → Option (List Int)
  | [] => some []
  | .int .u64 n :: r => match intsU r with
    | some l => some (n :: l)
    | none => none
  | _ => none

theorem intsU_eq : ∀ (cs : List Value) (xs : List Int), intsU cs = some xs → cs = xs.map (Value.int .u64) := by
  intro cs
  induction cs with
  | nil => intro xs h; simp [intsU] at h; subst h; rfl
  | cons c cs ih =>
    intro xs h
    unfold intsU at h
    split at h
    · rename_i he; cases he
    · rename_i n r he
      cases he
      split at h
      · rename_i l hl
        simp only [Option.some.injEq] at h
        subst h
        rw [ih l hl]
        rfl
      · simp at h
    · simp at h

def sqGo (D : Int) (ms : List Nat) (Hp : Heap) (x : Blk) (j m m' : Nat) : Option (Value × Heap × Nat) := match intsU x.cells with
  | some xs => match Nat.beq j Hp.length && (Nat.beq xs.length m && (Nat.beq m m' && ms.contains m)) with
    | true => some (.slice (some ⟨j + 1, 0, none⟩) (2 * m) (2 * m), Hp ++ [x, ⟨true, none, (digs D (valD D xs * valD D xs) (2 * m)).map (.int .u64)⟩], j + 1)
    | false => none
  | none => none

def sqHp (D : Int) (ms : List Nat) (args : List Value) (H : Heap) : Option (Value × Heap × Nat) := match args with
  | [.slice (some ⟨j, 0, none⟩) m m'] => match H with
    | [x] => sqGo D ms [] x j m m'
    | [p, x] => sqGo D ms [p] x j m m'
    | [p, q, x] => sqGo D ms [p, q] x j m m'
    | _ => none
  | _ => none

theorem digs_inD (D V : Int) (k : Nat) (hD : 0 < D) : inD D (digs D V k) := by
  intro j
  simp only [digs, List.getD_eq_getElem?_getD, List.getElem?_map]
  cases h : (List.range k)[j]? with
  | none => simp; exact hD
  | some i => simp; exact ⟨Int.emod_nonneg _ (Int.ne_of_gt hD), Int.emod_lt_of_pos _ hD⟩

/-- Are the cells of a slice digits? -/
def cellsIn (D : Int) (args : List Value) (H : Heap) : Bool := match args with
  | [.slice (some ⟨j, _, _⟩) _ _] => match H[j]? with
    | some b => match intsU b.cells with
      | some xs => xs.all fun x => decide (0 ≤ x) && decide (x < D)
      | none => true
    | none => true
  | _ => true

theorem inD_of_all {D : Int} {xs : List Int} (hD : 0 < D) (h : (xs.all fun x => decide (0 ≤ x) && decide (x < D)) = true) : inD D xs := by
  intro j
  rw [List.getD_eq_getElem?_getD]
  cases hj : xs[j]? with
  | none => simp; exact hD
  | some x =>
    have := List.all_eq_true.1 h x (List.mem_of_getElem? hj)
    simpa using this

theorem sqGo_ok {ms : List Nat} (hms : ∀ m, ms.contains m = true → m = 1 ∨ m = 2 ∨ m = 4) {Hp : Heap} (hHp : Hp.length ≤ 2) {x : Blk} {j m m' : Nat} {v : Value} {H' : Heap} {l : Nat} (h : sqGo DD ms Hp x j m m' = some (v, H', l))
    (hp : cellsIn DD [.slice (some ⟨j, 0, none⟩) m m'] (Hp ++ [x]) = true) : CallOk Try.prog 116 [.slice (some ⟨j, 0, none⟩) m m'] (Hp ++ [x]) v H' l := by
  unfold sqGo at h
  split at h
  · rename_i xs hxs
    split at h
    · rename_i hc
      simp only [Bool.and_eq_true] at hc
      obtain ⟨c1, c2, c3, c4⟩ := hc
      have e1 := Nat.eq_of_beq_eq_true c1
      have e2 := Nat.eq_of_beq_eq_true c2
      have e3 := Nat.eq_of_beq_eq_true c3
      subst e1 e3
      simp only [Option.some.injEq, Prod.mk.injEq] at h
      obtain ⟨rfl, rfl, rfl⟩ := h
      have hin : inD DD xs := by
        simp only [cellsIn, List.getElem?_append_right (Nat.le_refl _), Nat.sub_self, List.getElem?_cons_zero, hxs] at hp
        exact inD_of_all (by decide) hp
      obtain ⟨own, grown, cells⟩ := x
      simp only at hxs
      have hcells := intsU_eq _ _ hxs
      subst hcells
      exact square_ok Hp hHp own grown m xs (hms _ c4) hin e2
    · simp at h
  · simp at h

def lgC : Oracle := fun f args H => match f with
  | 116 => sqHp DD [1, 2, 4] args H
  | 115 => match H, args with
    | [], [.int .u64 n] => some (.int .i64 (lenZ n), [], 0)
    | _, _ => none
  | _ => none
def lgPre : Pre := fun f args H => match f with
  | 116 => cellsIn DD args H
  | 115 => match args with
    | [.int .u64 n] => isU n
    | _ => true
  | _ => true

theorem lgC_sound : Sound Try.prog (strict lgPre lgC) := by
  refine Sound.strict fun f args H v H' l hp h => ?_
  unfold lgC at h
  split at h
  · simp only [lgPre] at hp
    have hms : ∀ m, [1, 2, 4].contains m = true → m = 1 ∨ m = 2 ∨ m = 4 := fun m hm => by simpa using hm
    unfold sqHp at h
    split at h
    · split at h
      · exact sqGo_ok hms (Hp := []) (by simp) h hp
      · rename_i p x
        exact sqGo_ok hms (Hp := [p]) (by simp) h hp
      · rename_i p q x
        exact sqGo_ok hms (Hp := [p, q]) (by simp) h hp
      · simp at h
    · simp at h
  · split at h
    · simp only [Option.some.injEq, Prod.mk.injEq] at h
      obtain ⟨rfl, rfl, rfl⟩ := h
      have := isU_iff.1 hp
      exact len64_ok _ this.1 this.2
    · simp at h
  · simp at h

end Go.Proofs.Ytfbjpenbpbpcaaa
