/-
  Regions whose order is open, by running all orders: the same end is asked of each.
-/
import Derived.Test.YtfbjpenbpbpcaaaZC
namespace Go.Proofs.Ytfbjpenbpbpcaaa.Den
open Go

/-- Which operations may come next. done: which have come. -/
def rdy (ops : List Oper) (done : List Bool) (i : Nat) : Bool := match done.getD i true with
  | true => false
  | false => match ops[i]? with
    | some o => o.after.toList.all fun e => !Region.binds .any e || done.getD e.on false
    | none => false

def stepP (P : Program) (X : Ext) (C : Oracle) (nt : Nat) (ops : List Oper) (s : St) (o : Oper) : Option St := match wantedF ops s.F o with
  | some true => match evOp P X C true s.F s.H s.lo o with
    | some r => some ⟨putF nt s.F o.dst r.v, r.H, r.lo⟩
    | none => none
  | some false => some ⟨putF nt s.F o.dst undef, s.H, s.lo⟩
  | none => none

def gather {α : Type} (f : Nat → Option (List α)) : List Nat → Option (List α)
  | [] => some []
  | i :: l => match f i with
    | some a => match gather f l with
      | some b => some (a ++ b)
      | none => none
    | none => none

theorem gather_mem {α : Type} {f : Nat → Option (List α)} : ∀ {l : List Nat} {R : List α}, gather f l = some R → ∀ i ∈ l, ∃ A, f i = some A ∧ ∀ x ∈ A, x ∈ R := by
  intro l
  induction l with
  | nil => intro R _ i hi; simp at hi
  | cons j l ih =>
    intro R h i hi
    simp only [gather] at h
    split at h
    · rename_i a ha
      split at h
      · rename_i b hb
        injection h with h
        subst h
        rcases List.mem_cons.1 hi with rfl | hi
        · exact ⟨a, ha, fun x hx => List.mem_append.2 (.inl hx)⟩
        · obtain ⟨A, h1, h2⟩ := ih hb i hi
          exact ⟨A, h1, fun x hx => List.mem_append.2 (.inr (h2 x hx))⟩
      · simp at h
    · simp at h

theorem gather_some {α : Type} {f : Nat → Option (List α)} : ∀ {l : List Nat} {R : List α}, gather f l = some R → R ≠ [] → ∃ i ∈ l, ∃ A, f i = some A ∧ A ≠ [] := by
  intro l
  induction l with
  | nil => intro R h hne; simp only [gather, Option.some.injEq] at h; exact (hne h.symm).elim
  | cons j l ih =>
    intro R h hne
    simp only [gather] at h
    split at h
    · rename_i a ha
      split at h
      · rename_i b hb
        injection h with h
        subst h
        by_cases hae : a = []
        · subst hae
          obtain ⟨i, hi, A, h1, h2⟩ := ih hb (by simpa using hne)
          exact ⟨i, List.mem_cons_of_mem _ hi, A, h1, h2⟩
        · exact ⟨j, List.mem_cons_self, a, ha, hae⟩
      · simp at h
    · simp at h

/-- All orders: the states at the end. -/
def evPerm (P : Program) (X : Ext) (C : Oracle) (nt : Nat) (ops : List Oper) : Nat → List Bool → St → Option (List St)
  | 0, _, s => some [s]
  | n + 1, done, s => match gather (fun i => match rdy ops done i with
      | true => match ops[i]? with
        | some o => match stepP P X C nt ops s o with
          | some s1 => evPerm P X C nt ops n (done.set i true) s1
          | none => none
        | none => none
      | false => some []) (List.range ops.length) with
    | some (x :: R) => some (x :: R)
    | _ => none

variable {ds : List Deferred}

theorem perm_any {P : Program} {X : Ext} {C : Oracle} (ok : ProgOk P) (hX : XSound P X) (hC : Sound P C) {nt : Nat} {ops : Array Oper} (hsel : ops.toList.all noSel = true)
    {ρ0 : Rho} {H0 : Heap} {w0 : World} {Q : Exit → Act → World → Prop} :
    ∀ (fuel : Nat) (listed : Array Bool) (s : St) (L : List St), listed.size = ops.size → left ops.size listed ≤ fuel → evPerm P X C nt ops.toList fuel listed.toList s = some L →
      (∀ s' ∈ L, ∀ ρ' a' w', Rel ρ0 H0 w0 ρ' s'.H s'.lo w' → FR ds ρ' nt s'.F a' → Q .normal a' w') →
      ∀ (ρ : Rho) (a : Act) (w : World), Rel ρ0 H0 w0 ρ s.H s.lo w → FR ds ρ nt s.F a → wpAny P .any ops Q fuel listed a w := by
  have hrdy : ∀ (listed : Array Bool), listed.size = ops.size → ∀ i, i ∈ Region.ready .any ops listed ↔ rdy ops.toList listed.toList i = true := by
    intro listed hls i
    rw [mem_ready]
    unfold rdy
    have e1 : listed.toList.getD i true = listed.getD i true := by
      simp [Array.getD_eq_getD_getElem?, List.getD_eq_getElem?_getD]
    have e2 : ∀ j, listed.toList.getD j false = listed.getD j false := fun j => by
      simp [Array.getD_eq_getD_getElem?, List.getD_eq_getElem?_getD]
    rw [e1]
    cases hl : listed.getD i true with
    | true => simp
    | false =>
      simp only [true_and, Array.getElem?_toList]
      cases ho : ops[i]? with
      | none => simp
      | some o =>
        simp only [Option.some.injEq, exists_eq_left', List.all_eq_true, Bool.or_eq_true, Bool.not_eq_true', e2]
        constructor
        · intro h e he
          cases hb : Region.binds .any e with
          | false => exact .inl rfl
          | true => exact .inr (h e (by simpa using he) hb)
        · intro h e he hb
          rcases h e (by simpa using he) with h | h
          · rw [hb] at h; simp at h
          · exact h
  intro fuel
  induction fuel with
  | zero =>
    intro listed s L hls hleft h hQ ρ a w hR hF
    simp only [evPerm, Option.some.injEq] at h
    subst h
    refine ⟨?_, hQ s (by simp) ρ a w hR hF⟩
    have hall := left_zero (n := ops.size) (listed := listed) (by omega)
    cases hre : Region.ready .any ops listed with
    | nil => rfl
    | cons i l =>
      have hmem : i ∈ Region.ready .any ops listed := by rw [hre]; simp
      rw [mem_ready] at hmem
      obtain ⟨h2, o, ho, _⟩ := hmem
      have := (Array.getElem?_eq_some_iff.1 ho).1
      rw [hall i (by omega)] at h2
      simp at h2
  | succ fuel ih =>
    intro listed s L hls hleft h hQ ρ a w hR hF
    simp only [evPerm] at h
    split at h
    case h_2 => simp at h
    rename_i x R hg
    injection h with h
    subst h
    refine ⟨fun hre => ?_, fun i hi => ?_⟩
    · exfalso
      obtain ⟨i, hi, A, hA, hne⟩ := gather_some hg (by simp)
      split at hA
      · rename_i hr
        have := (hrdy listed hls i).2 hr
        rw [hre] at this
        simp at this
      · injection hA with hA
        exact hne hA.symm
    · have hr := (hrdy listed hls i).1 hi
      rw [mem_ready] at hi
      obtain ⟨hun, o, ho, _⟩ := hi
      have hlt := (Array.getElem?_eq_some_iff.1 ho).1
      obtain ⟨A, hA, hsub⟩ := gather_mem hg i (by simpa using hlt)
      have hol : ops.toList[i]? = some o := by simpa using ho
      rw [hr, hol] at hA
      simp only at hA
      split at hA
      case h_2 => simp at hA
      rename_i s1 hs1
      have hset : listed.toList.set i true = (listed.setIfInBounds i true).toList := by simp
      rw [hset] at hA
      have hleft' : left ops.size (listed.setIfInBounds i true) ≤ fuel := by
        have := left_set hlt hls hun
        omega
      have hnext := fun ρ' a' w' p q => ih (listed.setIfInBounds i true) s1 A (by simp [hls]) hleft' hA (fun s' hs' => hQ s' (hsub s' hs')) ρ' a' w' p q
      have hso : noSel o = true := List.all_eq_true.1 hsel o (List.mem_of_getElem? hol)
      unfold wpOp
      rw [ho]
      simp only
      have hw : ∀ b, wantedF ops.toList s.F o = some b → Region.wanted o (yielded ops a.tmps) = b := fun b hb => wanted_of (fun j w d v _ _ hv => hF.slot d v hv) hb
      unfold stepP at hs1
      split at hs1
      · rename_i hwt
        rw [hw true hwt, if_pos rfl]
        split at hs1
        · rename_i r hr
          injection hs1 with hs1
          subst hs1
          refine .inl (op_step (evOp_sound ok hX hC hso hr) (hF.opR _) hR ?_)
          intro ρ' v' w' hp hv hR'
          exact hnext ρ' _ w' hR' ((hF.mono hp).put o.dst hv)
        · simp at hs1
      · rename_i hwt
        injection hs1 with hs1
        subst hs1
        rw [hw false hwt]
        simp only [Bool.false_eq_true, if_false]
        exact hnext ρ _ w hR (hF.put o.dst (pf_self 3 undef rfl))
      · simp at hs1

/-- A region's operations; is it one that draws its order? -/
def opsOf : Code → Array Oper
  | .region _ ops true => ops
  | _ => #[]
def isDraw : Code → Bool
  | .region _ _ true => true
  | _ => false

section
variable {P : Program} {X : Ext} {C : Oracle} {nt : Nat}

theorem WP.perm (ok : ProgOk P) (hX : XSound P X) (hC : Sound P C) {c : Code} (hc : (isDraw c && (opsOf c).toList.all noSel) = true) {F : Slots} {H : Heap} {lo : Nat} (ks : List Nat) (k : Nat) {F' : Slots} {H' : Heap} {lo' : Nat}
    (h : (evPerm P X C nt (opsOf c).toList (opsOf c).toList.length (List.replicate (opsOf c).toList.length false) ⟨F, H, lo⟩).map (fun L => L.map fun s => (pick s.F ks, s.H, s.lo)) = some (List.replicate k (F', H', lo'))) (hlo : lo' ≤ lo) :
    WP P nt c ⟨F, H, lo⟩ .normal ⟨F', H', lo'⟩ := by
  simp only [Bool.and_eq_true] at hc
  obtain ⟨hd, hsel⟩ := hc
  unfold isDraw at hd
  split at hd
  case h_2 => simp at hd
  rename_i id ops
  simp only [opsOf] at h hsel
  cases hL : evPerm P X C nt ops.toList ops.toList.length (List.replicate ops.toList.length false) ⟨F, H, lo⟩ with
  | none => rw [hL] at h; simp at h
  | some L =>
    rw [hL] at h
    simp only [Option.map_some, Option.some.injEq] at h
    have hall : ∀ s ∈ L, pick s.F ks = F' ∧ s.H = H' ∧ s.lo = lo' := by
      intro s hs
      have : (pick s.F ks, s.H, s.lo) ∈ L.map fun s => (pick s.F ks, s.H, s.lo) := List.mem_map.2 ⟨s, hs, rfl⟩
      rw [h] at this
      have := (List.mem_replicate.1 this).2
      simp only [Prod.mk.injEq] at this
      exact this
    intro B Ds ρ0 H0 w0 ρ a w Q hR hF hM hQ
    refine wpIn_mono (Q := onlyN (Q .normal)) ?_ (fun e a w h => by cases e <;> first | exact h | exact h.elim)
    have hq0 : Quiet w { w with drawn := w.drawn + 1 } := ⟨rfl, rfl, rfl, Nat.le_refl _, fun _ _ => rfl, fun _ => rfl⟩
    have hR1 : Rel ρ H w ρ H lo { w with drawn := w.drawn + 1 } := Rel.of_quiet hR.sr hq0 lo
    refine wpIn_region_any ok.mixed (anyx hsel (onlyN_out _) _ _ _ _ (perm_any (Q := onlyN (Q .normal)) ok hX hC hsel ops.size (Array.replicate ops.size false) ⟨F, H, lo⟩ L (by simp) ?_ (by simpa using hL) ?_ ρ a _ hR1 hF))
    · unfold left
      have := List.length_filter_le (fun i => !(Array.replicate ops.size false).getD i true) (List.range ops.size)
      simpa using this
    · intro s' hs' ρ' a' w' p q
      obtain ⟨e1, e2, e3⟩ := hall s' hs'
      subst e1 e2 e3
      have hk := p.others hR.sr
      have ht := hR.trans p
      rw [Nat.min_eq_right hlo] at ht
      exact hQ ρ' Ds a' w' p.pre ht (q.sub (pick_sub _ _)) (hM.keep hk) hk

/-- A text's first part and what follows. -/
def hdC : Code → Code
  | .seq a _ => a
  | c => c
def tlC : Code → Code
  | .seq _ b => b
  | _ => .skip
def isSeq : Code → Bool
  | .seq _ _ => true
  | _ => false
theorem WP.cut {c : Code} (hc : isSeq c = true) {s s1 : St} {x : Ex} {s' : St} (h1 : WP P nt (hdC c) s .normal s1) (h2 : WP P nt (tlC c) s1 x s') : WP P nt c s x s' := by
  unfold isSeq at hc
  split at hc
  · exact h1.seq h2
  · simp at hc
theorem WP.cut_out {c : Code} (hc : isSeq c = true) {s : St} {x : Ex} {s' : St} (hx : x ≠ .normal) (h1 : WP P nt (hdC c) s x s') : WP P nt c s x s' := by
  unfold isSeq at hc
  split at hc
  · exact h1.seq_out hx
  · simp at hc
/-- A choice's test and its first branch. -/
def testC : Code → Option Operand
  | .cond c _ _ => some c
  | _ => none
def thenC : Code → Code
  | .cond _ a _ => a
  | _ => .skip
theorem WP.cond_true {c : Code} {t : Operand} (hc : testC c = some t) {s : St} {x : Ex} {s' : St} (ht : ev s.F t = some (.bool true)) (h : WP P nt (thenC c) s x s') : WP P nt c s x s' := by
  unfold testC at hc
  split at hc
  · rename_i q _ _
    injection hc with hc
    subst hc
    exact fun B Ds ρ0 H0 w0 ρ a w Q hR hF hM hQ => wpIn_cond_true (bool_of (hF.opR [q] q (by simp) _ ht)) (h B Ds ρ0 H0 w0 ρ a w Q hR hF hM hQ)
  · simp at hc

/-- A contract, by the text's walk. -/
theorem CallOk.walk {f : FuncId} {n : Nat} (hf : (match P.funcs[f]? with | some fn => fn.body.isSome | none => false) = true) {args : List Value} (hn : args.length = n) {H : Heap} {x : Ex} {F' : Slots} {H' : Heap} {lo' : Nat} {v : Value}
    (h : WP P (ntOf P f n) (bodyOf P f) ⟨start 0 args, H, H.length⟩ x ⟨F', H', lo'⟩) (hx : x = .normal ∨ x = .ret) (hv : (match P.funcs[f]? with | some fn => evResults P fn F' H' | none => none) = some v) : CallOk P f args H v H' lo' := by
  split at hf
  · rename_i fn hfn
    rw [hfn] at hv
    simp only at hv
    cases hb : fn.body with
    | none => rw [hb] at hf; simp at hf
    | some c =>
      have e1 : ntOf P f n = max args.length fn.ntmps := by unfold ntOf; rw [hfn, hn]
      have e2 : bodyOf P f = c := by unfold bodyOf; rw [hfn]; simp [hb]
      rw [e1, e2] at h
      exact call_of_WP hfn hb h hx hv
  · simp at hf
end
end Go.Proofs.Ytfbjpenbpbpcaaa.Den

