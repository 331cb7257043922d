/-
  A verified evaluator, sixth part: an operation is sound.
-/
import Derived.LoopN
import Derived.Test.YtfbjpenbpbpcaaaZA
import Derived.Test.YtfbjpenbpbpcaaaDen0b
namespace Go.Proofs.Ytfbjpenbpbpcaaa.Den
open Go

/-- The functions without a body answer as the table says. -/
def XSound (P : Program) (X : Ext) : Prop :=
  ∀ (f : FuncId) (args : List Value) (v : Value), X f args = some v → pf 3 v = true ∧ ∀ w, (callFunc f args.toArray).run P w = .ok (.value v) w

/-- What is asked of the program, once. -/
structure ProgOk (P : Program) : Prop where
  mixed : P.follows .mixedOrders = true
  code : ∀ (f : FuncId) (fn : Func) (c : Code), P.funcs[f]? = some fn → fn.body = some c → codeOk c = true ∧ (fn.name == "runtime.NumGoroutine") = false
  back : ∀ f, isBk f = true → BackOk P f

theorem evParts_sound {ρ : Rho} {F : Slots} {a : Act} : ∀ (xs : List (Nat × Operand)) (ps : List (Nat × Value)), evParts F xs = some ps → OpR ρ F a (xs.map (·.2)) → xs.map (fun p => (p.1, a.eval p.2)) = ps
  | [], ps, h, _ => by simp [evParts] at h; subst h; rfl
  | (i, x) :: xs, ps, h, hr => by
    unfold evParts at h
    split at h
    · rename_i v hv
      split at h
      · rename_i hp
        cases he : evParts F xs with
        | none => simp [he] at h
        | some us =>
          simp [he] at h
          subst h
          have h1 := pf_eq 3 _ _ hp (hr x (by simp) v hv)
          simp only [List.map_cons, h1]
          rw [evParts_sound xs us he fun y hy => hr y (by simp at hy ⊢; exact .inr hy)]
      · simp at h
    · simp at h

theorem sliceBounds_run {P : Program} {lo hi : Option Value} {len cap h l : Nat} (b : Bool) (hh : bound hi len cap = some h) (hl : bound lo 0 h = some l) (hc : len ≤ cap) (w : World) :
    (Instr.sliceBounds b len cap lo hi none).run P w = .ok (l, h, cap) w ∧ l ≤ h ∧ h ≤ cap := by
  obtain ⟨h1, h2⟩ := bound_run (P := P) hh hc
  obtain ⟨h3, h4⟩ := bound_run (P := P) hl (Nat.zero_le _)
  refine ⟨?_, h3, h1⟩
  unfold Instr.sliceBounds
  cases hi with
  | none =>
    simp [bound] at hh
    subst hh
    cases lo with
    | none => simp [bound] at hl; subst hl; simp
    | some v => have := h4 .sliceB w; simp only [bsem] at this; simp [this]
  | some u =>
    have hu := fun c => h2 c w
    simp only [bsem] at hu
    cases lo with
    | none => simp [bound] at hl; subst hl; simp [hu]
    | some v => have := h4 .sliceB w; simp only [bsem] at this; simp [hu, this]

theorem callFunc_enter {P : Program} (ok : ProgOk P) {f : FuncId} {fn : Func} {c : Code} (hf : P.funcs[f]? = some fn) (hb : fn.body = some c) (args : Array Value) (w : World) :
    (callFunc f args).run P w = .ok (.enter f args) w := by
  have hn : ¬ fn.name = "runtime.NumGoroutine" := by simpa using (ok.code f fn c hf hb).2
  unfold callFunc
  simp [hf, hn, hb]

/-- A new block: no old one is written. -/
theorem OpSound.of_new {P : Program} {F : Slots} {H H' : Heap} {lo : Nat} {o : Oper} {v : Value}
    (h : ∀ (ρ : Rho) (a : Act) (w : World), OpR ρ F a o.op.operands.toList → SR ρ H w → ∃ ρ' v' w', VR ρ' v v' ∧ Rel ρ H w ρ' H' lo w' ∧
      ((execOp a.eval o).run P w = .ok (.value v') w' ∨ ((execOp a.eval o).run P w = .ok .skip w' ∧ v' = undef))) : OpSound P F H lo o ⟨v, H', lo, .write⟩ := by
  have h1 := OpSound.of_write (lo := lo) (l := lo) h
  rwa [Nat.min_self] at h1

theorem evCall_sound {P : Program} {C : Oracle} (hC : Sound P C) {F : Slots} {H : Heap} {lo : Nat} {o : Oper} {f : FuncId} {args : List Value} {r : Out}
    (hrun : ∀ (ρ : Rho) (a : Act) (w : World), OpR ρ F a o.op.operands.toList → ∃ args' : Array Value, VRs ρ args args'.toList ∧ (execOp a.eval o).run P w = .ok (.enter f args') w)
    (h : evCall C f args H lo = some r) : OpSound P F H lo o r := by
  unfold evCall at h
  split at h
  · rename_i v H' l hc
    split at h
    · rename_i hq
      simp only [Bool.and_eq_true, decide_eq_true_eq] at hq
      obtain ⟨rfl, hp⟩ := hq
      injection h with h
      subst h
      refine ⟨(fun h => by cases h), fun _ => ⟨rfl, rfl, fun ρ a w next Q hr hs hn => ?_⟩, (fun h => by cases h)⟩
      obtain ⟨args', h1, h2⟩ := hrun ρ a w hr
      unfold Oper.wp
      rw [h2]
      refine (hC f args H v H' _ hc ρ w args' h1 hs).mono ?_
      rintro e w' ⟨ρ', v', rfl, hv, hR⟩
      refine hn v' w' (by rw [pf_eq 3 _ _ hp hv]; exact pf_self 3 _ hp) ⟨hR.os, hR.tape, hR.output, hR.size, fun k hk => hR.keep k hk fun j e0 b0 _ hb _ hj => ?_, hR.frozen⟩
      have := (List.getElem?_eq_some_iff.1 hb).1
      omega
    · injection h with h
      subst h
      refine ⟨(fun h => by cases h), (fun h => by cases h), fun _ => ⟨l, rfl, fun ρ a w next Q hr hs hn => ?_⟩⟩
      obtain ⟨args', h1, h2⟩ := hrun ρ a w hr
      unfold Oper.wp
      rw [h2]
      refine (hC f args H v H' _ hc ρ w args' h1 hs).mono ?_
      rintro e w' ⟨ρ', v', rfl, hv, hR⟩
      exact hn ρ' v' w' hv hR
  · simp at h

theorem SR.empty (w : World) : SR [] [] w := ⟨rfl, fun i e b h => by simp at h, fun i j e e' b b' _ h => by simp at h⟩

theorem evCall0_sound {P : Program} {C : Oracle} (hC : Sound P C) {F : Slots} {H : Heap} {lo : Nat} {o : Oper} {f : FuncId} {args : List Value} {r : Out}
    (hrun : ∀ (ρ : Rho) (a : Act) (w : World), OpR ρ F a o.op.operands.toList → ∃ args' : Array Value, VRs ρ args args'.toList ∧ (execOp a.eval o).run P w = .ok (.enter f args') w)
    (h : evCall0 C f args H lo = some r) : OpSound P F H lo o r := by
  unfold evCall0 at h
  split at h
  · rename_i hall
    split at h
    · rename_i v H' l hc
      split at h
      · rename_i hp
        injection h with h
        subst h
        refine ⟨fun _ => ⟨rfl, rfl, fun ρ a w next Q hr hn => ?_⟩, (fun h => by cases h), (fun h => by cases h)⟩
        obtain ⟨args', h1, h2⟩ := hrun ρ a w hr
        unfold Oper.wp
        rw [h2]
        have he : args'.toList = args := h1.eq_of_pf hall
        have hself : VRs [] args args'.toList := by
          rw [he]
          exact ⟨rfl, fun i x x' p q => by rw [p] at q; cases q; exact pf_self 3 _ (get_all hall p)⟩
        refine (hC f args [] v H' _ hc [] w args' hself (SR.empty w)).mono ?_
        rintro e w' ⟨ρ', v', rfl, hv, hR⟩
        refine hn v' w' (by rw [pf_eq 3 _ _ hp hv]; exact pf_self 3 _ hp) ⟨hR.os, hR.tape, hR.output, hR.size, fun k hk => hR.keep k hk fun j e0 b0 hj => by simp at hj, hR.frozen⟩
      · exact evCall_sound hC hrun h
    · simp at h
  · exact evCall_sound hC hrun h

theorem newRow_run {P : Program} {e : TypeId} {cs : Array Value} (w : World) : (newRow e cs).run P w = .ok ⟨w.heap.size, 0, none⟩ (w.alloc (.cells cs e)) := by
  simp [newRow]

set_option maxHeartbeats 1000000 in
theorem evOp_sound {P : Program} {X : Ext} {C : Oracle} (ok : ProgOk P) (hX : XSound P X) (hC : Sound P C) {draw : Bool} {F : Slots} {H : Heap} {lo : Nat} {o : Oper} {r : Out} (hsel : noSel o = true)
    (h : evOp P X C draw F H lo o = some r) : OpSound P F H lo o r := by
  obtain ⟨dst, op, type, pos, after, guard⟩ := o
  cases op with
  | move x =>
    simp only [evOp] at h
    cases he : ev F x with
    | none => simp [he] at h
    | some v =>
      simp [he] at h
      subst h
      exact OpSound.of_pure fun ρ a w hr => ⟨_, hr x (by simp [Op.operands]) v he, rfl⟩
  | assign x =>
    simp only [evOp] at h
    cases he : ev F x with
    | none => simp [he] at h
    | some v =>
      simp [he] at h
      subst h
      exact OpSound.of_pure fun ρ a w hr => ⟨_, hr x (by simp [Op.operands]) v he, rfl⟩
  | binOp op t x y yt =>
    simp only [evOp] at h
    split at h
    · rename_i k n k' m hx hy
      split at h
      · rename_i v hv
        injection h with h
        subst h
        refine OpSound.of_pure fun ρ a w hr => ⟨v, ?_, ?_⟩
        · unfold fastBin at hv
          repeat' split at hv
          all_goals first | (simp at hv; done) | (injection hv with hv; subst hv; exact .flat rfl)
        · have e1 := int_of (hr x (by simp [Op.operands]) _ hx)
          have e2 := int_of (hr y (by simp [Op.operands]) _ hy)
          have := fastBin_run (P := P) t x y hv w
          simp only [execOp, e1, e2]
          rw [Sem.run_bind, this]
          rfl
      · exact flat_sound hsel h
    · rename_i cs ds hx hy
      split at h
      · split at h
        · rename_i b hb
          injection h with h
          subst h
          refine OpSound.of_pure fun ρ a w hr => ⟨.bool b, .flat rfl, ?_⟩
          obtain ⟨p1, p2⟩ := aggEq_pf hb
          have e1 := pf_eq 3 _ _ p1 (hr x (by simp [Op.operands]) _ hx)
          have e2 := pf_eq 3 _ _ p2 (hr y (by simp [Op.operands]) _ hy)
          simp only [execOp, e1, e2]
          rw [Sem.run_bind, (aggEq_run hb x y w).1]
          rfl
        · exact flat_sound hsel h
      · split at h
        · rename_i b hb
          injection h with h
          subst h
          refine OpSound.of_pure fun ρ a w hr => ⟨.bool (!b), .flat rfl, ?_⟩
          obtain ⟨p1, p2⟩ := aggEq_pf hb
          have e1 := pf_eq 3 _ _ p1 (hr x (by simp [Op.operands]) _ hx)
          have e2 := pf_eq 3 _ _ p2 (hr y (by simp [Op.operands]) _ hy)
          simp only [execOp, e1, e2]
          rw [Sem.run_bind, (aggEq_run hb x y w).2]
          rfl
        · exact flat_sound hsel h
      · exact flat_sound hsel h
    · exact flat_sound hsel h
  | convert s d x =>
    simp only [evOp] at h
    split at h
    · rename_i k0 n k1 k hx hs hd
      injection h with h
      subst h
      refine OpSound.of_pure fun ρ a w hr => ⟨_, .flat rfl, ?_⟩
      have e1 := int_of (hr x (by simp [Op.operands]) _ hx)
      simp [execOp, e1, convert, run_underlying hs, run_underlying hd, Conv.intToInt]
    · exact flat_sound hsel h
  | pick c x y =>
    have hcr : ∀ (ρ : Rho) (a : Act) (b : Bool), OpR ρ F a (Op.pick c x y).operands.toList → ev F c = some (.bool b) → a.eval c = .bool b := fun ρ a b hr hc => bool_of (hr c (by simp [Op.operands]) _ hc)
    simp only [evOp] at h
    split at h
    · rename_i b u v hc hx hy
      injection h with h
      subst h
      refine OpSound.of_pure fun ρ a w hr => ?_
      have e1 := hcr ρ a b hr hc
      have e2 := hr x (by simp [Op.operands]) _ hx
      have e3 := hr y (by simp [Op.operands]) _ hy
      cases b
      · exact ⟨_, e3, by simp [execOp, e1, asBool]⟩
      · exact ⟨_, e2, by simp [execOp, e1, asBool]⟩
    · rename_i b u v _ hc hx hy
      injection h with h
      subst h
      refine OpSound.of_pure fun ρ a w hr => ?_
      have e1 := hcr ρ a b hr hc
      have e2 := hr x (by simp [Op.operands]) _ hx
      have e3 := hr y (by simp [Op.operands]) _ hy
      cases b
      · exact ⟨_, e3, by simp [execOp, e1, asBool]⟩
      · exact ⟨_, e2, by simp [execOp, e1, asBool]⟩
    · rename_i u hc hx hy
      injection h with h
      subst h
      refine OpSound.of_pure fun ρ a w hr => ?_
      have e1 := hcr ρ a true hr hc
      exact ⟨_, hr x (by simp [Op.operands]) _ hx, by simp [execOp, e1, asBool]⟩
    · rename_i u hc hx hy
      injection h with h
      subst h
      refine OpSound.of_pure fun ρ a w hr => ?_
      have e1 := hcr ρ a false hr hc
      exact ⟨_, hr y (by simp [Op.operands]) _ hy, by simp [execOp, e1, asBool]⟩
    · simp at h
  | alloc t =>
    simp only [evOp] at h
    split at h
    · rename_i z hz
      split at h
      · rename_i hp
        cases hn : newB H z with
        | none => simp [hn] at h
        | some q =>
          obtain ⟨p, H'⟩ := q
          simp [hn] at h
          subst h
          refine OpSound.of_new fun ρ a w hr hs => ?_
          obtain ⟨ρ', h1, h2⟩ := newB_sound hs hn (pf_self 3 z hp) t lo
          exact ⟨ρ', _, _, h1, h2, .inl (by simp [execOp, Instr.alloc, zero_run hz, newVar, newRow_run])⟩
      · simp at h
    · simp at h
  | box t x =>
    simp only [evOp] at h
    split at h
    · rename_i v hx
      cases hn : newB H v with
      | none => simp [hn] at h
      | some q =>
        obtain ⟨p, H'⟩ := q
        simp [hn] at h
        subst h
        refine OpSound.of_new fun ρ a w hr hs => ?_
        obtain ⟨ρ', h1, h2⟩ := newB_sound hs hn (hr x (by simp [Op.operands]) v hx) t lo
        exact ⟨ρ', _, _, h1, h2, .inl (by simp [execOp, Instr.box, newVar, newRow_run])⟩
    · simp at h
  | load t x =>
    simp only [evOp] at h
    split at h
    · rename_i ad hx
      cases hl : loadV P H t ad with
      | none => simp [hl] at h
      | some v =>
        simp [hl] at h
        subst h
        refine OpSound.of_read fun ρ a w hr hs => ?_
        obtain ⟨e, he, _, hv⟩ := ptr_of (hr x (by simp [Op.operands]) _ hx)
        obtain ⟨v', h1, h2⟩ := loadV_sound (P := P) hs hl he
        exact ⟨v', h1, by simp [execOp, Instr.loadAt, hv, Instr.sureAddr, h2]⟩
    · simp at h
  | store t x y =>
    simp only [evOp] at h
    split at h
    · rename_i ad v hx hy
      cases hl : storeV P H t ad v with
      | none => simp [hl] at h
      | some H' =>
        simp [hl] at h
        subst h
        refine OpSound.of_write fun ρ a w hr hs => ?_
        obtain ⟨e, he, _, hv⟩ := ptr_of (hr x (by simp [Op.operands]) _ hx)
        obtain ⟨w', h1, h2⟩ := storeV_sound (P := P) hs hl he (hr y (by simp [Op.operands]) _ hy)
        exact ⟨ρ, undef, w', pf_self 3 undef rfl, h2, .inr ⟨by simp [execOp, Instr.storeAt, hv, Instr.sureAddr, h1], rfl⟩⟩
    · simp at h
  | nilCheck x =>
    simp only [evOp] at h
    split at h
    · rename_i ad hx
      injection h with h
      subst h
      refine OpSound.of_pure fun ρ a w hr => ?_
      have h1 := hr x (by simp [Op.operands]) _ hx
      obtain ⟨e, he, hs, hv⟩ := ptr_of h1
      exact ⟨_, h1, by simp [execOp, hv]⟩
    · simp at h
  | fieldAddr s x f =>
    simp only [evOp] at h
    split at h
    · rename_i ad fs hx hu
      split at h
      · rename_i fd hfd
        split at h
        · rename_i n hsz
          split at h
          · simp at h
          · rename_i hn
            injection h with h
            subst h
            refine OpSound.of_pure fun ρ a w hr => ?_
            obtain ⟨e, he, hs, hv⟩ := ptr_of (hr x (by simp [Op.operands]) _ hx)
            exact ⟨_, ptr_add he hs fd.offset, by simp [execOp, Instr.fieldAt, hv, Instr.sureAddr, run_underlying hu, hfd, fieldPlace, sizeOf_run hsz, hn]⟩
        · simp at h
      · simp at h
    · simp at h
  | indexAddr t x i =>
    simp only [evOp] at h
    split at h
    · rename_i ad k n len e hx hi hu
      split at h
      · rename_i sz hsz
        split at h
        · rename_i hb
          injection h with h
          subst h
          refine OpSound.of_pure fun ρ a w hr => ?_
          obtain ⟨en, he, hs, hv⟩ := ptr_of (hr x (by simp [Op.operands]) _ hx)
          have e2 := int_of (hr i (by simp [Op.operands]) _ hi)
          exact ⟨_, ptr_add he hs _, by simp [execOp, Instr.indexAt, hv, e2, asIntOf, Instr.sureAddr, run_underlying hu, sizeOf_run hsz, hb]⟩
        · simp at h
      · simp at h
    · rename_i ad len cap k n e hx hi hu
      split at h
      · rename_i sz hsz
        split at h
        · rename_i hb
          injection h with h
          subst h
          refine OpSound.of_pure fun ρ a w hr => ?_
          obtain ⟨en, c', he, hs, hv, _, _⟩ := slice_of (hr x (by simp [Op.operands]) _ hx)
          have e2 := int_of (hr i (by simp [Op.operands]) _ hi)
          exact ⟨_, ptr_add he hs _, by simp [execOp, Instr.indexAt, hv, e2, asIntOf, run_underlying hu, sizeOf_run hsz, hb]⟩
        · simp at h
      · simp at h
    · simp at h
  | index t x i =>
    simp only [evOp] at h
    split at h
    · rename_i cs k n len e hx hi hu
      split at h
      · rename_i sz hsz
        split at h
        · rename_i hb
          cases hp : partV P e cs.toList (n.toNat * sz) with
          | none => simp [hp] at h
          | some v =>
            simp [hp] at h
            subst h
            refine OpSound.of_pure fun ρ a w hr => ?_
            obtain ⟨cs', hv, hvs⟩ := agg_of (hr x (by simp [Op.operands]) _ hx)
            have e2 := int_of (hr i (by simp [Op.operands]) _ hi)
            obtain ⟨v', h1, h2⟩ := partV_run (P := P) hp hvs w
            exact ⟨v', h1, by simp [execOp, Instr.index, hv, e2, asIntOf, run_underlying hu, sizeOf_run hsz, hb, h2]⟩
        · simp at h
      · simp at h
    · exact flat_sound hsel h
  | field t x f =>
    simp only [evOp] at h
    split at h
    · rename_i cs fs hx hu
      split at h
      · rename_i fd hfd
        cases hp : partV P fd.type cs.toList fd.offset with
        | none => simp [hp] at h
        | some v =>
          simp [hp] at h
          subst h
          refine OpSound.of_pure fun ρ a w hr => ?_
          obtain ⟨cs', hv, hvs⟩ := agg_of (hr x (by simp [Op.operands]) _ hx)
          obtain ⟨v', h1, h2⟩ := partV_run (P := P) hp hvs w
          exact ⟨v', h1, by simp [execOp, Instr.field, hv, run_underlying hu, hfd, asAgg, h2]⟩
      · simp at h
    · simp at h
  | extract x i =>
    simp only [evOp] at h
    split at h
    · rename_i vs hx
      cases hp : vs.toList[i]? with
      | none => simp [hp] at h
      | some v =>
        simp [hp] at h
        subst h
        refine OpSound.of_pure fun ρ a w hr => ?_
        obtain ⟨cs', hv, hvs⟩ := tuple_of (hr x (by simp [Op.operands]) _ hx)
        obtain ⟨v', h1, h2⟩ := zip_get hvs hp
        have h1' : cs'[i]? = some v' := by simpa using h1
        exact ⟨v', h2, by simp [execOp, Instr.extract, hv, h1']⟩
    · simp at h
  | makeInterface t x =>
    simp only [evOp] at h
    split at h
    · simp at h
    · simp at h
    · rename_i d v hni hu hx
      injection h with h
      subst h
      refine OpSound.of_pure fun ρ a w hr => ⟨_, .iface (hr x (by simp [Op.operands]) _ hx), ?_⟩
      simp only [execOp, Instr.makeInterface, Sem.run_bind, run_underlying hu, Result.andThen_ok]
      cases d <;> first | rfl | (rename_i ms; exact (hni ms hu).elim)
    · simp at h
  | typeAssert x xt t okb =>
    simp only [evOp] at h
    split at h
    · simp at h
    · rename_i u v d hni hx hu
      split at h
      · rename_i hut
        subst hut
        injection h with h
        subst h
        refine OpSound.of_pure fun ρ a w hr => ?_
        obtain ⟨v', hv, hvr⟩ := iface_of (hr x (by simp [Op.operands]) _ hx)
        refine ⟨if okb then .tuple #[v', .bool true] else v', ?_, ?_⟩
        · cases okb
          · exact hvr
          · exact (VRs.cons hvr (VRs.cons (.flat rfl) VRs.nil)).toTuple
        · simp only [execOp, Instr.typeAssert, Sem.run_bind, run_underlying hu, Result.andThen_ok, hv]
          cases d <;> first | (simp; done) | (rename_i ms; exact (hni ms hu).elim)
      · rename_i hut
        split at h
        · rename_i z hz
          split at h
          · rename_i hp
            injection h with h
            subst h
            refine OpSound.of_pure fun ρ a w hr => ?_
            obtain ⟨v', hv, hvr⟩ := iface_of (hr x (by simp [Op.operands]) _ hx)
            refine ⟨.tuple #[z, .bool false], (VRs.cons (pf_self 3 _ hp) (VRs.cons (.flat rfl) VRs.nil)).toTuple, ?_⟩
            simp only [execOp, Instr.typeAssert, Sem.run_bind, run_underlying hu, Result.andThen_ok, hv]
            cases d <;> first | (simp [hut, zero_run hz]; done) | (rename_i ms; exact (hni ms hu).elim)
          · simp at h
        · simp at h
    · exact flat_sound hsel h
  | makeFunc fn x y =>
    simp only [evOp] at h
    split at h
    · rename_i us vs hx hy
      injection h with h
      subst h
      refine OpSound.of_pure fun ρ a w hr => ?_
      have h1 := evs_sound (a := a) _ _ hx fun z hz => hr z (by simp [Op.operands] at hz ⊢; exact .inl hz)
      have h2 := evs_sound (a := a) _ _ hy fun z hz => hr z (by simp [Op.operands] at hz ⊢; exact .inr hz)
      refine ⟨.func fn (x.map a.eval) (y.map a.eval), ?_, rfl⟩
      refine .func (by have := h1.1; simp at this ⊢; omega) (fun i v v' p q => h1.2 i v v' (by simpa using p) (by simpa using q)) (by have := h2.1; simp at this ⊢; omega) (fun i v v' p q => h2.2 i v v' (by simpa using p) (by simpa using q))
    · simp at h
  | slice t x l hi mx =>
    cases mx with
    | some m => exact flat_sound hsel (by simpa only [evOp] using h)
    | none =>
      simp only [evOp] at h
      split at h
      · rename_i ad vl vh n e hx hvl hvh hu
        split at h
        · rename_i hh sz hbh hsz
          split at h
          · rename_i ll hbl
            injection h with h
            subst h
            refine OpSound.of_pure fun ρ a w hr => ?_
            obtain ⟨en, he, hs, hv⟩ := ptr_of (hr x (by simp [Op.operands]) _ hx)
            have g1 := bound_map (a := a) hvh (fun z hz => hr z (by simp [Op.operands] at hz ⊢; simp [hz])) hbh
            have g2 := bound_map (a := a) hvl (fun z hz => hr z (by simp [Op.operands] at hz ⊢; simp [hz])) hbl
            obtain ⟨g3, g4, g5⟩ := sliceBounds_run (P := P) false g1 g2 (Nat.le_refl _) w
            refine ⟨.slice (some (if n = ll then ⟨en.r, en.d + ad.off, none⟩ else (⟨en.r, en.d + ad.off, none⟩ : Addr).add (ll * sz))) (hh - ll) (n - ll), ?_, ?_⟩
            · by_cases hnl : n = ll
              · rw [if_pos hnl, if_pos hnl]
                have := slice_add he hs 0 (hh - ll) (n - ll) (by omega)
                exact this
              · rw [if_neg hnl, if_neg hnl]
                exact slice_add he hs _ _ _ (by omega)
            · simp [execOp, Instr.sliceAt, hv, Instr.sureAddr, run_underlying hu, g3, sizeOf_run hsz]
          · simp at h
        · simp at h
      · rename_i ad len cap vl vh e hx hvl hvh hu
        split at h
        · simp at h
        · rename_i hcap
          split at h
          · rename_i hh sz hbh hsz
            split at h
            · rename_i ll hbl
              injection h with h
              subst h
              refine OpSound.of_pure fun ρ a w hr => ?_
              obtain ⟨en, c', he, hs, hv, hc, _⟩ := slice_of (hr x (by simp [Op.operands]) _ hx)
              have hc := hc (by omega)
              subst hc
              have g1 := bound_map (a := a) hvh (fun z hz => hr z (by simp [Op.operands] at hz ⊢; simp [hz])) hbh
              have g2 := bound_map (a := a) hvl (fun z hz => hr z (by simp [Op.operands] at hz ⊢; simp [hz])) hbl
              obtain ⟨g3, g4, g5⟩ := sliceBounds_run (P := P) true g1 g2 (by omega) w
              refine ⟨.slice (some (if c' = ll then ⟨en.r, en.d + ad.off, none⟩ else (⟨en.r, en.d + ad.off, none⟩ : Addr).add (ll * sz))) (hh - ll) (c' - ll), ?_, ?_⟩
              · by_cases hnl : c' = ll
                · rw [if_pos hnl, if_pos hnl]
                  have := slice_add he hs 0 (hh - ll) (c' - ll) (by omega)
                  exact this
                · rw [if_neg hnl, if_neg hnl]
                  exact slice_add he hs _ _ _ (by omega)
              · simp [execOp, Instr.sliceAt, Instr.slice, hv, run_underlying hu, g3, sizeOf_run hsz]
                by_cases hnl : c' = ll <;> simp [hnl]
            · simp at h
          · simp at h
      · exact flat_sound hsel h
  | buildSlice t len parts =>
    simp only [evOp] at h
    split at h
    · rename_i e hu
      split at h
      · rename_i sz z ps hsz hz hps
        split at h
        · rename_i hlen
          split at h
          · rename_i cells hfill
            split at h
            · rename_i hall
              injection h with h
              subst h
              refine OpSound.of_new fun ρ a w hr hs => ?_
              have hp := evParts_sound (a := a) _ _ hps fun y hy => hr y (by simpa [Op.operands] using hy)
              have hself : VRs ρ cells.toList cells.toList := ⟨rfl, fun i v v' p q => by rw [p] at q; cases q; exact pf_self 3 _ (by have := get_all hall p; simp at this; exact this.1)⟩
              have hone : cells.toList.all oneCell = true := List.all_eq_true.2 fun v hv => by have := List.all_eq_true.1 hall v hv; simp at this; exact this.2
              obtain ⟨h1, h2⟩ := new_sound hs hone hself e lo
              refine ⟨_, .slice (some ⟨w.heap.size, 0, none⟩) len len, _, .slice h2 (Nat.le_refl _), h1, .inl ?_⟩
              have h0 : len * sz ≠ 0 := by omega
              have h24 : ¬ len * sz > 2 ^ 24 := by omega
              simp [execOp, Instr.buildSlice, run_underlying hu, sizeOf_run hsz, zero_run hz, h0, h24, hp, hfill, newRow_run]
            · simp at h
          · simp at h
        · simp at h
      · simp at h
    · simp at h
  | makeSlice t x y =>
    simp only [evOp] at h
    split at h
    · rename_i e k l k' c hu hx hy
      split at h
      · rename_i inf hinf
        split at h
        · rename_i z hz
          split at h
          · rename_i hb
            split at h
            · rename_i hall
              injection h with h
              subst h
              refine OpSound.of_new fun ρ a w hr hs => ?_
              have e1 := int_of (hr x (by simp [Op.operands]) _ hx)
              have e2 := int_of (hr y (by simp [Op.operands]) _ hy)
              generalize hcells : (Array.range (c.toNat * inf.size)).map (z.cells[· % z.cells.size]!) = cells at hall
              have hself : VRs ρ cells.toList cells.toList := ⟨rfl, fun i v v' p q => by rw [p] at q; cases q; exact pf_self 3 _ (by have := get_all hall p; simp at this; exact this.1)⟩
              have hone : cells.toList.all oneCell = true := List.all_eq_true.2 fun v hv => by have := List.all_eq_true.1 hall v hv; simp at this; exact this.2
              obtain ⟨h1, h2⟩ := new_sound hs hone hself e lo
              refine ⟨_, .slice (some ⟨w.heap.size, 0, none⟩) l.toNat c.toNat, _, .slice h2 (by omega), h1, .inl ?_⟩
              obtain ⟨b1, b2, b3, b4, b5⟩ := hb
              have wl : IntKind.i64.wrap l = l := by unfold IntKind.wrap; simp [IntKind.bits, IntKind.signed]; omega
              have wc : IntKind.i64.wrap c = c := by unfold IntKind.wrap; simp [IntKind.bits, IntKind.signed]; omega
              have hti : ∀ w, (typeInfo e).run P w = .ok inf w := fun w => by simp [typeInfo, hinf]
              have n1 : ¬ (c < 0) := by omega
              have n2 : ¬ (281474976710656 < (inf.bytes : Int) * c) := by rw [Int.mul_comm]; omega
              have n3 : ¬ (l < 0) := by omega
              have n4 : ¬ (c < l) := by omega
              have n5 : ¬ (c.toNat * inf.size = 0) := by omega
              simp [execOp, Instr.makeSlice, e1, e2, run_underlying hu, asInt, asIntOf, hti, wl, wc, n1, n2, n3, n4, n5, sizeOf, zeroValue, hz, hcells, newRow_run]
            · simp at h
          · simp at h
        · simp at h
      · simp at h
    · simp at h
  | call c =>
    obtain ⟨callee, cargs, cats⟩ := c
    have hops : ∀ (ρ : Rho) (a : Act), OpR ρ F a (Op.call ⟨callee, cargs, cats⟩).operands.toList → OpR ρ F a cargs.toList := fun ρ a hr x hx => hr x (by simp [Op.operands, Call.operands] at hx ⊢; exact .inr hx)
    cases callee with
    | value fx =>
      simp only [evOp] at h
      split at h
      · rename_i f u v args hf hargs
        have hrun : ∀ (ρ : Rho) (a : Act) (w : World), OpR ρ F a (Op.call ⟨.value fx, cargs, cats⟩).operands.toList →
            ∃ args' : Array Value, VRs ρ (u.toList ++ args ++ v.toList) args'.toList ∧ (execOp a.eval ⟨dst, .call ⟨.value fx, cargs, cats⟩, type, pos, after, guard⟩).run P w = (callFunc f args').run P w := by
          intro ρ a w hr
          obtain ⟨u', v', e1, hu, hv⟩ := func_of (hr fx (by simp [Op.operands, Call.operands]) _ hf)
          have h2 := evs_sound (a := a) _ _ hargs (hops ρ a hr)
          refine ⟨u' ++ cargs.map a.eval ++ v', ?_, ?_⟩
          · have h3 : VRs ρ args (cargs.map a.eval).toList := by simpa using h2
            simpa using (hu.append h3).append hv
          · simp [execOp, resolve, e1, Deferred.ofValue, invoke]
        split at h
        · rename_i fn hfn
          split at h
          · rename_i c hb
            have hrun' : ∀ (ρ : Rho) (a : Act) (w : World), OpR ρ F a (Op.call ⟨.value fx, cargs, cats⟩).operands.toList →
                ∃ args' : Array Value, VRs ρ (u.toList ++ args ++ v.toList) args'.toList ∧ (execOp a.eval ⟨dst, .call ⟨.value fx, cargs, cats⟩, type, pos, after, guard⟩).run P w = .ok (.enter f args') w := by
              intro ρ a w hr
              obtain ⟨args', h1, h2⟩ := hrun ρ a w hr
              exact ⟨args', h1, by rw [h2]; exact callFunc_enter ok hfn hb args' w⟩
            split at h
            · exact evCall0_sound hC hrun' h
            · exact evCall_sound hC hrun' h
          · split at h
            · rename_i hall
              cases hx : X f (u.toList ++ args ++ v.toList) with
              | none => rw [hx, Option.map_none] at h; cases h
              | some r0 =>
                rw [hx, Option.map_some] at h
                injection h with h
                subst h
                obtain ⟨g1, g2⟩ := hX _ _ _ hx
                refine OpSound.of_pure fun ρ a w hr => ⟨r0, pf_self 3 _ g1, ?_⟩
                obtain ⟨args', h1, h2⟩ := hrun ρ a w hr
                have he : args' = (u.toList ++ args ++ v.toList).toArray := by
                  have := h1.eq_of_pf hall
                  apply Array.ext'
                  simpa using this
                rw [h2, he]
                exact g2 w
            · simp at h
        · simp at h
      · simp at h
    | invoke recv m => exact flat_sound hsel (by simpa only [evOp] using h)
    | builtin b =>
      cases b with
      | len =>
        simp only [evOp] at h
        split at h
        · rename_i t x ht hargs
          have hrun : ∀ (ρ : Rho) (a : Act) (w : World), OpR ρ F a (Op.call ⟨.builtin .len, cargs, cats⟩).operands.toList →
              ∃ x', VR ρ x x' ∧ (execOp a.eval ⟨dst, .call ⟨.builtin .len, cargs, cats⟩, type, pos, after, guard⟩).run P w = (do pure (.value (← Builtin.len_ cats type #[x'])) : Sem Next).run P w := by
            intro ρ a w hr
            have h2 := evs_sound (a := a) _ _ hargs (hops ρ a hr)
            have h3 : VRs ρ [x] (cargs.map a.eval).toList := by simpa using h2
            match hl : (cargs.map a.eval).toList, h3.1 with
            | [x'], _ =>
              refine ⟨x', h3.2 0 _ _ rfl (by rw [hl]; rfl), ?_⟩
              have he : cargs.map a.eval = #[x'] := by apply Array.ext'; simpa using hl
              simp [execOp, resolve, invoke, builtin, he]
          split at h
          · rename_i e ad n c hu
            injection h with h
            subst h
            refine OpSound.of_pure fun ρ a w hr => ⟨_, .flat rfl, ?_⟩
            obtain ⟨x', h1, h2⟩ := hrun ρ a w hr
            rw [h2]
            cases h1 with
            | flat hf => simp [Builtin.len_, ht, run_underlying hu, goInt]
            | slice h hl => simp [Builtin.len_, ht, run_underlying hu, goInt]
            | sliceU h h0 hl => simp [Builtin.len_, ht, run_underlying hu, goInt]
          · rename_i n e y hu
            injection h with h
            subst h
            refine OpSound.of_pure fun ρ a w hr => ⟨_, .flat rfl, ?_⟩
            obtain ⟨x', h1, h2⟩ := hrun ρ a w hr
            rw [h2]
            simp [Builtin.len_, ht, run_underlying hu, goInt]
          · exact flat_sound hsel h
        · simp at h
      | copy =>
        simp only [evOp] at h
        split at h
        · rename_i t ad n c1 bd m c2 ht hargs
          split at h
          · rename_i e hu
            split at h
            · rename_i sz hsz
              split at h
              · rename_i cs hrd
                cases hw : wr H ad cs with
                | none => simp [hw] at h
                | some H' =>
                  simp [hw] at h
                  subst h
                  refine OpSound.of_write fun ρ a w hr hs => ?_
                  have h2 := evs_sound (a := a) _ _ hargs (hops ρ a hr)
                  have h3 : VRs ρ [.slice (some ad) n c1, .slice (some bd) m c2] (cargs.map a.eval).toList := by simpa using h2
                  match hl : (cargs.map a.eval).toList, h3.1 with
                  | [x', y'], _ =>
                    have hx := h3.2 0 _ _ rfl (by rw [hl]; rfl)
                    have hy := h3.2 1 _ _ rfl (by rw [hl]; rfl)
                    obtain ⟨e1, c1', he1, _, hv1, _, _⟩ := slice_of hx
                    obtain ⟨e2, c2', he2, _, hv2, _, _⟩ := slice_of hy
                    have he : cargs.map a.eval = #[x', y'] := by apply Array.ext'; simpa using hl
                    obtain ⟨_, hlen, hone, cs', g1, g2⟩ := rd_sound hs hrd he2
                    have hld := run_loadCells_list (P := P) w ⟨e2.r, e2.d + bd.off, none⟩ cs' g2
                    rw [← g1.1, hlen] at hld
                    obtain ⟨_, w', g3, g4⟩ := wr_sound (P := P) hs hw he1 g1
                    refine ⟨ρ, .int .i64 (min m n : Nat), w', .flat rfl, g4, .inl ?_⟩
                    have hmn : Nat.min m n = min m n := rfl
                    simp [execOp, resolve, invoke, builtin, he, Builtin.copy_, ht, run_underlying hu, hv1, hv2, Builtin.lenOf, sizeOf_run hsz, Builtin.firstCells, hmn, hld, g3, goInt]
              · simp at h
            · simp at h
          · simp at h
        · simp at h
      | append =>
        simp only [evOp] at h
        split at h
        · rename_i r0 ha
          injection h with h
          subst h
          exact appS_sound rfl rfl ha
        · simp at h
        · exact flat_sound hsel h
      | _ => exact flat_sound hsel (by simpa only [evOp] using h)
  | _ => exact flat_sound hsel (by simpa only [evOp] using h)

end Go.Proofs.Ytfbjpenbpbpcaaa.Den

/-
  A verified evaluator, seventh part: the operations of a region, one behind the other.
-/
namespace Go.Proofs.Ytfbjpenbpbpcaaa.Den
open Go

/-- The frame and the slots. nt: how many slots there are. -/
structure FR (ds : List Deferred) (ρ : Rho) (nt : Nat) (F : Slots) (a : Act) : Prop where
  defers : a.defers = ds
  size : a.tmps.size = nt
  slot : ∀ t v, at? t F = some v → ∃ v', a.tmps[t]? = some v' ∧ VR ρ v v'

variable {ds : List Deferred}

theorem FR.mono {ρ ρ' : Rho} (hp : ρ <+: ρ') {nt : Nat} {F : Slots} {a : Act} (h : FR ds ρ nt F a) : FR ds ρ' nt F a :=
  ⟨h.defers, h.size, fun t v hv => let ⟨v', x, y⟩ := h.slot t v hv; ⟨v', x, y.mono hp⟩⟩

theorem eval_slot {ρ : Rho} {F : Slots} {a : Act} {x : Operand} {v : Value} (hs : ∀ t v, x = .tmp t → at? t F = some v → ∃ v', a.tmps[t]? = some v' ∧ VR ρ v v') (h : ev F x = some v) : VR ρ v (a.eval x) := by
  cases x with
  | tmp t =>
    obtain ⟨v', h1, h2⟩ := hs t v rfl h
    have : a.eval (.tmp t) = v' := by simp [Act.eval, h1]
    rw [this]; exact h2
  | const u =>
    simp only [ev] at h
    split at h
    · rename_i hp
      injection h with h
      subst h
      exact pf_self 3 _ hp
    · simp at h
  | global g => simp [ev] at h
  | func f =>
    simp only [ev] at h
    injection h with h
    subst h
    exact .func rfl (fun i v v' p => by simp at p) rfl (fun i v v' p => by simp at p)

theorem FR.opR {ρ : Rho} {nt : Nat} {F : Slots} {a : Act} (h : FR ds ρ nt F a) (xs : List Operand) : OpR ρ F a xs := fun _ _ _ hv => eval_slot (fun t v _ ht => h.slot t v ht) hv

theorem put_size (a : Act) (dst : Option Tmp) (v : Value) : (a.put dst v).tmps.size = a.tmps.size := by cases dst <;> simp [Act.put]
theorem put_defers (a : Act) (dst : Option Tmp) (v : Value) : (a.put dst v).defers = a.defers := by cases dst <;> rfl
theorem put_same (a : Act) (d : Tmp) (v : Value) (h : d < a.tmps.size) : (a.put (some d) v).tmps[d]? = some v := by simp [Act.put, h]
theorem put_other (a : Act) (dst : Option Tmp) (v : Value) (t : Tmp) (h : dst ≠ some t) : (a.put dst v).tmps[t]? = a.tmps[t]? := by
  cases dst with
  | none => rfl
  | some d => simp only [Act.put]; rw [Array.getElem?_setIfInBounds_ne (fun e => h (by rw [e]))]

theorem at_putF (nt : Nat) (F : Slots) (dst : Option Tmp) (v : Value) (t : Tmp) : at? t (putF nt F dst v) = if dst = some t ∧ t < nt then some v else at? t F := by
  unfold putF
  cases dst with
  | none => simp
  | some d =>
    simp only
    by_cases hd : d < nt
    · have : Nat.blt d nt = true := by simpa [Nat.blt_eq] using hd
      rw [this]
      simp only [at?]
      by_cases hdt : d = t
      · subst hdt
        simp [hd]
      · have h1 : Nat.beq d t = false := by
          cases hb : Nat.beq d t
          · rfl
          · exact absurd (Nat.eq_of_beq_eq_true hb) hdt
        rw [h1]
        simp [hdt]
    · have : Nat.blt d nt = false := by
        cases hb : Nat.blt d nt
        · rfl
        · exact absurd (by simpa [Nat.blt_eq] using hb) hd
      rw [this]
      simp only
      rw [if_neg]
      rintro ⟨h1, h2⟩
      injection h1 with h1
      rw [h1] at hd
      exact hd h2

theorem FR.put {ρ : Rho} {nt : Nat} {F : Slots} {a : Act} (h : FR ds ρ nt F a) (dst : Option Tmp) {v v' : Value} (hv : VR ρ v v') : FR ds ρ nt (putF nt F dst v) (a.put dst v') :=
  ⟨by rw [put_defers, h.defers], by rw [put_size, h.size], fun t u hu => by
    rw [at_putF] at hu
    split at hu
    · rename_i hd
      obtain ⟨rfl, hlt⟩ := hd
      injection hu with hu
      subst hu
      exact ⟨v', put_same a t v' (by rw [h.size]; exact hlt), hv⟩
    · rename_i hd
      by_cases hdt : dst = some t
      · subst hdt
        have hge : ¬ t < nt := fun hh => hd ⟨rfl, hh⟩
        obtain ⟨u', x, y⟩ := h.slot t u hu
        have := (Array.getElem?_eq_some_iff.1 x).1
        rw [h.size] at this
        omega
      · obtain ⟨u', x, y⟩ := h.slot t u hu
        exact ⟨u', by rw [put_other a dst v' t hdt]; exact x, y⟩⟩

theorem wanted_of {ρ : Rho} {F : Slots} {a : Act} {ops : Array Oper} {o : Oper} {b : Bool} (hs : ∀ j w d v, o.guard = some (j, w) → (ops[j]?).bind (·.dst) = some d → at? d F = some v → ∃ v', a.tmps[d]? = some v' ∧ VR ρ v v')
    (h : wantedF ops.toList F o = some b) : Region.wanted o (yielded ops a.tmps) = b := by
  unfold wantedF at h
  unfold Region.wanted
  split at h
  · rename_i hg
    injection h with h
    rw [hg, h]
  · rename_i j want hg
    rw [hg]
    simp only
    have hl : ops.toList[j]? = ops[j]? := by simp
    rw [hl] at h
    unfold yielded
    split at h
    · rename_i oj hoj
      rw [hoj]
      split at h
      · rename_i d hd
        have hbind : (ops[j]?).bind (·.dst) = some d := by rw [hoj]; exact hd
        simp only [Option.bind_some, hd]
        split at h
        · rename_i b0 hb0
          obtain ⟨v', x, y⟩ := hs j want d _ hg hbind hb0
          rw [x, bool_of y]
          cases h
          rfl
        · rename_i v0 hnb hv0
          obtain ⟨v', x, y⟩ := hs j want d _ hg hbind hv0
          injection h with h
          subst h
          rw [x]
          cases y with
          | flat hf => cases v0 <;> first | (rename_i b1; exact (hnb b1 rfl).elim) | rfl
          | _ => rfl
        · simp at h
      · rename_i hd
        injection h with h
        subst h
        simp [hd]
    · rename_i hoj
      injection h with h
      subst h
      simp [hoj]

/-- One operation: whatever it is. -/
theorem op_step {P : Program} {F : Slots} {H : Heap} {lo : Nat} {o : Oper} {r : Out} (hop : OpSound P F H lo o r) {ρ0 : Rho} {H0 : Heap} {w0 : World} {ρ : Rho} {a : Act} {w : World} {next : Act → World → Prop} {Q : Exit → Act → World → Prop}
    (hr : OpR ρ F a o.op.operands.toList) (hR : Rel ρ0 H0 w0 ρ H lo w)
    (hn : ∀ ρ' v' w', ρ <+: ρ' → VR ρ' r.v v' → Rel ρ0 H0 w0 ρ' r.H r.lo w' → next (a.put o.dst v') w') : o.wp P a w next Q := by
  cases he : r.eff with
  | pure =>
    obtain ⟨h1, h2, h3⟩ := hop.pure he
    refine h3 ρ a w next Q hr fun v' w' hv hq => hn ρ v' w' (List.prefix_refl _) hv ?_
    have := hR.trans (Rel.of_quiet hR.sr hq lo)
    rw [Nat.min_self] at this
    rw [h1, h2]; exact this
  | read =>
    obtain ⟨h1, h2, h3⟩ := hop.read he
    refine h3 ρ a w next Q hr hR.sr fun v' w' hv hq => hn ρ v' w' (List.prefix_refl _) hv ?_
    have := hR.trans (Rel.of_quiet hR.sr hq lo)
    rw [Nat.min_self] at this
    rw [h1, h2]; exact this
  | write =>
    obtain ⟨l, h1, h2⟩ := hop.write he
    refine h2 ρ a w next Q hr hR.sr fun ρ' v' w' hv hq => hn ρ' v' w' hq.pre hv ?_
    rw [h1]
    exact hR.trans hq

theorem evOps_sound {P : Program} {X : Ext} {C : Oracle} (ok : ProgOk P) (hX : XSound P X) (hC : Sound P C) {nt : Nat} {ops : Array Oper} (hsel : ops.toList.all noSel = true) {ρ0 : Rho} {H0 : Heap} {w0 : World}
    {F' : Slots} {H' : Heap} {lo' : Nat} {Q : Exit → Act → World → Prop} (hQ : ∀ ρ' a' w', Rel ρ0 H0 w0 ρ' H' lo' w' → FR ds ρ' nt F' a' → Q .normal a' w') :
    ∀ (rest : List Oper) (k : Nat) (F : Slots) (H : Heap) (lo : Nat), ops.toList.drop k = rest → evOps P X C nt ops.toList rest F H lo = some (F', H', lo') →
      ∀ (ρ : Rho) (a : Act) (w : World), Rel ρ0 H0 w0 ρ H lo w → FR ds ρ nt F a → wpOps P ops Q (List.range' k rest.length) a w := by
  intro rest
  induction rest with
  | nil =>
    intro k F H lo _ h ρ a w hR hF
    simp only [evOps] at h
    simp only [Option.some.injEq, Prod.mk.injEq] at h
    rw [h.1] at hF
    rw [h.2.1, h.2.2] at hR
    exact hQ ρ a w hR hF
  | cons o rest ih =>
    intro k F H lo hd h ρ a w hR hF
    have hk : ops[k]? = some o := by
      have := congrArg (fun l => l[0]?) hd
      simpa using this
    have hd' : ops.toList.drop (k + 1) = rest := by
      have := congrArg (fun l => l.drop 1) hd
      simpa using this
    have ho : noSel o = true := List.all_eq_true.1 hsel o (by
      have : o ∈ ops.toList.drop k := by rw [hd]; simp
      exact List.mem_of_mem_drop this)
    simp only [List.length_cons, List.range'_succ]
    rw [wpOps_cons]
    unfold wpOp
    rw [hk]
    simp only
    simp only [evOps] at h
    have hw : ∀ b, wantedF ops.toList F o = some b → Region.wanted o (yielded ops a.tmps) = b := fun b hb => wanted_of (fun j w d v _ _ hv => hF.slot d v hv) hb
    split at h
    · rename_i hwt
      rw [hw true hwt, if_pos rfl]
      split at h
      · rename_i r hr
        refine .inl (op_step (evOp_sound ok hX hC ho hr) (hF.opR _) hR ?_)
        intro ρ' v' w' hp hv hR'
        exact ih (k + 1) _ _ _ hd' h ρ' _ w' hR' ((hF.mono hp).put o.dst hv)
      · simp at h
    · rename_i hwt
      rw [hw false hwt]
      simp only [Bool.false_eq_true, if_false]
      exact ih (k + 1) _ _ _ hd' h ρ _ w hR (hF.put o.dst (pf_self 3 undef rfl))
    · simp at h

theorem evOps_lo {P : Program} {X : Ext} {C : Oracle} (ok : ProgOk P) (hX : XSound P X) (hC : Sound P C) {nt : Nat} {all : List Oper} {F' : Slots} {H' : Heap} {lo' : Nat} :
    ∀ (rest : List Oper), rest.all noSel = true → ∀ (F : Slots) (H : Heap) (lo : Nat), evOps P X C nt all rest F H lo = some (F', H', lo') → lo' ≤ lo := by
  intro rest
  induction rest with
  | nil =>
    intro _ F H lo h
    simp only [evOps, Option.some.injEq, Prod.mk.injEq] at h
    omega
  | cons o rest ih =>
    intro hs F H lo h
    simp only [List.all_cons, Bool.and_eq_true] at hs
    simp only [evOps] at h
    split at h
    · split at h
      · rename_i r hr
        have h1 := ih hs.2 _ _ _ h
        have hop := evOp_sound ok hX hC hs.1 hr
        have h2 : r.lo ≤ lo := by
          cases he : r.eff with
          | pure => rw [(hop.pure he).2.1]; exact Nat.le_refl _
          | read => rw [(hop.read he).2.1]; exact Nat.le_refl _
          | write =>
            obtain ⟨l, h3, _⟩ := hop.write he
            rw [h3]
            exact Nat.min_le_left _ _
        omega
      · simp at h
    · exact ih hs.2 _ _ _ h
    · simp at h

end Go.Proofs.Ytfbjpenbpbpcaaa.Den

/-
  A verified evaluator, eighth part: a region that draws its order: the run in the text's order serves every order.
-/
namespace Go.Proofs.Ytfbjpenbpbpcaaa.Den
open Go

def dstAt (ops : List Oper) (i : Nat) : Option Tmp := (ops[i]?).bind (·.dst)
def recAt (rs : List Rec) (i : Nat) : Rec := (rs[i]?).getD ⟨undef, .pure, [], 0⟩

def slotsAt (nt : Nat) (F0 : Slots) (ops : List Oper) (rs : List Rec) : Nat → Slots
  | 0 => F0
  | i + 1 => putF nt (slotsAt nt F0 ops rs i) (dstAt ops i) (recAt rs i).v
def heapAt (H0 : Heap) (rs : List Rec) : Nat → Heap
  | 0 => H0
  | i + 1 => (recAt rs i).H
def loAt (lo0 : Nat) (rs : List Rec) : Nat → Nat
  | 0 => lo0
  | i + 1 => (recAt rs i).lo

/-- What the run in the text's order has shown. -/
structure RunOk (P : Program) (X : Ext) (C : Oracle) (nt : Nat) (ops : List Oper) (F0 : Slots) (H0 : Heap) (lo0 : Nat) (rs : List Rec) : Prop where
  step : ∀ (i : Nat) (o : Oper), ops[i]? = some o →
    (wantedF ops (slotsAt nt F0 ops rs i) o = some true ∧ ∃ r, evOp P X C true (slotsAt nt F0 ops rs i) (heapAt H0 rs i) (loAt lo0 rs i) o = some r ∧
      (recAt rs i = ⟨r.v, r.eff, r.H, r.lo⟩ ∨
        ∃ j, r.eff = .write ∧ selfLoad ops o = some j ∧ j < i ∧ (∀ k, j ≤ k → k < i → (recAt rs k).eff ≠ .write) ∧ recAt rs i = ⟨r.v, .read, heapAt H0 rs i, r.lo⟩)) ∨
    (wantedF ops (slotsAt nt F0 ops rs i) o = some false ∧ recAt rs i = ⟨undef, .pure, heapAt H0 rs i, loAt lo0 rs i⟩)

theorem evRecs_spec {P : Program} {X : Ext} {C : Oracle} {nt : Nat} {ops : List Oper} {F0 : Slots} {H0 : Heap} {lo0 : Nat} {Ff : Slots} (rs : List Rec) :
    ∀ (rest : List Oper) (n ws : Nat) (F : Slots) (H : Heap) (lo : Nat) (rs' : List Rec), ops.drop n = rest → n ≤ ops.length → rs.drop n = rs' → n ≤ rs.length →
      F = slotsAt nt F0 ops rs n → H = heapAt H0 rs n → lo = loAt lo0 rs n → (∀ k, k < n → (recAt rs k).eff = .write → k < ws) →
      evRecs P X C nt ops rest n ws F H lo = some (rs', Ff) →
      rs.length = ops.length ∧ Ff = slotsAt nt F0 ops rs ops.length ∧ ∀ (i : Nat) (o : Oper), n ≤ i → ops[i]? = some o →
        (wantedF ops (slotsAt nt F0 ops rs i) o = some true ∧ ∃ r, evOp P X C true (slotsAt nt F0 ops rs i) (heapAt H0 rs i) (loAt lo0 rs i) o = some r ∧
          (recAt rs i = ⟨r.v, r.eff, r.H, r.lo⟩ ∨
            ∃ j, r.eff = .write ∧ selfLoad ops o = some j ∧ j < i ∧ (∀ k, j ≤ k → k < i → (recAt rs k).eff ≠ .write) ∧ recAt rs i = ⟨r.v, .read, heapAt H0 rs i, r.lo⟩)) ∨
        (wantedF ops (slotsAt nt F0 ops rs i) o = some false ∧ recAt rs i = ⟨undef, .pure, heapAt H0 rs i, loAt lo0 rs i⟩) := by
  intro rest
  induction rest with
  | nil =>
    intro n ws F H lo rs' hd hn hrs hnr hF _ _ _ h
    simp only [evRecs, Option.some.injEq, Prod.mk.injEq] at h
    have h1 : ops.length ≤ n := by simpa using hd
    have h2 : rs.length ≤ n := by rw [← h.1] at hrs; simpa using hrs
    have hnn : n = ops.length := by omega
    refine ⟨by omega, by rw [← h.2, hF, hnn], fun i o hi ho => ?_⟩
    have := (List.getElem?_eq_some_iff.1 ho).1
    omega
  | cons o rest ih =>
    intro n ws F H lo rs' hd hn hrs hnr hF hH hlo hws h
    have hk : ops[n]? = some o := by
      have := congrArg (fun l => l[0]?) hd
      simpa using this
    have hd' : ops.drop (n + 1) = rest := by
      have := congrArg (fun l => l.drop 1) hd
      simpa using this
    have hnl : n < ops.length := (List.getElem?_eq_some_iff.1 hk).1
    -- what the head of the records says
    have head : ∀ (r0 : Rec) (tl : List Rec), rs' = r0 :: tl → recAt rs n = r0 ∧ rs.drop (n + 1) = tl ∧ n + 1 ≤ rs.length := by
      intro r0 tl e
      rw [e] at hrs
      have h1 : rs[n]? = some r0 := by
        have := congrArg (fun l => l[0]?) hrs
        simpa using this
      refine ⟨by simp [recAt, h1], ?_, (List.getElem?_eq_some_iff.1 h1).1⟩
      have := congrArg (fun l => l.drop 1) hrs
      simpa using this
    have hdst : dstAt ops n = o.dst := by simp [dstAt, hk]
    simp only [evRecs] at h
    split at h
    · rename_i hw
      split at h
      · rename_i r hr
        cases hadj : adjust ops o n ws H r with
        | mk v eff H' lo' =>
        rw [hadj] at h
        simp only at h
        split at h
        · rename_i rs2 F2 hrec
          simp only [Option.some.injEq, Prod.mk.injEq] at h
          obtain ⟨h1, h2⟩ := h
          obtain ⟨g1, g2, g3⟩ := head _ _ h1.symm
          -- the record, adjusted or not
          have hself : recAt rs n = ⟨r.v, r.eff, r.H, r.lo⟩ ∨ ∃ j, r.eff = .write ∧ selfLoad ops o = some j ∧ j < n ∧ (∀ k, j ≤ k → k < n → (recAt rs k).eff ≠ .write) ∧ recAt rs n = ⟨r.v, .read, heapAt H0 rs n, r.lo⟩ := by
            rw [g1]
            unfold adjust at hadj
            split at hadj
            · rename_i he
              split at hadj
              · rename_i j hj
                split at hadj
                · rename_i hc
                  simp only [Bool.and_eq_true, decide_eq_true_eq] at hc
                  refine .inr ⟨j, he, hj, hc.2, fun k hk1 hk2 hk3 => ?_, ?_⟩
                  · have := hws k hk2 hk3
                    omega
                  · rw [← hH, hadj]
                · exact .inl hadj.symm
              · exact .inl hadj.symm
            · exact .inl hadj.symm
          have hv : v = (recAt rs n).v := by rw [g1]
          have := ih (n + 1) (nextWs eff n ws) (putF nt F o.dst v) H' lo' rs2 hd' (by omega) g2 g3 (by simp only [slotsAt]; rw [hdst, ← hF, hv]) (by simp only [heapAt]; rw [g1]) (by simp only [loAt]; rw [g1]) (by
            intro k hk1 hk2
            by_cases hkn : k = n
            · rw [hkn, g1] at hk2
              simp only at hk2
              rw [hk2, hkn]
              show n < n + 1
              omega
            · have := hws k (by omega) hk2
              unfold nextWs
              split <;> omega) (by rw [hrec, h2])
          obtain ⟨i1, i2, i3⟩ := this
          refine ⟨i1, i2, fun i oi hi hoi => ?_⟩
          by_cases hin : i = n
          · subst hin
            rw [hk] at hoi
            injection hoi with hoi
            subst hoi
            refine .inl ⟨by rw [← hF]; exact hw, r, by rw [← hF, ← hH, ← hlo]; exact hr, hself⟩
          · exact i3 i oi (by omega) hoi
        · simp at h
      · simp at h
    · rename_i hw
      split at h
      · rename_i rs2 F2 hrec
        simp only [Option.some.injEq, Prod.mk.injEq] at h
        obtain ⟨h1, h2⟩ := h
        obtain ⟨g1, g2, g3⟩ := head _ _ h1.symm
        have := ih (n + 1) ws (putF nt F o.dst undef) H lo rs2 hd' (by omega) g2 g3 (by simp only [slotsAt]; rw [hdst, ← hF, g1]) (by simp only [heapAt]; rw [g1]) (by simp only [loAt]; rw [g1]) (by
          intro k hk1 hk2
          by_cases hkn : k = n
          · subst hkn
            rw [g1] at hk2
            simp at hk2
          · exact hws k (by omega) hk2) (by rw [hrec, h2])
        obtain ⟨i1, i2, i3⟩ := this
        refine ⟨i1, i2, fun i oi hi hoi => ?_⟩
        by_cases hin : i = n
        · subst hin
          rw [hk] at hoi
          injection hoi with hoi
          subst hoi
          exact .inr ⟨by rw [← hF]; exact hw, by rw [g1, hH, hlo]⟩
        · exact i3 i oi (by omega) hoi
      · simp at h
    · simp at h

/-! ### What a set of operations that have been run makes of a slot, and of the heap -/

/-- The value of a slot when the operations of D (of the first n) have been run. -/
def cur (nt : Nat) (F0 : Slots) (ops : List Oper) (rs : List Rec) (D : Nat → Bool) (t : Tmp) : Nat → Option Value
  | 0 => at? t F0
  | n + 1 => if D n = true ∧ dstAt ops n = some t ∧ t < nt then some (recAt rs n).v else cur nt F0 ops rs D t n

def curH (H0 : Heap) (rs : List Rec) (D : Nat → Bool) : Nat → Heap
  | 0 => H0
  | n + 1 => if D n = true ∧ (recAt rs n).eff = .write then (recAt rs n).H else curH H0 rs D n

section
variable {nt : Nat} {F0 : Slots} {ops : List Oper} {rs : List Rec} {H0 : Heap}

theorem cur_all (t : Tmp) : ∀ i, at? t (slotsAt nt F0 ops rs i) = cur nt F0 ops rs (fun _ => true) t i := by
  intro i
  induction i with
  | zero => rfl
  | succ i ih =>
    simp only [slotsAt, cur, at_putF, true_and]
    rw [ih]

theorem cur_eq (D : Nat → Bool) (t : Tmp) (i : Nat) : ∀ n, i ≤ n → (∀ j, j < n → dstAt ops j = some t → (D j = true ↔ j < i)) → cur nt F0 ops rs D t n = cur nt F0 ops rs (fun _ => true) t i := by
  intro n
  induction n with
  | zero =>
    intro hi _
    have : i = 0 := by omega
    subst this
    rfl
  | succ n ih =>
    intro hi h
    by_cases hin : i = n + 1
    · subst hin
      -- every one is in: place by place
      have : ∀ m, m ≤ n + 1 → cur nt F0 ops rs D t m = cur nt F0 ops rs (fun _ => true) t m := by
        intro m
        induction m with
        | zero => intro _; rfl
        | succ m ihm =>
          intro hm
          simp only [cur]
          rw [ihm (by omega)]
          by_cases hd : dstAt ops m = some t
          · have := (h m (by omega) hd).2 (by omega)
            simp [this]
          · simp [hd]
      exact this _ (Nat.le_refl _)
    · have h1 := ih (by omega) fun j hj hd => h j (by omega) hd
      simp only [cur]
      rw [if_neg, h1]
      rintro ⟨a, b, _⟩
      have := (h n (by omega) b).1 a
      omega

theorem cur_congr (D D' : Nat → Bool) (t : Tmp) : ∀ n, (∀ j, j < n → dstAt ops j = some t → D j = D' j) → cur nt F0 ops rs D t n = cur nt F0 ops rs D' t n := by
  intro n
  induction n with
  | zero => intro _; rfl
  | succ n ih =>
    intro h
    simp only [cur]
    rw [ih fun j hj hd => h j (by omega) hd]
    by_cases hd : dstAt ops n = some t
    · rw [h n (by omega) hd]
    · simp [hd]

theorem curH_eq (D : Nat → Bool) (i : Nat) : ∀ n, i ≤ n → (∀ j, j < n → (recAt rs j).eff = .write → (D j = true ↔ j < i)) → curH H0 rs D n = curH H0 rs (fun _ => true) i := by
  intro n
  induction n with
  | zero =>
    intro hi _
    have : i = 0 := by omega
    subst this
    rfl
  | succ n ih =>
    intro hi h
    by_cases hin : i = n + 1
    · subst hin
      have : ∀ m, m ≤ n + 1 → curH H0 rs D m = curH H0 rs (fun _ => true) m := by
        intro m
        induction m with
        | zero => intro _; rfl
        | succ m ihm =>
          intro hm
          simp only [curH]
          rw [ihm (by omega)]
          by_cases hd : (recAt rs m).eff = .write
          · have := (h m (by omega) hd).2 (by omega)
            simp [this]
          · simp [hd]
      exact this _ (Nat.le_refl _)
    · have h1 := ih (by omega) fun j hj hd => h j (by omega) hd
      simp only [curH]
      rw [if_neg, h1]
      rintro ⟨a, b⟩
      have := (h n (by omega) b).1 a
      omega

theorem curH_congr (D D' : Nat → Bool) : ∀ n, (∀ j, j < n → (recAt rs j).eff = .write → D j = D' j) → curH H0 rs D n = curH H0 rs D' n := by
  intro n
  induction n with
  | zero => intro _; rfl
  | succ n ih =>
    intro h
    simp only [curH]
    rw [ih fun j hj hd => h j (by omega) hd]
    by_cases hd : (recAt rs n).eff = .write
    · rw [h n (by omega) hd]
    · simp [hd]
end

/-! ### The masks -/

theorem foldl_or (m : Edge → Nat) (b : Edge → Bool) (k : Nat) : ∀ (es : List Edge) (s : Nat), (es.foldl (fun s e => if b e then s ||| m e else s) s).testBit k = true ↔ s.testBit k = true ∨ ∃ e ∈ es, b e = true ∧ (m e).testBit k = true := by
  intro es
  induction es with
  | nil => intro s; simp
  | cons e es ih =>
    intro s
    simp only [List.foldl_cons, ih]
    by_cases hb : b e = true
    · simp [hb, Nat.testBit_or, or_assoc]
    · simp [hb]

theorem snoc_ind {α : Type} {p : List α → Prop} (h0 : p []) (h1 : ∀ l x, p l → p (l ++ [x])) : ∀ l, p l := by
  have key : ∀ n (l : List α), l.length = n → p l := by
    intro n
    induction n with
    | zero => intro l hl; have : l = [] := by simpa using hl
              rw [this]; exact h0
    | succ n ih =>
      intro l hl
      have hne : l ≠ [] := by intro h; rw [h] at hl; simp at hl
      rw [← List.dropLast_concat_getLast hne]
      exact h1 _ _ (ih _ (by simp [hl]))
  exact fun l => key _ l rfl

/-- The mask of an operation: its own edges, and theirs. -/
theorem masks_spec : ∀ (ops : List Oper), (masks ops).length = ops.length ∧ ∀ (i : Nat) (o : Oper), ops[i]? = some o → ∀ k, ((masks ops).getD i 0).testBit k = true →
    ∃ e ∈ o.after.toList, Region.binds .any e = true ∧ (k = e.on ∨ (e.on < i ∧ ((masks ops).getD e.on 0).testBit k = true)) := by
  intro ops
  -- by the list from its end
  have snoc : ∀ (l : List Oper) (o : Oper), masks (l ++ [o]) = masks l ++ [o.after.toList.foldl (fun s e => if Region.binds .any e then s ||| (2 ^ e.on) ||| (masks l).getD e.on 0 else s) 0] := by
    intro l o
    unfold masks
    rw [List.foldl_append]
    rfl
  refine snoc_ind (p := fun ops => (masks ops).length = ops.length ∧ ∀ (i : Nat) (o : Oper), ops[i]? = some o → ∀ k, ((masks ops).getD i 0).testBit k = true →
    ∃ e ∈ o.after.toList, Region.binds .any e = true ∧ (k = e.on ∨ (e.on < i ∧ ((masks ops).getD e.on 0).testBit k = true))) ?_ ?_ ops
  · exact ⟨rfl, fun i o h => by simp at h⟩
  · intro l o ih
    obtain ⟨ih1, ih2⟩ := ih
    rw [snoc]
    refine ⟨by simp [ih1], fun i p hp k hk => ?_⟩
    have hget : ∀ j, j < l.length → (masks l ++ [o.after.toList.foldl (fun s e => if Region.binds .any e then s ||| (2 ^ e.on) ||| (masks l).getD e.on 0 else s) 0]).getD j 0 = (masks l).getD j 0 := by
      intro j hj
      simp only [List.getD_eq_getElem?_getD]
      rw [List.getElem?_append_left (by omega)]
    by_cases hi : i < l.length
    · rw [List.getElem?_append_left hi] at hp
      rw [hget i hi] at hk
      obtain ⟨e, h1, h2, h3⟩ := ih2 i p hp k hk
      refine ⟨e, h1, h2, h3.imp id fun ⟨h4, h5⟩ => ⟨h4, ?_⟩⟩
      rw [hget _ (by omega)]
      exact h5
    · have h1 := (List.getElem?_eq_some_iff.1 hp).1
      simp at h1
      have hil : i = l.length := by omega
      subst hil
      simp at hp
      subst hp
      have hk' : (o.after.toList.foldl (fun s e => if Region.binds .any e then s ||| (2 ^ e.on) ||| (masks l).getD e.on 0 else s) 0).testBit k = true := by
        simpa [List.getD_eq_getElem?_getD, ← ih1] using hk
      have hk2 : (o.after.toList.foldl (fun s e => if Region.binds .any e then s ||| ((2 ^ e.on) ||| (masks l).getD e.on 0) else s) 0).testBit k = true := by
        have : (fun (s : Nat) (e : Edge) => if Region.binds .any e then s ||| (2 ^ e.on) ||| (masks l).getD e.on 0 else s) = fun s e => if Region.binds .any e then s ||| ((2 ^ e.on) ||| (masks l).getD e.on 0) else s := by
          funext s e
          rw [Nat.or_assoc]
        rw [← this]; exact hk'
      rw [foldl_or (fun e => (2 ^ e.on) ||| (masks l).getD e.on 0) (fun e => Region.binds .any e)] at hk2
      rcases hk2 with h2 | ⟨e, h3, h4, h5⟩
      · simp at h2
      · refine ⟨e, h3, h4, ?_⟩
        rw [Nat.testBit_or, Bool.or_eq_true] at h5
        rcases h5 with h5 | h5
        · rw [Nat.testBit_two_pow] at h5
          exact .inl (by have h6 : e.on = k := by simpa using h5
                         exact h6.symm)
        · have hlt : e.on < l.length := by
            by_cases hh : e.on < l.length
            · exact hh
            · rw [List.getD_eq_getElem?_getD, List.getElem?_eq_none (by omega)] at h5
              simp at h5
          exact .inr ⟨hlt, by rw [hget _ hlt]; exact h5⟩

/-- A set that holds, of each of its operations, what that one waits for: it holds all that is in the masks. -/
theorem closed_masks {ops : List Oper} {D : Nat → Bool} (hD : ∀ i o, ops[i]? = some o → D i = true → ∀ e ∈ o.after.toList, Region.binds .any e = true → D e.on = true) :
    ∀ (i : Nat) (o : Oper), ops[i]? = some o → (∀ e ∈ o.after.toList, Region.binds .any e = true → D e.on = true) → ∀ k, ((masks ops).getD i 0).testBit k = true → D k = true := by
  intro i
  induction i using Nat.strongRecOn with
  | _ i ih =>
    intro o ho he k hk
    obtain ⟨e, h1, h2, h3⟩ := (masks_spec ops).2 i o ho k hk
    have hDe := he e h1 h2
    rcases h3 with rfl | ⟨h4, h5⟩
    · exact hDe
    · have hlt : e.on < ops.length := by
        have := (List.getElem?_eq_some_iff.1 ho).1
        omega
      have hx : ops[e.on]? = some ops[e.on] := List.getElem?_eq_getElem hlt
      exact ih e.on h4 _ hx (hD e.on _ hx hDe) k h5

end Go.Proofs.Ytfbjpenbpbpcaaa.Den

/-
  A verified evaluator, ninth part: a region that draws its order is sound.
-/
namespace Go.Proofs.Ytfbjpenbpbpcaaa.Den
open Go

theorem mem_zip {α : Type} {l : List α} {x : α} {i : Nat} : (x, i) ∈ l.zipIdx ↔ l[i]? = some x := List.mk_mem_zipIdx_iff_getElem?

theorem statOk_spec {ops : List Oper} {ms : List Nat} (h : statOk ops ms = true) :
    (∀ (i : Nat) (o : Oper), ops[i]? = some o → noSel o = true ∧ ∀ e ∈ o.after.toList, Region.binds .any e = true → e.on < i) ∧
    (∀ (i j : Nat) (o p : Oper), ops[i]? = some o → ops[j]? = some p → i < j →
      (∀ d, p.dst = some d → d ∈ looks ops o ∨ o.dst = some d → (ms.getD j 0).testBit i = true) ∧ (∀ d, o.dst = some d → d ∈ looks ops p → (ms.getD j 0).testBit i = true)) := by
  unfold statOk at h
  rw [Bool.and_eq_true] at h
  obtain ⟨h1, h2⟩ := h
  refine ⟨fun i o ho => ?_, fun i j o p ho hp hij => ?_⟩
  · have := List.all_eq_true.1 h1 (o, i) (mem_zip.2 ho)
    simp only [Bool.and_eq_true] at this
    refine ⟨this.1, fun e he hb => ?_⟩
    have h3 := List.all_eq_true.1 this.2 e he
    rw [hb] at h3
    simpa using h3
  · have := List.all_eq_true.1 (List.all_eq_true.1 h2 (o, i) (mem_zip.2 ho)) (p, j) (mem_zip.2 hp)
    simp only [Bool.or_eq_true, decide_eq_true_eq, Bool.and_eq_true] at this
    rcases this with h3 | ⟨h3, h4⟩
    · omega
    · refine ⟨fun d hd hl => ?_, fun d hd hl => ?_⟩
      · rw [hd] at h3
        simp only [Bool.or_eq_true, Bool.and_eq_true, Bool.not_eq_true', List.contains_eq_mem, decide_eq_false_iff_not, bne_iff_ne, ne_eq] at h3
        rcases h3 with ⟨h5, h6⟩ | h5
        · rcases hl with hl | hl
          · exact (h5 hl).elim
          · exact (h6 hl).elim
        · exact h5
      · rw [hd] at h4
        simp only [Bool.or_eq_true, Bool.not_eq_true', List.contains_eq_mem, decide_eq_false_iff_not] at h4
        rcases h4 with h5 | h5
        · exact (h5 hl).elim
        · exact h5

theorem recAt_mem {rs : List Rec} {i : Nat} (h : i < rs.length) : rs[i]? = some (recAt rs i) := by
  simp [recAt, List.getElem?_eq_getElem h]

theorem dynOk_spec {ms : List Nat} {rs : List Rec} (h : dynOk ms rs = true) (i j : Nat) (hi : i < rs.length) (hj : j < rs.length) (hw : (recAt rs i).eff = .write) (hr : (recAt rs j).eff ≠ .pure) (hij : i ≠ j) :
    (ms.getD (max i j) 0).testBit (min i j) = true := by
  unfold dynOk at h
  have h1 := List.all_eq_true.1 h (recAt rs i, i) (mem_zip.2 (recAt_mem hi))
  simp only [hw] at h1
  have h2 := List.all_eq_true.1 h1 (recAt rs j, j) (mem_zip.2 (recAt_mem hj))
  simp only at h2
  cases he : (recAt rs j).eff with
  | pure => exact (hr he).elim
  | read => simpa [hij] using h2
  | write => simpa [hij] using h2

theorem splice_self {cells : List Value} {off m : Nat} (h : off + m ≤ cells.length) : splice cells off ((cells.drop off).take m) = cells := by
  unfold splice
  have hl : ((cells.drop off).take m).length = m := by simp; omega
  rw [hl]
  have h1 : (cells.drop off).take m ++ cells.drop (off + m) = cells.drop off := by
    rw [← List.drop_drop]
    exact List.take_append_drop m (cells.drop off)
  rw [h1, List.take_append_drop]

theorem cells_one {x : Value} (h : oneCell x = true) : x.cells.toList = [x] := by cases x <;> first | rfl | simp [oneCell] at h

theorem storeV_self {P : Program} {H H' : Heap} {t : TypeId} {a : Addr} {v : Value} (hl : loadV P H t a = some v) (hs : storeV P H t a v = some H') : H' = H := by
  -- the row that was read
  have hcs : ∃ m, rd H a m = some v.cells.toList := by
    unfold loadV at hl
    split at hl
    · rename_i m _ _
      cases hr : rd H a m with
      | none => simp [hr] at hl
      | some cs => simp [hr] at hl; subst hl; exact ⟨m, by simp [hr, Value.cells]⟩
    · split at hl
      · rename_i x hr
        split at hl
        · rename_i hone
          injection hl with hl
          subst hl
          exact ⟨1, by rw [hr, cells_one hone]⟩
        · simp at hl
      · simp at hl
    · simp at hl
  obtain ⟨m, hr⟩ := hcs
  unfold storeV at hs
  split at hs
  · split at hs
    · unfold wr at hs
      simp only [forceL_eq] at hs
      split at hs
      · rename_i b hsp hb
        split at hs
        · injection hs with hs
          unfold rd at hr
          rw [hsp, hb] at hr
          simp only at hr
          split at hr
          · rename_i hle
            injection hr with hr
            rw [← hr, splice_self hle] at hs
            rw [← hs]
            refine List.ext_getElem? fun i => ?_
            rw [List.getElem?_set]
            split
            · rename_i hi
              subst hi
              have hlt := (List.getElem?_eq_some_iff.1 hb).1
              rw [if_pos hlt, hb]
            · rfl
          · simp at hr
        · simp at hs
      · simp at hs
    · simp at hs
  · simp at hs

end Go.Proofs.Ytfbjpenbpbpcaaa.Den

/-
  A verified evaluator, tenth part: a region that draws its order, joined.
-/
namespace Go.Proofs.Ytfbjpenbpbpcaaa.Den
open Go

theorem selfLoad_spec {ops : List Oper} {o : Oper} {j : Nat} (h : selfLoad ops o = some j) :
    ∃ (t : TypeId) (x y : Tmp) (p : Oper), o.op = .store t (.tmp x) (.tmp y) ∧ ops[j]? = some p ∧ p.op = .load t (.tmp x) ∧ p.guard = none ∧ p.dst = some y ∧
      ∀ (k : Nat) (q : Oper), ops[k]? = some q → (k = j ∨ q.dst ≠ some y) ∧ q.dst ≠ some x := by
  unfold selfLoad at h
  split at h
  · rename_i t x y hop
    split at h
    · rename_i j' hf
      split at h
      · rename_i hall
        injection h with h
        subst h
        obtain ⟨⟨p, k⟩, hmem, hp⟩ := List.exists_of_findSome?_eq_some hf
        simp only at hp
        split at hp
        · rename_i u z d hpo hpg hpd
          split at hp
          · rename_i hc
            simp only [Bool.and_eq_true, decide_eq_true_eq] at hc
            injection hp with hp
            subst hp
            obtain ⟨⟨rfl, rfl⟩, rfl⟩ := hc
            refine ⟨u, z, d, p, hop, mem_zip.1 hmem, hpo, hpg, hpd, fun q r hq => ?_⟩
            have := List.all_eq_true.1 hall (r, q) (mem_zip.2 hq)
            simpa using this
          · simp at hp
        · simp at hp
      · simp at h
    · simp at h
  · simp at h

section
variable {P : Program} {X : Ext} {C : Oracle} {nt : Nat} {ops : List Oper} {F0 : Slots} {H0 : Heap} {lo0 : Nat} {rs : List Rec}

theorem heap_same (ok : ProgOk P) (hX : XSound P X) (hC : Sound P C) (hsel : ∀ (i : Nat) (o : Oper), ops[i]? = some o → noSel o = true) (hrun : RunOk P X C nt ops F0 H0 lo0 rs) {k : Nat} (hk : k < ops.length)
    (he : (recAt rs k).eff ≠ .write) : heapAt H0 rs (k + 1) = heapAt H0 rs k := by
  have hx : ops[k]? = some ops[k] := List.getElem?_eq_getElem hk
  show (recAt rs k).H = _
  rcases hrun.step k _ hx with ⟨_, r, hr, h1 | ⟨j, _, _, _, _, h1⟩⟩ | ⟨_, h1⟩
  · have hs := evOp_sound ok hX hC (hsel k _ hx) hr
    rw [h1] at he ⊢
    cases hre : r.eff with
    | pure => exact (hs.pure hre).1
    | read => exact (hs.read hre).1
    | write => exact (he hre).elim
  · rw [h1]
  · rw [h1]

theorem lo_le (ok : ProgOk P) (hX : XSound P X) (hC : Sound P C) (hsel : ∀ (i : Nat) (o : Oper), ops[i]? = some o → noSel o = true) (hrun : RunOk P X C nt ops F0 H0 lo0 rs) {k : Nat} (hk : k < ops.length) : loAt lo0 rs (k + 1) ≤ loAt lo0 rs k := by
  have hx : ops[k]? = some ops[k] := List.getElem?_eq_getElem hk
  show (recAt rs k).lo ≤ _
  have key : ∀ r, evOp P X C true (slotsAt nt F0 ops rs k) (heapAt H0 rs k) (loAt lo0 rs k) ops[k] = some r → r.lo ≤ loAt lo0 rs k := by
    intro r hr
    have hs := evOp_sound ok hX hC (hsel k _ hx) hr
    cases hre : r.eff with
    | pure => rw [(hs.pure hre).2.1]; exact Nat.le_refl _
    | read => rw [(hs.read hre).2.1]; exact Nat.le_refl _
    | write =>
      obtain ⟨l, h1, _⟩ := hs.write hre
      rw [h1]
      exact Nat.min_le_left _ _
  rcases hrun.step k _ hx with ⟨_, r, hr, h1 | ⟨j, _, _, _, _, h1⟩⟩ | ⟨_, h1⟩
  · rw [h1]; exact key r hr
  · rw [h1]; exact key r hr
  · rw [h1]; exact Nat.le_refl _

theorem lo_all (ok : ProgOk P) (hX : XSound P X) (hC : Sound P C) (hsel : ∀ (i : Nat) (o : Oper), ops[i]? = some o → noSel o = true) (hrun : RunOk P X C nt ops F0 H0 lo0 rs) : ∀ n, n ≤ ops.length → ∀ k, k ≤ n → loAt lo0 rs n ≤ loAt lo0 rs k := by
  intro n
  induction n with
  | zero => intro _ k hk; have : k = 0 := by omega
            subst this; exact Nat.le_refl _
  | succ n ih =>
    intro hn k hk
    by_cases hkn : k = n + 1
    · subst hkn; exact Nat.le_refl _
    · exact Nat.le_trans (lo_le ok hX hC hsel hrun (by omega)) (ih (by omega) k (by omega))

theorem heap_cur (ok : ProgOk P) (hX : XSound P X) (hC : Sound P C) (hsel : ∀ (i : Nat) (o : Oper), ops[i]? = some o → noSel o = true) (hrun : RunOk P X C nt ops F0 H0 lo0 rs) : ∀ n, n ≤ ops.length → heapAt H0 rs n = curH H0 rs (fun _ => true) n := by
  intro n
  induction n with
  | zero => intro _; rfl
  | succ n ih =>
    intro hn
    simp only [curH, true_and]
    split
    · rfl
    · rename_i he
      rw [heap_same ok hX hC hsel hrun (by omega) he, ih (by omega)]

theorem heap_between (ok : ProgOk P) (hX : XSound P X) (hC : Sound P C) (hsel : ∀ (i : Nat) (o : Oper), ops[i]? = some o → noSel o = true) (hrun : RunOk P X C nt ops F0 H0 lo0 rs) (j : Nat) : ∀ i, j ≤ i → i ≤ ops.length →
    (∀ k, j ≤ k → k < i → (recAt rs k).eff ≠ .write) → heapAt H0 rs i = heapAt H0 rs j := by
  intro i
  induction i with
  | zero => intro h _ _; have : j = 0 := by omega
            subst this; rfl
  | succ i ih =>
    intro h1 h2 h3
    by_cases hj : j = i + 1
    · subst hj; rfl
    · rw [heap_same ok hX hC hsel hrun (by omega) (h3 i (by omega) (by omega))]
      exact ih (by omega) (by omega) fun k a b => h3 k a (by omega)

/-- A store of what was loaded leaves the heap as it is. -/
theorem self_same (ok : ProgOk P) (hX : XSound P X) (hC : Sound P C) (hsel : ∀ (i : Nat) (o : Oper), ops[i]? = some o → noSel o = true) (hrun : RunOk P X C nt ops F0 H0 lo0 rs) (hkeys : ∀ t v, at? t F0 = some v → t < nt)
    {i j : Nat} {o : Oper} {r : Out} (ho : ops[i]? = some o) (hr : evOp P X C true (slotsAt nt F0 ops rs i) (heapAt H0 rs i) (loAt lo0 rs i) o = some r) (hself : selfLoad ops o = some j) (hji : j < i)
    (hno : ∀ k, j ≤ k → k < i → (recAt rs k).eff ≠ .write) : r.H = heapAt H0 rs i := by
  obtain ⟨t, x, y, p, hop, hp, hpo, hpg, hpd, hw⟩ := selfLoad_spec hself
  have hil : i < ops.length := (List.getElem?_eq_some_iff.1 ho).1
  have hdst : ∀ k d, dstAt ops k = some d → ∃ q, ops[k]? = some q ∧ q.dst = some d := by
    intro k d hd
    unfold dstAt at hd
    cases hq : ops[k]? with
    | none => simp [hq] at hd
    | some q => exact ⟨q, rfl, by simpa [hq] using hd⟩
  -- the address' slot is never written
  have hxcur : ∀ m, cur nt F0 ops rs (fun _ => true) x m = at? x F0 := by
    intro m
    induction m with
    | zero => rfl
    | succ m ih =>
      simp only [cur]
      rw [if_neg, ih]
      rintro ⟨_, hd, _⟩
      obtain ⟨q, hq1, hq2⟩ := hdst m x hd
      exact (hw m q hq1).2 hq2
  have hxi : at? x (slotsAt nt F0 ops rs i) = at? x (slotsAt nt F0 ops rs j) := by rw [cur_all, cur_all, hxcur, hxcur]
  -- the value's slot is written by the load alone
  have hdj : dstAt ops j = some y := by simp [dstAt, hp, hpd]
  have hycur : ∀ m, j < m → y < nt → cur nt F0 ops rs (fun _ => true) y m = some (recAt rs j).v := by
    intro m
    induction m with
    | zero => intro h; omega
    | succ m ih =>
      intro hjm hy
      simp only [cur]
      by_cases hm : m = j
      · subst hm
        rw [if_pos ⟨by simp, hdj, hy⟩]
      · rw [if_neg, ih (by omega) hy]
        rintro ⟨_, hd, _⟩
        obtain ⟨q, hq1, hq2⟩ := hdst m y hd
        rcases (hw m q hq1).1 with h | h
        · exact hm h
        · exact h hq2
  have hyge : ∀ m, ¬ y < nt → cur nt F0 ops rs (fun _ => true) y m = none := by
    intro m hy
    induction m with
    | zero =>
      simp only [cur]
      cases hh : at? y F0 with
      | none => rfl
      | some v => exact (hy (hkeys y v hh)).elim
    | succ m ih =>
      simp only [cur]
      rw [if_neg (fun h => hy h.2.2), ih]
  -- the load
  have hwj : wantedF ops (slotsAt nt F0 ops rs j) p = some true := by unfold wantedF; rw [hpg]
  rcases hrun.step j p hp with ⟨_, rj, hrj, h1⟩ | ⟨h1, _⟩
  case inr => rw [hwj] at h1; simp at h1
  obtain ⟨pd, pop, pt, ppos, pa, pg⟩ := p
  simp only at hpo
  subst hpo
  simp only [evOp, ev] at hrj
  split at hrj
  case h_2 => simp at hrj
  rename_i a hxa
  cases hl : loadV P (heapAt H0 rs j) t a with
  | none => simp [hl] at hrj
  | some vj =>
    simp [hl] at hrj
    subst hrj
    have hrec : (recAt rs j).v = vj := by
      rcases h1 with h1 | ⟨_, h2, _⟩
      · rw [h1]
      · simp at h2
    -- the store
    obtain ⟨od, oop, ot, opos, oa, og⟩ := o
    simp only at hop
    subst hop
    simp only [evOp, ev] at hr
    split at hr
    case h_2 => simp at hr
    rename_i a2 v2 hxa2 hy2
    cases hst : storeV P (heapAt H0 rs i) t a2 v2 with
    | none => simp [hst] at hr
    | some H' =>
      simp [hst] at hr
      subst hr
      rw [hxi, hxa] at hxa2
      simp only [Option.some.injEq, Value.pointer.injEq] at hxa2
      subst hxa2
      rw [cur_all] at hy2
      have hyl : y < nt := by
        by_cases hh : y < nt
        · exact hh
        · rw [hyge i hh] at hy2; simp at hy2
      rw [hycur i hji hyl, hrec] at hy2
      injection hy2 with hy2
      subst hy2
      have hh := heap_between ok hX hC hsel hrun j i (by omega) (by omega) hno
      simp only
      rw [hh] at hst ⊢
      exact storeV_self hl hst
end

end Go.Proofs.Ytfbjpenbpbpcaaa.Den

/-
  A verified evaluator, eleventh part: a region that draws its order is sound, whatever order is drawn.
-/
namespace Go.Proofs.Ytfbjpenbpbpcaaa.Den
open Go

/-- How many operations have not been run. -/
def left (n : Nat) (listed : Array Bool) : Nat := ((List.range n).filter fun i => !listed.getD i true).length

theorem getD_set (listed : Array Bool) (i j : Nat) (d : Bool) (h : i < listed.size) : (listed.setIfInBounds i true).getD j d = if i = j then true else listed.getD j d := by
  simp only [Array.getD_eq_getD_getElem?, Array.getElem?_setIfInBounds]
  by_cases hij : i = j
  · subst hij; simp [h]
  · simp [hij]

theorem left_set {n : Nat} {listed : Array Bool} {i : Nat} (hi : i < n) (hs : listed.size = n) (hu : listed.getD i true = false) : left n (listed.setIfInBounds i true) < left n listed := by
  unfold left
  have e : (List.range n).filter (fun j => !(listed.setIfInBounds i true).getD j true) = ((List.range n).filter fun j => !listed.getD j true).filter (fun j => !(listed.setIfInBounds i true).getD j true) := by
    rw [List.filter_filter]
    refine List.filter_congr fun j _ => ?_
    rw [getD_set _ _ _ _ (by omega)]
    by_cases hij : i = j
    · simp [hij]
    · simp [hij]
  rw [e]
  refine List.length_filter_lt_length_iff_exists.2 ⟨i, ?_, ?_⟩
  · rw [List.mem_filter]
    exact ⟨by simpa using hi, by simp [hu]⟩
  · rw [getD_set _ _ _ _ (by omega)]
    simp

theorem left_zero {n : Nat} {listed : Array Bool} (h : left n listed = 0) : ∀ i, i < n → listed.getD i true = true := by
  intro i hi
  unfold left at h
  have h1 : (List.range n).filter (fun i => !listed.getD i true) = [] := by simpa using h
  have h2 := List.filter_eq_nil_iff.1 h1 i (by simpa using hi)
  simpa using h2

theorem mem_looks_operand {ops : List Oper} {o : Oper} {t : Tmp} (h : Operand.tmp t ∈ o.op.operands.toList) : t ∈ looks ops o := by
  unfold looks
  rw [List.mem_append]
  exact .inl (List.mem_filterMap.2 ⟨_, h, rfl⟩)

theorem mem_looks_guard {ops : List Oper} {o : Oper} {j : Nat} {w : Bool} {d : Tmp} (hg : o.guard = some (j, w)) (hd : (ops[j]?).bind (·.dst) = some d) : d ∈ looks ops o := by
  unfold looks
  rw [List.mem_append, hg]
  exact .inr (by show d ∈ ((ops[j]?).bind (·.dst)).toList; rw [hd]; simp)

variable {ds : List Deferred}

set_option maxHeartbeats 1000000 in
theorem evDraw_any {P : Program} {X : Ext} {C : Oracle} (ok : ProgOk P) (hX : XSound P X) (hC : Sound P C) {nt : Nat} {ops : Array Oper} (hst : statOk ops.toList (masks ops.toList) = true)
    {ρ0 : Rho} {H00 : Heap} {w0 : World} {F : Slots} {H : Heap} {lo : Nat} {F' : Slots} {H' : Heap} {lo' : Nat} {Q : Exit → Act → World → Prop}
    (h : evDraw P X C nt ops.toList F H lo = some (F', H', lo')) (hQ : ∀ ρ' a' w', Rel ρ0 H00 w0 ρ' H' lo' w' → FR ds ρ' nt F' a' → Q .normal a' w')
    {ρ : Rho} {a : Act} {w : World} (hR : Rel ρ0 H00 w0 ρ H lo w) (hF : FR ds ρ nt F a) : wpAny P .any ops Q ops.size (Array.replicate ops.size false) a { w with drawn := w.drawn + 1 } := by
  obtain ⟨s1, s2⟩ := statOk_spec hst
  unfold evDraw at h
  split at h
  case h_2 => simp at h
  rename_i rs Ff hrec
  split at h
  case h_2 => simp at h
  rename_i hdyn
  obtain ⟨hlen, hFf, hstep⟩ := evRecs_spec (F0 := F) (H0 := H) (lo0 := lo) rs ops.toList 0 0 F H lo rs rfl (Nat.zero_le _) rfl (Nat.zero_le _) rfl rfl rfl (fun k hk => by omega) hrec
  have hrun : RunOk P X C nt ops.toList F H lo rs := ⟨fun i o ho => hstep i o (Nat.zero_le _) ho⟩
  have hsel : ∀ (i : Nat) (o : Oper), ops.toList[i]? = some o → noSel o = true := fun i o ho => (s1 i o ho).1
  have hkeys : ∀ t v, at? t F = some v → t < nt := fun t v hv => by
    obtain ⟨v', x, _⟩ := hF.slot t v hv
    rw [← hF.size]
    exact (Array.getElem?_eq_some_iff.1 x).1
  generalize hn : ops.toList.length = n at hlen hFf
  have hsz : ops.size = n := by simpa using hn
  -- the end of the run in the text's order
  have hend : F' = slotsAt nt F ops.toList rs n ∧ H' = heapAt H rs n ∧ lo' = loAt lo rs n := by
    split at h
    · rename_i r hr
      simp only [Option.some.injEq, Prod.mk.injEq] at h
      obtain ⟨rfl, rfl, rfl⟩ := h
      rw [List.getLast?_eq_getElem?, hlen] at hr
      have hpos : 0 < n := by
        have := (List.getElem?_eq_some_iff.1 hr).1
        omega
      obtain ⟨m, rfl⟩ : ∃ m, n = m + 1 := ⟨n - 1, by omega⟩
      have hrec : recAt rs m = r := by simp [recAt, show rs[m]? = some r from hr]
      exact ⟨hFf, by simp only [heapAt]; rw [hrec], by simp only [loAt]; rw [hrec]⟩
    · rename_i hr
      simp only [Option.some.injEq, Prod.mk.injEq] at h
      obtain ⟨rfl, rfl, rfl⟩ := h
      have h0 : n = 0 := by
        have : rs = [] := by simpa using hr
        rw [this] at hlen
        simpa using hlen.symm
      subst h0
      exact ⟨hFf, rfl, rfl⟩
  obtain ⟨e1, e2, e3⟩ := hend
  subst e1 e2 e3
  rw [hsz]
  -- the invariant
  have key : ∀ (fuel : Nat) (listed : Array Bool) (ρ : Rho) (a : Act) (w : World), listed.size = n → left n listed ≤ fuel →
      (∀ i o, ops.toList[i]? = some o → listed.getD i false = true → ∀ e ∈ o.after.toList, Region.binds .any e = true → listed.getD e.on false = true) →
      a.defers = ds → a.tmps.size = nt → (∀ t v, cur nt F ops.toList rs (fun i => listed.getD i false) t n = some v → ∃ v', a.tmps[t]? = some v' ∧ VR ρ v v') →
      Rel ρ0 H00 w0 ρ (curH H rs (fun i => listed.getD i false) n) (loAt lo rs n) w → wpAny P .any ops Q fuel listed a w := by
    -- all have been run
    have fin : ∀ (listed : Array Bool) (ρ : Rho) (a : Act) (w : World), listed.size = n → (∀ i, i < n → listed.getD i true = true) →
        a.defers = ds → a.tmps.size = nt → (∀ t v, cur nt F ops.toList rs (fun i => listed.getD i false) t n = some v → ∃ v', a.tmps[t]? = some v' ∧ VR ρ v v') →
        Rel ρ0 H00 w0 ρ (curH H rs (fun i => listed.getD i false) n) (loAt lo rs n) w → Q .normal a w := by
      intro listed ρ a w hls hall hd hts hsl hrel
      have hall' : ∀ i, i < n → listed.getD i false = true := by
        intro i hi
        have := hall i hi
        simpa [Array.getD_eq_getD_getElem?, Array.getElem?_eq_getElem (show i < listed.size by omega)] using this
      refine hQ ρ a w ?_ ⟨hd, hts, fun t v hv => hsl t v ?_⟩
      · rw [heap_cur ok hX hC hsel hrun n (by omega)]
        rw [curH_eq (rs := rs) (fun i => listed.getD i false) n n (Nat.le_refl _) (fun j hj _ => by simp [hall' j hj, hj])] at hrel
        exact hrel
      · rw [cur_eq (fun i => listed.getD i false) t n n (Nat.le_refl _) (fun j hj _ => by simp [hall' j hj, hj]), ← cur_all]
        exact hv
    -- if none is ready, all have been run
    have none_ready : ∀ (listed : Array Bool), listed.size = n → Region.ready .any ops listed = [] → ∀ i, i < n → listed.getD i true = true := by
      intro listed hls hre i
      induction i using Nat.strongRecOn with
      | _ i ih =>
        intro hi
        cases hl : listed.getD i true with
        | true => rfl
        | false =>
          have hx : ops.toList[i]? = some (ops.toList[i]'(by omega)) := List.getElem?_eq_getElem _
          have hmem : i ∈ Region.ready .any ops listed := by
            rw [mem_ready]
            have hx' : ops[i]? = some (ops.toList[i]'(by omega)) := by rw [← hx, Array.getElem?_toList]
            refine ⟨hl, _, hx', fun e he hb => ?_⟩
            have hlt := (s1 i _ hx).2 e (by simpa using he) hb
            have := ih e.on hlt (by omega)
            simpa [Array.getD_eq_getD_getElem?, Array.getElem?_eq_getElem (show e.on < listed.size by omega)] using this
          rw [hre] at hmem
          simp at hmem
    intro fuel
    induction fuel with
    | zero =>
      intro listed ρ a w hls hleft hcl hd hts hsl hrel
      have hall := left_zero (n := n) (listed := listed) (by omega)
      refine ⟨?_, fin listed ρ a w hls hall hd hts hsl hrel⟩
      cases hre : Region.ready .any ops listed with
      | nil => rfl
      | cons i l =>
        have hmem : i ∈ Region.ready .any ops listed := by rw [hre]; simp
        rw [mem_ready] at hmem
        obtain ⟨h2, o, ho, _⟩ := hmem
        have := (Array.getElem?_eq_some_iff.1 ho).1
        rw [hall i (by omega)] at h2
        simp at h2
    | succ fuel ih =>
      intro listed ρ a w hls hleft hcl hd hts hsl hrel
      refine ⟨fun hre => fin listed ρ a w hls (none_ready listed hls hre) hd hts hsl hrel, fun i hi => ?_⟩
      rw [mem_ready] at hi
      obtain ⟨hun, o, ho, hpre⟩ := hi
      have hin := (Array.getElem?_eq_some_iff.1 ho).1
      have hin' : i < n := by omega
      have hol : ops.toList[i]? = some o := by simpa using ho
      have hun' : listed.getD i false = false := by
        simpa [Array.getD_eq_getD_getElem?, Array.getElem?_eq_getElem (show i < listed.size by omega)] using hun
      have hpre' : ∀ e ∈ o.after.toList, Region.binds .any e = true → listed.getD e.on false = true := fun e he hb => hpre e (by simpa using he) hb
      have hmask : ∀ k, ((masks ops.toList).getD i 0).testBit k = true → listed.getD k false = true := closed_masks hcl i o hol hpre'
      have hafter : ∀ j, i < j → j < n → ((masks ops.toList).getD j 0).testBit i = true → listed.getD j false = false := by
        intro j hij hj hm
        cases hl : listed.getD j false with
        | false => rfl
        | true =>
          have hx : ops.toList[j]? = some (ops.toList[j]'(by omega)) := List.getElem?_eq_getElem _
          have := closed_masks hcl j _ hx (hcl j _ hx hl) i hm
          rw [hun'] at this
          simp at this
      -- the writers of a slot that this operation names
      have hdst : ∀ k d, dstAt ops.toList k = some d → ∃ q, ops.toList[k]? = some q ∧ q.dst = some d := by
        intro k d hd
        unfold dstAt at hd
        cases hq : ops.toList[k]? with
        | none => simp [hq] at hd
        | some q => exact ⟨q, rfl, by simpa [hq] using hd⟩
      have hwr : ∀ t, (t ∈ looks ops.toList o ∨ o.dst = some t) → ∀ j, j < n → dstAt ops.toList j = some t → (listed.getD j false = true ↔ j < i) := by
        intro t ht j hj hdj
        obtain ⟨q, hq, hqd⟩ := hdst j t hdj
        rcases Nat.lt_trichotomy j i with hlt | heq | hgt
        · -- ahead of it
          have hm : ((masks ops.toList).getD i 0).testBit j = true := by
            rcases ht with ht | ht
            · exact (s2 j i q o hq hol hlt).2 t hqd ht
            · exact (s2 j i q o hq hol hlt).1 t ht (.inr hqd)
          exact ⟨fun _ => hlt, fun _ => hmask j hm⟩
        · subst heq
          rw [hun']
          simp
        · have hm : ((masks ops.toList).getD j 0).testBit i = true := by
            rcases ht with ht | ht
            · exact (s2 i j o q hol hq hgt).1 t hqd (.inl ht)
            · exact (s2 i j o q hol hq hgt).1 t hqd (.inr ht)
          rw [hafter j hgt hj hm]
          constructor
          · intro h; simp at h
          · intro h; omega
      have hslot : ∀ t, t ∈ looks ops.toList o → ∀ v, at? t (slotsAt nt F ops.toList rs i) = some v → ∃ v', a.tmps[t]? = some v' ∧ VR ρ v v' := by
        intro t ht v hv
        refine hsl t v ?_
        rw [cur_eq (fun j => listed.getD j false) t i n (by omega) (hwr t (.inl ht)), ← cur_all]
        exact hv
      have hopR : OpR ρ (slotsAt nt F ops.toList rs i) a o.op.operands.toList := by
        intro x hx v hv
        refine eval_slot (fun t u hxt hu => hslot t ?_ u hu) hv
        subst hxt
        exact mem_looks_operand hx
      have hwant : ∀ b, wantedF ops.toList (slotsAt nt F ops.toList rs i) o = some b → Region.wanted o (yielded ops a.tmps) = b := fun b hb =>
        wanted_of (fun j w d v hg hdd hv => hslot d (mem_looks_guard hg (by simpa using hdd)) v hv) hb
      -- the heap, for an operation that is not pure
      have hheap : (recAt rs i).eff ≠ .pure → curH H rs (fun j => listed.getD j false) n = heapAt H rs i := by
        intro hnp
        rw [heap_cur ok hX hC hsel hrun i (by omega)]
        refine curH_eq _ i n (by omega) fun j hj hwj => ?_
        rcases Nat.lt_trichotomy j i with hlt | heq | hgt
        · have hm := dynOk_spec hdyn j i (by omega) (by omega) hwj hnp (by omega)
          rw [show max j i = i by omega, show min j i = j by omega] at hm
          exact ⟨fun _ => hlt, fun _ => hmask j hm⟩
        · subst heq
          rw [hun']
          simp
        · have hm := dynOk_spec hdyn j i (by omega) (by omega) hwj hnp (by omega)
          rw [show max j i = j by omega, show min j i = i by omega] at hm
          rw [hafter j hgt hj hm]
          constructor
          · intro h; simp at h
          · intro h; omega
      -- what comes behind it
      have hnext : ∀ (ρ' : Rho) (v' : Value) (w' : World), ρ <+: ρ' → VR ρ' (recAt rs i).v v' →
          Rel ρ0 H00 w0 ρ' (if (recAt rs i).eff = .write then (recAt rs i).H else curH H rs (fun j => listed.getD j false) n) (loAt lo rs n) w' →
          wpAny P .any ops Q fuel (listed.setIfInBounds i true) (a.put o.dst v') w' := by
        intro ρ' v' w' hp hv hrel'
        have hDi : ∀ j, (listed.setIfInBounds i true).getD j false = if i = j then true else listed.getD j false := fun j => getD_set _ _ _ _ (by omega)
        refine ih _ ρ' _ w' (by simp [hls]) ?_ ?_ (by rw [put_defers, hd]) (by rw [put_size, hts]) ?_ ?_
        · have := left_set hin' hls hun
          omega
        · intro j p hp' hlj e he hb
          rw [hDi] at hlj ⊢
          by_cases hij : i = j
          · subst hij
            rw [hol] at hp'
            injection hp' with hp'
            subst hp'
            rw [hpre' e he hb]
            simp
          · rw [if_neg hij] at hlj
            rw [hcl j p hp' hlj e he hb]
            simp
        · intro t v hcv
          by_cases hdt : o.dst = some t
          · by_cases htn : t < nt
            · rw [cur_eq _ t (i + 1) n (by omega) (fun j hj hdj => by
                rw [hDi]
                by_cases hij : i = j
                · subst hij; simp
                · rw [if_neg hij, hwr t (.inr hdt) j hj hdj]
                  omega)] at hcv
              have hdi : dstAt ops.toList i = some t := by simp [dstAt, ho, hdt]
              simp only [cur] at hcv
              rw [if_pos ⟨trivial, hdi, htn⟩] at hcv
              injection hcv with hcv
              subst hcv
              exact ⟨v', by rw [hdt]; exact put_same a t v' (by rw [hts]; exact htn), hv⟩
            · -- no such slot
              exfalso
              have : ∀ m D, cur nt F ops.toList rs D t m = at? t F := by
                intro m D
                induction m with
                | zero => rfl
                | succ m ihm => simp only [cur]; rw [if_neg (fun h => htn h.2.2), ihm]
              rw [this] at hcv
              exact htn (hkeys t v hcv)
          · have hcv' : cur nt F ops.toList rs (fun j => listed.getD j false) t n = some v := by
              rw [← hcv]
              refine cur_congr _ _ t n fun j hj hdj => ?_
              rw [hDi]
              by_cases hij : i = j
              · subst hij
                obtain ⟨q, hq, hqd⟩ := hdst i t hdj
                rw [hol] at hq
                injection hq with hq
                subst hq
                exact (hdt hqd).elim
              · rw [if_neg hij]
            obtain ⟨u, x, y⟩ := hsl t v hcv'
            exact ⟨u, by rw [put_other a o.dst v' t hdt]; exact x, y.mono hp⟩
        · by_cases hwi : (recAt rs i).eff = .write
          · rw [if_pos hwi] at hrel'
            have : curH H rs (fun j => (listed.setIfInBounds i true).getD j false) n = (recAt rs i).H := by
              rw [curH_eq _ (i + 1) n (by omega) (fun j hj hwj => by
                rw [hDi]
                by_cases hij : i = j
                · subst hij; simp
                · rw [if_neg hij]
                  rcases Nat.lt_trichotomy j i with hlt | heq | hgt
                  · have hm := dynOk_spec hdyn j i (by omega) (by omega) hwj (by rw [hwi]; simp) (by omega)
                    rw [show max j i = i by omega, show min j i = j by omega] at hm
                    exact ⟨fun _ => by omega, fun _ => hmask j hm⟩
                  · exact (hij heq.symm).elim
                  · have hm := dynOk_spec hdyn j i (by omega) (by omega) hwj (by rw [hwi]; simp) (by omega)
                    rw [show max j i = j by omega, show min j i = i by omega] at hm
                    rw [hafter j hgt hj hm]
                    constructor
                    · intro h; simp at h
                    · intro h; omega)]
              simp only [curH]
              rw [if_pos ⟨trivial, hwi⟩]
            rw [this]; exact hrel'
          · rw [if_neg hwi] at hrel'
            have : curH H rs (fun j => (listed.setIfInBounds i true).getD j false) n = curH H rs (fun j => listed.getD j false) n := by
              refine curH_congr _ _ n fun j hj hwj => ?_
              rw [hDi]
              by_cases hij : i = j
              · subst hij; exact (hwi hwj).elim
              · rw [if_neg hij]
            rw [this]; exact hrel'
      -- the operation itself
      unfold wpOp
      rw [ho]
      simp only
      rcases hrun.step i o hol with ⟨hw, r, hr, hcase⟩ | ⟨hw, hskip⟩
      · rw [hwant true hw, if_pos rfl]
        left
        have hop := evOp_sound ok hX hC (hsel i o hol) hr
        have hlo : loAt lo rs n ≤ r.lo := by
          have h1 := lo_all ok hX hC hsel hrun n (by omega) (i + 1) (by omega)
          have h2 : loAt lo rs (i + 1) = r.lo := by
            show (recAt rs i).lo = r.lo
            rcases hcase with hc | ⟨_, _, _, _, _, hc⟩ <;> rw [hc]
          omega
        cases hre : r.eff with
        | pure =>
          obtain ⟨_, _, h3⟩ := hop.pure hre
          have hrec : recAt rs i = ⟨r.v, r.eff, r.H, r.lo⟩ := by
            rcases hcase with hc | ⟨_, hc, _⟩
            · exact hc
            · rw [hre] at hc; simp at hc
          refine h3 ρ a w _ _ hopR fun v' w' hv hq => hnext ρ v' w' (List.prefix_refl _) (by rw [hrec]; exact hv) ?_
          rw [hrec, if_neg (by rw [hre]; simp)]
          have := hrel.trans (Rel.of_quiet hrel.sr hq (loAt lo rs n))
          rwa [Nat.min_self] at this
        | read =>
          obtain ⟨_, _, h3⟩ := hop.read hre
          have hrec : recAt rs i = ⟨r.v, r.eff, r.H, r.lo⟩ := by
            rcases hcase with hc | ⟨_, hc, _⟩
            · exact hc
            · rw [hre] at hc; simp at hc
          have hH := hheap (by rw [hrec, hre]; simp)
          refine h3 ρ a w _ _ hopR (by rw [← hH]; exact hrel.sr) fun v' w' hv hq => hnext ρ v' w' (List.prefix_refl _) (by rw [hrec]; exact hv) ?_
          rw [hrec, if_neg (by rw [hre]; simp)]
          have := hrel.trans (Rel.of_quiet hrel.sr hq (loAt lo rs n))
          rwa [Nat.min_self] at this
        | write =>
          obtain ⟨l, h1, h2⟩ := hop.write hre
          have hnp : (recAt rs i).eff ≠ .pure := by
            rcases hcase with hc | ⟨_, _, _, _, _, hc⟩ <;> rw [hc]
            · rw [hre]; simp
            · simp
          have hH := hheap hnp
          have hll : min (loAt lo rs n) l = loAt lo rs n := by
            have := Nat.min_le_right (loAt lo rs i) l
            omega
          refine h2 ρ a w _ _ hopR (by rw [← hH]; exact hrel.sr) fun ρ' v' w' hv hq => ?_
          rcases hcase with hc | ⟨j, _, hself, hji, hno, hc⟩
          · refine hnext ρ' v' w' hq.pre (by rw [hc]; exact hv) ?_
            rw [hc, if_pos hre]
            rw [hH] at hrel
            have := hrel.trans hq
            rwa [hll] at this
          · refine hnext ρ' v' w' hq.pre (by rw [hc]; exact hv) ?_
            rw [hc, if_neg (by simp)]
            have hsame := self_same ok hX hC hsel hrun hkeys hol hr hself hji hno
            rw [hsame] at hq
            rw [hH] at hrel ⊢
            have := hrel.trans hq
            rwa [hll] at this
      · rw [hwant false hw]
        simp only [Bool.false_eq_true, if_false]
        refine hnext ρ undef w (List.prefix_refl _) (by rw [hskip]; exact pf_self 3 undef rfl) ?_
        rw [hskip, if_neg (by simp)]
        exact hrel
  -- the start
  have hq0 : Quiet w { w with drawn := w.drawn + 1 } := ⟨rfl, rfl, rfl, Nat.le_refl _, fun _ _ => rfl, fun _ => rfl⟩
  have hD0 : ∀ i, (Array.replicate n false).getD i false = false := by
    intro i
    simp only [Array.getD_eq_getD_getElem?]
    by_cases hi : i < n
    · simp [hi]
    · simp [hi]
  refine key n _ ρ a _ (by simp) ?_ ?_ hF.defers hF.size ?_ ?_
  · unfold left
    have := List.length_filter_le (fun i => !(Array.replicate n false).getD i true) (List.range n)
    simpa using this
  · intro i o _ hl
    rw [hD0] at hl
    simp at hl
  · intro t v hv
    have : ∀ m, cur nt F ops.toList rs (fun i => (Array.replicate n false).getD i false) t m = at? t F := by
      intro m
      induction m with
      | zero => rfl
      | succ m ihm => simp only [cur]; rw [if_neg (fun h => by rw [hD0] at h; simp at h), ihm]
    rw [this] at hv
    exact hF.slot t v hv
  · have : ∀ m, curH H rs (fun i => (Array.replicate n false).getD i false) m = H := by
      intro m
      induction m with
      | zero => rfl
      | succ m ihm => simp only [curH]; rw [if_neg (fun h => by rw [hD0] at h; simp at h), ihm]
    rw [this]
    have h1 := hR.trans (Rel.of_quiet hR.sr hq0 lo)
    rw [Nat.min_self] at h1
    exact h1.mono (lo_all ok hX hC hsel hrun n (by omega) 0 (Nat.zero_le _))

theorem evDraw_sound {P : Program} {X : Ext} {C : Oracle} (ok : ProgOk P) (hX : XSound P X) (hC : Sound P C) {nt : Nat} {id : Nat} {ops : Array Oper} (hst : statOk ops.toList (masks ops.toList) = true)
    {ρ0 : Rho} {H00 : Heap} {w0 : World} {F : Slots} {H : Heap} {lo : Nat} {F' : Slots} {H' : Heap} {lo' : Nat} {Q : Exit → Act → World → Prop}
    (h : evDraw P X C nt ops.toList F H lo = some (F', H', lo')) (hQ : ∀ ρ' a' w', Rel ρ0 H00 w0 ρ' H' lo' w' → FR ds ρ' nt F' a' → Q .normal a' w')
    {ρ : Rho} {a : Act} {w : World} (hR : Rel ρ0 H00 w0 ρ H lo w) (hF : FR ds ρ nt F a) : (Code.region id ops true).wp P Q a w :=
  wp_region_any ok.mixed (evDraw_any ok hX hC hst h hQ hR hF)

theorem evDraw_lo {P : Program} {X : Ext} {C : Oracle} (ok : ProgOk P) (hX : XSound P X) (hC : Sound P C) {nt : Nat} {ops : Array Oper} (hst : statOk ops.toList (masks ops.toList) = true)
    {F : Slots} {H : Heap} {lo : Nat} {F' : Slots} {H' : Heap} {lo' : Nat} (h : evDraw P X C nt ops.toList F H lo = some (F', H', lo')) : lo' ≤ lo := by
  obtain ⟨s1, _⟩ := statOk_spec hst
  unfold evDraw at h
  split at h
  case h_2 => simp at h
  rename_i rs Ff hrec
  split at h
  case h_2 => simp at h
  obtain ⟨hlen, hFf, hstep⟩ := evRecs_spec (F0 := F) (H0 := H) (lo0 := lo) rs ops.toList 0 0 F H lo rs rfl (Nat.zero_le _) rfl (Nat.zero_le _) rfl rfl rfl (fun k hk => by omega) hrec
  have hrun : RunOk P X C nt ops.toList F H lo rs := ⟨fun i o ho => hstep i o (Nat.zero_le _) ho⟩
  have hsel : ∀ (i : Nat) (o : Oper), ops.toList[i]? = some o → noSel o = true := fun i o ho => (s1 i o ho).1
  generalize hn : ops.toList.length = n at hlen hFf
  have hall := lo_all ok hX hC hsel hrun n (by omega) 0 (Nat.zero_le _)
  split at h
  · rename_i r hr
    simp only [Option.some.injEq, Prod.mk.injEq] at h
    obtain ⟨rfl, rfl, rfl⟩ := h
    rw [List.getLast?_eq_getElem?, hlen] at hr
    have hpos : 0 < n := by
      have := (List.getElem?_eq_some_iff.1 hr).1
      omega
    obtain ⟨m, rfl⟩ : ∃ m, n = m + 1 := ⟨n - 1, by omega⟩
    have hrec : recAt rs m = r := by simp [recAt, show rs[m]? = some r from hr]
    simp only [loAt] at hall
    rw [hrec] at hall
    exact hall
  · simp only [Option.some.injEq, Prod.mk.injEq] at h
    omega

end Go.Proofs.Ytfbjpenbpbpcaaa.Den

/-
  A verified evaluator, twelfth part: code, functions, and calls down to a depth.
-/
namespace Go.Proofs.Ytfbjpenbpbpcaaa.Den
open Go

def toExit : Ex → Exit
  | .normal => .normal
  | .exit i => .exit i
  | .ret => .ret

theorem at_forget {F : Slots} {t : Tmp} {v : Value} : ∀ (m : List Nat), at? t (forget F m) = some v → at? t F = some v := by
  intro m
  induction m with
  | nil => intro h; simp [forget, at?] at h
  | cons u m ih =>
    intro h
    simp only [forget] at h
    split at h
    · rename_i x hx
      simp only [at?] at h
      split at h
      · rename_i hb
        have := Nat.eq_of_beq_eq_true hb
        subst this
        injection h with h
        subst h
        exact hx
      · exact ih h
    · exact ih h

variable {ds : List Deferred}

theorem FR.forget {ρ : Rho} {nt : Nat} {F : Slots} {a : Act} (h : FR ds ρ nt F a) (m : List Nat) : FR ds ρ nt (forget F m) a :=
  ⟨h.defers, h.size, fun t v hv => h.slot t v (at_forget m hv)⟩

theorem iter_sound {P : Program} {c : Code} {nt : Nat} {ρ0 : Rho} {H0 : Heap} {w0 : World} {body : St → Option (Ex × St)} {m : List Nat} {Q : Exit → Act → World → Prop} {x : Ex} {s' : St}
    (hbody : ∀ (s : St) (x : Ex) (s' : St) (Q : Exit → Act → World → Prop) (ρ : Rho) (a : Act) (w : World), body s = some (x, s') → Rel ρ0 H0 w0 ρ s.H s.lo w → FR ds ρ nt s.F a →
      (∀ ρ' a' w', Rel ρ0 H0 w0 ρ' s'.H s'.lo w' → FR ds ρ' nt s'.F a' → Q (toExit x) a' w') → c.wp P Q a w)
    (hQ : ∀ ρ' a' w', Rel ρ0 H0 w0 ρ' s'.H s'.lo w' → FR ds ρ' nt s'.F a' → Q (toExit x) a' w') :
    ∀ (n : Nat) (s : St) (ρ : Rho) (a : Act) (w : World), iter n body m s = some (x, s') → Rel ρ0 H0 w0 ρ s.H s.lo w → FR ds ρ nt s.F a →
      ∀ (b : Frame) (k : List Item) (cs : List Frame), ∃ e a' w', Q e a' w' ∧ Arrives P (lone (b.at a (.code c :: .inLoop c :: k)) cs w) b k cs e a' w' := by
  intro n
  induction n with
  | zero => intro s ρ a w h; simp [iter] at h
  | succ n ih =>
    intro s ρ a w h hR hF b k cs
    simp only [iter] at h
    split at h
    · rename_i s1 hs1
      obtain ⟨e, a1, w1, ⟨he, ρ1, hR1, hF1⟩, harr⟩ := hbody s .normal s1 (fun e a' w' => e = .normal ∧ ∃ ρ', Rel ρ0 H0 w0 ρ' s1.H s1.lo w' ∧ FR ds ρ' nt s1.F a') ρ a w hs1 hR hF (fun ρ' a' w' h1 h2 => ⟨rfl, ρ', h1, h2⟩) b (.inLoop c :: k) cs
      subst he
      obtain ⟨e2, a2, w2, hq, harr2⟩ := ih ⟨Den.forget s1.F m, s1.H, s1.lo⟩ ρ1 a1 w1 h hR1 (hF1.forget m) b k cs
      exact ⟨e2, a2, w2, hq, .of_steps (Steps.trans harr (.one step_inLoop)) harr2⟩
    · rename_i hne
      obtain ⟨e, a1, w1, ⟨he, hq⟩, harr⟩ := hbody s x s' (fun e a' w' => e = toExit x ∧ Q e a' w') ρ a w h hR hF (fun ρ' a' w' h1 h2 => ⟨rfl, hQ ρ' a' w' h1 h2⟩) b (.inLoop c :: k) cs
      subst he
      cases x with
      | normal => exact (hne s' h).elim
      | exit i => exact ⟨_, a1, w1, hq, .pass (x := .inLoop c) rfl (fun _ _ => .inl (by simp [toExit])) harr⟩
      | ret => exact ⟨_, a1, w1, hq, .pass (x := .inLoop c) rfl (fun _ _ => .inl (by simp [toExit])) harr⟩

theorem evCode_sound {P : Program} {X : Ext} {C : Oracle} (ok : ProgOk P) (hX : XSound P X) (hC : Sound P C) {N nt : Nat} {ρ0 : Rho} {H0 : Heap} {w0 : World} :
    ∀ (c : Code), codeOk c = true → ∀ (s : St) (x : Ex) (s' : St) (Q : Exit → Act → World → Prop) (ρ : Rho) (a : Act) (w : World), evCode P X C N nt c s = some (x, s') → Rel ρ0 H0 w0 ρ s.H s.lo w → FR ds ρ nt s.F a →
      (∀ ρ' a' w', Rel ρ0 H0 w0 ρ' s'.H s'.lo w' → FR ds ρ' nt s'.F a' → Q (toExit x) a' w') → c.wp P Q a w := by
  intro c
  induction c with
  | skip =>
    intro _ s x s' Q ρ a w h hR hF hQ
    simp only [evCode, Option.some.injEq, Prod.mk.injEq] at h
    obtain ⟨rfl, rfl⟩ := h
    exact wp_skip (hQ ρ a w hR hF)
  | label l =>
    intro _ s x s' Q ρ a w h hR hF hQ
    simp only [evCode, Option.some.injEq, Prod.mk.injEq] at h
    obtain ⟨rfl, rfl⟩ := h
    exact wp_label (hQ ρ a w hR hF)
  | exit id =>
    intro _ s x s' Q ρ a w h hR hF hQ
    simp only [evCode, Option.some.injEq, Prod.mk.injEq] at h
    obtain ⟨rfl, rfl⟩ := h
    exact wp_exit (hQ ρ a w hR hF)
  | ret =>
    intro _ s x s' Q ρ a w h hR hF hQ
    simp only [evCode, Option.some.injEq, Prod.mk.injEq] at h
    obtain ⟨rfl, rfl⟩ := h
    exact wp_ret (hQ ρ a w hR hF)
  | region id ops draw =>
    intro hok s x s' Q ρ a w h hR hF hQ
    simp only [codeOk, Bool.and_eq_true] at hok
    simp only [evCode] at h
    split at h
    · rename_i F1 H1 lo1 hev
      simp only [Option.some.injEq, Prod.mk.injEq] at h
      obtain ⟨rfl, rfl⟩ := h
      cases draw with
      | true =>
        simp only at hev
        refine evDraw_sound ok hX hC (by simpa using hok.2) hev (fun ρ' a' w' h1 h2 => hQ ρ' a' w' h1 h2) hR hF
      | false =>
        simp only at hev
        refine wp_region ?_
        have := evOps_sound ok hX hC hok.1 (Q := Q) (fun ρ' a' w' h1 h2 => hQ ρ' a' w' h1 h2) ops.toList 0 s.F s.H s.lo rfl hev ρ a w hR hF
        rw [List.range_eq_range']
        simpa using this
    · simp at h
  | seq c1 c2 ih1 ih2 =>
    intro hok s x s' Q ρ a w h hR hF hQ
    simp only [codeOk, Bool.and_eq_true] at hok
    simp only [evCode] at h
    refine wp_seq ?_
    split at h
    · rename_i s1 hs1
      exact ih1 hok.1 s .normal s1 _ ρ a w hs1 hR hF fun ρ1 a1 w1 h1 h2 => ih2 hok.2 s1 x s' Q ρ1 a1 w1 h h1 h2 hQ
    · rename_i hne
      refine ih1 hok.1 s x s' _ ρ a w h hR hF fun ρ1 a1 w1 h1 h2 => ?_
      have := hQ ρ1 a1 w1 h1 h2
      cases x with
      | normal => exact (hne s' h).elim
      | exit i => exact this
      | ret => exact this
  | cond c x1 y1 ih1 ih2 =>
    intro hok s x s' Q ρ a w h hR hF hQ
    simp only [codeOk, Bool.and_eq_true] at hok
    simp only [evCode] at h
    split at h
    · rename_i hc
      have hv := bool_of (hF.opR [c] c (by simp) _ hc)
      exact wp_cond_true hv (ih1 hok.1 s x s' Q ρ a w h hR hF hQ)
    · rename_i hc
      have hv := bool_of (hF.opR [c] c (by simp) _ hc)
      exact wp_cond_false hv (ih2 hok.2 s x s' Q ρ a w h hR hF hQ)
    · simp at h
  | block id b ih =>
    intro hok s x s' Q ρ a w h hR hF hQ
    simp only [codeOk] at hok
    simp only [evCode] at h
    refine wp_block ?_
    split at h
    · rename_i i s1 hs1
      split at h
      · rename_i hid
        simp only [Option.some.injEq, Prod.mk.injEq] at h
        obtain ⟨rfl, rfl⟩ := h
        refine ih hok s (.exit i) s1 _ ρ a w hs1 hR hF fun ρ1 a1 w1 h1 h2 => ?_
        simp only [toExit, Exit.inBlock, hid, if_true]
        exact hQ ρ1 a1 w1 h1 h2
      · rename_i hid
        simp only [Option.some.injEq, Prod.mk.injEq] at h
        obtain ⟨rfl, rfl⟩ := h
        refine ih hok s (.exit i) s1 _ ρ a w hs1 hR hF fun ρ1 a1 w1 h1 h2 => ?_
        simp only [toExit, Exit.inBlock, hid, if_false]
        exact hQ ρ1 a1 w1 h1 h2
    · rename_i hne
      refine ih hok s x s' _ ρ a w h hR hF fun ρ1 a1 w1 h1 h2 => ?_
      have := hQ ρ1 a1 w1 h1 h2
      cases x with
      | normal => exact this
      | exit i => exact (hne i s' h).elim
      | ret => exact this
  | loop b ih =>
    intro hok s x s' Q ρ a w h hR hF hQ
    simp only [codeOk] at hok
    simp only [evCode] at h
    intro b0 k cs
    obtain ⟨e, a', w', hq, harr⟩ := iter_sound (P := P) (c := b) (ρ0 := ρ0) (H0 := H0) (w0 := w0) (nt := nt) (Q := Q) (fun s x s' Q ρ a w h hR hF hQ => ih hok s x s' Q ρ a w h hR hF hQ) hQ N s ρ a w h hR hF b0 k cs
    exact ⟨e, a', w', hq, .of_steps (.one step_loop) harr⟩
  | _ =>
    intro _ s x s' Q ρ a w h
    simp [evCode] at h

def rsem (tmps : Array Value) : ResultVar → Sem Value
  | .tmp t => pure (tmps.getD t undef)
  | .cell ad t => do loadVar t (← asAddr (tmps.getD ad undef))

theorem evResult_run {P : Program} {ρ : Rho} {nt : Nat} {F : Slots} {a : Act} {H : Heap} {w : World} (hF : FR ds ρ nt F a) (hs : SR ρ H w) {rv : ResultVar} {v : Value} (h : evResult P F H rv = some v) :
    ∃ v', VR ρ v v' ∧ (rsem a.tmps rv).run P w = .ok v' w := by
  cases rv with
  | tmp t =>
    simp only [evResult] at h
    obtain ⟨v', x, y⟩ := hF.slot t v h
    exact ⟨v', y, by simp [rsem, x]⟩
  | cell ad t =>
    simp only [evResult] at h
    split at h
    · rename_i p hp
      obtain ⟨v', x, y⟩ := hF.slot ad _ hp
      obtain ⟨e, he, hsp, rfl⟩ := ptr_of y
      obtain ⟨u, h1, h2⟩ := loadV_sound (P := P) hs h he
      exact ⟨u, h1, by simp [rsem, x, asAddr, h2]⟩
    · simp at h

theorem mapAll_run {P : Program} {ρ : Rho} {w : World} {f : ResultVar → Option Value} {g : ResultVar → Sem Value} (hfg : ∀ rv v, f rv = some v → ∃ v', VR ρ v v' ∧ (g rv).run P w = .ok v' w) :
    ∀ (l : List ResultVar) (vs : List Value), mapAll f l = some vs → ∃ vs', VRs ρ vs vs' ∧ (l.mapM g).run P w = .ok vs' w := by
  intro l
  induction l with
  | nil => intro vs h; simp [mapAll] at h; subst h; exact ⟨[], VRs.nil, by simp⟩
  | cons rv l ih =>
    intro vs h
    simp only [mapAll] at h
    split at h
    · rename_i y hy
      cases hm : mapAll f l with
      | none => simp [hm] at h
      | some us =>
        simp [hm] at h
        subst h
        obtain ⟨y', h1, h2⟩ := hfg rv y hy
        obtain ⟨us', h3, h4⟩ := ih us hm
        exact ⟨y' :: us', VRs.cons h1 h3, by simp [List.mapM_cons, h2, h4]⟩
    · simp at h

theorem evResults_run {P : Program} {ρ : Rho} {nt : Nat} {F : Slots} {a : Act} {H : Heap} {w : World} (hF : FR ds ρ nt F a) (hs : SR ρ H w) {fn : Func} {v : Value} (h : evResults P fn F H = some v) :
    ∃ v', VR ρ v v' ∧ (results fn a.tmps).run P w = .ok v' w := by
  unfold evResults at h
  have key := fun vs hm => mapAll_run (P := P) (ρ := ρ) (w := w) (g := rsem a.tmps) (fun rv v h => evResult_run (P := P) hF hs (rv := rv) h) fn.results.toList vs hm
  split at h
  · rename_i u hm
    injection h with h
    subst h
    obtain ⟨vs', h1, h2⟩ := key _ hm
    match vs', h1.1 with
    | [u'], _ =>
      refine ⟨u', h1.2 0 _ _ rfl rfl, ?_⟩
      show (do let vs ← fn.results.mapM (rsem a.tmps); pure (if h : vs.size = 1 then vs[0] else .tuple vs) : Sem Value).run P w = _
      rw [Sem.run_bind, Array.mapM_eq_mapM_toList, Sem.run_map, h2]
      rfl
  · rename_i vs hne hm
    injection h with h
    subst h
    obtain ⟨vs', h1, h2⟩ := key _ hm
    refine ⟨.tuple vs'.toArray, h1.toTuple, ?_⟩
    show (do let vs ← fn.results.mapM (rsem a.tmps); pure (if h : vs.size = 1 then vs[0] else .tuple vs) : Sem Value).run P w = _
    rw [Sem.run_bind, Array.mapM_eq_mapM_toList, Sem.run_map, h2]
    have hl : vs'.length ≠ 1 := by
      intro h1'
      rw [← h1.1] at h1'
      match vs, h1' with
      | [u], _ => exact hne u rfl
    simp [hl]
  · simp at h

theorem at_start {t : Nat} {v : Value} : ∀ (args : List Value) (i : Nat), at? t (start i args) = some v → i ≤ t ∧ args[t - i]? = some v := by
  intro args
  induction args with
  | nil => intro i h; simp [start, at?] at h
  | cons u args ih =>
    intro i h
    simp only [start, at?] at h
    split at h
    · rename_i hb
      have := Nat.eq_of_beq_eq_true hb
      subst this
      injection h with h
      subst h
      exact ⟨Nat.le_refl _, by simp⟩
    · rename_i hb
      obtain ⟨h1, h2⟩ := ih (i + 1) h
      refine ⟨by omega, ?_⟩
      rw [show t - i = (t - (i + 1)) + 1 by omega]
      simpa using h2

theorem evFn_sound {P : Program} {X : Ext} {C : Oracle} (ok : ProgOk P) (hX : XSound P X) (hC : Sound P C) (N : Nat) : Sound P (evFn P X N C) := by
  intro f args H v H' l h ρ w args' hargs hs
  unfold evFn at h
  split at h
  case h_2 => simp at h
  rename_i fn hfn
  split at h
  case h_2 => simp at h
  rename_i c hb
  have hsz : args.length = args'.size := by simpa using hargs.1
  have hF0 : FR [] ρ (max args.length fn.ntmps) (start 0 args) { tmps := args' ++ Array.replicate (fn.ntmps - args'.size) undef, defers := [] } := by
    refine ⟨rfl, by simp; omega, fun t u hu => ?_⟩
    obtain ⟨_, h2⟩ := at_start args 0 hu
    simp only [Nat.sub_zero] at h2
    obtain ⟨u', h3, h4⟩ := zip_get hargs h2
    refine ⟨u', ?_, h4⟩
    have hlt := (List.getElem?_eq_some_iff.1 h3).1
    simp only
    rw [Array.getElem?_append_left (by simpa using hlt)]
    simpa using h3
  have fin : ∀ (x : Ex) (s : St), evCode P X C N (max args.length fn.ntmps) c ⟨start 0 args, H, H.length⟩ = some (x, s) → (x = .normal ∨ x = .ret) → (evResults P fn s.F s.H).map (fun v => (v, s.H, s.lo)) = some (v, H', l) →
      Calls P f args' w fun e w' => ∃ ρ' v', e = .returned v' ∧ VR ρ' v v' ∧ Rel ρ H w ρ' H' l w' := by
    intro x s hev hx hres
    refine calls_of_wp hfn hb (evCode_sound (ρ0 := ρ) (H0 := H) (w0 := w) ok hX hC c (ok.code f fn c hfn hb).1 ⟨start 0 args, H, H.length⟩ x s _ ρ _ w hev (Rel.of_quiet hs (Quiet.refl w) _) hF0 fun ρ1 a1 w1 hR hF => ?_)
    cases hr : evResults P fn s.F s.H with
    | none => simp [hr] at hres
    | some u =>
      simp [hr] at hres
      obtain ⟨rfl, rfl, rfl⟩ := hres
      obtain ⟨v', h1, h2⟩ := evResults_run (P := P) hF hR.sr hr
      rcases hx with rfl | rfl
      · exact ⟨hF.defers, v', h2, ρ1, v', rfl, h1, hR⟩
      · exact ⟨hF.defers, v', h2, ρ1, v', rfl, h1, hR⟩
  split at h
  · rename_i s hev
    exact fin .normal s hev (.inl rfl) h
  · rename_i s hev
    exact fin .ret s hev (.inr rfl) h
  · simp at h

theorem evAll_sound {P : Program} {X : Ext} (ok : ProgOk P) (hX : XSound P X) (N : Nat) : ∀ n, Sound P (evAll P X N n) := by
  intro n
  induction n with
  | zero => intro f args H v H' l h; simp [evAll] at h
  | succ n ih => exact evFn_sound ok hX ih N

/-- One oracle, or else another. -/
def orElse (C D : Oracle) : Oracle := fun f args H => match C f args H with
  | some r => some r
  | none => D f args H

theorem Sound.or {P : Program} {C D : Oracle} (hC : Sound P C) (hD : Sound P D) : Sound P (orElse C D) := by
  intro f args H v H' l h
  unfold orElse at h
  split at h
  · rename_i r hr
    rw [h] at hr
    exact hC f args H v H' l hr
  · exact hD f args H v H' l h

/-- What a sound call says of a world: nothing that was there has turned. -/
theorem calls_plain {P : Program} {C : Oracle} (hC : Sound P C) {f : FuncId} {args : List Value} {v : Value} {H' : Heap} {l : Nat} (h : C f args [] = some (v, H', l)) (hargs : args.all (pf 3) = true) (hv : pf 3 v = true) (w : World) :
    Calls P f args.toArray w fun e w' => e = .returned v ∧ Quiet w w' := by
  have hself : VRs [] args args := ⟨rfl, fun i x x' p q => by rw [p] at q; cases q; exact pf_self 3 _ (get_all hargs p)⟩
  refine (hC f args [] v H' l h [] w args.toArray (by simpa using hself) (SR.empty w)).mono ?_
  rintro e w' ⟨ρ', v', rfl, hvr, hR⟩
  refine ⟨by rw [pf_eq 3 _ _ hv hvr], hR.os, hR.tape, hR.output, hR.size, fun k hk => hR.keep k hk fun j e0 b0 hj => by simp at hj, hR.frozen⟩

theorem Quiet.grown {w w' : World} (h : Quiet w w') : Go.RowKit.Grown w w' :=
  ⟨⟨h.os, h.output, fun i hi => by rw [h.keep i hi]; split <;> simp_all⟩, h.frozen, h.size⟩

end Go.Proofs.Ytfbjpenbpbpcaaa.Den

