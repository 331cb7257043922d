/-
  A verified evaluator, sixth part: an operation is sound.
-/
import Derived.Test.YtfbjpenbpbpcaaaDen4b
namespace Go.Proofs.Ytfbjpenbpbpcaaa.Den
open Go

/-- The functions without a body answer as the table says. -/
def XSound (P : Program) (X : Ext) : Prop :=
  ∀ (f : FuncId) (args : List Value) (v : Value), X f args = some v → pf 3 v = true ∧ ∀ w, (callFunc f args.toArray).run P w = .ok (.value v) w

/-- What is asked of the program, once. -/
structure ProgOk (P : Program) : Prop where
  mixed : P.follows .mixedOrders = true
  code : ∀ (f : FuncId) (fn : Func) (c : Code), P.funcs[f]? = some fn → fn.body = some c → codeOk c = true ∧ (fn.name == "runtime.NumGoroutine") = false

theorem evParts_sound {ρ : Rho} {F : Slots} {a : Act} : ∀ (xs : List (Nat × Operand)) (ps : List (Nat × Value)), evParts F xs = some ps → OpR ρ F a (xs.map (·.2)) → xs.map (fun p => (p.1, a.eval p.2)) = ps
  | [], ps, h, _ => by simp [evParts] at h; subst h; rfl
  | (i, x) :: xs, ps, h, hr => by
    unfold evParts at h
    split at h
    · rename_i v hv
      split at h
      · rename_i hp
        cases he : evParts F xs with
        | none => simp [he] at h
        | some us =>
          simp [he] at h
          subst h
          have h1 := pf_eq 3 _ _ hp (hr x (by simp) v hv)
          simp only [List.map_cons, h1]
          rw [evParts_sound xs us he fun y hy => hr y (by simp at hy ⊢; exact .inr hy)]
      · simp at h
    · simp at h

theorem sliceBounds_run {P : Program} {lo hi : Option Value} {len cap h l : Nat} (b : Bool) (hh : bound hi len cap = some h) (hl : bound lo 0 h = some l) (hc : len ≤ cap) (w : World) :
    (Instr.sliceBounds b len cap lo hi none).run P w = .ok (l, h, cap) w ∧ l ≤ h ∧ h ≤ cap := by
  obtain ⟨h1, h2⟩ := bound_run (P := P) hh hc
  obtain ⟨h3, h4⟩ := bound_run (P := P) hl (Nat.zero_le _)
  refine ⟨?_, h3, h1⟩
  unfold Instr.sliceBounds
  cases hi with
  | none =>
    simp [bound] at hh
    subst hh
    cases lo with
    | none => simp [bound] at hl; subst hl; simp
    | some v => have := h4 .sliceB w; simp only [bsem] at this; simp [this]
  | some u =>
    have hu := fun c => h2 c w
    simp only [bsem] at hu
    cases lo with
    | none => simp [bound] at hl; subst hl; simp [hu]
    | some v => have := h4 .sliceB w; simp only [bsem] at this; simp [hu, this]

theorem callFunc_enter {P : Program} (ok : ProgOk P) {f : FuncId} {fn : Func} {c : Code} (hf : P.funcs[f]? = some fn) (hb : fn.body = some c) (args : Array Value) (w : World) :
    (callFunc f args).run P w = .ok (.enter f args) w := by
  have hn : ¬ fn.name = "runtime.NumGoroutine" := by simpa using (ok.code f fn c hf hb).2
  unfold callFunc
  simp [hf, hn, hb]

/-- A new block: no old one is written. -/
theorem OpSound.of_new {P : Program} {F : Slots} {H H' : Heap} {lo : Nat} {o : Oper} {v : Value}
    (h : ∀ (ρ : Rho) (a : Act) (w : World), OpR ρ F a o.op.operands.toList → SR ρ H w → ∃ ρ' v' w', VR ρ' v v' ∧ Rel ρ H w ρ' H' lo w' ∧
      ((execOp a.eval o).run P w = .ok (.value v') w' ∨ ((execOp a.eval o).run P w = .ok .skip w' ∧ v' = undef))) : OpSound P F H lo o ⟨v, H', lo, .write⟩ := by
  have h1 := OpSound.of_write (lo := lo) (l := lo) h
  rwa [Nat.min_self] at h1

theorem evCall_sound {P : Program} {C : Oracle} (hC : Sound P C) {F : Slots} {H : Heap} {lo : Nat} {o : Oper} {f : FuncId} {args : List Value} {r : Out}
    (hrun : ∀ (ρ : Rho) (a : Act) (w : World), OpR ρ F a o.op.operands.toList → ∃ args' : Array Value, VRs ρ args args'.toList ∧ (execOp a.eval o).run P w = .ok (.enter f args') w)
    (h : evCall C f args H lo = some r) : OpSound P F H lo o r := by
  unfold evCall at h
  split at h
  · rename_i v H' l hc
    split at h
    · rename_i hq
      simp only [Bool.and_eq_true, decide_eq_true_eq] at hq
      obtain ⟨rfl, hp⟩ := hq
      injection h with h
      subst h
      refine ⟨(fun h => by cases h), fun _ => ⟨rfl, rfl, fun ρ a w next Q hr hs hn => ?_⟩, (fun h => by cases h)⟩
      obtain ⟨args', h1, h2⟩ := hrun ρ a w hr
      unfold Oper.wp
      rw [h2]
      refine (hC f args H v H' _ hc ρ w args' h1 hs).mono ?_
      rintro e w' ⟨ρ', v', rfl, hv, hR⟩
      refine hn v' w' (by rw [pf_eq 3 _ _ hp hv]; exact pf_self 3 _ hp) ⟨hR.os, hR.tape, hR.output, hR.size, fun k hk => hR.keep k hk fun j e0 b0 _ hb _ hj => ?_, hR.frozen⟩
      have := (List.getElem?_eq_some_iff.1 hb).1
      omega
    · injection h with h
      subst h
      refine ⟨(fun h => by cases h), (fun h => by cases h), fun _ => ⟨l, rfl, fun ρ a w next Q hr hs hn => ?_⟩⟩
      obtain ⟨args', h1, h2⟩ := hrun ρ a w hr
      unfold Oper.wp
      rw [h2]
      refine (hC f args H v H' _ hc ρ w args' h1 hs).mono ?_
      rintro e w' ⟨ρ', v', rfl, hv, hR⟩
      exact hn ρ' v' w' hv hR
  · simp at h

theorem SR.empty (w : World) : SR [] [] w := ⟨rfl, fun i e b h => by simp at h, fun i j e e' b b' _ h => by simp at h⟩

theorem evCall0_sound {P : Program} {C : Oracle} (hC : Sound P C) {F : Slots} {H : Heap} {lo : Nat} {o : Oper} {f : FuncId} {args : List Value} {r : Out}
    (hrun : ∀ (ρ : Rho) (a : Act) (w : World), OpR ρ F a o.op.operands.toList → ∃ args' : Array Value, VRs ρ args args'.toList ∧ (execOp a.eval o).run P w = .ok (.enter f args') w)
    (h : evCall0 C f args H lo = some r) : OpSound P F H lo o r := by
  unfold evCall0 at h
  split at h
  · rename_i hall
    split at h
    · rename_i v H' l hc
      split at h
      · rename_i hp
        injection h with h
        subst h
        refine ⟨fun _ => ⟨rfl, rfl, fun ρ a w next Q hr hn => ?_⟩, (fun h => by cases h), (fun h => by cases h)⟩
        obtain ⟨args', h1, h2⟩ := hrun ρ a w hr
        unfold Oper.wp
        rw [h2]
        have he : args'.toList = args := h1.eq_of_pf hall
        have hself : VRs [] args args'.toList := by
          rw [he]
          exact ⟨rfl, fun i x x' p q => by rw [p] at q; cases q; exact pf_self 3 _ (get_all hall p)⟩
        refine (hC f args [] v H' _ hc [] w args' hself (SR.empty w)).mono ?_
        rintro e w' ⟨ρ', v', rfl, hv, hR⟩
        refine hn v' w' (by rw [pf_eq 3 _ _ hp hv]; exact pf_self 3 _ hp) ⟨hR.os, hR.tape, hR.output, hR.size, fun k hk => hR.keep k hk fun j e0 b0 hj => by simp at hj, hR.frozen⟩
      · exact evCall_sound hC hrun h
    · simp at h
  · exact evCall_sound hC hrun h

theorem newRow_run {P : Program} {e : TypeId} {cs : Array Value} (w : World) : (newRow e cs).run P w = .ok ⟨w.heap.size, 0, none⟩ (w.alloc (.cells cs e)) := by
  simp [newRow]

set_option maxHeartbeats 1000000 in
theorem evOp_sound {P : Program} {X : Ext} {C : Oracle} (ok : ProgOk P) (hX : XSound P X) (hC : Sound P C) {draw : Bool} {F : Slots} {H : Heap} {lo : Nat} {o : Oper} {r : Out} (hsel : noSel o = true)
    (h : evOp P X C draw F H lo o = some r) : OpSound P F H lo o r := by
  obtain ⟨dst, op, type, pos, after, guard⟩ := o
  cases op with
  | move x =>
    simp only [evOp] at h
    cases he : ev F x with
    | none => simp [he] at h
    | some v =>
      simp [he] at h
      subst h
      exact OpSound.of_pure fun ρ a w hr => ⟨_, hr x (by simp [Op.operands]) v he, rfl⟩
  | assign x =>
    simp only [evOp] at h
    cases he : ev F x with
    | none => simp [he] at h
    | some v =>
      simp [he] at h
      subst h
      exact OpSound.of_pure fun ρ a w hr => ⟨_, hr x (by simp [Op.operands]) v he, rfl⟩
  | binOp op t x y yt =>
    simp only [evOp] at h
    split at h
    · rename_i k n k' m hx hy
      split at h
      · rename_i v hv
        injection h with h
        subst h
        refine OpSound.of_pure fun ρ a w hr => ⟨v, ?_, ?_⟩
        · unfold fastBin at hv
          repeat' split at hv
          all_goals first | (simp at hv; done) | (injection hv with hv; subst hv; exact .flat rfl)
        · have e1 := int_of (hr x (by simp [Op.operands]) _ hx)
          have e2 := int_of (hr y (by simp [Op.operands]) _ hy)
          have := fastBin_run (P := P) t x y hv w
          simp only [execOp, e1, e2]
          rw [Sem.run_bind, this]
          rfl
      · exact flat_sound hsel h
    · rename_i cs ds hx hy
      split at h
      · split at h
        · rename_i b hb
          injection h with h
          subst h
          refine OpSound.of_pure fun ρ a w hr => ⟨.bool b, .flat rfl, ?_⟩
          obtain ⟨p1, p2⟩ := aggEq_pf hb
          have e1 := pf_eq 3 _ _ p1 (hr x (by simp [Op.operands]) _ hx)
          have e2 := pf_eq 3 _ _ p2 (hr y (by simp [Op.operands]) _ hy)
          simp only [execOp, e1, e2]
          rw [Sem.run_bind, (aggEq_run hb x y w).1]
          rfl
        · exact flat_sound hsel h
      · split at h
        · rename_i b hb
          injection h with h
          subst h
          refine OpSound.of_pure fun ρ a w hr => ⟨.bool (!b), .flat rfl, ?_⟩
          obtain ⟨p1, p2⟩ := aggEq_pf hb
          have e1 := pf_eq 3 _ _ p1 (hr x (by simp [Op.operands]) _ hx)
          have e2 := pf_eq 3 _ _ p2 (hr y (by simp [Op.operands]) _ hy)
          simp only [execOp, e1, e2]
          rw [Sem.run_bind, (aggEq_run hb x y w).2]
          rfl
        · exact flat_sound hsel h
      · exact flat_sound hsel h
    · exact flat_sound hsel h
  | convert s d x =>
    simp only [evOp] at h
    split at h
    · rename_i k0 n k1 k hx hs hd
      injection h with h
      subst h
      refine OpSound.of_pure fun ρ a w hr => ⟨_, .flat rfl, ?_⟩
      have e1 := int_of (hr x (by simp [Op.operands]) _ hx)
      simp [execOp, e1, convert, run_underlying hs, run_underlying hd, Conv.intToInt]
    · exact flat_sound hsel h
  | pick c x y =>
    have hcr : ∀ (ρ : Rho) (a : Act) (b : Bool), OpR ρ F a (Op.pick c x y).operands.toList → ev F c = some (.bool b) → a.eval c = .bool b := fun ρ a b hr hc => bool_of (hr c (by simp [Op.operands]) _ hc)
    simp only [evOp] at h
    split at h
    · rename_i b u v hc hx hy
      injection h with h
      subst h
      refine OpSound.of_pure fun ρ a w hr => ?_
      have e1 := hcr ρ a b hr hc
      have e2 := hr x (by simp [Op.operands]) _ hx
      have e3 := hr y (by simp [Op.operands]) _ hy
      cases b
      · exact ⟨_, e3, by simp [execOp, e1, asBool]⟩
      · exact ⟨_, e2, by simp [execOp, e1, asBool]⟩
    · rename_i b u v _ hc hx hy
      injection h with h
      subst h
      refine OpSound.of_pure fun ρ a w hr => ?_
      have e1 := hcr ρ a b hr hc
      have e2 := hr x (by simp [Op.operands]) _ hx
      have e3 := hr y (by simp [Op.operands]) _ hy
      cases b
      · exact ⟨_, e3, by simp [execOp, e1, asBool]⟩
      · exact ⟨_, e2, by simp [execOp, e1, asBool]⟩
    · rename_i u hc hx hy
      injection h with h
      subst h
      refine OpSound.of_pure fun ρ a w hr => ?_
      have e1 := hcr ρ a true hr hc
      exact ⟨_, hr x (by simp [Op.operands]) _ hx, by simp [execOp, e1, asBool]⟩
    · rename_i u hc hx hy
      injection h with h
      subst h
      refine OpSound.of_pure fun ρ a w hr => ?_
      have e1 := hcr ρ a false hr hc
      exact ⟨_, hr y (by simp [Op.operands]) _ hy, by simp [execOp, e1, asBool]⟩
    · simp at h
  | alloc t =>
    simp only [evOp] at h
    split at h
    · rename_i z hz
      split at h
      · rename_i hp
        cases hn : newB H z with
        | none => simp [hn] at h
        | some q =>
          obtain ⟨p, H'⟩ := q
          simp [hn] at h
          subst h
          refine OpSound.of_new fun ρ a w hr hs => ?_
          obtain ⟨ρ', h1, h2⟩ := newB_sound hs hn (pf_self 3 z hp) t lo
          exact ⟨ρ', _, _, h1, h2, .inl (by simp [execOp, Instr.alloc, zero_run hz, newVar, newRow_run])⟩
      · simp at h
    · simp at h
  | box t x =>
    simp only [evOp] at h
    split at h
    · rename_i v hx
      cases hn : newB H v with
      | none => simp [hn] at h
      | some q =>
        obtain ⟨p, H'⟩ := q
        simp [hn] at h
        subst h
        refine OpSound.of_new fun ρ a w hr hs => ?_
        obtain ⟨ρ', h1, h2⟩ := newB_sound hs hn (hr x (by simp [Op.operands]) v hx) t lo
        exact ⟨ρ', _, _, h1, h2, .inl (by simp [execOp, Instr.box, newVar, newRow_run])⟩
    · simp at h
  | load t x =>
    simp only [evOp] at h
    split at h
    · rename_i ad hx
      cases hl : loadV P H t ad with
      | none => simp [hl] at h
      | some v =>
        simp [hl] at h
        subst h
        refine OpSound.of_read fun ρ a w hr hs => ?_
        obtain ⟨e, he, _, hv⟩ := ptr_of (hr x (by simp [Op.operands]) _ hx)
        obtain ⟨v', h1, h2⟩ := loadV_sound (P := P) hs hl he
        exact ⟨v', h1, by simp [execOp, Instr.loadAt, hv, Instr.sureAddr, h2]⟩
    · simp at h
  | store t x y =>
    simp only [evOp] at h
    split at h
    · rename_i ad v hx hy
      cases hl : storeV P H t ad v with
      | none => simp [hl] at h
      | some H' =>
        simp [hl] at h
        subst h
        refine OpSound.of_write fun ρ a w hr hs => ?_
        obtain ⟨e, he, _, hv⟩ := ptr_of (hr x (by simp [Op.operands]) _ hx)
        obtain ⟨w', h1, h2⟩ := storeV_sound (P := P) hs hl he (hr y (by simp [Op.operands]) _ hy)
        exact ⟨ρ, undef, w', pf_self 3 undef rfl, h2, .inr ⟨by simp [execOp, Instr.storeAt, hv, Instr.sureAddr, h1], rfl⟩⟩
    · simp at h
  | nilCheck x =>
    simp only [evOp] at h
    split at h
    · rename_i ad hx
      injection h with h
      subst h
      refine OpSound.of_pure fun ρ a w hr => ?_
      have h1 := hr x (by simp [Op.operands]) _ hx
      obtain ⟨e, he, hs, hv⟩ := ptr_of h1
      exact ⟨_, h1, by simp [execOp, hv]⟩
    · simp at h
  | fieldAddr s x f =>
    simp only [evOp] at h
    split at h
    · rename_i ad fs hx hu
      split at h
      · rename_i fd hfd
        split at h
        · rename_i n hsz
          split at h
          · simp at h
          · rename_i hn
            injection h with h
            subst h
            refine OpSound.of_pure fun ρ a w hr => ?_
            obtain ⟨e, he, hs, hv⟩ := ptr_of (hr x (by simp [Op.operands]) _ hx)
            exact ⟨_, ptr_add he hs fd.offset, by simp [execOp, Instr.fieldAt, hv, Instr.sureAddr, run_underlying hu, hfd, fieldPlace, sizeOf_run hsz, hn]⟩
        · simp at h
      · simp at h
    · simp at h
  | indexAddr t x i =>
    simp only [evOp] at h
    split at h
    · rename_i ad k n len e hx hi hu
      split at h
      · rename_i sz hsz
        split at h
        · rename_i hb
          injection h with h
          subst h
          refine OpSound.of_pure fun ρ a w hr => ?_
          obtain ⟨en, he, hs, hv⟩ := ptr_of (hr x (by simp [Op.operands]) _ hx)
          have e2 := int_of (hr i (by simp [Op.operands]) _ hi)
          exact ⟨_, ptr_add he hs _, by simp [execOp, Instr.indexAt, hv, e2, asIntOf, Instr.sureAddr, run_underlying hu, sizeOf_run hsz, hb]⟩
        · simp at h
      · simp at h
    · rename_i ad len cap k n e hx hi hu
      split at h
      · rename_i sz hsz
        split at h
        · rename_i hb
          injection h with h
          subst h
          refine OpSound.of_pure fun ρ a w hr => ?_
          obtain ⟨en, c', he, hs, hv, _, _⟩ := slice_of (hr x (by simp [Op.operands]) _ hx)
          have e2 := int_of (hr i (by simp [Op.operands]) _ hi)
          exact ⟨_, ptr_add he hs _, by simp [execOp, Instr.indexAt, hv, e2, asIntOf, run_underlying hu, sizeOf_run hsz, hb]⟩
        · simp at h
      · simp at h
    · simp at h
  | index t x i =>
    simp only [evOp] at h
    split at h
    · rename_i cs k n len e hx hi hu
      split at h
      · rename_i sz hsz
        split at h
        · rename_i hb
          cases hp : partV P e cs.toList (n.toNat * sz) with
          | none => simp [hp] at h
          | some v =>
            simp [hp] at h
            subst h
            refine OpSound.of_pure fun ρ a w hr => ?_
            obtain ⟨cs', hv, hvs⟩ := agg_of (hr x (by simp [Op.operands]) _ hx)
            have e2 := int_of (hr i (by simp [Op.operands]) _ hi)
            obtain ⟨v', h1, h2⟩ := partV_run (P := P) hp hvs w
            exact ⟨v', h1, by simp [execOp, Instr.index, hv, e2, asIntOf, run_underlying hu, sizeOf_run hsz, hb, h2]⟩
        · simp at h
      · simp at h
    · exact flat_sound hsel h
  | field t x f =>
    simp only [evOp] at h
    split at h
    · rename_i cs fs hx hu
      split at h
      · rename_i fd hfd
        cases hp : partV P fd.type cs.toList fd.offset with
        | none => simp [hp] at h
        | some v =>
          simp [hp] at h
          subst h
          refine OpSound.of_pure fun ρ a w hr => ?_
          obtain ⟨cs', hv, hvs⟩ := agg_of (hr x (by simp [Op.operands]) _ hx)
          obtain ⟨v', h1, h2⟩ := partV_run (P := P) hp hvs w
          exact ⟨v', h1, by simp [execOp, Instr.field, hv, run_underlying hu, hfd, asAgg, h2]⟩
      · simp at h
    · simp at h
  | extract x i =>
    simp only [evOp] at h
    split at h
    · rename_i vs hx
      cases hp : vs.toList[i]? with
      | none => simp [hp] at h
      | some v =>
        simp [hp] at h
        subst h
        refine OpSound.of_pure fun ρ a w hr => ?_
        obtain ⟨cs', hv, hvs⟩ := tuple_of (hr x (by simp [Op.operands]) _ hx)
        obtain ⟨v', h1, h2⟩ := zip_get hvs hp
        have h1' : cs'[i]? = some v' := by simpa using h1
        exact ⟨v', h2, by simp [execOp, Instr.extract, hv, h1']⟩
    · simp at h
  | makeInterface t x =>
    simp only [evOp] at h
    split at h
    · simp at h
    · simp at h
    · rename_i d v hni hu hx
      injection h with h
      subst h
      refine OpSound.of_pure fun ρ a w hr => ⟨_, .iface (hr x (by simp [Op.operands]) _ hx), ?_⟩
      simp only [execOp, Instr.makeInterface, Sem.run_bind, run_underlying hu, Result.andThen_ok]
      cases d <;> first | rfl | (rename_i ms; exact (hni ms hu).elim)
    · simp at h
  | typeAssert x xt t okb =>
    simp only [evOp] at h
    split at h
    · simp at h
    · rename_i u v d hni hx hu
      split at h
      · rename_i hut
        subst hut
        injection h with h
        subst h
        refine OpSound.of_pure fun ρ a w hr => ?_
        obtain ⟨v', hv, hvr⟩ := iface_of (hr x (by simp [Op.operands]) _ hx)
        refine ⟨if okb then .tuple #[v', .bool true] else v', ?_, ?_⟩
        · cases okb
          · exact hvr
          · exact (VRs.cons hvr (VRs.cons (.flat rfl) VRs.nil)).toTuple
        · simp only [execOp, Instr.typeAssert, Sem.run_bind, run_underlying hu, Result.andThen_ok, hv]
          cases d <;> first | (simp; done) | (rename_i ms; exact (hni ms hu).elim)
      · rename_i hut
        split at h
        · rename_i z hz
          split at h
          · rename_i hp
            injection h with h
            subst h
            refine OpSound.of_pure fun ρ a w hr => ?_
            obtain ⟨v', hv, hvr⟩ := iface_of (hr x (by simp [Op.operands]) _ hx)
            refine ⟨.tuple #[z, .bool false], (VRs.cons (pf_self 3 _ hp) (VRs.cons (.flat rfl) VRs.nil)).toTuple, ?_⟩
            simp only [execOp, Instr.typeAssert, Sem.run_bind, run_underlying hu, Result.andThen_ok, hv]
            cases d <;> first | (simp [hut, zero_run hz]; done) | (rename_i ms; exact (hni ms hu).elim)
          · simp at h
        · simp at h
    · exact flat_sound hsel h
  | makeFunc fn x y =>
    simp only [evOp] at h
    split at h
    · rename_i us vs hx hy
      injection h with h
      subst h
      refine OpSound.of_pure fun ρ a w hr => ?_
      have h1 := evs_sound (a := a) _ _ hx fun z hz => hr z (by simp [Op.operands] at hz ⊢; exact .inl hz)
      have h2 := evs_sound (a := a) _ _ hy fun z hz => hr z (by simp [Op.operands] at hz ⊢; exact .inr hz)
      refine ⟨.func fn (x.map a.eval) (y.map a.eval), ?_, rfl⟩
      refine .func (by have := h1.1; simp at this ⊢; omega) (fun i v v' p q => h1.2 i v v' (by simpa using p) (by simpa using q)) (by have := h2.1; simp at this ⊢; omega) (fun i v v' p q => h2.2 i v v' (by simpa using p) (by simpa using q))
    · simp at h
  | slice t x l hi mx =>
    cases mx with
    | some m => exact flat_sound hsel (by simpa only [evOp] using h)
    | none =>
      simp only [evOp] at h
      split at h
      · rename_i ad vl vh n e hx hvl hvh hu
        split at h
        · rename_i hh sz hbh hsz
          split at h
          · rename_i ll hbl
            injection h with h
            subst h
            refine OpSound.of_pure fun ρ a w hr => ?_
            obtain ⟨en, he, hs, hv⟩ := ptr_of (hr x (by simp [Op.operands]) _ hx)
            have g1 := bound_map (a := a) hvh (fun z hz => hr z (by simp [Op.operands] at hz ⊢; simp [hz])) hbh
            have g2 := bound_map (a := a) hvl (fun z hz => hr z (by simp [Op.operands] at hz ⊢; simp [hz])) hbl
            obtain ⟨g3, g4, g5⟩ := sliceBounds_run (P := P) false g1 g2 (Nat.le_refl _) w
            refine ⟨.slice (some (if n = ll then ⟨en.r, en.d + ad.off, none⟩ else (⟨en.r, en.d + ad.off, none⟩ : Addr).add (ll * sz))) (hh - ll) (n - ll), ?_, ?_⟩
            · by_cases hnl : n = ll
              · rw [if_pos hnl, if_pos hnl]
                have := slice_add he hs 0 (hh - ll) (n - ll) (by omega)
                exact this
              · rw [if_neg hnl, if_neg hnl]
                exact slice_add he hs _ _ _ (by omega)
            · simp [execOp, Instr.sliceAt, hv, Instr.sureAddr, run_underlying hu, g3, sizeOf_run hsz]
          · simp at h
        · simp at h
      · rename_i ad len cap vl vh e hx hvl hvh hu
        split at h
        · simp at h
        · rename_i hcap
          split at h
          · rename_i hh sz hbh hsz
            split at h
            · rename_i ll hbl
              injection h with h
              subst h
              refine OpSound.of_pure fun ρ a w hr => ?_
              obtain ⟨en, c', he, hs, hv, hc, _⟩ := slice_of (hr x (by simp [Op.operands]) _ hx)
              have hc := hc (by omega)
              subst hc
              have g1 := bound_map (a := a) hvh (fun z hz => hr z (by simp [Op.operands] at hz ⊢; simp [hz])) hbh
              have g2 := bound_map (a := a) hvl (fun z hz => hr z (by simp [Op.operands] at hz ⊢; simp [hz])) hbl
              obtain ⟨g3, g4, g5⟩ := sliceBounds_run (P := P) true g1 g2 (by omega) w
              refine ⟨.slice (some (if c' = ll then ⟨en.r, en.d + ad.off, none⟩ else (⟨en.r, en.d + ad.off, none⟩ : Addr).add (ll * sz))) (hh - ll) (c' - ll), ?_, ?_⟩
              · by_cases hnl : c' = ll
                · rw [if_pos hnl, if_pos hnl]
                  have := slice_add he hs 0 (hh - ll) (c' - ll) (by omega)
                  exact this
                · rw [if_neg hnl, if_neg hnl]
                  exact slice_add he hs _ _ _ (by omega)
              · simp [execOp, Instr.sliceAt, Instr.slice, hv, run_underlying hu, g3, sizeOf_run hsz]
                by_cases hnl : c' = ll <;> simp [hnl]
            · simp at h
          · simp at h
      · exact flat_sound hsel h
  | buildSlice t len parts =>
    simp only [evOp] at h
    split at h
    · rename_i e hu
      split at h
      · rename_i sz z ps hsz hz hps
        split at h
        · rename_i hlen
          split at h
          · rename_i cells hfill
            split at h
            · rename_i hall
              injection h with h
              subst h
              refine OpSound.of_new fun ρ a w hr hs => ?_
              have hp := evParts_sound (a := a) _ _ hps fun y hy => hr y (by simpa [Op.operands] using hy)
              have hself : VRs ρ cells.toList cells.toList := ⟨rfl, fun i v v' p q => by rw [p] at q; cases q; exact pf_self 3 _ (by have := get_all hall p; simp at this; exact this.1)⟩
              have hone : cells.toList.all oneCell = true := List.all_eq_true.2 fun v hv => by have := List.all_eq_true.1 hall v hv; simp at this; exact this.2
              obtain ⟨h1, h2⟩ := new_sound hs hone hself e lo
              refine ⟨_, .slice (some ⟨w.heap.size, 0, none⟩) len len, _, .slice h2 (Nat.le_refl _), h1, .inl ?_⟩
              have h0 : len * sz ≠ 0 := by omega
              have h24 : ¬ len * sz > 2 ^ 24 := by omega
              simp [execOp, Instr.buildSlice, run_underlying hu, sizeOf_run hsz, zero_run hz, h0, h24, hp, hfill, newRow_run]
            · simp at h
          · simp at h
        · simp at h
      · simp at h
    · simp at h
  | makeSlice t x y =>
    simp only [evOp] at h
    split at h
    · rename_i e k l k' c hu hx hy
      split at h
      · rename_i inf hinf
        split at h
        · rename_i z hz
          split at h
          · rename_i hb
            split at h
            · rename_i hall
              injection h with h
              subst h
              refine OpSound.of_new fun ρ a w hr hs => ?_
              have e1 := int_of (hr x (by simp [Op.operands]) _ hx)
              have e2 := int_of (hr y (by simp [Op.operands]) _ hy)
              generalize hcells : (Array.range (c.toNat * inf.size)).map (z.cells[· % z.cells.size]!) = cells at hall
              have hself : VRs ρ cells.toList cells.toList := ⟨rfl, fun i v v' p q => by rw [p] at q; cases q; exact pf_self 3 _ (by have := get_all hall p; simp at this; exact this.1)⟩
              have hone : cells.toList.all oneCell = true := List.all_eq_true.2 fun v hv => by have := List.all_eq_true.1 hall v hv; simp at this; exact this.2
              obtain ⟨h1, h2⟩ := new_sound hs hone hself e lo
              refine ⟨_, .slice (some ⟨w.heap.size, 0, none⟩) l.toNat c.toNat, _, .slice h2 (by omega), h1, .inl ?_⟩
              obtain ⟨b1, b2, b3, b4, b5⟩ := hb
              have wl : IntKind.i64.wrap l = l := by unfold IntKind.wrap; simp [IntKind.bits, IntKind.signed]; omega
              have wc : IntKind.i64.wrap c = c := by unfold IntKind.wrap; simp [IntKind.bits, IntKind.signed]; omega
              have hti : ∀ w, (typeInfo e).run P w = .ok inf w := fun w => by simp [typeInfo, hinf]
              have n1 : ¬ (c < 0) := by omega
              have n2 : ¬ (281474976710656 < (inf.bytes : Int) * c) := by rw [Int.mul_comm]; omega
              have n3 : ¬ (l < 0) := by omega
              have n4 : ¬ (c < l) := by omega
              have n5 : ¬ (c.toNat * inf.size = 0) := by omega
              simp [execOp, Instr.makeSlice, e1, e2, run_underlying hu, asInt, asIntOf, hti, wl, wc, n1, n2, n3, n4, n5, sizeOf, zeroValue, hz, hcells, newRow_run]
            · simp at h
          · simp at h
        · simp at h
      · simp at h
    · simp at h
  | call c =>
    obtain ⟨callee, cargs, cats⟩ := c
    have hops : ∀ (ρ : Rho) (a : Act), OpR ρ F a (Op.call ⟨callee, cargs, cats⟩).operands.toList → OpR ρ F a cargs.toList := fun ρ a hr x hx => hr x (by simp [Op.operands, Call.operands] at hx ⊢; exact .inr hx)
    cases callee with
    | value fx =>
      simp only [evOp] at h
      split at h
      · rename_i f u v args hf hargs
        have hrun : ∀ (ρ : Rho) (a : Act) (w : World), OpR ρ F a (Op.call ⟨.value fx, cargs, cats⟩).operands.toList →
            ∃ args' : Array Value, VRs ρ (u.toList ++ args ++ v.toList) args'.toList ∧ (execOp a.eval ⟨dst, .call ⟨.value fx, cargs, cats⟩, type, pos, after, guard⟩).run P w = (callFunc f args').run P w := by
          intro ρ a w hr
          obtain ⟨u', v', e1, hu, hv⟩ := func_of (hr fx (by simp [Op.operands, Call.operands]) _ hf)
          have h2 := evs_sound (a := a) _ _ hargs (hops ρ a hr)
          refine ⟨u' ++ cargs.map a.eval ++ v', ?_, ?_⟩
          · have h3 : VRs ρ args (cargs.map a.eval).toList := by simpa using h2
            simpa using (hu.append h3).append hv
          · simp [execOp, resolve, e1, Deferred.ofValue, invoke]
        split at h
        · rename_i fn hfn
          split at h
          · rename_i c hb
            have hrun' : ∀ (ρ : Rho) (a : Act) (w : World), OpR ρ F a (Op.call ⟨.value fx, cargs, cats⟩).operands.toList →
                ∃ args' : Array Value, VRs ρ (u.toList ++ args ++ v.toList) args'.toList ∧ (execOp a.eval ⟨dst, .call ⟨.value fx, cargs, cats⟩, type, pos, after, guard⟩).run P w = .ok (.enter f args') w := by
              intro ρ a w hr
              obtain ⟨args', h1, h2⟩ := hrun ρ a w hr
              exact ⟨args', h1, by rw [h2]; exact callFunc_enter ok hfn hb args' w⟩
            split at h
            · exact evCall0_sound hC hrun' h
            · exact evCall_sound hC hrun' h
          · split at h
            · rename_i hall
              cases hx : X f (u.toList ++ args ++ v.toList) with
              | none => rw [hx, Option.map_none] at h; cases h
              | some r0 =>
                rw [hx, Option.map_some] at h
                injection h with h
                subst h
                obtain ⟨g1, g2⟩ := hX _ _ _ hx
                refine OpSound.of_pure fun ρ a w hr => ⟨r0, pf_self 3 _ g1, ?_⟩
                obtain ⟨args', h1, h2⟩ := hrun ρ a w hr
                have he : args' = (u.toList ++ args ++ v.toList).toArray := by
                  have := h1.eq_of_pf hall
                  apply Array.ext'
                  simpa using this
                rw [h2, he]
                exact g2 w
            · simp at h
        · simp at h
      · simp at h
    | invoke recv m => exact flat_sound hsel (by simpa only [evOp] using h)
    | builtin b =>
      cases b with
      | len =>
        simp only [evOp] at h
        split at h
        · rename_i t x ht hargs
          have hrun : ∀ (ρ : Rho) (a : Act) (w : World), OpR ρ F a (Op.call ⟨.builtin .len, cargs, cats⟩).operands.toList →
              ∃ x', VR ρ x x' ∧ (execOp a.eval ⟨dst, .call ⟨.builtin .len, cargs, cats⟩, type, pos, after, guard⟩).run P w = (do pure (.value (← Builtin.len_ cats type #[x'])) : Sem Next).run P w := by
            intro ρ a w hr
            have h2 := evs_sound (a := a) _ _ hargs (hops ρ a hr)
            have h3 : VRs ρ [x] (cargs.map a.eval).toList := by simpa using h2
            match hl : (cargs.map a.eval).toList, h3.1 with
            | [x'], _ =>
              refine ⟨x', h3.2 0 _ _ rfl (by rw [hl]; rfl), ?_⟩
              have he : cargs.map a.eval = #[x'] := by apply Array.ext'; simpa using hl
              simp [execOp, resolve, invoke, builtin, he]
          split at h
          · rename_i e ad n c hu
            injection h with h
            subst h
            refine OpSound.of_pure fun ρ a w hr => ⟨_, .flat rfl, ?_⟩
            obtain ⟨x', h1, h2⟩ := hrun ρ a w hr
            rw [h2]
            cases h1 with
            | flat hf => simp [Builtin.len_, ht, run_underlying hu, goInt]
            | slice h hl => simp [Builtin.len_, ht, run_underlying hu, goInt]
            | sliceU h h0 hl => simp [Builtin.len_, ht, run_underlying hu, goInt]
          · rename_i n e y hu
            injection h with h
            subst h
            refine OpSound.of_pure fun ρ a w hr => ⟨_, .flat rfl, ?_⟩
            obtain ⟨x', h1, h2⟩ := hrun ρ a w hr
            rw [h2]
            simp [Builtin.len_, ht, run_underlying hu, goInt]
          · exact flat_sound hsel h
        · simp at h
      | copy =>
        simp only [evOp] at h
        split at h
        · rename_i t ad n c1 bd m c2 ht hargs
          split at h
          · rename_i e hu
            split at h
            · rename_i sz hsz
              split at h
              · rename_i cs hrd
                cases hw : wr H ad cs with
                | none => simp [hw] at h
                | some H' =>
                  simp [hw] at h
                  subst h
                  refine OpSound.of_write fun ρ a w hr hs => ?_
                  have h2 := evs_sound (a := a) _ _ hargs (hops ρ a hr)
                  have h3 : VRs ρ [.slice (some ad) n c1, .slice (some bd) m c2] (cargs.map a.eval).toList := by simpa using h2
                  match hl : (cargs.map a.eval).toList, h3.1 with
                  | [x', y'], _ =>
                    have hx := h3.2 0 _ _ rfl (by rw [hl]; rfl)
                    have hy := h3.2 1 _ _ rfl (by rw [hl]; rfl)
                    obtain ⟨e1, c1', he1, _, hv1, _, _⟩ := slice_of hx
                    obtain ⟨e2, c2', he2, _, hv2, _, _⟩ := slice_of hy
                    have he : cargs.map a.eval = #[x', y'] := by apply Array.ext'; simpa using hl
                    obtain ⟨_, hlen, hone, cs', g1, g2⟩ := rd_sound hs hrd he2
                    have hld := run_loadCells_list (P := P) w ⟨e2.r, e2.d + bd.off, none⟩ cs' g2
                    rw [← g1.1, hlen] at hld
                    obtain ⟨_, w', g3, g4⟩ := wr_sound (P := P) hs hw he1 g1
                    refine ⟨ρ, .int .i64 (min m n : Nat), w', .flat rfl, g4, .inl ?_⟩
                    have hmn : Nat.min m n = min m n := rfl
                    simp [execOp, resolve, invoke, builtin, he, Builtin.copy_, ht, run_underlying hu, hv1, hv2, Builtin.lenOf, sizeOf_run hsz, Builtin.firstCells, hmn, hld, g3, goInt]
              · simp at h
            · simp at h
          · simp at h
        · simp at h
      | _ => exact flat_sound hsel (by simpa only [evOp] using h)
  | _ => exact flat_sound hsel (by simpa only [evOp] using h)

end Go.Proofs.Ytfbjpenbpbpcaaa.Den
