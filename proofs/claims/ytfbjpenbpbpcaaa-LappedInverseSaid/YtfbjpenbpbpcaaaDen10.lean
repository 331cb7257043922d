/-
  A verified evaluator, eleventh part: a region that draws its order is sound, whatever order is drawn.
-/
import Derived.Test.YtfbjpenbpbpcaaaDen9
namespace Go.Proofs.Ytfbjpenbpbpcaaa.Den
open Go

/-- How many operations have not been run. -/
def left (n : Nat) (listed : Array Bool) : Nat := ((List.range n).filter fun i => !listed.getD i true).length

theorem getD_set (listed : Array Bool) (i j : Nat) (d : Bool) (h : i < listed.size) : (listed.setIfInBounds i true).getD j d = if i = j then true else listed.getD j d := by
  simp only [Array.getD_eq_getD_getElem?, Array.getElem?_setIfInBounds]
  by_cases hij : i = j
  · subst hij; simp [h]
  · simp [hij]

theorem left_set {n : Nat} {listed : Array Bool} {i : Nat} (hi : i < n) (hs : listed.size = n) (hu : listed.getD i true = false) : left n (listed.setIfInBounds i true) < left n listed := by
  unfold left
  have e : (List.range n).filter (fun j => !(listed.setIfInBounds i true).getD j true) = ((List.range n).filter fun j => !listed.getD j true).filter (fun j => !(listed.setIfInBounds i true).getD j true) := by
    rw [List.filter_filter]
    refine List.filter_congr fun j _ => ?_
    rw [getD_set _ _ _ _ (by omega)]
    by_cases hij : i = j
    · simp [hij]
    · simp [hij]
  rw [e]
  refine List.length_filter_lt_length_iff_exists.2 ⟨i, ?_, ?_⟩
  · rw [List.mem_filter]
    exact ⟨by simpa using hi, by simp [hu]⟩
  · rw [getD_set _ _ _ _ (by omega)]
    simp

theorem left_zero {n : Nat} {listed : Array Bool} (h : left n listed = 0) : ∀ i, i < n → listed.getD i true = true := by
  intro i hi
  unfold left at h
  have h1 : (List.range n).filter (fun i => !listed.getD i true) = [] := by simpa using h
  have h2 := List.filter_eq_nil_iff.1 h1 i (by simpa using hi)
  simpa using h2

theorem mem_looks_operand {ops : List Oper} {o : Oper} {t : Tmp} (h : Operand.tmp t ∈ o.op.operands.toList) : t ∈ looks ops o := by
  unfold looks
  rw [List.mem_append]
  exact .inl (List.mem_filterMap.2 ⟨_, h, rfl⟩)

theorem mem_looks_guard {ops : List Oper} {o : Oper} {j : Nat} {w : Bool} {d : Tmp} (hg : o.guard = some (j, w)) (hd : (ops[j]?).bind (·.dst) = some d) : d ∈ looks ops o := by
  unfold looks
  rw [List.mem_append, hg]
  exact .inr (by show d ∈ ((ops[j]?).bind (·.dst)).toList; rw [hd]; simp)

set_option maxHeartbeats 1000000 in
theorem evDraw_sound {P : Program} {X : Ext} {C : Oracle} (ok : ProgOk P) (hX : XSound P X) (hC : Sound P C) {nt : Nat} {id : Nat} {ops : Array Oper} (hst : statOk ops.toList (masks ops.toList) = true)
    {ρ0 : Rho} {H00 : Heap} {w0 : World} {F : Slots} {H : Heap} {lo : Nat} {F' : Slots} {H' : Heap} {lo' : Nat} {Q : Exit → Act → World → Prop}
    (h : evDraw P X C nt ops.toList F H lo = some (F', H', lo')) (hQ : ∀ ρ' a' w', Rel ρ0 H00 w0 ρ' H' lo' w' → FR ρ' nt F' a' → Q .normal a' w')
    {ρ : Rho} {a : Act} {w : World} (hR : Rel ρ0 H00 w0 ρ H lo w) (hF : FR ρ nt F a) : (Code.region id ops true).wp P Q a w := by
  obtain ⟨s1, s2⟩ := statOk_spec hst
  unfold evDraw at h
  split at h
  case h_2 => simp at h
  rename_i rs Ff hrec
  split at h
  case h_2 => simp at h
  rename_i hdyn
  obtain ⟨hlen, hFf, hstep⟩ := evRecs_spec (F0 := F) (H0 := H) (lo0 := lo) rs ops.toList 0 0 F H lo rs rfl (Nat.zero_le _) rfl (Nat.zero_le _) rfl rfl rfl (fun k hk => by omega) hrec
  have hrun : RunOk P X C nt ops.toList F H lo rs := ⟨fun i o ho => hstep i o (Nat.zero_le _) ho⟩
  have hsel : ∀ (i : Nat) (o : Oper), ops.toList[i]? = some o → noSel o = true := fun i o ho => (s1 i o ho).1
  have hkeys : ∀ t v, at? t F = some v → t < nt := fun t v hv => by
    obtain ⟨v', x, _⟩ := hF.slot t v hv
    rw [← hF.size]
    exact (Array.getElem?_eq_some_iff.1 x).1
  generalize hn : ops.toList.length = n at hlen hFf
  have hsz : ops.size = n := by simpa using hn
  -- the end of the run in the text's order
  have hend : F' = slotsAt nt F ops.toList rs n ∧ H' = heapAt H rs n ∧ lo' = loAt lo rs n := by
    split at h
    · rename_i r hr
      simp only [Option.some.injEq, Prod.mk.injEq] at h
      obtain ⟨rfl, rfl, rfl⟩ := h
      rw [List.getLast?_eq_getElem?, hlen] at hr
      have hpos : 0 < n := by
        have := (List.getElem?_eq_some_iff.1 hr).1
        omega
      obtain ⟨m, rfl⟩ : ∃ m, n = m + 1 := ⟨n - 1, by omega⟩
      have hrec : recAt rs m = r := by simp [recAt, show rs[m]? = some r from hr]
      exact ⟨hFf, by simp only [heapAt]; rw [hrec], by simp only [loAt]; rw [hrec]⟩
    · rename_i hr
      simp only [Option.some.injEq, Prod.mk.injEq] at h
      obtain ⟨rfl, rfl, rfl⟩ := h
      have h0 : n = 0 := by
        have : rs = [] := by simpa using hr
        rw [this] at hlen
        simpa using hlen.symm
      subst h0
      exact ⟨hFf, rfl, rfl⟩
  obtain ⟨e1, e2, e3⟩ := hend
  subst e1 e2 e3
  refine wp_region_any ok.mixed ?_
  rw [hsz]
  -- the invariant
  have key : ∀ (fuel : Nat) (listed : Array Bool) (ρ : Rho) (a : Act) (w : World), listed.size = n → left n listed ≤ fuel →
      (∀ i o, ops.toList[i]? = some o → listed.getD i false = true → ∀ e ∈ o.after.toList, Region.binds .any e = true → listed.getD e.on false = true) →
      a.defers = [] → a.tmps.size = nt → (∀ t v, cur nt F ops.toList rs (fun i => listed.getD i false) t n = some v → ∃ v', a.tmps[t]? = some v' ∧ VR ρ v v') →
      Rel ρ0 H00 w0 ρ (curH H rs (fun i => listed.getD i false) n) (loAt lo rs n) w → wpAny P .any ops Q fuel listed a w := by
    -- all have been run
    have fin : ∀ (listed : Array Bool) (ρ : Rho) (a : Act) (w : World), listed.size = n → (∀ i, i < n → listed.getD i true = true) →
        a.defers = [] → a.tmps.size = nt → (∀ t v, cur nt F ops.toList rs (fun i => listed.getD i false) t n = some v → ∃ v', a.tmps[t]? = some v' ∧ VR ρ v v') →
        Rel ρ0 H00 w0 ρ (curH H rs (fun i => listed.getD i false) n) (loAt lo rs n) w → Q .normal a w := by
      intro listed ρ a w hls hall hd hts hsl hrel
      have hall' : ∀ i, i < n → listed.getD i false = true := by
        intro i hi
        have := hall i hi
        simpa [Array.getD_eq_getD_getElem?, Array.getElem?_eq_getElem (show i < listed.size by omega)] using this
      refine hQ ρ a w ?_ ⟨hd, hts, fun t v hv => hsl t v ?_⟩
      · rw [heap_cur ok hX hC hsel hrun n (by omega)]
        rw [curH_eq (rs := rs) (fun i => listed.getD i false) n n (Nat.le_refl _) (fun j hj _ => by simp [hall' j hj, hj])] at hrel
        exact hrel
      · rw [cur_eq (fun i => listed.getD i false) t n n (Nat.le_refl _) (fun j hj _ => by simp [hall' j hj, hj]), ← cur_all]
        exact hv
    -- if none is ready, all have been run
    have none_ready : ∀ (listed : Array Bool), listed.size = n → Region.ready .any ops listed = [] → ∀ i, i < n → listed.getD i true = true := by
      intro listed hls hre i
      induction i using Nat.strongRecOn with
      | _ i ih =>
        intro hi
        cases hl : listed.getD i true with
        | true => rfl
        | false =>
          have hx : ops.toList[i]? = some (ops.toList[i]'(by omega)) := List.getElem?_eq_getElem _
          have hmem : i ∈ Region.ready .any ops listed := by
            rw [mem_ready]
            have hx' : ops[i]? = some (ops.toList[i]'(by omega)) := by rw [← hx, Array.getElem?_toList]
            refine ⟨hl, _, hx', fun e he hb => ?_⟩
            have hlt := (s1 i _ hx).2 e (by simpa using he) hb
            have := ih e.on hlt (by omega)
            simpa [Array.getD_eq_getD_getElem?, Array.getElem?_eq_getElem (show e.on < listed.size by omega)] using this
          rw [hre] at hmem
          simp at hmem
    intro fuel
    induction fuel with
    | zero =>
      intro listed ρ a w hls hleft hcl hd hts hsl hrel
      have hall := left_zero (n := n) (listed := listed) (by omega)
      refine ⟨?_, fin listed ρ a w hls hall hd hts hsl hrel⟩
      cases hre : Region.ready .any ops listed with
      | nil => rfl
      | cons i l =>
        have hmem : i ∈ Region.ready .any ops listed := by rw [hre]; simp
        rw [mem_ready] at hmem
        obtain ⟨h2, o, ho, _⟩ := hmem
        have := (Array.getElem?_eq_some_iff.1 ho).1
        rw [hall i (by omega)] at h2
        simp at h2
    | succ fuel ih =>
      intro listed ρ a w hls hleft hcl hd hts hsl hrel
      refine ⟨fun hre => fin listed ρ a w hls (none_ready listed hls hre) hd hts hsl hrel, fun i hi => ?_⟩
      rw [mem_ready] at hi
      obtain ⟨hun, o, ho, hpre⟩ := hi
      have hin := (Array.getElem?_eq_some_iff.1 ho).1
      have hin' : i < n := by omega
      have hol : ops.toList[i]? = some o := by simpa using ho
      have hun' : listed.getD i false = false := by
        simpa [Array.getD_eq_getD_getElem?, Array.getElem?_eq_getElem (show i < listed.size by omega)] using hun
      have hpre' : ∀ e ∈ o.after.toList, Region.binds .any e = true → listed.getD e.on false = true := fun e he hb => hpre e (by simpa using he) hb
      have hmask : ∀ k, ((masks ops.toList).getD i 0).testBit k = true → listed.getD k false = true := closed_masks hcl i o hol hpre'
      have hafter : ∀ j, i < j → j < n → ((masks ops.toList).getD j 0).testBit i = true → listed.getD j false = false := by
        intro j hij hj hm
        cases hl : listed.getD j false with
        | false => rfl
        | true =>
          have hx : ops.toList[j]? = some (ops.toList[j]'(by omega)) := List.getElem?_eq_getElem _
          have := closed_masks hcl j _ hx (hcl j _ hx hl) i hm
          rw [hun'] at this
          simp at this
      -- the writers of a slot that this operation names
      have hdst : ∀ k d, dstAt ops.toList k = some d → ∃ q, ops.toList[k]? = some q ∧ q.dst = some d := by
        intro k d hd
        unfold dstAt at hd
        cases hq : ops.toList[k]? with
        | none => simp [hq] at hd
        | some q => exact ⟨q, rfl, by simpa [hq] using hd⟩
      have hwr : ∀ t, (t ∈ looks ops.toList o ∨ o.dst = some t) → ∀ j, j < n → dstAt ops.toList j = some t → (listed.getD j false = true ↔ j < i) := by
        intro t ht j hj hdj
        obtain ⟨q, hq, hqd⟩ := hdst j t hdj
        rcases Nat.lt_trichotomy j i with hlt | heq | hgt
        · -- ahead of it
          have hm : ((masks ops.toList).getD i 0).testBit j = true := by
            rcases ht with ht | ht
            · exact (s2 j i q o hq hol hlt).2 t hqd ht
            · exact (s2 j i q o hq hol hlt).1 t ht (.inr hqd)
          exact ⟨fun _ => hlt, fun _ => hmask j hm⟩
        · subst heq
          rw [hun']
          simp
        · have hm : ((masks ops.toList).getD j 0).testBit i = true := by
            rcases ht with ht | ht
            · exact (s2 i j o q hol hq hgt).1 t hqd (.inl ht)
            · exact (s2 i j o q hol hq hgt).1 t hqd (.inr ht)
          rw [hafter j hgt hj hm]
          constructor
          · intro h; simp at h
          · intro h; omega
      have hslot : ∀ t, t ∈ looks ops.toList o → ∀ v, at? t (slotsAt nt F ops.toList rs i) = some v → ∃ v', a.tmps[t]? = some v' ∧ VR ρ v v' := by
        intro t ht v hv
        refine hsl t v ?_
        rw [cur_eq (fun j => listed.getD j false) t i n (by omega) (hwr t (.inl ht)), ← cur_all]
        exact hv
      have hopR : OpR ρ (slotsAt nt F ops.toList rs i) a o.op.operands.toList := by
        intro x hx v hv
        refine eval_slot (fun t u hxt hu => hslot t ?_ u hu) hv
        subst hxt
        exact mem_looks_operand hx
      have hwant : ∀ b, wantedF ops.toList (slotsAt nt F ops.toList rs i) o = some b → Region.wanted o (yielded ops a.tmps) = b := fun b hb =>
        wanted_of (fun j w d v hg hdd hv => hslot d (mem_looks_guard hg (by simpa using hdd)) v hv) hb
      -- the heap, for an operation that is not pure
      have hheap : (recAt rs i).eff ≠ .pure → curH H rs (fun j => listed.getD j false) n = heapAt H rs i := by
        intro hnp
        rw [heap_cur ok hX hC hsel hrun i (by omega)]
        refine curH_eq _ i n (by omega) fun j hj hwj => ?_
        rcases Nat.lt_trichotomy j i with hlt | heq | hgt
        · have hm := dynOk_spec hdyn j i (by omega) (by omega) hwj hnp (by omega)
          rw [show max j i = i by omega, show min j i = j by omega] at hm
          exact ⟨fun _ => hlt, fun _ => hmask j hm⟩
        · subst heq
          rw [hun']
          simp
        · have hm := dynOk_spec hdyn j i (by omega) (by omega) hwj hnp (by omega)
          rw [show max j i = j by omega, show min j i = i by omega] at hm
          rw [hafter j hgt hj hm]
          constructor
          · intro h; simp at h
          · intro h; omega
      -- what comes behind it
      have hnext : ∀ (ρ' : Rho) (v' : Value) (w' : World), ρ <+: ρ' → VR ρ' (recAt rs i).v v' →
          Rel ρ0 H00 w0 ρ' (if (recAt rs i).eff = .write then (recAt rs i).H else curH H rs (fun j => listed.getD j false) n) (loAt lo rs n) w' →
          wpAny P .any ops Q fuel (listed.setIfInBounds i true) (a.put o.dst v') w' := by
        intro ρ' v' w' hp hv hrel'
        have hDi : ∀ j, (listed.setIfInBounds i true).getD j false = if i = j then true else listed.getD j false := fun j => getD_set _ _ _ _ (by omega)
        refine ih _ ρ' _ w' (by simp [hls]) ?_ ?_ (by rw [put_defers, hd]) (by rw [put_size, hts]) ?_ ?_
        · have := left_set hin' hls hun
          omega
        · intro j p hp' hlj e he hb
          rw [hDi] at hlj ⊢
          by_cases hij : i = j
          · subst hij
            rw [hol] at hp'
            injection hp' with hp'
            subst hp'
            rw [hpre' e he hb]
            simp
          · rw [if_neg hij] at hlj
            rw [hcl j p hp' hlj e he hb]
            simp
        · intro t v hcv
          by_cases hdt : o.dst = some t
          · by_cases htn : t < nt
            · rw [cur_eq _ t (i + 1) n (by omega) (fun j hj hdj => by
                rw [hDi]
                by_cases hij : i = j
                · subst hij; simp
                · rw [if_neg hij, hwr t (.inr hdt) j hj hdj]
                  omega)] at hcv
              have hdi : dstAt ops.toList i = some t := by simp [dstAt, ho, hdt]
              simp only [cur] at hcv
              rw [if_pos ⟨trivial, hdi, htn⟩] at hcv
              injection hcv with hcv
              subst hcv
              exact ⟨v', by rw [hdt]; exact put_same a t v' (by rw [hts]; exact htn), hv⟩
            · -- no such slot
              exfalso
              have : ∀ m D, cur nt F ops.toList rs D t m = at? t F := by
                intro m D
                induction m with
                | zero => rfl
                | succ m ihm => simp only [cur]; rw [if_neg (fun h => htn h.2.2), ihm]
              rw [this] at hcv
              exact htn (hkeys t v hcv)
          · have hcv' : cur nt F ops.toList rs (fun j => listed.getD j false) t n = some v := by
              rw [← hcv]
              refine cur_congr _ _ t n fun j hj hdj => ?_
              rw [hDi]
              by_cases hij : i = j
              · subst hij
                obtain ⟨q, hq, hqd⟩ := hdst i t hdj
                rw [hol] at hq
                injection hq with hq
                subst hq
                exact (hdt hqd).elim
              · rw [if_neg hij]
            obtain ⟨u, x, y⟩ := hsl t v hcv'
            exact ⟨u, by rw [put_other a o.dst v' t hdt]; exact x, y.mono hp⟩
        · by_cases hwi : (recAt rs i).eff = .write
          · rw [if_pos hwi] at hrel'
            have : curH H rs (fun j => (listed.setIfInBounds i true).getD j false) n = (recAt rs i).H := by
              rw [curH_eq _ (i + 1) n (by omega) (fun j hj hwj => by
                rw [hDi]
                by_cases hij : i = j
                · subst hij; simp
                · rw [if_neg hij]
                  rcases Nat.lt_trichotomy j i with hlt | heq | hgt
                  · have hm := dynOk_spec hdyn j i (by omega) (by omega) hwj (by rw [hwi]; simp) (by omega)
                    rw [show max j i = i by omega, show min j i = j by omega] at hm
                    exact ⟨fun _ => by omega, fun _ => hmask j hm⟩
                  · exact (hij heq.symm).elim
                  · have hm := dynOk_spec hdyn j i (by omega) (by omega) hwj (by rw [hwi]; simp) (by omega)
                    rw [show max j i = j by omega, show min j i = i by omega] at hm
                    rw [hafter j hgt hj hm]
                    constructor
                    · intro h; simp at h
                    · intro h; omega)]
              simp only [curH]
              rw [if_pos ⟨trivial, hwi⟩]
            rw [this]; exact hrel'
          · rw [if_neg hwi] at hrel'
            have : curH H rs (fun j => (listed.setIfInBounds i true).getD j false) n = curH H rs (fun j => listed.getD j false) n := by
              refine curH_congr _ _ n fun j hj hwj => ?_
              rw [hDi]
              by_cases hij : i = j
              · subst hij; exact (hwi hwj).elim
              · rw [if_neg hij]
            rw [this]; exact hrel'
      -- the operation itself
      unfold wpOp
      rw [ho]
      simp only
      rcases hrun.step i o hol with ⟨hw, r, hr, hcase⟩ | ⟨hw, hskip⟩
      · rw [hwant true hw, if_pos rfl]
        left
        have hop := evOp_sound ok hX hC (hsel i o hol) hr
        have hlo : loAt lo rs n ≤ r.lo := by
          have h1 := lo_all ok hX hC hsel hrun n (by omega) (i + 1) (by omega)
          have h2 : loAt lo rs (i + 1) = r.lo := by
            show (recAt rs i).lo = r.lo
            rcases hcase with hc | ⟨_, _, _, _, _, hc⟩ <;> rw [hc]
          omega
        cases hre : r.eff with
        | pure =>
          obtain ⟨_, _, h3⟩ := hop.pure hre
          have hrec : recAt rs i = ⟨r.v, r.eff, r.H, r.lo⟩ := by
            rcases hcase with hc | ⟨_, hc, _⟩
            · exact hc
            · rw [hre] at hc; simp at hc
          refine h3 ρ a w _ _ hopR fun v' w' hv hq => hnext ρ v' w' (List.prefix_refl _) (by rw [hrec]; exact hv) ?_
          rw [hrec, if_neg (by rw [hre]; simp)]
          have := hrel.trans (Rel.of_quiet hrel.sr hq (loAt lo rs n))
          rwa [Nat.min_self] at this
        | read =>
          obtain ⟨_, _, h3⟩ := hop.read hre
          have hrec : recAt rs i = ⟨r.v, r.eff, r.H, r.lo⟩ := by
            rcases hcase with hc | ⟨_, hc, _⟩
            · exact hc
            · rw [hre] at hc; simp at hc
          have hH := hheap (by rw [hrec, hre]; simp)
          refine h3 ρ a w _ _ hopR (by rw [← hH]; exact hrel.sr) fun v' w' hv hq => hnext ρ v' w' (List.prefix_refl _) (by rw [hrec]; exact hv) ?_
          rw [hrec, if_neg (by rw [hre]; simp)]
          have := hrel.trans (Rel.of_quiet hrel.sr hq (loAt lo rs n))
          rwa [Nat.min_self] at this
        | write =>
          obtain ⟨l, h1, h2⟩ := hop.write hre
          have hnp : (recAt rs i).eff ≠ .pure := by
            rcases hcase with hc | ⟨_, _, _, _, _, hc⟩ <;> rw [hc]
            · rw [hre]; simp
            · simp
          have hH := hheap hnp
          have hll : min (loAt lo rs n) l = loAt lo rs n := by
            have := Nat.min_le_right (loAt lo rs i) l
            omega
          refine h2 ρ a w _ _ hopR (by rw [← hH]; exact hrel.sr) fun ρ' v' w' hv hq => ?_
          rcases hcase with hc | ⟨j, _, hself, hji, hno, hc⟩
          · refine hnext ρ' v' w' hq.pre (by rw [hc]; exact hv) ?_
            rw [hc, if_pos hre]
            rw [hH] at hrel
            have := hrel.trans hq
            rwa [hll] at this
          · refine hnext ρ' v' w' hq.pre (by rw [hc]; exact hv) ?_
            rw [hc, if_neg (by simp)]
            have hsame := self_same ok hX hC hsel hrun hkeys hol hr hself hji hno
            rw [hsame] at hq
            rw [hH] at hrel ⊢
            have := hrel.trans hq
            rwa [hll] at this
      · rw [hwant false hw]
        simp only [Bool.false_eq_true, if_false]
        refine hnext ρ undef w (List.prefix_refl _) (by rw [hskip]; exact pf_self 3 undef rfl) ?_
        rw [hskip, if_neg (by simp)]
        exact hrel
  -- the start
  have hq0 : Quiet w { w with drawn := w.drawn + 1 } := ⟨rfl, rfl, rfl, Nat.le_refl _, fun _ _ => rfl, fun _ => rfl⟩
  have hD0 : ∀ i, (Array.replicate n false).getD i false = false := by
    intro i
    simp only [Array.getD_eq_getD_getElem?]
    by_cases hi : i < n
    · simp [hi]
    · simp [hi]
  refine key n _ ρ a _ (by simp) ?_ ?_ hF.defers hF.size ?_ ?_
  · unfold left
    have := List.length_filter_le (fun i => !(Array.replicate n false).getD i true) (List.range n)
    simpa using this
  · intro i o _ hl
    rw [hD0] at hl
    simp at hl
  · intro t v hv
    have : ∀ m, cur nt F ops.toList rs (fun i => (Array.replicate n false).getD i false) t m = at? t F := by
      intro m
      induction m with
      | zero => rfl
      | succ m ihm => simp only [cur]; rw [if_neg (fun h => by rw [hD0] at h; simp at h), ihm]
    rw [this] at hv
    exact hF.slot t v hv
  · have : ∀ m, curH H rs (fun i => (Array.replicate n false).getD i false) m = H := by
      intro m
      induction m with
      | zero => rfl
      | succ m ihm => simp only [curH]; rw [if_neg (fun h => by rw [hD0] at h; simp at h), ihm]
    rw [this]
    have h1 := hR.trans (Rel.of_quiet hR.sr hq0 lo)
    rw [Nat.min_self] at h1
    exact h1.mono (lo_all ok hX hC hsel hrun n (by omega) 0 (Nat.zero_le _))

end Go.Proofs.Ytfbjpenbpbpcaaa.Den
