/- Parts of the proof, joined: Den10, Den10b, DenR, Den6c, Den10c, Den10d, Den10e, Den10f, Den11. -/
import Derived.OrdersHeld
import Derived.LoopN
import Derived.Test.YtpgmabpaiijipaaGreatDoorZ02
import Derived.Test.YtpgmabpaiijipaaGreatDoorZ01
namespace Go.Proofs.YtpgmabpaiijipaaGreatDoor.Den
open Go
def left (n : Nat) (listed : Array Bool) : Nat := ((List.range n).filter fun i => !listed.getD i true).length
theorem getD_set (listed : Array Bool) (i j : Nat) (d : Bool) (h : i < listed.size) : (listed.setIfInBounds i true).getD j d = if i = j then true else listed.getD j d := by
  simp only [Array.getD_eq_getD_getElem?, Array.getElem?_setIfInBounds]
  by_cases hij : i = j
  · subst hij; simp [h]
  · simp [hij]
theorem left_set {n : Nat} {listed : Array Bool} {i : Nat} (hi : i < n) (hs : listed.size = n) (hu : listed.getD i true = false) : left n (listed.setIfInBounds i true) < left n listed := by
  unfold left
  have e : (List.range n).filter (fun j => !(listed.setIfInBounds i true).getD j true) = ((List.range n).filter fun j => !listed.getD j true).filter (fun j => !(listed.setIfInBounds i true).getD j true) := by
    rw [List.filter_filter]
    refine List.filter_congr fun j _ => ?_
    rw [getD_set _ _ _ _ (by omega)]
    by_cases hij : i = j
    · simp [hij]
    · simp [hij]
  rw [e]
  refine List.length_filter_lt_length_iff_exists.2 ⟨i, ?_, ?_⟩
  · rw [List.mem_filter]
    exact ⟨by simpa using hi, by simp [hu]⟩
  · rw [getD_set _ _ _ _ (by omega)]
    simp
theorem left_zero {n : Nat} {listed : Array Bool} (h : left n listed = 0) : ∀ i, i < n → listed.getD i true = true := by
  intro i hi
  unfold left at h
  have h1 : (List.range n).filter (fun i => !listed.getD i true) = [] := by simpa using h
  have h2 := List.filter_eq_nil_iff.1 h1 i (by simpa using hi)
  simpa using h2
theorem mem_looks_operand {ops : List Oper} {o : Oper} {t : Tmp} (h : Operand.tmp t ∈ o.op.operands.toList) : t ∈ looks ops o := by
  unfold looks
  rw [List.mem_append]
  exact .inl (List.mem_filterMap.2 ⟨_, h, rfl⟩)
theorem mem_looks_guard {ops : List Oper} {o : Oper} {j : Nat} {w : Bool} {d : Tmp} (hg : o.guard = some (j, w)) (hd : (ops[j]?).bind (·.dst) = some d) : d ∈ looks ops o := by
  unfold looks
  rw [List.mem_append, hg]
  exact .inr (by show d ∈ ((ops[j]?).bind (·.dst)).toList; rw [hd]; simp)
variable {ds : List Deferred}
set_option maxHeartbeats 1000000 in
theorem evDraw1_any {P : Program} {X : Ext} {C : Oracle} (ok : ProgOk P) (hX : XSound P X) (hC : Sound P C) {nt : Nat} {ops : Array Oper} (hst : statOk ops.toList (masks ops.toList) = true)
    {ρ0 : Rho} {H00 : Heap} {w0 : World} {F : Slots} {H : Heap} {lo : Nat} {F' : Slots} {H' : Heap} {lo' : Nat} {Q : Exit → Act → World → Prop}
    (h : evDraw1 P X C nt ops.toList F H lo = some (F', H', lo')) (hQ : ∀ ρ' a' w', Rel ρ0 H00 w0 ρ' H' lo' w' → FR ds ρ' nt F' a' → Q .normal a' w')
    {ρ : Rho} {a : Act} {w : World} (hR : Rel ρ0 H00 w0 ρ H lo w) (hF : FR ds ρ nt F a) : wpAny P .any ops Q ops.size (Array.replicate ops.size false) a { w with drawn := w.drawn + 1 } := by
  obtain ⟨s1, s2⟩ := statOk_spec hst
  unfold evDraw1 at h
  split at h
  case h_2 => simp at h
  rename_i rs Ff hrec
  split at h
  case h_2 => simp at h
  rename_i hdyn
  obtain ⟨d1, d2⟩ := dynOk_spec hdyn
  obtain ⟨hlen, hFf, hstep⟩ := evRecs_spec (F0 := F) (H0 := H) (lo0 := lo) rs ops.toList 0 0 F H lo rs rfl (Nat.zero_le _) rfl (Nat.zero_le _) rfl rfl rfl (fun k hk => by omega) hrec
  have hrun : RunOk P X C nt ops.toList F H lo rs := ⟨fun i o ho => hstep i o (Nat.zero_le _) ho⟩
  have hsel : ∀ (i : Nat) (o : Oper), ops.toList[i]? = some o → noSel o = true := fun i o ho => (s1 i o ho).1
  have hkeys : ∀ t v, at? t F = some v → t < nt := fun t v hv => by
    obtain ⟨v', x, _⟩ := hF.slot t v hv
    rw [← hF.size]
    exact (Array.getElem?_eq_some_iff.1 x).1
  generalize hn : ops.toList.length = n at hlen hFf
  have hsz : ops.size = n := by simpa using hn
  have hend : F' = slotsAt nt F ops.toList rs n ∧ H' = heapAt H rs n ∧ lo' = loAt lo rs n := by
    split at h
    · rename_i r hr
      simp only [Option.some.injEq, Prod.mk.injEq] at h
      obtain ⟨rfl, rfl, rfl⟩ := h
      rw [List.getLast?_eq_getElem?, hlen] at hr
      have hpos : 0 < n := by
        have := (List.getElem?_eq_some_iff.1 hr).1
        omega
      obtain ⟨m, rfl⟩ : ∃ m, n = m + 1 := ⟨n - 1, by omega⟩
      have hrec : recAt rs m = r := by simp [recAt, show rs[m]? = some r from hr]
      exact ⟨hFf, by simp only [heapAt]; rw [hrec], by simp only [loAt]; rw [hrec]⟩
    · rename_i hr
      simp only [Option.some.injEq, Prod.mk.injEq] at h
      obtain ⟨rfl, rfl, rfl⟩ := h
      have h0 : n = 0 := by
        have : rs = [] := by simpa using hr
        rw [this] at hlen
        simpa using hlen.symm
      subst h0
      exact ⟨hFf, rfl, rfl⟩
  obtain ⟨e1, e2, e3⟩ := hend
  subst e1 e2 e3
  rw [hsz]
  have key : ∀ (fuel : Nat) (listed : Array Bool) (ρ : Rho) (a : Act) (w : World), listed.size = n → left n listed ≤ fuel →
      (∀ i o, ops.toList[i]? = some o → listed.getD i false = true → ∀ e ∈ o.after.toList, Region.binds .any e = true → listed.getD e.on false = true) →
      a.defers = ds → a.tmps.size = nt → (∀ t v, cur nt F ops.toList rs (fun i => listed.getD i false) t n = some v → ∃ v', a.tmps[t]? = some v' ∧ VR ρ v v') →
      Rel ρ0 H00 w0 ρ (curH H rs (fun i => listed.getD i false) n) (loAt lo rs n) w → wpAny P .any ops Q fuel listed a w := by
    have fin : ∀ (listed : Array Bool) (ρ : Rho) (a : Act) (w : World), listed.size = n → (∀ i, i < n → listed.getD i true = true) →
        a.defers = ds → a.tmps.size = nt → (∀ t v, cur nt F ops.toList rs (fun i => listed.getD i false) t n = some v → ∃ v', a.tmps[t]? = some v' ∧ VR ρ v v') →
        Rel ρ0 H00 w0 ρ (curH H rs (fun i => listed.getD i false) n) (loAt lo rs n) w → Q .normal a w := by
      intro listed ρ a w hls hall hd hts hsl hrel
      have hall' : ∀ i, i < n → listed.getD i false = true := by
        intro i hi
        have := hall i hi
        simpa [Array.getD_eq_getD_getElem?, Array.getElem?_eq_getElem (show i < listed.size by omega)] using this
      refine hQ ρ a w ?_ ⟨hd, hts, fun t v hv => hsl t v ?_⟩
      · rw [heap_cur ok hX hC hsel hrun n (by omega)]
        rw [curH_eq (rs := rs) (fun i => listed.getD i false) n n (Nat.le_refl _) (fun j hj _ => by simp [hall' j hj, hj])] at hrel
        exact hrel
      · rw [cur_eq (fun i => listed.getD i false) t n n (Nat.le_refl _) (fun j hj _ => by simp [hall' j hj, hj]), ← cur_all]
        exact hv
    have none_ready : ∀ (listed : Array Bool), listed.size = n → Region.ready .any ops listed = [] → ∀ i, i < n → listed.getD i true = true := by
      intro listed hls hre i
      induction i using Nat.strongRecOn with
      | _ i ih =>
        intro hi
        cases hl : listed.getD i true with
        | true => rfl
        | false =>
          have hx : ops.toList[i]? = some (ops.toList[i]'(by omega)) := List.getElem?_eq_getElem _
          have hmem : i ∈ Region.ready .any ops listed := by
            rw [mem_ready]
            have hx' : ops[i]? = some (ops.toList[i]'(by omega)) := by rw [← hx, Array.getElem?_toList]
            refine ⟨hl, _, hx', fun e he hb => ?_⟩
            have hlt := (s1 i _ hx).2 e (by simpa using he) hb
            have := ih e.on hlt (by omega)
            simpa [Array.getD_eq_getD_getElem?, Array.getElem?_eq_getElem (show e.on < listed.size by omega)] using this
          rw [hre] at hmem
          simp at hmem
    intro fuel
    induction fuel with
    | zero =>
      intro listed ρ a w hls hleft hcl hd hts hsl hrel
      have hall := left_zero (n := n) (listed := listed) (by omega)
      refine ⟨?_, fin listed ρ a w hls hall hd hts hsl hrel⟩
      cases hre : Region.ready .any ops listed with
      | nil => rfl
      | cons i l =>
        have hmem : i ∈ Region.ready .any ops listed := by rw [hre]; simp
        rw [mem_ready] at hmem
        obtain ⟨h2, o, ho, _⟩ := hmem
        have := (Array.getElem?_eq_some_iff.1 ho).1
        rw [hall i (by omega)] at h2
        simp at h2
    | succ fuel ih =>
      intro listed ρ a w hls hleft hcl hd hts hsl hrel
      refine ⟨fun hre => fin listed ρ a w hls (none_ready listed hls hre) hd hts hsl hrel, fun i hi => ?_⟩
      rw [mem_ready] at hi
      obtain ⟨hun, o, ho, hpre⟩ := hi
      have hin := (Array.getElem?_eq_some_iff.1 ho).1
      have hin' : i < n := by omega
      have hol : ops.toList[i]? = some o := by simpa using ho
      have hun' : listed.getD i false = false := by
        simpa [Array.getD_eq_getD_getElem?, Array.getElem?_eq_getElem (show i < listed.size by omega)] using hun
      have hpre' : ∀ e ∈ o.after.toList, Region.binds .any e = true → listed.getD e.on false = true := fun e he hb => hpre e (by simpa using he) hb
      have hmask : ∀ k, ((masks ops.toList).getD i 0).testBit k = true → listed.getD k false = true := closed_masks hcl i o hol hpre'
      have hafter : ∀ j, i < j → j < n → ((masks ops.toList).getD j 0).testBit i = true → listed.getD j false = false := by
        intro j hij hj hm
        cases hl : listed.getD j false with
        | false => rfl
        | true =>
          have hx : ops.toList[j]? = some (ops.toList[j]'(by omega)) := List.getElem?_eq_getElem _
          have := closed_masks hcl j _ hx (hcl j _ hx hl) i hm
          rw [hun'] at this
          simp at this
      have hdst : ∀ k d, dstAt ops.toList k = some d → ∃ q, ops.toList[k]? = some q ∧ q.dst = some d := by
        intro k d hd
        unfold dstAt at hd
        cases hq : ops.toList[k]? with
        | none => simp [hq] at hd
        | some q => exact ⟨q, rfl, by simpa [hq] using hd⟩
      have hwr : ∀ t, (t ∈ looks ops.toList o ∨ o.dst = some t) → ∀ j, j < n → dstAt ops.toList j = some t → (listed.getD j false = true ↔ j < i) := by
        intro t ht j hj hdj
        obtain ⟨q, hq, hqd⟩ := hdst j t hdj
        rcases Nat.lt_trichotomy j i with hlt | heq | hgt
        ·
          have hm : ((masks ops.toList).getD i 0).testBit j = true := by
            rcases ht with ht | ht
            · exact (s2 j i q o hq hol hlt).2 t hqd ht
            · exact (s2 j i q o hq hol hlt).1 t ht (.inr hqd)
          exact ⟨fun _ => hlt, fun _ => hmask j hm⟩
        · subst heq
          rw [hun']
          simp
        · have hm : ((masks ops.toList).getD j 0).testBit i = true := by
            rcases ht with ht | ht
            · exact (s2 i j o q hol hq hgt).1 t hqd (.inl ht)
            · exact (s2 i j o q hol hq hgt).1 t hqd (.inr ht)
          rw [hafter j hgt hj hm]
          constructor
          · intro h; simp at h
          · intro h; omega
      have hslot : ∀ t, t ∈ looks ops.toList o → ∀ v, at? t (slotsAt nt F ops.toList rs i) = some v → ∃ v', a.tmps[t]? = some v' ∧ VR ρ v v' := by
        intro t ht v hv
        refine hsl t v ?_
        rw [cur_eq (fun j => listed.getD j false) t i n (by omega) (hwr t (.inl ht)), ← cur_all]
        exact hv
      have hopR : OpR ρ (slotsAt nt F ops.toList rs i) a o.op.operands.toList := by
        intro x hx v hv
        refine eval_slot (fun t u hxt hu => hslot t ?_ u hu) hv
        subst hxt
        exact mem_looks_operand hx
      have hwant : ∀ b, wantedF ops.toList (slotsAt nt F ops.toList rs i) o = some b → Region.wanted o (yielded ops a.tmps) = b := fun b hb =>
        wanted_of (fun j w d v hg hdd hv => hslot d (mem_looks_guard hg (by simpa using hdd)) v hv) hb
      have hheap0 : (∀ j, j < n → (recAt rs j).eff = .write → j ≠ i → ((masks ops.toList).getD (max j i) 0).testBit (min j i) = true) → curH H rs (fun j => listed.getD j false) n = heapAt H rs i := by
        intro hall
        rw [heap_cur ok hX hC hsel hrun i (by omega)]
        refine curH_eq _ i n (by omega) fun j hj hwj => ?_
        rcases Nat.lt_trichotomy j i with hlt | heq | hgt
        · have hm := hall j hj hwj (by omega)
          rw [show max j i = i by omega, show min j i = j by omega] at hm
          exact ⟨fun _ => hlt, fun _ => hmask j hm⟩
        · subst heq
          rw [hun']
          simp
        · have hm := hall j hj hwj (by omega)
          rw [show max j i = j by omega, show min j i = i by omega] at hm
          rw [hafter j hgt hj hm]
          constructor
          · intro h; simp at h
          · intro h; omega
      have hheap : (recAt rs i).eff = .write → curH H rs (fun j => listed.getD j false) n = heapAt H rs i := fun hw => hheap0 fun j hj hwj hne => d1 j i (by omega) (by omega) hwj hw hne
      have hread : (recAt rs i).eff = .read → curH H rs (fun j => listed.getD j false) n = heapAt H rs i ∨ ∃ m k, Reread P X C nt ops.toList F H lo rs i k ∧ (m = k ∨ m = k + 1) ∧ curH H rs (fun j => listed.getD j false) n = heapAt H rs m := by
        intro hre
        have hdown : ∀ j k, j < n → k < n → (recAt rs j).eff = .write → (recAt rs k).eff = .write → j < k → listed.getD k false = true → listed.getD j false = true := by
          intro j k hj hk hwj hwk hjk hlk
          have hm := d1 j k (by omega) (by omega) hwj hwk (by omega)
          rw [show max j k = k by omega, show min j k = j by omega] at hm
          have hx : ops.toList[k]? = some (ops.toList[k]'(by omega)) := List.getElem?_eq_getElem _
          exact closed_masks hcl k _ hx (hcl k _ hx hlk) j hm
        have nor : ∀ k, k < n → (recAt rs k).eff = .write → ((masks ops.toList).getD (max k i) 0).testBit (min k i) = true → (listed.getD k false = true ↔ k < i) := by
          intro k hk hwk hm
          have hki : k ≠ i := by rintro rfl; rw [hre] at hwk; cases hwk
          rcases Nat.lt_or_gt_of_ne hki with h1 | h1
          · rw [show max k i = i by omega, show min k i = k by omega] at hm
            exact ⟨fun _ => h1, fun _ => hmask k hm⟩
          · rw [show max k i = k by omega, show min k i = i by omega] at hm
            rw [hafter k h1 hk hm]
            constructor
            · intro h; simp at h
            · intro h; omega
        by_cases hA : ∃ k, k < n ∧ ((recAt rs k).eff = .write ∧ i < k ∧ listed.getD k false = true)
        · obtain ⟨k, hk, ⟨hwk, hik, hlk⟩, hmax⟩ := exists_max n hA
          have hR : Reread P X C nt ops.toList F H lo rs i k := by
            rcases d2 k i (by omega) (by omega) hwk hre with hm | hm
            · have := (nor k hk hwk hm).1 hlk; omega
            · exact hm
          refine .inr ⟨k + 1, k, hR, .inr rfl, ?_⟩
          rw [heap_cur ok hX hC hsel hrun (k + 1) (by omega)]
          refine curH_eq _ (k + 1) n (by omega) fun j hj hwj => ⟨fun hlj => ?_, fun hjk => ?_⟩
          · by_cases hij : i < j
            · have := hmax j hj ⟨hwj, hij, hlj⟩; omega
            · omega
          · by_cases hjk2 : j = k
            · subst hjk2; exact hlk
            · exact hdown j k hj hk hwj hwk (by omega) hlk
        · by_cases hB : ∃ k, k < n ∧ ((recAt rs k).eff = .write ∧ k < i ∧ listed.getD k false = false)
          · obtain ⟨k0, hk0, hP0⟩ := hB
            obtain ⟨k, hkk, ⟨hkn, hwk, hki, hlk⟩, hmin⟩ := exists_min (P := fun k => k < n ∧ (recAt rs k).eff = .write ∧ k < i ∧ listed.getD k false = false) k0 ⟨hk0, hP0⟩
            have hR : Reread P X C nt ops.toList F H lo rs i k := by
              rcases d2 k i (by omega) (by omega) hwk hre with hm | hm
              · have := (nor k hkn hwk hm).2 hki
                rw [hlk] at this
                cases this
              · exact hm
            refine .inr ⟨k, k, hR, .inl rfl, ?_⟩
            rw [heap_cur ok hX hC hsel hrun k (by omega)]
            refine curH_eq _ k n (by omega) fun j hj hwj => ⟨fun hlj => ?_, fun hjk => ?_⟩
            · rcases Nat.lt_trichotomy j k with h1 | h1 | h1
              · exact h1
              · subst h1; rw [hlk] at hlj; cases hlj
              · have := hdown k j hkn hj hwk hwj h1 hlj
                rw [hlk] at this
                cases this
            · cases hlj : listed.getD j false with
              | true => rfl
              | false => exact (hmin j hjk ⟨hj, hwj, by omega, hlj⟩).elim
          · left
            rw [heap_cur ok hX hC hsel hrun i (by omega)]
            refine curH_eq _ i n (by omega) fun j hj hwj => ⟨fun hlj => ?_, fun hji => ?_⟩
            · have hji : j ≠ i := by rintro rfl; rw [hre] at hwj; cases hwj
              by_cases hij : i < j
              · exact (hA ⟨j, hj, hwj, hij, hlj⟩).elim
              · omega
            · cases hlj : listed.getD j false with
              | true => rfl
              | false => exact (hB ⟨j, hj, hwj, hji, hlj⟩).elim
      have hnext : ∀ (ρ' : Rho) (v' : Value) (w' : World), ρ <+: ρ' → VR ρ' (recAt rs i).v v' →
          Rel ρ0 H00 w0 ρ' (if (recAt rs i).eff = .write then (recAt rs i).H else curH H rs (fun j => listed.getD j false) n) (loAt lo rs n) w' →
          wpAny P .any ops Q fuel (listed.setIfInBounds i true) (a.put o.dst v') w' := by
        intro ρ' v' w' hp hv hrel'
        have hDi : ∀ j, (listed.setIfInBounds i true).getD j false = if i = j then true else listed.getD j false := fun j => getD_set _ _ _ _ (by omega)
        refine ih _ ρ' _ w' (by simp [hls]) ?_ ?_ (by rw [put_defers, hd]) (by rw [put_size, hts]) ?_ ?_
        · have := left_set hin' hls hun
          omega
        · intro j p hp' hlj e he hb
          rw [hDi] at hlj ⊢
          by_cases hij : i = j
          · subst hij
            rw [hol] at hp'
            injection hp' with hp'
            subst hp'
            rw [hpre' e he hb]
            simp
          · rw [if_neg hij] at hlj
            rw [hcl j p hp' hlj e he hb]
            simp
        · intro t v hcv
          by_cases hdt : o.dst = some t
          · by_cases htn : t < nt
            · rw [cur_eq _ t (i + 1) n (by omega) (fun j hj hdj => by
                rw [hDi]
                by_cases hij : i = j
                · subst hij; simp
                · rw [if_neg hij, hwr t (.inr hdt) j hj hdj]
                  omega)] at hcv
              have hdi : dstAt ops.toList i = some t := by simp [dstAt, ho, hdt]
              simp only [cur] at hcv
              rw [if_pos ⟨trivial, hdi, htn⟩] at hcv
              injection hcv with hcv
              subst hcv
              exact ⟨v', by rw [hdt]; exact put_same a t v' (by rw [hts]; exact htn), hv⟩
            ·
              exfalso
              have : ∀ m D, cur nt F ops.toList rs D t m = at? t F := by
                intro m D
                induction m with
                | zero => rfl
                | succ m ihm => simp only [cur]; rw [if_neg (fun h => htn h.2.2), ihm]
              rw [this] at hcv
              exact htn (hkeys t v hcv)
          · have hcv' : cur nt F ops.toList rs (fun j => listed.getD j false) t n = some v := by
              rw [← hcv]
              refine cur_congr _ _ t n fun j hj hdj => ?_
              rw [hDi]
              by_cases hij : i = j
              · subst hij
                obtain ⟨q, hq, hqd⟩ := hdst i t hdj
                rw [hol] at hq
                injection hq with hq
                subst hq
                exact (hdt hqd).elim
              · rw [if_neg hij]
            obtain ⟨u, x, y⟩ := hsl t v hcv'
            exact ⟨u, by rw [put_other a o.dst v' t hdt]; exact x, y.mono hp⟩
        · by_cases hwi : (recAt rs i).eff = .write
          · rw [if_pos hwi] at hrel'
            have : curH H rs (fun j => (listed.setIfInBounds i true).getD j false) n = (recAt rs i).H := by
              rw [curH_eq _ (i + 1) n (by omega) (fun j hj hwj => by
                rw [hDi]
                by_cases hij : i = j
                · subst hij; simp
                · rw [if_neg hij]
                  rcases Nat.lt_trichotomy j i with hlt | heq | hgt
                  · have hm := d1 j i (by omega) (by omega) hwj hwi (by omega)
                    rw [show max j i = i by omega, show min j i = j by omega] at hm
                    exact ⟨fun _ => by omega, fun _ => hmask j hm⟩
                  · exact (hij heq.symm).elim
                  · have hm := d1 j i (by omega) (by omega) hwj hwi (by omega)
                    rw [show max j i = j by omega, show min j i = i by omega] at hm
                    rw [hafter j hgt hj hm]
                    constructor
                    · intro h; simp at h
                    · intro h; omega)]
              simp only [curH]
              rw [if_pos ⟨trivial, hwi⟩]
            rw [this]; exact hrel'
          · rw [if_neg hwi] at hrel'
            have : curH H rs (fun j => (listed.setIfInBounds i true).getD j false) n = curH H rs (fun j => listed.getD j false) n := by
              refine curH_congr _ _ n fun j hj hwj => ?_
              rw [hDi]
              by_cases hij : i = j
              · subst hij; exact (hwi hwj).elim
              · rw [if_neg hij]
            rw [this]; exact hrel'
      unfold wpOp
      rw [ho]
      simp only
      rcases hrun.step i o hol with ⟨hw, r, hr, hcase⟩ | ⟨hw, hskip⟩
      · rw [hwant true hw, if_pos rfl]
        left
        have hop := evOp_sound ok hX hC (hsel i o hol) hr
        have hlo : loAt lo rs n ≤ r.lo := by
          have h1 := lo_all ok hX hC hsel hrun n (by omega) (i + 1) (by omega)
          have h2 : loAt lo rs (i + 1) = r.lo := by
            show (recAt rs i).lo = r.lo
            rcases hcase with hc | ⟨_, _, _, _, _, hc⟩ <;> rw [hc]
          omega
        cases hre : r.eff with
        | pure =>
          obtain ⟨_, _, h3⟩ := hop.pure hre
          have hrec : recAt rs i = ⟨r.v, r.eff, r.H, r.lo⟩ := by
            rcases hcase with hc | ⟨_, hc, _⟩
            · exact hc
            · rw [hre] at hc; simp at hc
          refine h3 ρ a w _ _ hopR hrel.sr.gl.tabs fun v' w' hv hq => hnext ρ v' w' (List.prefix_refl _) (by rw [hrec]; exact hv) ?_
          rw [hrec, if_neg (by rw [hre]; simp)]
          have := hrel.trans (Rel.of_quiet hrel.sr hq (loAt lo rs n))
          rwa [Nat.min_self] at this
        | read =>
          obtain ⟨_, _, h3⟩ := hop.read hre
          have hrec : recAt rs i = ⟨r.v, r.eff, r.H, r.lo⟩ := by
            rcases hcase with hc | ⟨_, hc, _⟩
            · exact hc
            · rw [hre] at hc; simp at hc
          have fin : ∀ (v' : Value) (w' : World), VR ρ r.v v' → Quiet w w' → wpAny P .any ops Q fuel (listed.setIfInBounds i true) (a.put o.dst v') w' := by
            intro v' w' hv hq
            refine hnext ρ v' w' (List.prefix_refl _) (by rw [hrec]; exact hv) ?_
            rw [hrec, if_neg (by rw [hre]; simp)]
            have := hrel.trans (Rel.of_quiet hrel.sr hq (loAt lo rs n))
            rwa [Nat.min_self] at this
          rcases hread (by rw [hrec]; exact hre) with hH | ⟨m, k, ⟨o', ho', _, hboth⟩, hmk, hH⟩
          · exact h3 ρ a w _ _ hopR (by rw [← hH]; exact hrel.sr) fin
          · rw [hol] at ho'
            injection ho' with ho'
            subst ho'
            obtain ⟨r2, hr2, he2, hv2⟩ := hboth m hmk
            have hv2 := eqV_eq 6 _ _ hv2
            rw [hrec] at hv2
            simp only at hv2
            obtain ⟨_, _, h4⟩ := (evOp_sound ok hX hC (hsel i o hol) hr2).read he2
            refine h4 ρ a w _ _ hopR (by rw [← hH]; exact hrel.sr) fun v' w' hv hq => fin v' w' (by rw [← hv2]; exact hv) hq
        | write =>
          obtain ⟨l, h1, h2⟩ := hop.write hre
          have hH : curH H rs (fun j => listed.getD j false) n = heapAt H rs i := by
            rcases hcase with hc | ⟨j0, _, hself, _, _, hc⟩
            · exact hheap (by rw [hc]; exact hre)
            · refine hheap0 fun j hj hwj hne => ?_
              rcases d2 j i (by omega) (by omega) hwj (by rw [hc]) with hm | ⟨o', ho', hs', _⟩
              · exact hm
              · rw [hol] at ho'
                injection ho' with ho'
                subst ho'
                rw [hself] at hs'
                cases hs'
          have hll : min (loAt lo rs n) l = loAt lo rs n := by
            have := Nat.min_le_right (loAt lo rs i) l
            omega
          refine h2 ρ a w _ _ hopR (by rw [← hH]; exact hrel.sr) fun ρ' v' w' hv hq => ?_
          rcases hcase with hc | ⟨j, _, hself, hji, hno, hc⟩
          · refine hnext ρ' v' w' hq.pre (by rw [hc]; exact hv) ?_
            rw [hc, if_pos hre]
            rw [hH] at hrel
            have := hrel.trans hq
            rwa [hll] at this
          · refine hnext ρ' v' w' hq.pre (by rw [hc]; exact hv) ?_
            rw [hc, if_neg (by simp)]
            have hsame := self_same ok hX hC hsel hrun hkeys hol hr hself hji hno
            rw [hsame] at hq
            rw [hH] at hrel ⊢
            have := hrel.trans hq
            rwa [hll] at this
      · rw [hwant false hw]
        simp only [Bool.false_eq_true, if_false]
        refine hnext ρ undef w (List.prefix_refl _) (by rw [hskip]; exact pf_self 3 undef rfl) ?_
        rw [hskip, if_neg (by simp)]
        exact hrel
  have hq0 : Quiet w { w with drawn := w.drawn + 1 } := ⟨rfl, rfl, rfl, Nat.le_refl _, fun _ _ => rfl⟩
  have hD0 : ∀ i, (Array.replicate n false).getD i false = false := by
    intro i
    simp only [Array.getD_eq_getD_getElem?]
    by_cases hi : i < n
    · simp [hi]
    · simp [hi]
  refine key n _ ρ a _ (by simp) ?_ ?_ hF.defers hF.size ?_ ?_
  · unfold left
    have := List.length_filter_le (fun i => !(Array.replicate n false).getD i true) (List.range n)
    simpa using this
  · intro i o _ hl
    rw [hD0] at hl
    simp at hl
  · intro t v hv
    have : ∀ m, cur nt F ops.toList rs (fun i => (Array.replicate n false).getD i false) t m = at? t F := by
      intro m
      induction m with
      | zero => rfl
      | succ m ihm => simp only [cur]; rw [if_neg (fun h => by rw [hD0] at h; simp at h), ihm]
    rw [this] at hv
    exact hF.slot t v hv
  · have : ∀ m, curH H rs (fun i => (Array.replicate n false).getD i false) m = H := by
      intro m
      induction m with
      | zero => rfl
      | succ m ihm => simp only [curH]; rw [if_neg (fun h => by rw [hD0] at h; simp at h), ihm]
    rw [this]
    have h1 := hR.trans (Rel.of_quiet hR.sr hq0 lo)
    rw [Nat.min_self] at h1
    exact h1.mono (lo_all ok hX hC hsel hrun n (by omega) 0 (Nat.zero_le _))
theorem evDraw1_sound {P : Program} {X : Ext} {C : Oracle} (ok : ProgOk P) (hX : XSound P X) (hC : Sound P C) {nt : Nat} {id : Nat} {ops : Array Oper} (hst : statOk ops.toList (masks ops.toList) = true)
    {ρ0 : Rho} {H00 : Heap} {w0 : World} {F : Slots} {H : Heap} {lo : Nat} {F' : Slots} {H' : Heap} {lo' : Nat} {Q : Exit → Act → World → Prop}
    (h : evDraw1 P X C nt ops.toList F H lo = some (F', H', lo')) (hQ : ∀ ρ' a' w', Rel ρ0 H00 w0 ρ' H' lo' w' → FR ds ρ' nt F' a' → Q .normal a' w')
    {ρ : Rho} {a : Act} {w : World} (hR : Rel ρ0 H00 w0 ρ H lo w) (hF : FR ds ρ nt F a) : (Code.region id ops true).wp P Q a w :=
  wp_region_any ok.mixed (evDraw1_any ok hX hC hst h hQ hR hF)
theorem evDraw1_lo {P : Program} {X : Ext} {C : Oracle} (ok : ProgOk P) (hX : XSound P X) (hC : Sound P C) {nt : Nat} {ops : Array Oper} (hst : statOk ops.toList (masks ops.toList) = true)
    {F : Slots} {H : Heap} {lo : Nat} {F' : Slots} {H' : Heap} {lo' : Nat} (h : evDraw1 P X C nt ops.toList F H lo = some (F', H', lo')) : lo' ≤ lo := by
  obtain ⟨s1, _⟩ := statOk_spec hst
  unfold evDraw1 at h
  split at h
  case h_2 => simp at h
  rename_i rs Ff hrec
  split at h
  case h_2 => simp at h
  obtain ⟨hlen, hFf, hstep⟩ := evRecs_spec (F0 := F) (H0 := H) (lo0 := lo) rs ops.toList 0 0 F H lo rs rfl (Nat.zero_le _) rfl (Nat.zero_le _) rfl rfl rfl (fun k hk => by omega) hrec
  have hrun : RunOk P X C nt ops.toList F H lo rs := ⟨fun i o ho => hstep i o (Nat.zero_le _) ho⟩
  have hsel : ∀ (i : Nat) (o : Oper), ops.toList[i]? = some o → noSel o = true := fun i o ho => (s1 i o ho).1
  generalize hn : ops.toList.length = n at hlen hFf
  have hall := lo_all ok hX hC hsel hrun n (by omega) 0 (Nat.zero_le _)
  split at h
  · rename_i r hr
    simp only [Option.some.injEq, Prod.mk.injEq] at h
    obtain ⟨rfl, rfl, rfl⟩ := h
    rw [List.getLast?_eq_getElem?, hlen] at hr
    have hpos : 0 < n := by
      have := (List.getElem?_eq_some_iff.1 hr).1
      omega
    obtain ⟨m, rfl⟩ : ∃ m, n = m + 1 := ⟨n - 1, by omega⟩
    have hrec : recAt rs m = r := by simp [recAt, show rs[m]? = some r from hr]
    simp only [loAt] at hall
    rw [hrec] at hall
    exact hall
  · simp only [Option.some.injEq, Prod.mk.injEq] at h
    omega
end Go.Proofs.YtpgmabpaiijipaaGreatDoor.Den
namespace Go.Proofs.YtpgmabpaiijipaaGreatDoor.Den
open Go
theorem eqB_eq {a b : Blk} (h : eqB a b = true) : a = b := by
  unfold eqB at h
  simp only [Bool.and_eq_true] at h
  obtain ⟨h1, h2, h3⟩ := h
  replace h1 := eq_of_beq h1
  replace h3 := eqVs_eq (eqV_eq 6) _ _ h3
  obtain ⟨ao, ag, ac⟩ := a
  obtain ⟨bo, bg, bc⟩ := b
  simp only at h1 h2 h3
  subst h1 h3
  cases ag <;> cases bg <;> simp at h2
  · rfl
  · subst h2; rfl
theorem eqH_eq : ∀ (l m : Heap), eqH l m = true → l = m := by
  intro l
  induction l with
  | nil => intro m h; cases m with
    | nil => rfl
    | cons _ _ => simp [eqH] at h
  | cons a l ih => intro m h; cases m with
    | nil => simp [eqH] at h
    | cons b m =>
      simp only [eqH, Bool.and_eq_true] at h
      rw [eqB_eq h.1, ih m h.2]
theorem subF_get {G : Slots} : ∀ {F : Slots}, subF G F = true → ∀ t v, at? t F = some v → at? t G = some v := by
  intro F
  induction F with
  | nil => intro _ t v h; simp [at?] at h
  | cons p F ih =>
    obtain ⟨u, w⟩ := p
    intro h t v hv
    simp only [subF, Bool.and_eq_true] at h
    simp only [at?] at hv
    split at hv
    · rename_i hb
      have : u = t := Nat.eq_of_beq_eq_true hb
      subst this
      injection hv with hv
      subst hv
      have h1 := h.1
      split at h1
      · rename_i x hx
        rw [hx, eqV_eq 6 _ _ h1]
      · simp at h1
    · exact ih h.2 t v hv
theorem gather_mem {α : Type} {f : Nat → Option (List α)} : ∀ {l : List Nat} {R : List α}, gather f l = some R → ∀ i ∈ l, ∃ A, f i = some A ∧ ∀ x ∈ A, x ∈ R := by
  intro l
  induction l with
  | nil => intro R _ i hi; simp at hi
  | cons j l ih =>
    intro R h i hi
    simp only [gather] at h
    split at h
    · rename_i a ha
      split at h
      · rename_i b hb
        injection h with h
        subst h
        rcases List.mem_cons.1 hi with rfl | hi
        · exact ⟨a, ha, fun x hx => List.mem_append.2 (.inl hx)⟩
        · obtain ⟨A, h1, h2⟩ := ih hb i hi
          exact ⟨A, h1, fun x hx => List.mem_append.2 (.inr (h2 x hx))⟩
      · simp at h
    · simp at h
theorem gather_some {α : Type} {f : Nat → Option (List α)} : ∀ {l : List Nat} {R : List α}, gather f l = some R → R ≠ [] → ∃ i ∈ l, ∃ A, f i = some A ∧ A ≠ [] := by
  intro l
  induction l with
  | nil => intro R h hne; simp only [gather, Option.some.injEq] at h; exact (hne h.symm).elim
  | cons j l ih =>
    intro R h hne
    simp only [gather] at h
    split at h
    · rename_i a ha
      split at h
      · rename_i b hb
        injection h with h
        subst h
        by_cases hae : a = []
        · subst hae
          obtain ⟨i, hi, A, h1, h2⟩ := ih hb (by simpa using hne)
          exact ⟨i, List.mem_cons_of_mem _ hi, A, h1, h2⟩
        · exact ⟨j, List.mem_cons_self, a, ha, hae⟩
      · simp at h
    · simp at h
variable {ds : List Deferred}
theorem perm_any {P : Program} {X : Ext} {C : Oracle} (ok : ProgOk P) (hX : XSound P X) (hC : Sound P C) {nt : Nat} {ops : Array Oper} (hsel : ops.toList.all noSel = true)
    {ρ0 : Rho} {H0 : Heap} {w0 : World} {Q : Exit → Act → World → Prop} :
    ∀ (fuel : Nat) (listed : Array Bool) (s : St) (L : List St), listed.size = ops.size → left ops.size listed ≤ fuel → evPerm P X C nt ops.toList fuel listed.toList s = some L →
      (∀ s' ∈ L, ∀ ρ' a' w', Rel ρ0 H0 w0 ρ' s'.H s'.lo w' → FR ds ρ' nt s'.F a' → Q .normal a' w') →
      ∀ (ρ : Rho) (a : Act) (w : World), Rel ρ0 H0 w0 ρ s.H s.lo w → FR ds ρ nt s.F a → wpAny P .any ops Q fuel listed a w := by
  have hrdy : ∀ (listed : Array Bool), listed.size = ops.size → ∀ i, i ∈ Region.ready .any ops listed ↔ rdy ops.toList listed.toList i = true := by
    intro listed hls i
    rw [mem_ready]
    unfold rdy
    have e1 : listed.toList.getD i true = listed.getD i true := by
      simp [Array.getD_eq_getD_getElem?, List.getD_eq_getElem?_getD]
    have e2 : ∀ j, listed.toList.getD j false = listed.getD j false := fun j => by
      simp [Array.getD_eq_getD_getElem?, List.getD_eq_getElem?_getD]
    rw [e1]
    cases hl : listed.getD i true with
    | true => simp
    | false =>
      simp only [true_and, Array.getElem?_toList]
      cases ho : ops[i]? with
      | none => simp
      | some o =>
        simp only [Option.some.injEq, exists_eq_left', List.all_eq_true, Bool.or_eq_true, Bool.not_eq_true', e2]
        constructor
        · intro h e he
          cases hb : Region.binds .any e with
          | false => exact .inl rfl
          | true => exact .inr (h e (by simpa using he) hb)
        · intro h e he hb
          rcases h e (by simpa using he) with h | h
          · rw [hb] at h; simp at h
          · exact h
  intro fuel
  induction fuel with
  | zero =>
    intro listed s L hls hleft h hQ ρ a w hR hF
    simp only [evPerm, Option.some.injEq] at h
    subst h
    refine ⟨?_, hQ s (by simp) ρ a w hR hF⟩
    have hall := left_zero (n := ops.size) (listed := listed) (by omega)
    cases hre : Region.ready .any ops listed with
    | nil => rfl
    | cons i l =>
      have hmem : i ∈ Region.ready .any ops listed := by rw [hre]; simp
      rw [mem_ready] at hmem
      obtain ⟨h2, o, ho, _⟩ := hmem
      have := (Array.getElem?_eq_some_iff.1 ho).1
      rw [hall i (by omega)] at h2
      simp at h2
  | succ fuel ih =>
    intro listed s L hls hleft h hQ ρ a w hR hF
    simp only [evPerm] at h
    split at h
    case h_2 => simp at h
    rename_i x R hg
    injection h with h
    subst h
    refine ⟨fun hre => ?_, fun i hi => ?_⟩
    · exfalso
      obtain ⟨i, hi, A, hA, hne⟩ := gather_some hg (by simp)
      split at hA
      · rename_i hr
        have := (hrdy listed hls i).2 hr
        rw [hre] at this
        simp at this
      · injection hA with hA
        exact hne hA.symm
    · have hr := (hrdy listed hls i).1 hi
      rw [mem_ready] at hi
      obtain ⟨hun, o, ho, _⟩ := hi
      have hlt := (Array.getElem?_eq_some_iff.1 ho).1
      obtain ⟨A, hA, hsub⟩ := gather_mem hg i (by simpa using hlt)
      have hol : ops.toList[i]? = some o := by simpa using ho
      rw [hr, hol] at hA
      simp only at hA
      split at hA
      case h_2 => simp at hA
      rename_i s1 hs1
      have hset : listed.toList.set i true = (listed.setIfInBounds i true).toList := by simp
      rw [hset] at hA
      have hleft' : left ops.size (listed.setIfInBounds i true) ≤ fuel := by
        have := left_set hlt hls hun
        omega
      have hnext := fun ρ' a' w' p q => ih (listed.setIfInBounds i true) s1 A (by simp [hls]) hleft' hA (fun s' hs' => hQ s' (hsub s' hs')) ρ' a' w' p q
      have hso : noSel o = true := List.all_eq_true.1 hsel o (List.mem_of_getElem? hol)
      unfold wpOp
      rw [ho]
      simp only
      have hw : ∀ b, wantedF ops.toList s.F o = some b → Region.wanted o (yielded ops a.tmps) = b := fun b hb => wanted_of (fun j w d v _ _ hv => hF.slot d v hv) hb
      unfold stepP at hs1
      simp only [forceL_eq] at hs1
      split at hs1
      · rename_i hwt
        rw [hw true hwt, if_pos rfl]
        split at hs1
        · rename_i r hr
          injection hs1 with hs1
          subst hs1
          refine .inl (op_step (evOp_sound ok hX hC hso hr) (hF.opR _) hR ?_)
          intro ρ' v' w' hp hv hR'
          exact hnext ρ' _ w' hR' ((hF.mono hp).put o.dst hv)
        · simp at hs1
      · rename_i hwt
        injection hs1 with hs1
        subst hs1
        rw [hw false hwt]
        simp only [Bool.false_eq_true, if_false]
        exact hnext ρ _ w hR (hF.put o.dst (pf_self 3 undef rfl))
      · simp at hs1
theorem evDraw2_any {P : Program} {X : Ext} {C : Oracle} (ok : ProgOk P) (hX : XSound P X) (hC : Sound P C) {nt : Nat} {ops : Array Oper} (hsel : ops.toList.all noSel = true)
    {ρ0 : Rho} {H00 : Heap} {w0 : World} {F : Slots} {H : Heap} {lo : Nat} {F' : Slots} {H' : Heap} {lo' : Nat} {Q : Exit → Act → World → Prop}
    (h : evDraw2 P X C nt ops.toList F H lo = some (F', H', lo')) (hQ : ∀ ρ' a' w', Rel ρ0 H00 w0 ρ' H' lo' w' → FR ds ρ' nt F' a' → Q .normal a' w')
    {ρ : Rho} {a : Act} {w : World} (hR : Rel ρ0 H00 w0 ρ H lo w) (hF : FR ds ρ nt F a) : wpAny P .any ops Q ops.size (Array.replicate ops.size false) a { w with drawn := w.drawn + 1 } := by
  unfold evDraw2 at h
  split at h
  · rename_i s L hp
    split at h
    · rename_i hc
      simp only [Option.some.injEq, Prod.mk.injEq] at h
      obtain ⟨rfl, rfl, rfl⟩ := h
      simp only [Bool.and_eq_true] at hc
      have hL := List.all_eq_true.1 hc.2
      have hq : Quiet w { w with drawn := w.drawn + 1 } := ⟨rfl, rfl, rfl, Nat.le_refl _, fun _ _ => rfl⟩
      have hR' := hR.trans (Rel.of_quiet hR.sr hq lo)
      rw [Nat.min_self] at hR'
      refine perm_any ok hX hC hsel ops.size (Array.replicate ops.size false) ⟨F, H, lo⟩ (s :: L) (by simp) ?_ (by simpa using hp) ?_ ρ a _ hR' hF
      · unfold left
        have h1 := List.length_filter_le (fun i => !(Array.replicate ops.size false).getD i true) (List.range ops.size)
        simpa using h1
      · intro s' hs' ρ' a' w' p q
        rcases List.mem_cons.1 hs' with rfl | hs'
        · exact hQ ρ' a' w' p q
        · have h1 := hL s' hs'
          simp only [Bool.and_eq_true] at h1
          have e1 := eqH_eq _ _ h1.1
          have e2 := Nat.eq_of_beq_eq_true h1.2.1
          rw [← e1, ← e2] at p
          exact hQ ρ' a' w' p ⟨q.defers, q.size, fun t v hv => q.slot t v (subF_get h1.2.2 t v hv)⟩
    · simp at h
  · simp at h
theorem stat_sel {ops : List Oper} {ms : List Nat} (h : statOk ops ms = true) : ops.all noSel = true := by
  obtain ⟨s1, _⟩ := statOk_spec h
  refine List.all_eq_true.2 fun o ho => ?_
  obtain ⟨i, hi⟩ := List.getElem?_of_mem ho
  exact (s1 i o hi).1
end Go.Proofs.YtpgmabpaiijipaaGreatDoor.Den
namespace Go.Proofs.YtpgmabpaiijipaaGreatDoor.Den
open Go
theorem mapAll_get {α β : Type} {f : α → Option β} : ∀ {l : List α} {l' : List β}, mapAll f l = some l' → l.length = l'.length ∧ ∀ (i : Nat) (x : α), l[i]? = some x → ∃ y, f x = some y ∧ l'[i]? = some y := by
  intro l
  induction l with
  | nil => intro l' h; simp [mapAll] at h; subst h; exact ⟨rfl, fun i x h => by simp at h⟩
  | cons x l ih =>
    intro l' h
    simp only [mapAll] at h
    split at h
    · rename_i y hy
      cases hm : mapAll f l with
      | none => simp [hm] at h
      | some us =>
        simp [hm] at h
        subst h
        obtain ⟨h1, h2⟩ := ih hm
        refine ⟨by simp [h1], fun i z hz => ?_⟩
        cases i with
        | zero => simp at hz; subst hz; exact ⟨y, hy, by simp⟩
        | succ i => simpa using h2 i z (by simpa using hz)
    · simp at h
theorem mapAll_back {α β : Type} {f : α → Option β} {l : List α} {l' : List β} (h : mapAll f l = some l') {i : Nat} {y : β} (hy : l'[i]? = some y) : ∃ x, l[i]? = some x ∧ f x = some y := by
  obtain ⟨h1, h2⟩ := mapAll_get h
  obtain ⟨hlt, _⟩ := List.getElem?_eq_some_iff.1 hy
  have hx : l[i]? = some l[i] := List.getElem?_eq_getElem (by omega)
  obtain ⟨z, h3, h4⟩ := h2 i _ hx
  rw [hy] at h4
  injection h4 with h4
  subst h4
  exact ⟨_, hx, h3⟩
theorem ren0_flat {φ : Nat → Option Nat} {v : Value} (h : isFlat v = true) : ren0 φ v = some v := by
  unfold ren0
  split
  · simp [isFlat] at h
  · simp [isFlat] at h
  · simp [isFlat] at h
  · simp [isFlat] at h
  · rw [if_pos h]
theorem VR.ren0 {φ : Nat → Option Nat} {ρ1 ρ2 : Rho} (hφ : ∀ (b c : Nat) (e : Ent), φ b = some c → ρ1[b]? = some e → ρ2[c]? = some e) {v u v' : Value} (h : Den.ren0 φ v = some u) (hv : VR ρ1 v v') : VR ρ2 u v' := by
  unfold Den.ren0 at h
  split at h
  · rename_i b o
    split at h
    · rename_i c hc
      injection h with h
      subst h
      cases hv with
      | flat hf => simp [isFlat] at hf
      | ptr h => exact .ptr (hφ _ _ _ hc h)
    · simp at h
  · rename_i b o l k
    split at h
    · rename_i c hc
      injection h with h
      subst h
      cases hv with
      | flat hf => simp [isFlat] at hf
      | slice h hl => exact .slice (hφ _ _ _ hc h) hl
      | sliceU h h0 hl => exact .sliceU (hφ _ _ _ hc h) h0 hl
    · simp at h
  · rename_i b
    split at h
    · rename_i c hc
      injection h with h
      subst h
      cases hv with
      | flat hf => simp [isFlat] at hf
      | sliceV h => exact .sliceV (hφ _ _ _ hc h)
    · simp at h
  · injection h with h
    subst h
    cases hv with
    | flat hf => simp [isFlat] at hf
    | gone => exact .gone
  · split at h
    · rename_i hf
      injection h with h
      subst h
      rw [isFlat_eq hf hv]
      exact .flat hf
    · simp at h
theorem VRs.ren {f : Value → Option Value} {ρ1 ρ2 : Rho} (hf : ∀ v u v', f v = some u → VR ρ1 v v' → VR ρ2 u v') {l l2 l' : List Value} (h : mapAll f l = some l2) (hv : VRs ρ1 l l') : VRs ρ2 l2 l' := by
  obtain ⟨h1, h2⟩ := mapAll_get h
  refine ⟨by rw [← h1, hv.1], fun i u v' hu hv' => ?_⟩
  obtain ⟨x, h3, h4⟩ := mapAll_back h hu
  exact hf _ _ _ h4 (hv.2 i x v' h3 hv')
theorem VR.ren {φ : Nat → Option Nat} {ρ1 ρ2 : Rho} (hφ : ∀ (b c : Nat) (e : Ent), φ b = some c → ρ1[b]? = some e → ρ2[c]? = some e) : ∀ (n : Nat) (v u v' : Value), Den.ren φ n v = some u → VR ρ1 v v' → VR ρ2 u v' := by
  intro n
  induction n with
  | zero => intro v u v' h hv; exact VR.ren0 hφ (by cases v <;> simpa [Den.ren] using h) hv
  | succ n ih =>
    intro v u v' h hv
    cases v with
    | agg cs =>
      simp only [Den.ren] at h
      split at h
      · rename_i l hl
        injection h with h
        subst h
        obtain ⟨cs', rfl, h2⟩ := agg_of hv
        have := (VRs.ren (fun v u v' => ih v u v') hl h2).toAgg
        simpa using this
      · simp at h
    | tuple cs =>
      simp only [Den.ren] at h
      split at h
      · rename_i l hl
        injection h with h
        subst h
        obtain ⟨cs', rfl, h2⟩ := tuple_of hv
        have := (VRs.ren (fun v u v' => ih v u v') hl h2).toTuple
        simpa using this
      · simp at h
    | iface t x =>
      simp only [Den.ren] at h
      split at h
      · rename_i y hy
        injection h with h
        subst h
        obtain ⟨x', rfl, h2⟩ := iface_of hv
        exact .iface (ih _ _ _ hy h2)
      · simp at h
    | func f a b =>
      simp only [Den.ren] at h
      split at h
      · rename_i la hla
        split at h
        · rename_i lb hlb
          injection h with h
          subst h
          obtain ⟨a', b', rfl, h2, h3⟩ := func_of hv
          have ha := VRs.ren (fun v u v' => ih v u v') hla h2
          have hb := VRs.ren (fun v u v' => ih v u v') hlb h3
          exact .func (by simpa using ha.1) (fun i v v' p q => ha.2 i v v' (by simpa using p) (by simpa using q)) (by simpa using hb.1) (fun i v v' p q => hb.2 i v v' (by simpa using p) (by simpa using q))
        · simp at h
      · simp at h
    | _ => exact VR.ren0 hφ (by simpa [Den.ren] using h) hv
theorem renB_live {φ : Nat → Option Nat} {b c : Blk} (h : renB φ b = some c) : live b = true := by
  unfold renB at h
  split at h
  · assumption
  · simp at h
theorem renB_eq {φ : Nat → Option Nat} {b c : Blk} (h : renB φ b = some c) : c.own = b.own ∧ c.grown = b.grown ∧ mapAll (ren φ 3) b.cells = some c.cells := by
  unfold renB at h
  split at h
  · rename_i cs _ hcs
    injection h with h
    subst h
    exact ⟨rfl, rfl, hcs⟩
  · simp at h
theorem BR.ren {φ : Nat → Option Nat} {ρ1 ρ2 : Rho} (hφ : ∀ (b c : Nat) (e : Ent), φ b = some c → ρ1[b]? = some e → ρ2[c]? = some e) {w : World} {e : Ent} {b c : Blk} (h : renB φ b = some c) (hb : BR ρ1 w e b) : BR ρ2 w e c := by
  obtain ⟨h1, h2, h3⟩ := renB_eq h
  have hlb := renB_live h
  obtain ⟨cs, el, fz, k1, k2, k3, k4⟩ := hb.row hlb
  refine .inl ⟨by rw [← hlb]; unfold live; rw [h2], cs, el, fz, k1, fun i u hu => ?_, fun ho => k3 (by rw [← h1]; exact ho), fun sz hs => k4 sz (by rw [← h2]; exact hs)⟩
  obtain ⟨x, h4, h5⟩ := mapAll_back h3 hu
  obtain ⟨o, v', h6, h7⟩ := k2 i x h4
  have h8 := VR.ren hφ 3 _ _ _ h5 h7
  exact ⟨by rw [← h8.oneCell, h7.oneCell]; exact o, v', h6, h8⟩
theorem renB_ne {φ : Nat → Option Nat} {b c : Blk} (h : renB φ b = some c) : c.cells ≠ [] ↔ b.cells ≠ [] := by
  obtain ⟨_, _, h3⟩ := renB_eq h
  have := (mapAll_get h3).1
  rw [← List.length_pos_iff, ← List.length_pos_iff, this]
theorem nodup_get {l : List Nat} (h : l.Nodup) {i j k : Nat} (hi : l[i]? = some k) (hj : l[j]? = some k) : i = j := by
  obtain ⟨h1, h2⟩ := List.getElem?_eq_some_iff.1 hi
  obtain ⟨h3, h4⟩ := List.getElem?_eq_some_iff.1 hj
  exact (List.getElem_inj h).1 (h2.trans h4.symm)
theorem get_lt {α : Type} {l : List α} {i : Nat} (h : i < l.length) : ∃ z, l[i]? = some z := ⟨l[i], List.getElem?_eq_getElem h⟩
theorem pos_get {b : Nat} : ∀ {l : List Nat} {c : Nat}, pos b l = some c → l[c]? = some b := by
  intro l
  induction l with
  | nil => intro c h; simp [pos] at h
  | cons x l ih =>
    intro c h
    simp only [pos] at h
    split at h
    · rename_i hb
      injection h with h
      subst h
      rw [Nat.eq_of_beq_eq_true hb]; rfl
    · split at h
      · rename_i i hi
        injection h with h
        subst h
        simpa using ih hi
      · simp at h
theorem nodupB_ok : ∀ {l : List Nat}, nodupB l = true → l.Nodup := by
  intro l
  induction l with
  | nil => intro _; exact List.nodup_nil
  | cons x l ih =>
    intro h
    simp [nodupB] at h
    exact List.nodup_cons.2 ⟨h.1, ih h.2⟩
end Go.Proofs.YtpgmabpaiijipaaGreatDoor.Den
namespace Go.Proofs.YtpgmabpaiijipaaGreatDoor.Den
open Go
theorem renA_eq {φ : Nat → Option Nat} {b c : Blk} (h : renA φ b = some c) : c.own = b.own ∧ c.grown = b.grown ∧ mapAll (ren φ 3) b.cells = some c.cells := by
  unfold renA at h
  split at h
  · rename_i cs hcs
    injection h with h
    subst h
    exact ⟨rfl, rfl, hcs⟩
  · simp at h
theorem renA_ne {φ : Nat → Option Nat} {b c : Blk} (h : renA φ b = some c) : c.cells ≠ [] ↔ b.cells ≠ [] := by
  obtain ⟨_, _, h3⟩ := renA_eq h
  have := (mapAll_get h3).1
  rw [← List.length_pos_iff, ← List.length_pos_iff, this]
theorem BR.renA {φ : Nat → Option Nat} {ρ1 ρ2 : Rho} (hφ : ∀ (b c : Nat) (e : Ent), φ b = some c → ρ1[b]? = some e → ρ2[c]? = some e) {w : World} {e : Ent} {b c : Blk} (h : Den.renA φ b = some c) (hb : BR ρ1 w e b) : BR ρ2 w e c := by
  obtain ⟨h1, h2, h3⟩ := renA_eq h
  have hl : live c = live b := by unfold live; rw [h2]
  rcases hb with ⟨hlb, cs, el, fz, k1, k2, k3, k4⟩ | ⟨hlb, o, k1, k2⟩
  · refine .inl ⟨by rw [hl]; exact hlb, cs, el, fz, k1, fun i u hu => ?_, fun ho => k3 (by rw [← h1]; exact ho), fun sz hs => k4 sz (by rw [← h2]; exact hs)⟩
    obtain ⟨x, h4, h5⟩ := mapAll_back h3 hu
    obtain ⟨o, v', h6, h7⟩ := k2 i x h4
    have h8 := VR.ren hφ 3 _ _ _ h5 h7
    exact ⟨by rw [← h8.oneCell, h7.oneCell]; exact o, v', h6, h8⟩
  · refine .inr ⟨by rw [hl]; exact hlb, o, k1, ?_⟩
    cases o with
    | map es clock =>
      obtain ⟨kvs, g1, g2⟩ := k2
      rw [g1] at h3
      simp only [mapAll] at h3
      have e0 : Den.ren φ 3 .nilFunc = some .nilFunc := rfl
      rw [e0] at h3
      simp only at h3
      cases hm : mapAll (Den.ren φ 3) kvs with
      | none => rw [hm] at h3; simp at h3
      | some us =>
        rw [hm] at h3
        simp only [Option.map_some, Option.some.injEq] at h3
        exact ⟨us, h3.symm, VRs.ren (fun v u v' a b => VR.ren hφ 3 v u v' a b) hm g2⟩
    | stringIter s pos =>
      obtain ⟨g0, g1⟩ := k2
      rw [g1] at h3
      have e0 : mapAll (Den.ren φ 3) [.string s, .int .i64 pos] = some [.string s, .int .i64 pos] := rfl
      rw [e0] at h3
      injection h3 with h3
      exact ⟨g0, h3.symm⟩
    | _ => exact k2.elim
theorem canon_rel {ρ0 : Rho} {H0 : Heap} {w0 : World} {ρ : Rho} {H : Heap} {lo : Nat} {w : World} (h : Rel ρ0 H0 w0 ρ H lo w) {K : Nat} (hK0 : H0.length ≤ K) (hK : K ≤ H.length) {sel : List Nat} (hsn : sel.Nodup) (hsel : ∀ i ∈ sel, K ≤ i ∧ i < H.length)
    {H2 : Heap} (hlen : H2.length = K + sel.length) (hold : ∀ i b2, i < K → H2[i]? = some b2 → ∃ b, H[i]? = some b ∧ Den.renA (gcN K sel) b = some b2)
    (hnew : ∀ j i b2, sel[j]? = some i → H2[K + j]? = some b2 → ∃ b, H[i]? = some b ∧ Den.renA (gcN K sel) b = some b2) :
    Rel ρ0 H0 w0 (ρ.take K ++ sel.map fun i => ρ.getD i ⟨0, 0, 0⟩) H2 lo w ∧
      ∀ (b c : Nat) (e : Ent), gcN K sel b = some c → ρ[b]? = some e → (ρ.take K ++ sel.map fun i => ρ.getD i ⟨0, 0, 0⟩ : Rho)[c]? = some e := by
  have hlρ := h.sr.len
  have htk : (ρ.take K).length = K := by rw [List.length_take]; omega
  have hφ : ∀ (b c : Nat) (e : Ent), gcN K sel b = some c → ρ[b]? = some e → (ρ.take K ++ sel.map fun i => ρ.getD i ⟨0, 0, 0⟩ : Rho)[c]? = some e := by
    intro bb c e hb he
    unfold gcN at hb
    split at hb
    · rename_i hlt
      injection hb with hb
      subst hb
      have hlt : bb < K := by simpa [Nat.blt_eq] using hlt
      rw [List.getElem?_append_left (by rw [htk]; exact hlt), List.getElem?_take, if_pos hlt]
      exact he
    · split at hb
      · rename_i j hj
        injection hb with hb
        subst hb
        have hs := pos_get hj
        rw [List.getElem?_append_right (by rw [htk]; omega), htk, Nat.add_sub_cancel_left, List.getElem?_map, hs]
        simp [List.getD_eq_getElem?_getD, he]
      · simp at hb
  refine ⟨?_, hφ⟩
  have place : ∀ (i : Nat) (e : Ent) (b2 : Blk), (ρ.take K ++ sel.map fun i => ρ.getD i ⟨0, 0, 0⟩ : Rho)[i]? = some e → H2[i]? = some b2 → ∃ k b, ρ[k]? = some e ∧ H[k]? = some b ∧ Den.renA (gcN K sel) b = some b2 ∧ ((i < K ∧ k = i) ∨ (K ≤ i ∧ sel[i - K]? = some k ∧ K ≤ k)) := by
    intro i e b2 hi hb
    by_cases hlt : i < K
    · rw [List.getElem?_append_left (by rw [htk]; exact hlt), List.getElem?_take, if_pos hlt] at hi
      obtain ⟨b, h1, h2⟩ := hold i b2 hlt hb
      exact ⟨i, b, hi, h1, h2, .inl ⟨hlt, rfl⟩⟩
    · rw [List.getElem?_append_right (by rw [htk]; omega), htk, List.getElem?_map] at hi
      cases hs : sel[i - K]? with
      | none => rw [hs] at hi; simp at hi
      | some k =>
        rw [hs] at hi
        obtain ⟨h1, h2⟩ := hsel k (List.mem_of_getElem? hs)
        have hk : ρ[k]? = some ρ[k] := List.getElem?_eq_getElem (by omega)
        simp [List.getD_eq_getElem?_getD, hk] at hi
        obtain ⟨b, h3, h4⟩ := hnew (i - K) k b2 hs (by rwa [show K + (i - K) = i by omega])
        exact ⟨k, b, by rw [hk, hi], h3, h4, .inr ⟨by omega, rfl, h1⟩⟩
  have inj : ∀ {i j k k' : Nat}, ((i < K ∧ k = i) ∨ (K ≤ i ∧ sel[i - K]? = some k ∧ K ≤ k)) → ((j < K ∧ k' = j) ∨ (K ≤ j ∧ sel[j - K]? = some k' ∧ K ≤ k')) → k = k' → i = j := by
    intro i j k k' h1 h2 e
    subst e
    rcases h1 with ⟨a, b⟩ | ⟨a, b, c⟩ <;> rcases h2 with ⟨a', b'⟩ | ⟨a', b', c'⟩
    · omega
    · omega
    · omega
    · have := nodup_get hsn b b'
      omega
  refine ⟨h.gl0, h.len0, ?_, ⟨?_, ?_, ?_⟩, by rw [hlen]; omega, ?_, ?_, h.os, h.tape, h.output, h.size, h.keep⟩
  · have e1 : ρ0 <+: ρ.take K := by
      obtain ⟨t, ht⟩ := h.pre
      refine ⟨t.take (K - ρ0.length), ?_⟩
      rw [← ht, List.take_append, List.take_of_length_le (l := ρ0) (by rw [h.len0]; exact hK0)]
    exact e1.trans (List.prefix_append _ _)
  · rw [List.length_append, htk, List.length_map, hlen]
  · intro i e b2 hi hb
    obtain ⟨k, b, hk, hkb, hren, _⟩ := place i e b2 hi hb
    exact BR.renA hφ hren (h.sr.blk k e b hk hkb)
  · intro i j e e' b b' hij hi hj hb hb' ho hc
    obtain ⟨k, c, hk, hkb, hr1, p1⟩ := place i e b hi hb
    obtain ⟨k', c', hk', hkb', hr2, p2⟩ := place j e' b' hj hb'
    exact h.sr.inj k k' e e' c c' (fun hh => hij (inj p1 p2 hh)) hk hk' hkb hkb' ((renA_eq hr1).1 ▸ ho) ((renA_ne hr2).1 hc)
  · intro i b hi hb ho
    obtain ⟨c, h1, h2⟩ := hold i b (by omega) hb
    obtain ⟨b0, h3, h4⟩ := h.own i c hi h1 ((renA_eq h2).1 ▸ ho)
    exact ⟨b0, h3, h4⟩
  · intro i e hi he
    have hil := (List.getElem?_eq_some_iff.1 he).1
    rw [List.length_append, htk, List.length_map, ← hlen] at hil
    obtain ⟨b2, hb2⟩ := get_lt hil
    obtain ⟨k, b, hk, _, _, p⟩ := place i e b2 he hb2
    refine h.new k e ?_ hk
    rcases p with ⟨a, b⟩ | ⟨a, b, c⟩ <;> omega
end Go.Proofs.YtpgmabpaiijipaaGreatDoor.Den
namespace Go.Proofs.YtpgmabpaiijipaaGreatDoor.Den
open Go
theorem eqD_eq : ∀ (a b : List Bool), eqD a b = true → a = b := by
  intro a
  induction a with
  | nil => intro b h; cases b with
    | nil => rfl
    | cons _ _ => simp [eqD] at h
  | cons x a ih => intro b h; cases b with
    | nil => simp [eqD] at h
    | cons y b =>
      simp only [eqD, Bool.and_eq_true] at h
      rw [eq_of_beq h.1, ih b h.2]
def Cov (L : List (List Bool × St)) (d : List Bool) (s : St) : Prop := ∃ s', (d, s') ∈ L ∧ s.H = s'.H ∧ s.lo = s'.lo ∧ ∀ t v, at? t s'.F = some v → at? t s.F = some v
theorem insS_cov (d : List Bool) (s : St) : ∀ (L : List (List Bool × St)), Cov (insS d s L) d s ∧ ∀ x ∈ L, x ∈ insS d s L := by
  intro L
  induction L with
  | nil => exact ⟨⟨s, by simp [insS], rfl, rfl, fun _ _ h => h⟩, fun x hx => by simp at hx⟩
  | cons p L ih =>
    obtain ⟨d', s'⟩ := p
    simp only [insS]
    split
    · rename_i h
      simp only [Bool.and_eq_true] at h
      obtain ⟨h1, h2, h3, h4⟩ := h
      have h1 := eqD_eq _ _ h1
      subst h1
      exact ⟨⟨s', by simp, eqH_eq _ _ h3, Nat.eq_of_beq_eq_true h2, fun t v hv => subF_get h4 t v hv⟩, fun x hx => hx⟩
    · obtain ⟨⟨s2, g1, g2⟩, g3⟩ := ih
      exact ⟨⟨s2, List.mem_cons_of_mem _ g1, g2⟩, fun x hx => by
        rcases List.mem_cons.1 hx with rfl | hx
        · exact List.mem_cons_self
        · exact List.mem_cons_of_mem _ (g3 x hx)⟩
section
variable {P : Program} {X : Ext} {C : Oracle} {nt : Nat} {ops : List Oper} {K : Nat} {ks : List Nat}
theorem expand1_spec {d : List Bool} {s : St} : ∀ (is : List Nat) (acc out : List (List Bool × St)), expand1 P X C nt ops K ks d s is acc = some out →
    (∀ x ∈ acc, x ∈ out) ∧ ∀ i ∈ is, rdy ops d i = true → ∃ o s1 s2, ops[i]? = some o ∧ stepP P X C nt ops s o = some s1 ∧ canon K ks s1 = some s2 ∧ Cov out (d.set i true) s2 := by
  intro is
  induction is with
  | nil => intro acc out h; simp only [expand1, Option.some.injEq] at h; subst h; exact ⟨fun x hx => hx, fun i hi => by simp at hi⟩
  | cons i is ih =>
    intro acc out h
    simp only [expand1] at h
    split at h
    · split at h
      · rename_i o ho
        split at h
        · rename_i s1 hs1
          split at h
          · rename_i s2 hs2
            obtain ⟨g1, g2⟩ := ih _ _ h
            obtain ⟨⟨s3, c1, c2⟩, c3⟩ := insS_cov (d.set i true) s2 acc
            refine ⟨fun x hx => g1 x (c3 x hx), fun j hj hr => ?_⟩
            rcases List.mem_cons.1 hj with rfl | hj
            · exact ⟨o, s1, s2, ho, hs1, hs2, s3, g1 _ c1, c2⟩
            · exact g2 j hj hr
          · simp at h
        · simp at h
      · simp at h
    · rename_i hn
      obtain ⟨g1, g2⟩ := ih _ _ h
      refine ⟨g1, fun j hj hr => ?_⟩
      rcases List.mem_cons.1 hj with rfl | hj
      · rw [hn] at hr; cases hr
      · exact g2 j hj hr
theorem expand_spec : ∀ (L acc out : List (List Bool × St)), expand P X C nt ops K ks L acc = some out →
    (∀ x ∈ acc, x ∈ out) ∧ ∀ d s, (d, s) ∈ L → (∃ i, i < ops.length ∧ rdy ops d i = true) ∧ ∀ i, i < ops.length → rdy ops d i = true → ∃ o s1 s2, ops[i]? = some o ∧ stepP P X C nt ops s o = some s1 ∧ canon K ks s1 = some s2 ∧ Cov out (d.set i true) s2 := by
  intro L
  induction L with
  | nil => intro acc out h; simp only [expand, Option.some.injEq] at h; subst h; exact ⟨fun x hx => hx, fun d s hd => by simp at hd⟩
  | cons p L ih =>
    obtain ⟨d0, s0⟩ := p
    intro acc out h
    simp only [expand] at h
    split at h
    · rename_i hany
      split at h
      · rename_i acc2 hacc
        obtain ⟨g1, g2⟩ := ih _ _ h
        obtain ⟨k1, k2⟩ := expand1_spec _ _ _ hacc
        refine ⟨fun x hx => g1 x (k1 x hx), fun d s hd => ?_⟩
        rcases List.mem_cons.1 hd with he | hd
        · injection he with he1 he2
          subst he1 he2
          obtain ⟨i, hi, hr⟩ := List.any_eq_true.1 hany
          refine ⟨⟨i, by simpa using hi, hr⟩, fun j hj hrj => ?_⟩
          obtain ⟨o, s1, s2, h1, h2, h3, s3, h4, h5⟩ := k2 j (by simpa using hj) hrj
          exact ⟨o, s1, s2, h1, h2, h3, s3, g1 _ h4, h5⟩
        · exact g2 d s hd
      · simp at h
    · simp at h
end
end Go.Proofs.YtpgmabpaiijipaaGreatDoor.Den
namespace Go.Proofs.YtpgmabpaiijipaaGreatDoor.Den
open Go
variable {ds : List Deferred}
theorem renF_get {φ : Nat → Option Nat} : ∀ {F F2 : Slots}, renF φ F = some F2 → ∀ t v, at? t F2 = some v → ∃ u, at? t F = some u ∧ ren φ 3 u = some v := by
  intro F
  induction F with
  | nil => intro F2 h t v hv; simp only [renF, Option.some.injEq] at h; subst h; simp [at?] at hv
  | cons p F ih =>
    obtain ⟨k, x⟩ := p
    intro F2 h t v hv
    simp only [renF] at h
    split at h
    · rename_i u hu
      split at h
      · rename_i l hl
        injection h with h
        subst h
        simp only [at?] at hv ⊢
        split at hv
        · injection hv with hv
          subst hv
          exact ⟨x, rfl, hu⟩
        · exact ih hl t v hv
      · simp at h
    · simp at h
theorem pickF_sub (F : Slots) (ks : List Nat) : ∀ t v, at? t (pickF F ks) = some v → at? t F = some v := by
  induction ks with
  | nil => intro t v h; simp [pickF, at?] at h
  | cons k ks ih =>
    intro t v h
    unfold pickF at h
    split at h
    · rename_i u hu
      simp only [at?] at h
      split at h
      · rename_i hb
        have : k = t := Nat.eq_of_beq_eq_true hb
        subst this
        rw [hu, h]
      · exact ih t v h
    · exact ih t v h
theorem canon_ok {ρ0 : Rho} {H0 : Heap} {w0 : World} {ρ : Rho} {K nt : Nat} {ks : List Nat} {s s2 : St} {a : Act} {w : World} (h : canon K ks s = some s2) (hR : Rel ρ0 H0 w0 ρ s.H s.lo w) (hF : FR ds ρ nt s.F a) (hK : H0.length ≤ K) :
    ∃ ρ2, Rel ρ0 H0 w0 ρ2 s2.H s2.lo w ∧ FR ds ρ2 nt s2.F a := by
  unfold canon at h
  simp only [forceL_eq] at h
  generalize hsel : ((reach s.H s.H.length (addN [] ((pickF s.F ks).flatMap (fun p => refs 3 p.2) ++ (s.H.take K).flatMap fun b => b.cells.flatMap (refs 3)))).filter fun b => Nat.ble K b) = sel at h
  split at h
  case h_2 => simp at h
  rename_i hc
  simp only [Bool.and_eq_true] at hc
  obtain ⟨h1, h2, h3⟩ := hc
  have h3 : K ≤ s.H.length := Nat.le_of_ble_eq_true h3
  split at h
  case h_2 => simp at h
  rename_i F2 olds news hF2 holds hnews
  simp only [Option.some.injEq] at h
  subst h
  obtain ⟨o1, o2⟩ := mapAll_get holds
  obtain ⟨n1, n2⟩ := mapAll_get hnews
  have htk : (s.H.take K).length = K := by rw [List.length_take]; omega
  have hselK : ∀ i ∈ sel, K ≤ i ∧ i < s.H.length := by
    intro i hi
    have g := List.all_eq_true.1 h2 i hi
    rw [← hsel] at hi
    exact ⟨Nat.le_of_ble_eq_true (List.mem_filter.1 hi).2, by simpa [Nat.blt_eq] using g⟩
  obtain ⟨hr, hφ⟩ := canon_rel hR hK h3 (nodupB_ok h1) hselK (H2 := olds ++ news) (by rw [List.length_append, ← o1, ← n1, htk]) (fun i b2 hi hb => by
      rw [List.getElem?_append_left (by rw [← o1, htk]; exact hi)] at hb
      obtain ⟨b, g1, g2⟩ := mapAll_back holds hb
      rw [List.getElem?_take, if_pos hi] at g1
      exact ⟨b, g1, g2⟩) (fun j i b2 hj hb => by
      rw [List.getElem?_append_right (by rw [← o1, htk]; omega), ← o1, htk, Nat.add_sub_cancel_left] at hb
      obtain ⟨x, g1, g2⟩ := mapAll_back hnews hb
      rw [hj] at g1
      injection g1 with g1
      subst g1
      split at g2
      · rename_i b hb2
        exact ⟨b, hb2, g2⟩
      · simp at g2)
  refine ⟨_, hr, hF.defers, hF.size, fun t v hv => ?_⟩
  obtain ⟨u, hu, hren⟩ := renF_get hF2 t v hv
  obtain ⟨v', g1, g2⟩ := hF.slot t u (pickF_sub _ _ t u hu)
  exact ⟨v', g1, VR.ren hφ 3 _ _ _ hren g2⟩
end Go.Proofs.YtpgmabpaiijipaaGreatDoor.Den
namespace Go.Proofs.YtpgmabpaiijipaaGreatDoor.Den
open Go
variable {ds : List Deferred}
theorem insS_from {d : List Bool} {s : St} : ∀ {L : List (List Bool × St)} {x : List Bool × St}, x ∈ insS d s L → x = (d, s) ∨ x ∈ L := by
  intro L
  induction L with
  | nil => intro x hx; simp [insS] at hx; exact .inl hx
  | cons p L ih =>
    obtain ⟨d', s'⟩ := p
    intro x hx
    simp only [insS] at hx
    split at hx
    · exact .inr hx
    · rcases List.mem_cons.1 hx with rfl | hx
      · exact .inr List.mem_cons_self
      · rcases ih hx with h | h
        · exact .inl h
        · exact .inr (List.mem_cons_of_mem _ h)
theorem expand1_from {P : Program} {X : Ext} {C : Oracle} {nt : Nat} {ops : List Oper} {K : Nat} {ks : List Nat} {d : List Bool} {s : St} : ∀ (is : List Nat) (acc out : List (List Bool × St)), expand1 P X C nt ops K ks d s is acc = some out →
    ∀ x ∈ out, x ∈ acc ∨ ∃ i, rdy ops d i = true ∧ x.1 = d.set i true := by
  intro is
  induction is with
  | nil => intro acc out h; simp only [expand1, Option.some.injEq] at h; subst h; exact fun x hx => .inl hx
  | cons i is ih =>
    intro acc out h x hx
    simp only [expand1] at h
    split at h
    · rename_i hr
      split at h
      · split at h
        · split at h
          · rcases ih _ _ h x hx with h1 | h1
            · rcases insS_from h1 with rfl | h1
              · exact .inr ⟨i, hr, rfl⟩
              · exact .inl h1
            · exact .inr h1
          · simp at h
        · simp at h
      · simp at h
    · exact ih _ _ h x hx
theorem expand_from {P : Program} {X : Ext} {C : Oracle} {nt : Nat} {ops : List Oper} {K : Nat} {ks : List Nat} : ∀ (L acc out : List (List Bool × St)), expand P X C nt ops K ks L acc = some out →
    ∀ x ∈ out, x ∈ acc ∨ ∃ d s i, (d, s) ∈ L ∧ rdy ops d i = true ∧ x.1 = d.set i true := by
  intro L
  induction L with
  | nil => intro acc out h; simp only [expand, Option.some.injEq] at h; subst h; exact fun x hx => .inl hx
  | cons p L ih =>
    obtain ⟨d0, s0⟩ := p
    intro acc out h x hx
    simp only [expand] at h
    split at h
    · split at h
      · rename_i acc2 hacc
        rcases ih _ _ h x hx with h1 | ⟨d, s, i, h1, h2, h3⟩
        · rcases expand1_from _ _ _ hacc x h1 with h2 | ⟨i, h2, h3⟩
          · exact .inl h2
          · exact .inr ⟨d0, s0, i, List.mem_cons_self, h2, h3⟩
        · exact .inr ⟨d, s, i, List.mem_cons_of_mem _ h1, h2, h3⟩
      · simp at h
    · simp at h
theorem layers_any {P : Program} {X : Ext} {C : Oracle} (ok : ProgOk P) (hX : XSound P X) (hC : Sound P C) {nt : Nat} {ops : Array Oper} (hsel : ops.toList.all noSel = true) {K : Nat} {ks : List Nat}
    {ρ0 : Rho} {H0 : Heap} {w0 : World} (hK : H0.length ≤ K) {Q : Exit → Act → World → Prop} :
    ∀ (fuel : Nat) (L Lf : List (List Bool × St)), layers P X C nt ops.toList K ks fuel L = some Lf → (∀ d s, (d, s) ∈ L → d.length = ops.size ∧ left ops.size d.toArray ≤ fuel) →
      (∀ d s, (d, s) ∈ Lf → ∀ ρ' a' w', Rel ρ0 H0 w0 ρ' s.H s.lo w' → FR ds ρ' nt s.F a' → Q .normal a' w') →
      ∀ d s, (d, s) ∈ L → ∀ (ρ : Rho) (a : Act) (w : World), Rel ρ0 H0 w0 ρ s.H s.lo w → FR ds ρ nt s.F a → wpAny P .any ops Q fuel d.toArray a w := by
  have hrdy : ∀ (d : List Bool), d.length = ops.size → ∀ i, i ∈ Region.ready .any ops d.toArray ↔ rdy ops.toList d i = true := by
    intro d hls i
    rw [mem_ready]
    unfold rdy
    have e1 : d.getD i true = d.toArray.getD i true := by
      simp [Array.getD_eq_getD_getElem?, List.getD_eq_getElem?_getD]
    have e2 : ∀ j, d.getD j false = d.toArray.getD j false := fun j => by
      simp [Array.getD_eq_getD_getElem?, List.getD_eq_getElem?_getD]
    rw [e1]
    cases hl : d.toArray.getD i true with
    | true => simp
    | false =>
      simp only [true_and, Array.getElem?_toList]
      cases ho : ops[i]? with
      | none => simp
      | some o =>
        simp only [Option.some.injEq, exists_eq_left', List.all_eq_true, Bool.or_eq_true, Bool.not_eq_true', e2]
        constructor
        · intro h e he
          cases hb : Region.binds .any e with
          | false => exact .inl rfl
          | true => exact .inr (h e (by simpa using he) hb)
        · intro h e he hb
          rcases h e (by simpa using he) with h | h
          · rw [hb] at h; simp at h
          · exact h
  intro fuel
  induction fuel with
  | zero =>
    intro L Lf h hL hQ d s hd ρ a w hR hF
    simp only [layers, Option.some.injEq] at h
    subst h
    refine ⟨?_, hQ d s hd ρ a w hR hF⟩
    have hall := left_zero (n := ops.size) (listed := d.toArray) (by have := (hL d s hd).2; omega)
    cases hre : Region.ready .any ops d.toArray with
    | nil => rfl
    | cons i l =>
      have hmem : i ∈ Region.ready .any ops d.toArray := by rw [hre]; simp
      rw [mem_ready] at hmem
      obtain ⟨h2, o, ho, _⟩ := hmem
      have := (Array.getElem?_eq_some_iff.1 ho).1
      rw [hall i (by omega)] at h2
      simp at h2
  | succ fuel ih =>
    intro L Lf h hL hQ d s hd ρ a w hR hF
    simp only [layers] at h
    split at h
    case h_2 => simp at h
    rename_i L2 hex
    obtain ⟨_, hspec⟩ := expand_spec _ _ _ hex
    obtain ⟨⟨i0, hi0, hr0⟩, hstep⟩ := hspec d s hd
    obtain ⟨hdl, hleft⟩ := hL d s hd
    refine ⟨fun hre => ?_, fun i hi => ?_⟩
    · exfalso
      have := (hrdy d hdl i0).2 hr0
      rw [hre] at this
      simp at this
    · have hr := (hrdy d hdl i).1 hi
      rw [mem_ready] at hi
      obtain ⟨hun, o, ho, _⟩ := hi
      have hlt := (Array.getElem?_eq_some_iff.1 ho).1
      obtain ⟨o', s1, s2, ho', hs1, hs2, s3, hmem, hH3, hlo3, hsub⟩ := hstep i (by simpa using hlt) hr
      have hol : ops.toList[i]? = some o := by simpa using ho
      rw [hol] at ho'
      injection ho' with ho'
      subst ho'
      have hset : d.toArray.setIfInBounds i true = (d.set i true).toArray := by simp
      rw [hset]
      have hL2 : ∀ d s, (d, s) ∈ L2 → d.length = ops.size ∧ left ops.size d.toArray ≤ fuel := by
        intro d2 s2' hd2
        rcases expand_from _ _ _ hex _ hd2 with h0 | ⟨d1, s1', j, h1, h2, h3⟩
        · simp at h0
        · simp only at h3
          subst h3
          obtain ⟨g1, g2⟩ := hL d1 s1' h1
          have hj := (hrdy d1 g1 j).2 h2
          rw [mem_ready] at hj
          obtain ⟨hun', o2, ho2, _⟩ := hj
          have hlt2 := (Array.getElem?_eq_some_iff.1 ho2).1
          have := left_set (n := ops.size) hlt2 (by simpa using g1) hun'
          have e : d1.toArray.setIfInBounds j true = (d1.set j true).toArray := by simp
          rw [e] at this
          exact ⟨by simpa using g1, by omega⟩
      have hnext : ∀ (ρ' : Rho) (a' : Act) (w' : World), Rel ρ0 H0 w0 ρ' s1.H s1.lo w' → FR ds ρ' nt s1.F a' → wpAny P .any ops Q fuel (d.set i true).toArray a' w' := by
        intro ρ' a' w' p q
        obtain ⟨ρ2, p2, q2⟩ := canon_ok hs2 p q hK
        rw [hH3, hlo3] at p2
        exact ih L2 Lf h hL2 hQ _ s3 hmem ρ2 a' w' p2 ⟨q2.defers, q2.size, fun t v hv => q2.slot t v (hsub t v hv)⟩
      have hso : noSel o = true := List.all_eq_true.1 hsel o (List.mem_of_getElem? hol)
      unfold wpOp
      rw [ho]
      simp only
      have hw : ∀ b, wantedF ops.toList s.F o = some b → Region.wanted o (yielded ops a.tmps) = b := fun b hb => wanted_of (fun j w d v _ _ hv => hF.slot d v hv) hb
      unfold stepP at hs1
      simp only [forceL_eq] at hs1
      split at hs1
      · rename_i hwt
        rw [hw true hwt, if_pos rfl]
        split at hs1
        · rename_i r hr
          injection hs1 with hs1
          subst hs1
          refine .inl (op_step (evOp_sound ok hX hC hso hr) (hF.opR _) hR ?_)
          intro ρ' v' w' hp hv hR'
          exact hnext ρ' _ w' hR' ((hF.mono hp).put o.dst hv)
        · simp at hs1
      · rename_i hwt
        injection hs1 with hs1
        subst hs1
        rw [hw false hwt]
        simp only [Bool.false_eq_true, if_false]
        exact hnext ρ _ w hR (hF.put o.dst (pf_self 3 undef rfl))
      · simp at hs1
theorem evDraw3_any {P : Program} {X : Ext} {C : Oracle} (ok : ProgOk P) (hX : XSound P X) (hC : Sound P C) {nt : Nat} {ops : Array Oper} (hsel : ops.toList.all noSel = true)
    {ρ0 : Rho} {H00 : Heap} {w0 : World} {F : Slots} {H : Heap} {lo : Nat} {F' : Slots} {H' : Heap} {lo' : Nat} {Q : Exit → Act → World → Prop}
    (h : evDraw3 P X C nt ops.toList F H lo = some (F', H', lo')) (hQ : ∀ ρ' a' w', Rel ρ0 H00 w0 ρ' H' lo' w' → FR ds ρ' nt F' a' → Q .normal a' w')
    {ρ : Rho} {a : Act} {w : World} (hR : Rel ρ0 H00 w0 ρ H lo w) (hF : FR ds ρ nt F a) : wpAny P .any ops Q ops.size (Array.replicate ops.size false) a { w with drawn := w.drawn + 1 } := by
  unfold evDraw3 at h
  split at h
  · rename_i d0 s hp
    split at h
    · simp only [Option.some.injEq, Prod.mk.injEq] at h
      obtain ⟨rfl, rfl, rfl⟩ := h
      have hq : Quiet w { w with drawn := w.drawn + 1 } := ⟨rfl, rfl, rfl, Nat.le_refl _, fun _ _ => rfl⟩
      have hR' := hR.trans (Rel.of_quiet hR.sr hq lo)
      rw [Nat.min_self] at hR'
      have := layers_any (Q := Q) ok hX hC hsel hR.len ops.size _ _ (by simpa using hp) (fun d s hd => by
        simp at hd
        obtain ⟨rfl, rfl⟩ := hd
        refine ⟨by simp, ?_⟩
        unfold left
        have h1 := List.length_filter_le (fun i => !(List.replicate ops.size false).toArray.getD i true) (List.range ops.size)
        simpa using h1) (fun d s' hd ρ' a' w' p q => by
        simp at hd
        obtain ⟨rfl, rfl⟩ := hd
        exact hQ ρ' a' w' p q) (List.replicate ops.size false) ⟨F, H, lo⟩ (by simp) ρ a _ hR' hF
      simpa using this
    · simp at h
  · simp at h
end Go.Proofs.YtpgmabpaiijipaaGreatDoor.Den
namespace Go.Proofs.YtpgmabpaiijipaaGreatDoor.Den
open Go
def AsWas (ws w : World) : Prop := ∀ k, k < ws.heap.size → w.heap[k]? = ws.heap[k]?
theorem SR.asWas {ρ : Rho} {H : Heap} {ws w : World} (h : SR ρ H ws) (hw : AsWas ws w) : SR ρ H w :=
  ⟨⟨h.len, fun i e b hi hb => (h.blk i e b hi hb).at (hw _ (h.blk i e b hi hb).lt), h.inj⟩, h.gl.tabs.keep (hw 0 (by have := h.gl.tabs.size; omega)) (hw 1 h.gl.tabs.size), h.gl.away⟩
theorem loadV_lt {P : Program} {H : Heap} {t : TypeId} {a : Addr} {v : Value} (h : loadV P H t a = some v) : a.block < H.length := by
  have hrd : ∀ n cs, rd H a n = some cs → a.block < H.length := by
    intro n cs hr
    unfold rd at hr
    split at hr
    · rename_i b _ hb
      exact (List.getElem?_eq_some_iff.1 hb).1
    · simp at hr
  unfold loadV at h
  split at h
  · rename_i n _ _
    cases hr : rd H a n with
    | none => simp [hr] at h
    | some cs => exact hrd _ _ hr
  · split at h
    · rename_i x hr
      exact hrd _ _ hr
    · simp at h
  · simp at h
theorem loadV_at {P : Program} {ρ : Rho} {H : Heap} {w : World} (hs : SR ρ H w) {t : TypeId} {a : Addr} {v : Value} {e : Ent} (h : loadV P H t a = some v) (he : ρ[a.block]? = some e) :
    ∃ v', VR ρ v v' ∧ ∀ w' : World, w'.heap[e.r]? = w.heap[e.r]? → (loadVar t ⟨e.r, e.d + a.off, none⟩).run P w' = .ok v' w' := by
  have same : ∀ (w' : World), w'.heap[e.r]? = w.heap[e.r]? → ∀ i, w'.cell? ((⟨e.r, e.d + a.off, none⟩ : Addr).add i) = w.cell? ((⟨e.r, e.d + a.off, none⟩ : Addr).add i) := by
    intro w' hw i
    rw [add_none]
    simp only [World.cell?, hw]
  unfold loadV at h
  split at h
  · rename_i n hag hsz
    cases hr : rd H a n with
    | none => simp [hr] at h
    | some cs =>
      simp [hr] at h
      subst h
      obtain ⟨_, hlen, _, cs', h1, h2⟩ := rd_sound hs hr he
      refine ⟨.agg cs'.toArray, h1.toAgg, fun w' hw => ?_⟩
      have hl := run_loadCells_list (P := P) w' ⟨e.r, e.d + a.off, none⟩ cs' (fun i u hu => by rw [same w' hw]; exact h2 i u hu)
      rw [← h1.1, hlen] at hl
      unfold loadVar
      simp [isAgg_run hag, sizeOf_run hsz, hl]
  · rename_i hag
    split at h
    · rename_i x hr
      split at h
      case h_2 => simp at h
      injection h with h
      subst h
      obtain ⟨_, _, _, cs', h1, h2⟩ := rd_sound hs hr he
      have hn : cs'.length = 1 := by rw [← h1.1]; rfl
      match cs', hn with
      | [x'], _ =>
        refine ⟨x', h1.2 0 _ _ rfl rfl, fun w' hw => ?_⟩
        have hc := h2 0 x' rfl
        rw [← same w' hw] at hc
        have e0 : (⟨e.r, e.d + a.off, none⟩ : Addr).add 0 = ⟨e.r, e.d + a.off, none⟩ := rfl
        rw [e0] at hc
        unfold loadVar
        simp [isAgg_run hag, load, Sem.run, hc]
    · simp at h
  · simp at h
theorem evLook_sound {P : Program} {F : Slots} {H : Heap} {o : Oper} {v : Value} (h : evLook P F H o = some v) {ρs ρ : Rho} {ws : World} {a : Act} (hs : SR ρs H ws) (hp : ρs <+: ρ) (hr : OpR ρ F a o.op.operands.toList) :
    o.guard = none ∧ ∃ v', VR ρ v v' ∧ ∀ w, AsWas ws w → (execOp a.eval o).run P w = .ok (.value v') w := by
  unfold evLook at h
  split at h
  · simp at h
  rename_i hg
  refine ⟨hg, ?_⟩
  split at h
  · rename_i x hop
    rw [hop] at hr
    exact ⟨_, hr x (by simp [Op.operands]) v h, fun w _ => by simp only [execOp, hop]; rfl⟩
  · rename_i x hop
    rw [hop] at hr
    exact ⟨_, hr x (by simp [Op.operands]) v h, fun w _ => by simp only [execOp, hop]; rfl⟩
  · rename_i x hop
    rw [hop] at hr
    split at h
    · rename_i ad hx
      injection h with h
      subst h
      have h1 := hr x (by simp [Op.operands]) _ hx
      obtain ⟨e, he, hs, hv⟩ := ptr_of h1
      exact ⟨_, h1, fun w _ => by simp [execOp, hop, hv]⟩
    · simp at h
  · rename_i s x f hop
    rw [hop] at hr
    split at h
    · rename_i ad fs hx hu
      split at h
      · rename_i fd hfd
        split at h
        · rename_i n hsz
          split at h
          · simp at h
          · rename_i hn
            injection h with h
            subst h
            obtain ⟨e, he, hs, hv⟩ := ptr_of (hr x (by simp [Op.operands]) _ hx)
            exact ⟨_, ptr_add he hs fd.offset, fun w _ => by simp [execOp, hop, Instr.fieldAt, hv, Instr.sureAddr, run_underlying hu, hfd, fieldPlace, sizeOf_run hsz, hn]⟩
        · simp at h
      · simp at h
    · simp at h
  · rename_i x i hop
    rw [hop] at hr
    split at h
    · rename_i vs hx
      obtain ⟨cs', hv, hvs⟩ := tuple_of (hr x (by simp [Op.operands]) _ hx)
      obtain ⟨v', h1, h2⟩ := zip_get hvs h
      have h1' : cs'[i]? = some v' := by simpa using h1
      exact ⟨v', h2, fun w _ => by simp [execOp, hop, Instr.extract, hv, h1']⟩
    · simp at h
  · rename_i t x hop
    rw [hop] at hr
    split at h
    · rename_i ad hx
      obtain ⟨e, he, _, hv⟩ := ptr_of (hr x (by simp [Op.operands]) _ hx)
      have hlt := loadV_lt h
      obtain ⟨e2, he2⟩ : ∃ e2, ρs[ad.block]? = some e2 := get_lt (by rw [hs.len]; exact hlt)
      have := prefix_get hp he2
      rw [he] at this
      injection this with this
      subst this
      obtain ⟨v', h1, h2⟩ := loadV_at (P := P) hs h he2
      refine ⟨v', h1.mono hp, fun w hw => ?_⟩
      obtain ⟨b, hb⟩ : ∃ b, H[ad.block]? = some b := get_lt hlt
      have h4 := h2 w (hw _ (hs.blk _ _ _ he2 hb).lt)
      simp [execOp, hop, Instr.loadAt, hv, Instr.sureAddr, h4]
    · simp at h
  · simp at h
variable {ds : List Deferred}
theorem rdy_iff {ops : Array Oper} {d : List Bool} {i : Nat} : i ∈ Region.ready .any ops d.toArray ↔ rdy ops.toList d i = true := by
  rw [mem_ready]
  unfold rdy
  have e1 : d.getD i true = d.toArray.getD i true := by
    simp [Array.getD_eq_getD_getElem?, List.getD_eq_getElem?_getD]
  have e2 : ∀ j, d.getD j false = d.toArray.getD j false := fun j => by
    simp [Array.getD_eq_getD_getElem?, List.getD_eq_getElem?_getD]
  rw [e1]
  cases hl : d.toArray.getD i true with
  | true => simp
  | false =>
    simp only [true_and, Array.getElem?_toList]
    cases ho : ops[i]? with
    | none => simp
    | some o =>
      simp only [Option.some.injEq, exists_eq_left', List.all_eq_true, Bool.or_eq_true, Bool.not_eq_true', e2]
      constructor
      · intro h e he
        cases hb : Region.binds .any e with
        | false => exact .inl rfl
        | true => exact .inr (h e (by simpa using he) hb)
      · intro h e he hb
        rcases h e (by simpa using he) with h | h
        · rw [hb] at h; simp at h
        · exact h
theorem rdy_left {ops : Array Oper} {d : List Bool} {i : Nat} (hd : d.length = ops.size) (h : rdy ops.toList d i = true) : i < ops.size ∧ left ops.size (d.set i true).toArray < left ops.size d.toArray := by
  have hj := rdy_iff.2 h
  rw [mem_ready] at hj
  obtain ⟨hun, o, ho, _⟩ := hj
  have hlt := (Array.getElem?_eq_some_iff.1 ho).1
  have := left_set (n := ops.size) hlt (by simpa using hd) hun
  have e : d.toArray.setIfInBounds i true = (d.set i true).toArray := by simp
  rw [e] at this
  exact ⟨hlt, this⟩
theorem memN_iff {x : Nat} : ∀ {l : List Nat}, memN x l = true ↔ x ∈ l := by
  intro l
  induction l with
  | nil => simp [memN]
  | cons y l ih =>
    simp only [memN, List.mem_cons]
    cases hb : Nat.beq x y with
    | true => simp [Nat.eq_of_beq_eq_true hb]
    | false =>
      have : x ≠ y := fun e => by subst e; simp at hb
      simp [ih, this]
theorem rowsE_eq {β : Type} (ops : List Oper) : ∀ (l : List Oper) (k : List RowE → β), rowsE ops l k = k (l.map fun o => (o.dst, looks ops o, befE o))
  | [], _ => rfl
  | o :: l, k => by simp only [rowsE, forceL_eq, List.map_cons]; rw [rowsE_eq ops l]
theorem freeR_get {i : Nat} {r : RowE} : ∀ (l : List RowE) (j : Nat), freeR i r j l = true → ∀ k q, l[k]? = some q → pairE i r (j + k) q = true := by
  intro l
  induction l with
  | nil => intro j _ k q h; simp at h
  | cons p l ih =>
    intro j h k q hk
    simp only [freeR] at h
    split at h
    · rename_i hp
      cases k with
      | zero => simp at hk; subst hk; exact hp
      | succ k =>
        simp at hk
        have := ih (j + 1) h k q hk
        rwa [show j + 1 + k = j + (k + 1) by omega] at this
    · simp at h
theorem looksE_get {rows : List RowE} : ∀ (ops : List Oper) (rs : List RowE) (i k : Nat), (looksE rows i ops rs).getD k false = true → ∃ r, rs[k]? = some r ∧ freeR (i + k) r 0 rows = true := by
  intro ops
  induction ops with
  | nil => intro rs i k h; simp [looksE] at h
  | cons o ops ih =>
    intro rs i k h
    cases rs with
    | nil => simp [looksE] at h
    | cons r rs =>
      simp only [looksE] at h
      cases k with
      | zero =>
        split at h
        · rename_i hc
          simp only [Bool.and_eq_true] at hc
          exact ⟨r, rfl, hc.2⟩
        · simp at h
      | succ k =>
        have h' : (looksE rows (i + 1) ops rs).getD k false = true := by
          split at h <;> simpa using h
        obtain ⟨r', h1, h2⟩ := ih rs (i + 1) k h'
        exact ⟨r', by simpa using h1, by rwa [show i + 1 + k = i + (k + 1) by omega] at h2⟩
theorem looksAt_eq (ops : Array Oper) (o : Oper) : o.looksAt ops = looks ops.toList o := by
  have e : ∀ g : Nat, ops.toList[g]? = ops[g]? := fun g => Array.getElem?_toList
  unfold Oper.looksAt looks
  cases hg : o.guard with
  | none =>
    simp only
    congr 1
  | some g =>
    obtain ⟨g, w⟩ := g
    simp only [e]
    congr 1
theorem look_free {ops : Array Oper} {i : Nat} (h : (looksE (ops.toList.map fun o => (o.dst, looks ops.toList o, befE o)) 0 ops.toList (ops.toList.map fun o => (o.dst, looks ops.toList o, befE o))).getD i false = true) {d : List Bool} (hr : rdy ops.toList d i = true) :
    Region.free .any ops d.toArray i = true := by
  obtain ⟨r, h1, h2⟩ := looksE_get _ _ _ _ h
  rw [Nat.zero_add] at h2
  have hready := rdy_iff.2 hr
  rw [mem_ready] at hready
  obtain ⟨_, oi, hoi, hall⟩ := hready
  have e1 : r = (oi.dst, looks ops.toList oi, befE oi) := by
    rw [List.getElem?_map] at h1
    have : ops.toList[i]? = some oi := by simpa using hoi
    rw [this] at h1
    simpa using h1.symm
  subst e1
  unfold Region.free
  rw [hoi]
  simp only [List.all_eq_true, List.mem_range]
  intro j hj
  have hoj : ops[j]? = some ops[j] := Array.getElem?_eq_getElem hj
  generalize ops[j] = oj at hoj
  have hp := freeR_get _ _ h2 j (oj.dst, looks ops.toList oj, befE oj) (by
      have : ops.toList[j]? = some oj := by simpa using hoj
      rw [List.getElem?_map, this]
      rfl)
  rw [Nat.zero_add] at hp
  rw [hoj]
  simp only [Bool.or_eq_true, beq_iff_eq]
  unfold pairE at hp
  split at hp
  · rename_i hc
    simp only [Bool.or_eq_true] at hc
    rcases hc with hc | hc | hc
    · exact .inl (.inl (Nat.eq_of_beq_eq_true hc).symm)
    · rw [memN_iff] at hc
      simp only [befE, List.mem_map, List.mem_filter] at hc
      obtain ⟨e, ⟨he, hb⟩, rfl⟩ := hc
      have := hall e (by simpa using he) hb
      refine .inl (.inr ?_)
      simp only [Array.getD_eq_getD_getElem?] at this ⊢
      cases hx : d.toArray[e.on]? with
      | none => rfl
      | some x => rw [hx] at this; simpa using this
    · rw [memN_iff] at hc
      simp only [befE, List.mem_map, List.mem_filter] at hc
      obtain ⟨e, ⟨he, hb⟩, rfl⟩ := hc
      refine .inr (.inl ?_)
      rw [Array.any_eq_true']
      exact ⟨e, by simpa using he, by simp [hb]⟩
  · simp only [Bool.and_eq_true] at hp
    refine .inr (.inr ?_)
    unfold Oper.apart
    rw [looksAt_eq, looksAt_eq]
    simp only [Bool.and_eq_true]
    refine ⟨?_, ?_⟩
    · have h1 := hp.1
      cases hd : oi.dst with
      | none => rfl
      | some x =>
        rw [hd] at h1
        simp only [Bool.and_eq_true, Bool.not_eq_true'] at h1 ⊢
        refine ⟨?_, ?_⟩
        · rw [← Bool.not_eq_true, memN_iff] at h1
          simpa using h1.1
        · cases hdj : oj.dst with
          | none => rfl
          | some y =>
            have h2 := h1.2
            rw [hdj] at h2
            simp only [Bool.not_eq_true'] at h2
            have : x ≠ y := fun e => by subst e; simp at h2
            simp only [bne_iff_ne, ne_eq, Option.some.injEq]
            exact fun e => this e.symm
    · have h1 := hp.2
      cases hd : oj.dst with
      | none => rfl
      | some x =>
        rw [hd] at h1
        simp only [Bool.not_eq_true'] at h1 ⊢
        rw [← Bool.not_eq_true, memN_iff] at h1
        simpa using h1
theorem sat_any {P : Program} {nt : Nat} {ops : Array Oper} (hsel : Region.noSelect ops = true) {fr : List Bool} (hfr : ∀ i d, fr.getD i false = true → rdy ops.toList d i = true → Region.free .any ops d.toArray i = true)
    {ρs : Rho} {Hs : Heap} {ws : World} (hs : SR ρs Hs ws) {Q : Exit → Act → World → Prop} (hQ : ∀ c a w, ¬ Q (.panic c) a w) {ρ : Rho} (hp : ρs <+: ρ) {w : World} (hw : AsWas ws w) :
    ∀ (is : List Nat) (d : List Bool) (F : Slots) (d2 : List Bool) (F2 : Slots), satE P nt ops.toList fr Hs is d F = (d2, F2) → d.length = ops.size →
      d2.length = ops.size ∧ ((∀ fuel a, left ops.size d2.toArray ≤ fuel → FR ds ρ nt F2 a → wpAnyH P .any ops Q (AsWas ws) fuel d2.toArray a w) →
        ∀ fuel a, left ops.size d.toArray ≤ fuel → FR ds ρ nt F a → wpAnyH P .any ops Q (AsWas ws) fuel d.toArray a w) := by
  intro is
  induction is with
  | nil =>
    intro d F d2 F2 h hd
    simp only [satE, Prod.mk.injEq] at h
    obtain ⟨rfl, rfl⟩ := h
    exact ⟨hd, fun h => h⟩
  | cons i is ih =>
    intro d F d2 F2 h hd
    simp only [satE] at h
    split at h
    · rename_i hc
      simp only [Bool.and_eq_true] at hc
      split at h
      · rename_i o ho
        split at h
        · rename_i v hv
          obtain ⟨h1, h2⟩ := ih _ _ _ _ h (by simpa using hd)
          refine ⟨h1, fun hk fuel a hf hF => ?_⟩
          obtain ⟨hlt, hl⟩ := rdy_left hd hc.1
          obtain ⟨f, rfl⟩ : ∃ f, fuel = f + 1 := ⟨fuel - 1, by omega⟩
          obtain ⟨hg, v', hvr, hrun⟩ := evLook_sound hv hs hp (hF.opR _)
          have ho' : ops[i]? = some o := by simpa using ho
          have hready : (Region.ready .any ops d.toArray).contains i = true := by
            have := rdy_iff.2 hc.1
            simpa using this
          refine wpAnyH_take ho' hsel (hfr i d hc.2 hc.1) hready (fun c a w h => (hQ c _ w h).elim) (.inl ⟨by simp [Region.wanted, hg], fun w hw => hrun w hw⟩) hw ?_
          have e : d.toArray.setIfInBounds i true = (d.set i true).toArray := by simp
          rw [e]
          exact h2 hk f _ (by omega) (hF.put o.dst hvr)
        · exact ih _ _ _ _ h hd
      · exact ih _ _ _ _ h hd
    · exact ih _ _ _ _ h hd
section
variable {P : Program} {X : Ext} {C : Oracle} {nt : Nat} {ops : List Oper} {fr : List Bool} {H0 : Heap} {ks : List Nat}
theorem expE1_spec {d : List Bool} {s : St} : ∀ (is : List Nat) (acc out : List (List Bool × St)), expE1 P X C nt ops fr H0 ks d s is acc = some out →
    (∀ x ∈ acc, x ∈ out) ∧ (∀ x ∈ out, x ∈ acc ∨ x.2.lo = H0.length) ∧ ∀ i ∈ is, rdy ops d i = true → ∃ o s1 d2 F2 s2, ops[i]? = some o ∧ stepP P X C nt ops s o = some s1 ∧ satE P nt ops fr H0 (List.range ops.length) (d.set i true) s1.F = (d2, F2) ∧
      canon H0.length ks ⟨F2, s1.H, s1.lo⟩ = some s2 ∧ Cov out d2 s2 := by
  intro is
  induction is with
  | nil => intro acc out h; simp only [expE1, Option.some.injEq] at h; subst h; exact ⟨fun x hx => hx, fun x hx => .inl hx, fun i hi => by simp at hi⟩
  | cons i is ih =>
    intro acc out h
    simp only [expE1] at h
    split at h
    · split at h
      · rename_i o ho
        split at h
        · rename_i s1 hs1
          generalize hsat : satE P nt ops fr H0 (List.range ops.length) (d.set i true) s1.F = df at h
          obtain ⟨d2, F2⟩ := df
          simp only at h
          split at h
          · rename_i s2 hs2
            split at h
            · rename_i hlo
              obtain ⟨g1, g0, g2⟩ := ih _ _ h
              obtain ⟨⟨s3, c1, c2⟩, c3⟩ := insS_cov d2 s2 acc
              refine ⟨fun x hx => g1 x (c3 x hx), fun x hx => ?_, fun j hj hr => ?_⟩
              · rcases g0 x hx with h1 | h1
                · rcases insS_from h1 with h2 | h2
                  · exact .inr (by rw [h2]; exact Nat.eq_of_beq_eq_true hlo)
                  · exact .inl h2
                · exact .inr h1
              · rcases List.mem_cons.1 hj with rfl | hj
                · exact ⟨o, s1, d2, F2, s2, ho, hs1, hsat, hs2, s3, g1 _ c1, c2⟩
                · exact g2 j hj hr
            · simp at h
          · simp at h
        · simp at h
      · simp at h
    · rename_i hn
      obtain ⟨g1, g0, g2⟩ := ih _ _ h
      refine ⟨g1, g0, fun j hj hr => ?_⟩
      rcases List.mem_cons.1 hj with rfl | hj
      · rw [hn] at hr; cases hr
      · exact g2 j hj hr
theorem expE_spec : ∀ (L acc out : List (List Bool × St)), expE P X C nt ops fr H0 ks L acc = some out →
    (∀ x ∈ acc, x ∈ out) ∧ (∀ x ∈ out, x ∈ acc ∨ x.2.lo = H0.length) ∧ ∀ d s, (d, s) ∈ L → (∃ i, i < ops.length ∧ rdy ops d i = true) ∧ ∀ i, i < ops.length → rdy ops d i = true → ∃ o s1 d2 F2 s2, ops[i]? = some o ∧ stepP P X C nt ops s o = some s1 ∧
      satE P nt ops fr H0 (List.range ops.length) (d.set i true) s1.F = (d2, F2) ∧ canon H0.length ks ⟨F2, s1.H, s1.lo⟩ = some s2 ∧ Cov out d2 s2 := by
  intro L
  induction L with
  | nil => intro acc out h; simp only [expE, Option.some.injEq] at h; subst h; exact ⟨fun x hx => hx, fun x hx => .inl hx, fun d s hd => by simp at hd⟩
  | cons p L ih =>
    obtain ⟨d0, s0⟩ := p
    intro acc out h
    simp only [expE] at h
    split at h
    · rename_i hany
      split at h
      · rename_i acc2 hacc
        obtain ⟨g1, g0, g2⟩ := ih _ _ h
        obtain ⟨k1, k0, k2⟩ := expE1_spec _ _ _ hacc
        refine ⟨fun x hx => g1 x (k1 x hx), fun x hx => ?_, fun d s hd => ?_⟩
        · rcases g0 x hx with h1 | h1
          · exact k0 x h1
          · exact .inr h1
        · rcases List.mem_cons.1 hd with he | hd
          · injection he with he1 he2
            subst he1 he2
            obtain ⟨i, hi, hr⟩ := List.any_eq_true.1 hany
            refine ⟨⟨i, by simpa using hi, hr⟩, fun j hj hrj => ?_⟩
            obtain ⟨o, s1, d2, F2, s2, h1, h2, h3, h4, s3, h5, h6⟩ := k2 j (by simpa using hj) hrj
            exact ⟨o, s1, d2, F2, s2, h1, h2, h3, h4, s3, g1 _ h5, h6⟩
          · exact g2 d s hd
      · simp at h
    · simp at h
end
theorem canon_lo {K : Nat} {ks : List Nat} {s s2 : St} (h : canon K ks s = some s2) : s2.lo = s.lo := by
  unfold canon at h
  simp only [forceL_eq] at h
  split at h
  · split at h
    · simp only [Option.some.injEq] at h
      rw [← h]
    · simp at h
  · simp at h
theorem satE_len {P : Program} {nt : Nat} {ops : List Oper} {fr : List Bool} {H : Heap} : ∀ (is : List Nat) (d : List Bool) (F : Slots) (d2 : List Bool) (F2 : Slots), satE P nt ops fr H is d F = (d2, F2) → d2.length = d.length := by
  intro is
  induction is with
  | nil => intro d F d2 F2 h; simp only [satE, Prod.mk.injEq] at h; rw [h.1]
  | cons i is ih =>
    intro d F d2 F2 h
    simp only [satE] at h
    split at h
    · split at h
      · split at h
        · rw [ih _ _ _ _ h, List.length_set]
        · exact ih _ _ _ _ h
      · exact ih _ _ _ _ h
    · exact ih _ _ _ _ h
section
variable {P : Program} {X : Ext} {C : Oracle} {nt : Nat} {ops : List Oper} {fr : List Bool} {H0 : Heap} {ks : List Nat}
theorem expE1_len {n : Nat} {d : List Bool} {s : St} (hd : d.length = n) : ∀ (is : List Nat) (acc out : List (List Bool × St)), expE1 P X C nt ops fr H0 ks d s is acc = some out → (∀ d s, (d, s) ∈ acc → d.length = n) → ∀ d s, (d, s) ∈ out → d.length = n := by
  intro is
  induction is with
  | nil => intro acc out h ha; simp only [expE1, Option.some.injEq] at h; subst h; exact ha
  | cons i is ih =>
    intro acc out h ha
    simp only [expE1] at h
    split at h
    · split at h
      · split at h
        · rename_i s1 _
          generalize hsat : satE P nt ops fr H0 (List.range ops.length) (d.set i true) s1.F = df at h
          obtain ⟨d2, F2⟩ := df
          simp only at h
          split at h
          · split at h
            · refine ih _ _ h fun d3 s3 h3 => ?_
              rcases insS_from h3 with h4 | h4
              · injection h4 with h4 _
                rw [h4, satE_len _ _ _ _ _ hsat, List.length_set, hd]
              · exact ha _ _ h4
            · simp at h
          · simp at h
        · simp at h
      · simp at h
    · exact ih _ _ h ha
theorem expE_len {n : Nat} : ∀ {L acc out : List (List Bool × St)}, expE P X C nt ops fr H0 ks L acc = some out → (∀ d s, (d, s) ∈ L → d.length = n) → (∀ d s, (d, s) ∈ acc → d.length = n) → ∀ d s, (d, s) ∈ out → d.length = n := by
  intro L
  induction L with
  | nil => intro acc out h _ ha; simp only [expE, Option.some.injEq] at h; subst h; exact ha
  | cons p L ih =>
    obtain ⟨d0, s0⟩ := p
    intro acc out h hL ha
    simp only [expE] at h
    split at h
    · split at h
      · rename_i acc2 hacc
        exact ih h (fun d s hd => hL d s (List.mem_cons_of_mem _ hd)) (expE1_len (hL d0 s0 List.mem_cons_self) _ _ _ hacc ha)
      · simp at h
    · simp at h
theorem layersE_lo : ∀ {n : Nat} {L Lf : List (List Bool × St)}, layersE P X C nt ops fr H0 ks n L = some Lf → (∀ d s, (d, s) ∈ L → s.lo = H0.length) → ∀ d s, (d, s) ∈ Lf → s.lo = H0.length := by
  intro n
  induction n with
  | zero => intro L Lf h hL; simp only [layersE, Option.some.injEq] at h; subst h; exact hL
  | succ n ih =>
    intro L Lf h hL
    simp only [layersE] at h
    split at h
    · injection h with h
      subst h
      exact hL
    · split at h
      · rename_i L2 hex
        exact ih h fun d s hd => ((expE_spec _ _ _ hex).2.1 _ hd).resolve_left (by simp)
      · simp at h
end
theorem all_left {n : Nat} {d : List Bool} (h : d.all id = true) (hd : d.length = n) : ∀ i, i < n → d.toArray.getD i true = true := by
  intro i hi
  have : d[i]? = some d[i] := List.getElem?_eq_getElem (by omega)
  have h1 := List.all_eq_true.1 h _ (List.mem_of_getElem? this)
  simp only [id] at h1
  simp [Array.getD_eq_getD_getElem?, this, h1]
theorem none_ready {ops : Array Oper} {d : List Bool} (h : d.all id = true) (hd : d.length = ops.size) : Region.ready .any ops d.toArray = [] := by
  cases hre : Region.ready .any ops d.toArray with
  | nil => rfl
  | cons i l =>
    have hmem : i ∈ Region.ready .any ops d.toArray := by rw [hre]; simp
    rw [mem_ready] at hmem
    obtain ⟨h2, o, ho, _⟩ := hmem
    have := (Array.getElem?_eq_some_iff.1 ho).1
    rw [all_left h hd i (by omega)] at h2
    simp at h2
theorem Rel.asWas {ρs : Rho} {Hs : Heap} {ws : World} {ρ : Rho} {H : Heap} {w : World} (h : Rel ρs Hs ws ρ H Hs.length w) : AsWas ws w := by
  intro k hk
  refine h.keep k hk fun j e0 b0 hj hb _ hl => ?_
  have := (List.getElem?_eq_some_iff.1 hb).1
  omega
theorem layersE_any {P : Program} {X : Ext} {C : Oracle} (ok : ProgOk P) (hX : XSound P X) (hC : Sound P C) {nt : Nat} {ops : Array Oper} (hsel : ops.toList.all noSel = true) (hns : Region.noSelect ops = true) {fr : List Bool}
    (hfr : ∀ i d, fr.getD i false = true → rdy ops.toList d i = true → Region.free .any ops d.toArray i = true) {ks : List Nat}
    {ρs : Rho} {Hs : Heap} {ws : World} (hs : SR ρs Hs ws) {Q : Exit → Act → World → Prop} (hQp : ∀ c a w, ¬ Q (.panic c) a w) :
    ∀ (n : Nat) (L Lf : List (List Bool × St)), layersE P X C nt ops.toList fr Hs ks n L = some Lf → (∀ d s, (d, s) ∈ L → d.length = ops.size ∧ s.lo = Hs.length) → (∀ d s, (d, s) ∈ Lf → d.all id = true) →
      (∀ d s, (d, s) ∈ Lf → ∀ ρ' a' w', Rel ρs Hs ws ρ' s.H s.lo w' → FR ds ρ' nt s.F a' → Q .normal a' w') →
      ∀ d s, (d, s) ∈ L → ∀ (fuel : Nat), left ops.size d.toArray ≤ fuel → ∀ (ρ : Rho) (a : Act) (w : World), Rel ρs Hs ws ρ s.H s.lo w → FR ds ρ nt s.F a → wpAnyH P .any ops Q (AsWas ws) fuel d.toArray a w := by
  have hdone : ∀ (d : List Bool) (s : St), d.all id = true → d.length = ops.size → (∀ ρ' a' w', Rel ρs Hs ws ρ' s.H s.lo w' → FR ds ρ' nt s.F a' → Q .normal a' w') →
      ∀ (fuel : Nat) (ρ : Rho) (a : Act) (w : World), Rel ρs Hs ws ρ s.H s.lo w → FR ds ρ nt s.F a → wpAnyH P .any ops Q (AsWas ws) fuel d.toArray a w :=
    fun d s h hd hq fuel ρ a w hR hF => wpAnyH_done (none_ready h hd) (hq ρ a w hR hF) fuel
  intro n
  induction n with
  | zero =>
    intro L Lf h hL hall hQ d s hd fuel _ ρ a w hR hF
    simp only [layersE, Option.some.injEq] at h
    subst h
    exact hdone d s (hall d s hd) (hL d s hd).1 (hQ d s hd) fuel ρ a w hR hF
  | succ n ih =>
    intro L Lf h hL hall hQ d s hd fuel hf ρ a w hR hF
    simp only [layersE] at h
    split at h
    · injection h with h
      subst h
      exact hdone d s (hall d s hd) (hL d s hd).1 (hQ d s hd) fuel ρ a w hR hF
    split at h
    case h_2 => simp at h
    rename_i L2 hex
    obtain ⟨_, hlos, hspec⟩ := expE_spec _ _ _ hex
    obtain ⟨⟨i0, hi0, hr0⟩, hstep⟩ := hspec d s hd
    obtain ⟨hdl, hlo⟩ := hL d s hd
    obtain ⟨f, rfl⟩ : ∃ f, fuel = f + 1 := ⟨fuel - 1, by have := (rdy_left hdl hr0).2; omega⟩
    refine ⟨fun hre => ?_, fun i hi => ?_⟩
    · have := rdy_iff.2 hr0
      rw [hre] at this
      simp at this
    · have hr := rdy_iff.1 hi
      obtain ⟨hlt, hl⟩ := rdy_left hdl hr
      obtain ⟨o, s1, d2, F2, s2, hol, hs1, hsat, hs2, s3, hmem, hH3, hlo3, hsub⟩ := hstep i (by simpa using hlt) hr
      have ho : ops[i]? = some o := by simpa using hol
      have hset : d.toArray.setIfInBounds i true = (d.set i true).toArray := by simp
      rw [hset]
      have hL2 : ∀ d s, (d, s) ∈ L2 → d.length = ops.size ∧ s.lo = Hs.length := by
        intro d3 s4 hd3
        refine ⟨?_, (hlos _ hd3).resolve_left (by simp)⟩
        exact expE_len hex (fun d s h => (hL d s h).1) (fun d s h => by simp at h) d3 s4 hd3
      have hlo2 : s2.lo = Hs.length := by
        rw [hlo3]
        exact (hL2 _ _ hmem).2
      have hlo1 : s1.lo = Hs.length := by
        have := canon_lo hs2
        simp only at this
        rw [← this, hlo2]
      have hnext : ∀ (ρ' : Rho) (a' : Act) (w' : World), Rel ρs Hs ws ρ' s1.H s1.lo w' → FR ds ρ' nt s1.F a' → AsWas ws w' ∧ wpAnyH P .any ops Q (AsWas ws) f (d.set i true).toArray a' w' := by
        intro ρ' a' w' p q
        have hw' : AsWas ws w' := by rw [hlo1] at p; exact p.asWas
        refine ⟨hw', ?_⟩
        refine (sat_any hns hfr hs hQp p.pre hw' _ _ _ _ _ hsat (by simpa using hdl)).2 (fun fuel2 a2 hf2 hF2 => ?_) f a' (by omega) q
        obtain ⟨ρ2, p2, q2⟩ := canon_ok hs2 (s := ⟨F2, s1.H, s1.lo⟩) p hF2 (Nat.le_refl _)
        rw [hH3, hlo3] at p2
        exact ih L2 Lf h hL2 hall hQ _ s3 hmem fuel2 hf2 ρ2 a2 w' p2 ⟨q2.defers, q2.size, fun t v hv => q2.slot t v (hsub t v hv)⟩
      have hso : noSel o = true := List.all_eq_true.1 hsel o (List.mem_of_getElem? hol)
      unfold wpOp
      rw [ho]
      simp only
      have hwn : ∀ b, wantedF ops.toList s.F o = some b → Region.wanted o (yielded ops a.tmps) = b := fun b hb => wanted_of (fun j w d v _ _ hv => hF.slot d v hv) hb
      unfold stepP at hs1
      simp only [forceL_eq] at hs1
      split at hs1
      · rename_i hwt
        rw [hwn true hwt, if_pos rfl]
        split at hs1
        · rename_i r hr
          injection hs1 with hs1
          subst hs1
          refine .inl (op_step (evOp_sound ok hX hC hso hr) (hF.opR _) hR ?_)
          intro ρ' v' w' hp hv hR'
          exact hnext ρ' _ w' hR' ((hF.mono hp).put o.dst hv)
        · simp at hs1
      · rename_i hwt
        injection hs1 with hs1
        subst hs1
        rw [hwn false hwt]
        simp only [Bool.false_eq_true, if_false]
        exact hnext ρ _ w hR (hF.put o.dst (pf_self 3 undef rfl))
      · simp at hs1
def onlyNorm (Q : Exit → Act → World → Prop) : Exit → Act → World → Prop := fun e a w => e = .normal ∧ Q .normal a w
theorem upon_norm {P : Program} {o : Oper} {a : Act} {K K' : Act → World → Prop} {Q : Exit → Act → World → Prop} (hK : ∀ a w, K a w → K' a w) {r : Result Next} (h : o.upon P a K (onlyNorm Q) r) : o.upon P a K' Q r := by
  have hlo : ¬ LetsOut (onlyNorm Q) := fun ⟨a, w, h, _⟩ => by cases h
  cases r with
  | ok n w' =>
    cases n
    case value v => exact hK _ _ h
    case skip => exact hK _ _ h
    case defer d => exact hK _ _ h
    case enter f args =>
      refine Calls.mono h ?_
      intro e w'' he
      cases e
      case returned u => exact hK _ _ he
      case panicked c => cases he.1
      case outgrown => exact (hlo he).elim
    case row row args =>
      refine Rows.mono h ?_
      intro u w'' he
      exact hK _ _ he
    all_goals exact h.elim
  | halt x w' =>
    cases x
    case panic v => cases h.1
    all_goals exact h.elim
theorem wpAny_norm {P : Program} {ops : Array Oper} {Q : Exit → Act → World → Prop} : ∀ (fuel : Nat) (d : Array Bool) (a : Act) (w : World), wpAny P .any ops (onlyNorm Q) fuel d a w → wpAny P .any ops Q fuel d a w := by
  have hlo : ¬ LetsOut (onlyNorm Q) := fun ⟨a, w, h, _⟩ => by cases h
  intro fuel
  induction fuel with
  | zero => intro d a w h; exact ⟨h.1, h.2.2⟩
  | succ fuel ih =>
    intro d a w h
    refine ⟨fun hre => (h.1 hre).2, fun i hi => ?_⟩
    have h1 := h.2 i hi
    unfold wpOp at h1 ⊢
    cases ho : ops[i]? with
    | none => rw [ho] at h1; exact ih _ _ _ h1
    | some o =>
      rw [ho] at h1
      simp only at h1 ⊢
      split
      · rename_i hw
        rw [if_pos hw] at h1
        rcases h1 with h1 | ⟨_, h1⟩
        · exact .inl (upon_norm (fun a w h => ih _ _ _ h) h1)
        · exact (hlo h1).elim
      · rename_i hw
        rw [if_neg hw] at h1
        exact ih _ _ _ h1
theorem evDraw4_any {P : Program} {X : Ext} {C : Oracle} (ok : ProgOk P) (hX : XSound P X) (hC : Sound P C) {nt : Nat} {ops : Array Oper} (hsel : ops.toList.all noSel = true)
    {ρ0 : Rho} {H00 : Heap} {w0 : World} {F : Slots} {H : Heap} {lo : Nat} {F' : Slots} {H' : Heap} {lo' : Nat} {Q : Exit → Act → World → Prop}
    (h : evDraw4 P X C nt ops.toList F H lo = some (F', H', lo')) (hQ : ∀ ρ' a' w', Rel ρ0 H00 w0 ρ' H' lo' w' → FR ds ρ' nt F' a' → Q .normal a' w')
    {ρ : Rho} {a : Act} {w : World} (hR : Rel ρ0 H00 w0 ρ H lo w) (hF : FR ds ρ nt F a) : wpAny P .any ops Q ops.size (Array.replicate ops.size false) a { w with drawn := w.drawn + 1 } := by
  unfold evDraw4 at h
  rw [rowsE_eq, forceL_eq] at h
  generalize hfr0 : looksE (ops.toList.map fun o => (o.dst, looks ops.toList o, befE o)) 0 ops.toList (ops.toList.map fun o => (o.dst, looks ops.toList o, befE o)) = fr at h
  generalize hsat : satE P nt ops.toList fr H (List.range ops.toList.length) (List.replicate ops.toList.length false) F = df at h
  obtain ⟨d1, F1⟩ := df
  simp only at h
  split at h
  case h_2 => simp at h
  rename_i d2 s hlay
  split at h
  case h_2 => simp at h
  rename_i hc
  simp only [Bool.and_eq_true] at hc
  simp only [Option.some.injEq, Prod.mk.injEq] at h
  obtain ⟨rfl, rfl, rfl⟩ := h
  have hns : Region.noSelect ops = true := by simpa using hc.2
  have hfr : ∀ i d, fr.getD i false = true → rdy ops.toList d i = true → Region.free .any ops d.toArray i = true := by
    intro i d hi hr
    rw [← hfr0] at hi
    exact look_free hi hr
  have hq : Quiet w { w with drawn := w.drawn + 1 } := ⟨rfl, rfl, rfl, Nat.le_refl _, fun _ _ => rfl⟩
  have hR' := hR.trans (Rel.of_quiet hR.sr hq lo)
  rw [Nat.min_self] at hR'
  generalize { w with drawn := w.drawn + 1 } = ws at hR' ⊢
  have hs := hR'.sr
  have hlen : (List.replicate ops.toList.length false).length = ops.size := by simp
  have hw0 : AsWas ws ws := fun _ _ => rfl
  have hsa := sat_any (ds := ds) (P := P) (nt := nt) hns hfr hs (Q := onlyNorm Q) (fun c a w h => by cases h.1) (List.prefix_refl ρ) hw0 _ _ _ _ _ hsat hlen
  have hrun := layersE_any (ds := ds) ok hX hC hsel hns hfr (Q := onlyNorm Q) hs (fun c a w h => by cases h.1) _ _ _ hlay (fun d s hd => by
      simp at hd
      obtain ⟨rfl, rfl⟩ := hd
      exact ⟨hsa.1, rfl⟩) (fun d s' hd => by
      simp at hd
      obtain ⟨rfl, rfl⟩ := hd
      exact hc.1) (fun d s' hd ρ' a' w' p q => by
      simp at hd
      obtain ⟨rfl, rfl⟩ := hd
      have hlo : s'.lo = H.length := layersE_lo hlay (fun d s hd => by simp at hd; rw [hd.2]) d s' (by simp)
      rw [hlo] at p
      exact ⟨rfl, hQ ρ' a' w' (hR'.trans p) q⟩) d1 ⟨F1, H, H.length⟩ (by simp)
  have := hsa.2 (fun fuel a2 hf2 hF2 => hrun fuel hf2 ρ a2 ws (Rel.of_quiet hs (Quiet.refl ws) _) hF2) ops.size a (by
      unfold left
      have h1 := List.length_filter_le (fun i => !(List.replicate ops.toList.length false).toArray.getD i true) (List.range ops.size)
      simpa using h1) hF
  have h2 := wpAny_norm _ _ _ _ (wpAny_of_held _ _ _ _ this)
  simpa using h2
theorem evDraw_any {P : Program} {X : Ext} {C : Oracle} (ok : ProgOk P) (hX : XSound P X) (hC : Sound P C) {nt : Nat} {ops : Array Oper} (hst : statOk ops.toList (masks ops.toList) = true)
    {ρ0 : Rho} {H00 : Heap} {w0 : World} {F : Slots} {H : Heap} {lo : Nat} {F' : Slots} {H' : Heap} {lo' : Nat} {Q : Exit → Act → World → Prop}
    (h : evDraw P X C nt ops.toList F H lo = some (F', H', lo')) (hQ : ∀ ρ' a' w', Rel ρ0 H00 w0 ρ' H' lo' w' → FR ds ρ' nt F' a' → Q .normal a' w')
    {ρ : Rho} {a : Act} {w : World} (hR : Rel ρ0 H00 w0 ρ H lo w) (hF : FR ds ρ nt F a) : wpAny P .any ops Q ops.size (Array.replicate ops.size false) a { w with drawn := w.drawn + 1 } := by
  unfold evDraw at h
  split at h
  · rename_i r h1
    injection h with h
    subst h
    exact evDraw1_any ok hX hC hst h1 hQ hR hF
  · split at h
    · rename_i r h1
      injection h with h
      subst h
      exact evDraw4_any ok hX hC (stat_sel hst) h1 hQ hR hF
    · exact evDraw3_any ok hX hC (stat_sel hst) h hQ hR hF
theorem evDraw_sound {P : Program} {X : Ext} {C : Oracle} (ok : ProgOk P) (hX : XSound P X) (hC : Sound P C) {nt : Nat} {id : Nat} {ops : Array Oper} (hst : statOk ops.toList (masks ops.toList) = true)
    {ρ0 : Rho} {H00 : Heap} {w0 : World} {F : Slots} {H : Heap} {lo : Nat} {F' : Slots} {H' : Heap} {lo' : Nat} {Q : Exit → Act → World → Prop}
    (h : evDraw P X C nt ops.toList F H lo = some (F', H', lo')) (hQ : ∀ ρ' a' w', Rel ρ0 H00 w0 ρ' H' lo' w' → FR ds ρ' nt F' a' → Q .normal a' w')
    {ρ : Rho} {a : Act} {w : World} (hR : Rel ρ0 H00 w0 ρ H lo w) (hF : FR ds ρ nt F a) : (Code.region id ops true).wp P Q a w :=
  wp_region_any ok.mixed (evDraw_any ok hX hC hst h hQ hR hF)
theorem evDraw_lo {P : Program} {X : Ext} {C : Oracle} (ok : ProgOk P) (hX : XSound P X) (hC : Sound P C) {nt : Nat} {ops : Array Oper} (hst : statOk ops.toList (masks ops.toList) = true)
    {F : Slots} {H : Heap} {lo : Nat} {F' : Slots} {H' : Heap} {lo' : Nat} (h : evDraw P X C nt ops.toList F H lo = some (F', H', lo')) : lo' ≤ lo := by
  unfold evDraw at h
  split at h
  · rename_i r h1
    injection h with h
    subst h
    exact evDraw1_lo ok hX hC hst h1
  · split at h
    · rename_i r h1
      injection h with h
      subst h
      unfold evDraw4 at h1
      rw [rowsE_eq, forceL_eq] at h1
      simp only at h1
      split at h1
      · split at h1
        · simp only [Option.some.injEq, Prod.mk.injEq] at h1
          omega
        · simp at h1
      · simp at h1
    · unfold evDraw3 at h
      split at h
      · split at h
        · rename_i hc
          simp only [Option.some.injEq, Prod.mk.injEq] at h
          obtain ⟨_, _, rfl⟩ := h
          exact Nat.le_of_ble_eq_true hc
        · simp at h
      · simp at h
end Go.Proofs.YtpgmabpaiijipaaGreatDoor.Den
namespace Go.Proofs.YtpgmabpaiijipaaGreatDoor.Den
open Go
def toExit : Ex → Exit
  | .normal => .normal
  | .exit i => .exit i
  | .ret => .ret
theorem at_forget {F : Slots} {t : Tmp} {v : Value} : ∀ (m : List Nat), at? t (forget F m) = some v → at? t F = some v := by
  intro m
  induction m with
  | nil => intro h; simp [forget, at?] at h
  | cons u m ih =>
    intro h
    simp only [forget] at h
    split at h
    · rename_i x hx
      simp only [at?] at h
      split at h
      · rename_i hb
        have := Nat.eq_of_beq_eq_true hb
        subst this
        injection h with h
        subst h
        exact hx
      · exact ih h
    · exact ih h
variable {ds : List Deferred}
theorem FR.forget {ρ : Rho} {nt : Nat} {F : Slots} {a : Act} (h : FR ds ρ nt F a) (m : List Nat) : FR ds ρ nt (forget F m) a :=
  ⟨h.defers, h.size, fun t v hv => h.slot t v (at_forget m hv)⟩
theorem iter_sound {P : Program} {c : Code} {nt : Nat} {ρ0 : Rho} {H0 : Heap} {w0 : World} {body : St → Option (Ex × St)} {m : List Nat} {Q : Exit → Act → World → Prop} {x : Ex} {s' : St}
    (hbody : ∀ (s : St) (x : Ex) (s' : St) (Q : Exit → Act → World → Prop) (ρ : Rho) (a : Act) (w : World), body s = some (x, s') → Rel ρ0 H0 w0 ρ s.H s.lo w → FR ds ρ nt s.F a →
      (∀ ρ' a' w', Rel ρ0 H0 w0 ρ' s'.H s'.lo w' → FR ds ρ' nt s'.F a' → Q (toExit x) a' w') → c.wp P Q a w)
    (hQ : ∀ ρ' a' w', Rel ρ0 H0 w0 ρ' s'.H s'.lo w' → FR ds ρ' nt s'.F a' → Q (toExit x) a' w') :
    ∀ (n : Nat) (s : St) (ρ : Rho) (a : Act) (w : World), iter n body m s = some (x, s') → Rel ρ0 H0 w0 ρ s.H s.lo w → FR ds ρ nt s.F a →
      ∀ (b : Frame) (k : List Item) (cs : List Frame), ∃ e a' w', Q e a' w' ∧ Arrives P (lone (b.at a (.code c :: .inLoop c :: k)) cs w) b k cs e a' w' := by
  intro n
  induction n with
  | zero => intro s ρ a w h; simp [iter] at h
  | succ n ih =>
    intro s ρ a w h hR hF b k cs
    simp only [iter] at h
    split at h
    · rename_i s1 hs1
      obtain ⟨e, a1, w1, ⟨he, ρ1, hR1, hF1⟩, harr⟩ := hbody s .normal s1 (fun e a' w' => e = .normal ∧ ∃ ρ', Rel ρ0 H0 w0 ρ' s1.H s1.lo w' ∧ FR ds ρ' nt s1.F a') ρ a w hs1 hR hF (fun ρ' a' w' h1 h2 => ⟨rfl, ρ', h1, h2⟩) b (.inLoop c :: k) cs
      subst he
      obtain ⟨e2, a2, w2, hq, harr2⟩ := ih ⟨Den.forget s1.F m, s1.H, s1.lo⟩ ρ1 a1 w1 h hR1 (hF1.forget m) b k cs
      exact ⟨e2, a2, w2, hq, .of_steps (Steps.trans harr (.one step_inLoop)) harr2⟩
    · rename_i hne
      obtain ⟨e, a1, w1, ⟨he, hq⟩, harr⟩ := hbody s x s' (fun e a' w' => e = toExit x ∧ Q e a' w') ρ a w h hR hF (fun ρ' a' w' h1 h2 => ⟨rfl, hQ ρ' a' w' h1 h2⟩) b (.inLoop c :: k) cs
      subst he
      cases x with
      | normal => exact (hne s' h).elim
      | exit i => exact ⟨_, a1, w1, hq, .pass (x := .inLoop c) rfl (fun _ _ => .inl (by simp [toExit])) harr⟩
      | ret => exact ⟨_, a1, w1, hq, .pass (x := .inLoop c) rfl (fun _ _ => .inl (by simp [toExit])) harr⟩
theorem evCode_sound {P : Program} {X : Ext} {C : Oracle} (ok : ProgOk P) (hX : XSound P X) (hC : Sound P C) {N nt : Nat} {ρ0 : Rho} {H0 : Heap} {w0 : World} :
    ∀ (c : Code), codeOk c = true → ∀ (s : St) (x : Ex) (s' : St) (Q : Exit → Act → World → Prop) (ρ : Rho) (a : Act) (w : World), evCode P X C N nt c s = some (x, s') → Rel ρ0 H0 w0 ρ s.H s.lo w → FR ds ρ nt s.F a →
      (∀ ρ' a' w', Rel ρ0 H0 w0 ρ' s'.H s'.lo w' → FR ds ρ' nt s'.F a' → Q (toExit x) a' w') → c.wp P Q a w := by
  intro c
  induction c with
  | skip =>
    intro _ s x s' Q ρ a w h hR hF hQ
    simp only [evCode, Option.some.injEq, Prod.mk.injEq] at h
    obtain ⟨rfl, rfl⟩ := h
    exact wp_skip (hQ ρ a w hR hF)
  | label l =>
    intro _ s x s' Q ρ a w h hR hF hQ
    simp only [evCode, Option.some.injEq, Prod.mk.injEq] at h
    obtain ⟨rfl, rfl⟩ := h
    exact wp_label (hQ ρ a w hR hF)
  | exit id =>
    intro _ s x s' Q ρ a w h hR hF hQ
    simp only [evCode, Option.some.injEq, Prod.mk.injEq] at h
    obtain ⟨rfl, rfl⟩ := h
    exact wp_exit (hQ ρ a w hR hF)
  | ret =>
    intro _ s x s' Q ρ a w h hR hF hQ
    simp only [evCode, Option.some.injEq, Prod.mk.injEq] at h
    obtain ⟨rfl, rfl⟩ := h
    exact wp_ret (hQ ρ a w hR hF)
  | region id ops draw =>
    intro hok s x s' Q ρ a w h hR hF hQ
    simp only [codeOk, Bool.and_eq_true] at hok
    simp only [evCode] at h
    split at h
    · rename_i F1 H1 lo1 hev
      simp only [Option.some.injEq, Prod.mk.injEq] at h
      obtain ⟨rfl, rfl⟩ := h
      cases draw with
      | true =>
        simp only at hev
        refine evDraw_sound ok hX hC (by simpa using hok.2) hev (fun ρ' a' w' h1 h2 => hQ ρ' a' w' h1 h2) hR hF
      | false =>
        simp only at hev
        refine wp_region ?_
        have := evOps_sound ok hX hC hok.1 (Q := Q) (fun ρ' a' w' h1 h2 => hQ ρ' a' w' h1 h2) ops.toList 0 s.F s.H s.lo rfl hev ρ a w hR hF
        rw [List.range_eq_range']
        simpa using this
    · simp at h
  | seq c1 c2 ih1 ih2 =>
    intro hok s x s' Q ρ a w h hR hF hQ
    simp only [codeOk, Bool.and_eq_true] at hok
    simp only [evCode] at h
    refine wp_seq ?_
    split at h
    · rename_i s1 hs1
      exact ih1 hok.1 s .normal s1 _ ρ a w hs1 hR hF fun ρ1 a1 w1 h1 h2 => ih2 hok.2 s1 x s' Q ρ1 a1 w1 h h1 h2 hQ
    · rename_i hne
      refine ih1 hok.1 s x s' _ ρ a w h hR hF fun ρ1 a1 w1 h1 h2 => ?_
      have := hQ ρ1 a1 w1 h1 h2
      cases x with
      | normal => exact (hne s' h).elim
      | exit i => exact this
      | ret => exact this
  | cond c x1 y1 ih1 ih2 =>
    intro hok s x s' Q ρ a w h hR hF hQ
    simp only [codeOk, Bool.and_eq_true] at hok
    simp only [evCode] at h
    split at h
    · rename_i hc
      have hv := bool_of (hF.opR [c] c (by simp) _ hc)
      exact wp_cond_true hv (ih1 hok.1 s x s' Q ρ a w h hR hF hQ)
    · rename_i hc
      have hv := bool_of (hF.opR [c] c (by simp) _ hc)
      exact wp_cond_false hv (ih2 hok.2 s x s' Q ρ a w h hR hF hQ)
    · simp at h
  | block id b ih =>
    intro hok s x s' Q ρ a w h hR hF hQ
    simp only [codeOk] at hok
    simp only [evCode] at h
    refine wp_block ?_
    split at h
    · rename_i i s1 hs1
      split at h
      · rename_i hid
        simp only [Option.some.injEq, Prod.mk.injEq] at h
        obtain ⟨rfl, rfl⟩ := h
        refine ih hok s (.exit i) s1 _ ρ a w hs1 hR hF fun ρ1 a1 w1 h1 h2 => ?_
        simp only [toExit, Exit.inBlock, hid, if_true]
        exact hQ ρ1 a1 w1 h1 h2
      · rename_i hid
        simp only [Option.some.injEq, Prod.mk.injEq] at h
        obtain ⟨rfl, rfl⟩ := h
        refine ih hok s (.exit i) s1 _ ρ a w hs1 hR hF fun ρ1 a1 w1 h1 h2 => ?_
        simp only [toExit, Exit.inBlock, hid, if_false]
        exact hQ ρ1 a1 w1 h1 h2
    · rename_i hne
      refine ih hok s x s' _ ρ a w h hR hF fun ρ1 a1 w1 h1 h2 => ?_
      have := hQ ρ1 a1 w1 h1 h2
      cases x with
      | normal => exact this
      | exit i => exact (hne i s' h).elim
      | ret => exact this
  | loop b ih =>
    intro hok s x s' Q ρ a w h hR hF hQ
    simp only [codeOk] at hok
    simp only [evCode] at h
    intro b0 k cs
    obtain ⟨e, a', w', hq, harr⟩ := iter_sound (P := P) (c := b) (ρ0 := ρ0) (H0 := H0) (w0 := w0) (nt := nt) (Q := Q) (fun s x s' Q ρ a w h hR hF hQ => ih hok s x s' Q ρ a w h hR hF hQ) hQ N s ρ a w h hR hF b0 k cs
    exact ⟨e, a', w', hq, .of_steps (.one step_loop) harr⟩
  | _ =>
    intro _ s x s' Q ρ a w h
    simp [evCode] at h
def rsem (tmps : Array Value) : ResultVar → Sem Value
  | .tmp t => pure (tmps.getD t undef)
  | .cell ad t => do loadVar t (← asAddr (tmps.getD ad undef))
theorem evResult_run {P : Program} {ρ : Rho} {nt : Nat} {F : Slots} {a : Act} {H : Heap} {w : World} (hF : FR ds ρ nt F a) (hs : SR ρ H w) {rv : ResultVar} {v : Value} (h : evResult P F H rv = some v) :
    ∃ v', VR ρ v v' ∧ (rsem a.tmps rv).run P w = .ok v' w := by
  cases rv with
  | tmp t =>
    simp only [evResult] at h
    obtain ⟨v', x, y⟩ := hF.slot t v h
    exact ⟨v', y, by simp [rsem, x]⟩
  | cell ad t =>
    simp only [evResult] at h
    split at h
    · rename_i p hp
      obtain ⟨v', x, y⟩ := hF.slot ad _ hp
      obtain ⟨e, he, hsp, rfl⟩ := ptr_of y
      obtain ⟨u, h1, h2⟩ := loadV_sound (P := P) hs h he
      exact ⟨u, h1, by simp [rsem, x, asAddr, h2]⟩
    · simp at h
theorem mapAll_run {P : Program} {ρ : Rho} {w : World} {f : ResultVar → Option Value} {g : ResultVar → Sem Value} (hfg : ∀ rv v, f rv = some v → ∃ v', VR ρ v v' ∧ (g rv).run P w = .ok v' w) :
    ∀ (l : List ResultVar) (vs : List Value), mapAll f l = some vs → ∃ vs', VRs ρ vs vs' ∧ (l.mapM g).run P w = .ok vs' w := by
  intro l
  induction l with
  | nil => intro vs h; simp [mapAll] at h; subst h; exact ⟨[], VRs.nil, by simp⟩
  | cons rv l ih =>
    intro vs h
    simp only [mapAll] at h
    split at h
    · rename_i y hy
      cases hm : mapAll f l with
      | none => simp [hm] at h
      | some us =>
        simp [hm] at h
        subst h
        obtain ⟨y', h1, h2⟩ := hfg rv y hy
        obtain ⟨us', h3, h4⟩ := ih us hm
        exact ⟨y' :: us', VRs.cons h1 h3, by simp [List.mapM_cons, h2, h4]⟩
    · simp at h
theorem evResults_run {P : Program} {ρ : Rho} {nt : Nat} {F : Slots} {a : Act} {H : Heap} {w : World} (hF : FR ds ρ nt F a) (hs : SR ρ H w) {fn : Func} {v : Value} (h : evResults P fn F H = some v) :
    ∃ v', VR ρ v v' ∧ (results fn a.tmps).run P w = .ok v' w := by
  unfold evResults at h
  have key := fun vs hm => mapAll_run (P := P) (ρ := ρ) (w := w) (g := rsem a.tmps) (fun rv v h => evResult_run (P := P) hF hs (rv := rv) h) fn.results.toList vs hm
  split at h
  · rename_i u hm
    injection h with h
    subst h
    obtain ⟨vs', h1, h2⟩ := key _ hm
    match vs', h1.1 with
    | [u'], _ =>
      refine ⟨u', h1.2 0 _ _ rfl rfl, ?_⟩
      show (do let vs ← fn.results.mapM (rsem a.tmps); pure (if h : vs.size = 1 then vs[0] else .tuple vs) : Sem Value).run P w = _
      rw [Sem.run_bind, Array.mapM_eq_mapM_toList, Sem.run_map, h2]
      rfl
  · rename_i vs hne hm
    injection h with h
    subst h
    obtain ⟨vs', h1, h2⟩ := key _ hm
    refine ⟨.tuple vs'.toArray, h1.toTuple, ?_⟩
    show (do let vs ← fn.results.mapM (rsem a.tmps); pure (if h : vs.size = 1 then vs[0] else .tuple vs) : Sem Value).run P w = _
    rw [Sem.run_bind, Array.mapM_eq_mapM_toList, Sem.run_map, h2]
    have hl : vs'.length ≠ 1 := by
      intro h1'
      rw [← h1.1] at h1'
      match vs, h1' with
      | [u], _ => exact hne u rfl
    simp [hl]
  · simp at h
theorem at_start {t : Nat} {v : Value} : ∀ (args : List Value) (i : Nat), at? t (start i args) = some v → i ≤ t ∧ args[t - i]? = some v := by
  intro args
  induction args with
  | nil => intro i h; simp [start, at?] at h
  | cons u args ih =>
    intro i h
    simp only [start, at?] at h
    split at h
    · rename_i hb
      have := Nat.eq_of_beq_eq_true hb
      subst this
      injection h with h
      subst h
      exact ⟨Nat.le_refl _, by simp⟩
    · rename_i hb
      obtain ⟨h1, h2⟩ := ih (i + 1) h
      refine ⟨by omega, ?_⟩
      rw [show t - i = (t - (i + 1)) + 1 by omega]
      simpa using h2
theorem evFn_sound {P : Program} {X : Ext} {C : Oracle} (ok : ProgOk P) (hX : XSound P X) (hC : Sound P C) (N : Nat) : Sound P (evFn P X N C) := by
  intro f args H v H' l h ρ w args' hargs hs
  unfold evFn at h
  split at h
  case h_2 => simp at h
  rename_i fn hfn
  split at h
  case h_2 => simp at h
  rename_i c hb
  obtain ⟨hodd, hb⟩ := fnBody_eq hb
  have hsz : args.length = args'.size := by simpa using hargs.1
  have hF0 : FR [] ρ (max args.length fn.ntmps) (start 0 args) { tmps := args' ++ Array.replicate (fn.ntmps - args'.size) undef, defers := [] } := by
    refine ⟨rfl, by simp; omega, fun t u hu => ?_⟩
    obtain ⟨_, h2⟩ := at_start args 0 hu
    simp only [Nat.sub_zero] at h2
    obtain ⟨u', h3, h4⟩ := zip_get hargs h2
    refine ⟨u', ?_, h4⟩
    have hlt := (List.getElem?_eq_some_iff.1 h3).1
    simp only
    rw [Array.getElem?_append_left (by simpa using hlt)]
    simpa using h3
  have fin : ∀ (x : Ex) (s : St), evCode P X C N (max args.length fn.ntmps) c ⟨start 0 args, H, H.length⟩ = some (x, s) → (x = .normal ∨ x = .ret) → (evResults P fn s.F s.H).map (fun v => (v, s.H, s.lo)) = some (v, H', l) →
      Calls P f args' w fun e w' => ∃ ρ' v', e = .returned v' ∧ VR ρ' v v' ∧ Rel ρ H w ρ' H' l w' := by
    intro x s hev hx hres
    refine calls_of_wp hfn hb (evCode_sound (ρ0 := ρ) (H0 := H) (w0 := w) ok hX hC c ((ok.code f fn c hfn hb).1 hodd) ⟨start 0 args, H, H.length⟩ x s _ ρ _ w hev (Rel.of_quiet hs (Quiet.refl w) _) hF0 fun ρ1 a1 w1 hR hF => ?_)
    cases hr : evResults P fn s.F s.H with
    | none => simp [hr] at hres
    | some u =>
      simp [hr] at hres
      obtain ⟨rfl, rfl, rfl⟩ := hres
      obtain ⟨v', h1, h2⟩ := evResults_run (P := P) hF hR.sr hr
      rcases hx with rfl | rfl
      · exact ⟨hF.defers, v', h2, ρ1, v', rfl, h1, hR⟩
      · exact ⟨hF.defers, v', h2, ρ1, v', rfl, h1, hR⟩
  split at h
  · rename_i s hev
    exact fin .normal s hev (.inl rfl) h
  · rename_i s hev
    exact fin .ret s hev (.inr rfl) h
  · simp at h
theorem evAll_sound {P : Program} {X : Ext} (ok : ProgOk P) (hX : XSound P X) (N : Nat) : ∀ n, Sound P (evAll P X N n) := by
  intro n
  induction n with
  | zero => intro f args H v H' l h; simp [evAll] at h
  | succ n ih => exact evFn_sound ok hX ih N
def orElse (C D : Oracle) : Oracle := fun f args H => match C f args H with
  | some r => some r
  | none => D f args H
theorem Sound.or {P : Program} {C D : Oracle} (hC : Sound P C) (hD : Sound P D) : Sound P (orElse C D) := by
  intro f args H v H' l h
  unfold orElse at h
  split at h
  · rename_i r hr
    rw [h] at hr
    exact hC f args H v H' l hr
  · exact hD f args H v H' l h
theorem calls_plain {P : Program} {C : Oracle} (hC : Sound P C) {f : FuncId} {args : List Value} {v : Value} {H' : Heap} {l : Nat} (h : C f args [] = some (v, H', l)) (hargs : args.all (pf 3) = true) (hv : pf 3 v = true) (w : World) (hT : Tabs w) :
    Calls P f args.toArray w fun e w' => e = .returned v ∧ Quiet w w' := by
  have hself : VRs [] args args := ⟨rfl, fun i x x' p q => by rw [p] at q; cases q; exact pf_self 3 _ (get_all hargs p)⟩
  refine (hC f args [] v H' l h [] w args.toArray (by simpa using hself) (SR.empty hT)).mono ?_
  rintro e w' ⟨ρ', v', rfl, hvr, hR⟩
  refine ⟨by rw [pf_eq 3 _ _ hv hvr], hR.os, hR.tape, hR.output, hR.size, fun k hk => hR.keep k hk fun j e0 b0 hj => by simp at hj⟩
theorem Quiet.frozen {w w' : World} (h : Quiet w w') {a : Addr} (ha : a.block < w.heap.size) : w'.frozen? a = w.frozen? a := by
  unfold World.frozen?
  rw [h.keep _ ha]
theorem Quiet.kept {w w' : World} (h : Quiet w w') (may : MemPlace → Prop) : w.keptBut w' may := by
  have h0 : w.keptBut w' (fun _ => False) := ⟨h.os, h.output, fun i hi => by rw [h.keep i hi]; split <;> simp_all⟩
  exact World.keptBut_mono (fun _ f => f.elim) h0
end Go.Proofs.YtpgmabpaiijipaaGreatDoor.Den
