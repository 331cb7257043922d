/-
  sync.Once's Do in the small heap: the function that is handed to it is called with the lock held; then the word is 1, and the lock free.
-/
import Derived.Test.YtpgmabpaiijipaaGreatDoorOn1
import Derived.Test.YtpgmabpaiijipaaGreatDoorBase
import Derived.Test.YtpgmabpaiijipaaGreatDoorZ05
namespace Go.Proofs.YtpgmabpaiijipaaGreatDoor
open Go Den
set_option maxRecDepth 100000
theorem own_cell {ρ : Rho} {H : Heap} {w : World} (hs : SR ρ H w) {b o : Nat} {blk : Blk} {e : Ent} {v : Value} (he : ρ[b]? = some e) (hb : H[b]? = some blk) (hl : live blk = true) (ho : blk.own = true) (hv : blk.cells[o]? = some v) (hf : isFlat v = true) :
    w.cell? ⟨e.r, e.d + o, none⟩ = some v ∧ w.frozen? ⟨e.r, e.d + o, none⟩ = false := by
  obtain ⟨c, el, fz, h1, h2, h3, _⟩ := (hs.blk b e blk he hb).row hl
  have hz := h3 ho
  subst hz
  obtain ⟨_, v', h4, h5⟩ := h2 o v hv
  rw [isFlat_eq hf h5] at h4
  refine ⟨?_, by simp [World.frozen?, h1]⟩
  have := cell_at (o := o) (i := 0) (d := e.d) h1
  rw [add_none] at this
  simpa [h4] using this
theorem setCell_rel {ρ : Rho} {H H' : Heap} {w : World} (hs : SR ρ H w) {b o : Nat} {e : Ent} {k : IntKind} {n : Int} (he : ρ[b]? = some e) (hw : wr H ⟨b, o, none⟩ [.int k n] = some H') :
    Rel ρ H w ρ H' b (w.setCell ⟨e.r, e.d + o, none⟩ (.int k n)) := by
  have hvs : VRs ρ [.int k n] [.int k n] := VRs.cons (.flat rfl) VRs.nil
  obtain ⟨_, w', h1, h2⟩ := wr_sound (P := Tryz.prog) hs hw he hvs
  have hsc : (storeCells ⟨e.r, e.d + o, none⟩ [.int k n]).run Tryz.prog w = .ok () (w.setCell ⟨e.r, e.d + o, none⟩ (.int k n)) := by
    unfold wr at hw
    simp only [forceL_eq] at hw
    split at hw
    · rename_i blk _ hb
      split at hw
      · rename_i hc
        simp only [Bool.and_eq_true, decide_eq_true_eq] at hc
        obtain ⟨hl, ho, hfit, _⟩ := hc
        obtain ⟨c, el, fz, g1, g2, g3, _⟩ := (hs.blk b e blk he hb).row hl
        have hz := g3 ho
        subst hz
        have hlt : o < blk.cells.length := by simp at hfit; omega
        obtain ⟨_, v', g4, _⟩ := g2 o _ (List.getElem?_eq_getElem hlt)
        have hcell : w.cell? ⟨e.r, e.d + o, none⟩ = some v' := by
          have := cell_at (o := o) (i := 0) (d := e.d) g1
          rw [add_none] at this
          simpa [g4] using this
        have hfr : w.frozen? ⟨e.r, e.d + o, none⟩ = false := by simp [World.frozen?, g1]
        have hst := run_store Tryz.prog w ⟨e.r, e.d + o, none⟩ (.int k n) .plain rfl
        rw [hcell, hfr] at hst
        simp only [Bool.false_eq_true, if_false] at hst
        simp only [storeCells, add_none, Nat.add_zero, Sem.run_bind]
        rw [hst]
        rfl
      · simp at hw
    · simp at hw
  rw [hsc] at h1
  injection h1 with _ h1
  rw [h1]
  exact h2
theorem SR.drew {ρ : Rho} {H : Heap} {w : World} (h : SR ρ H w) : SR ρ H w.drew := h.quiet (quiet_drew w)
def onceAt (H : Heap) (b o : Nat) (x y : Int) : Bool := match H[b]? with
  | some k => live k && (k.own && (match k.cells[o]?, k.cells[o + 1]? with
    | some (.int .u32 a), some (.int .i32 c) => decide (a = x) && decide (c = y)
    | _, _ => false))
  | none => false
theorem onceAt_eq {H : Heap} {b o : Nat} {x y : Int} (h : onceAt H b o x y = true) : ∃ k, H[b]? = some k ∧ live k = true ∧ k.own = true ∧ k.cells[o]? = some (.int .u32 x) ∧ k.cells[o + 1]? = some (.int .i32 y) := by
  unfold onceAt at h
  split at h
  · rename_i k hk
    simp only [Bool.and_eq_true] at h
    obtain ⟨h1, h2, h3⟩ := h
    split at h3
    · rename_i a c ha hc
      simp only [Bool.and_eq_true, decide_eq_true_eq] at h3
      obtain ⟨rfl, rfl⟩ := h3
      exact ⟨k, hk, h1, h2, ha, hc⟩
    · simp at h3
  · simp at h
theorem do_ok {b o pb po : Nat} {H H1 H2 H3 H4 : Heap} {l : Nat} (hh : onceAt H b o 0 0 = true)
    (h1 : wr H ⟨b, o + 1, none⟩ [.int .i32 1] = some H1) (hc : CallOk Tryz.prog 155 [.pointer (some ⟨pb, po, none⟩)] H1 (.tuple #[]) H2 l)
    (hh2 : onceAt H2 b o 0 1 = true)
    (h3 : wr H2 ⟨b, o, none⟩ [.int .u32 1] = some H3) (h4 : wr H3 ⟨b, o + 1, none⟩ [.int .i32 0] = some H4) :
    CallOk Tryz.prog 154 [.pointer (some ⟨b, o, none⟩), .func (.func 155) #[] #[.pointer (some ⟨pb, po, none⟩)]] H (.tuple #[]) H4 (min (min (min b l) b) b) := by
  intro ρ w args' hva hs
  obtain ⟨k, hk, hl, ho, hx, hy⟩ := onceAt_eq hh
  obtain ⟨k2, hk2, hl2, ho2, hx2, hy2⟩ := onceAt_eq hh2
  have hlen := hva.1
  obtain ⟨x0, x1, hargs⟩ : ∃ x0 x1, args'.toList = [x0, x1] := by
    match args'.toList, hlen with
    | [x0, x1], _ => exact ⟨x0, x1, rfl⟩
  · have v0 := hva.2 0 _ _ rfl (by rw [hargs]; rfl)
    have v1 := hva.2 1 _ _ rfl (by rw [hargs]; rfl)
    cases v0 with
    | flat hf => simp [isFlat] at hf
    | ptr he =>
      rename_i e
      cases v1 with
      | flat hf => simp [isFlat] at hf
      | func ha hha hb hhb =>
        rename_i a' b'
        have ea : a' = #[] := by apply Array.eq_empty_of_size_eq_zero; simpa using ha.symm
        subst ea
        obtain ⟨y0, rfl⟩ : ∃ y0, b' = #[y0] := by
          have hsz : b'.size = 1 := by simpa using hb.symm
          refine ⟨b'[0]'(by omega), Array.ext (by simp [hsz]) fun i h1 h2 => ?_⟩
          have : i = 0 := by omega
          subst this
          rfl
        have hy0 := hhb 0 _ y0 rfl rfl
        have hy0' := hy0
        cases hy0 with
        | flat hf => simp [isFlat] at hf
        | ptr hep =>
          rename_i ep
          have hargs' : args' = #[.pointer (some ⟨e.r, e.d + o, none⟩), .func (.func 155) #[] #[.pointer (some ⟨ep.r, ep.d + po, none⟩)]] := by
            apply Array.ext'; rw [hargs]
          rw [hargs']
          obtain ⟨c0, _⟩ := own_cell hs he hk hl ho hx rfl
          obtain ⟨c1, f1⟩ := own_cell hs he hk hl ho hy rfl
          have r1 := setCell_rel hs he h1
          have hadd : e.d + (o + 1) = e.d + o + 1 := by omega
          rw [hadd] at c1 f1 r1
          refine (Onc.do_first e.r (e.d + o) ⟨ep.r, ep.d + po, none⟩ w (fun w2 => ∃ ρ', ρ <+: ρ' ∧ Rel ρ H1 (w.setCell ⟨e.r, e.d + o + 1, none⟩ (.int .i32 1)) ρ' H2 l w2) c0 c1 f1 ?_).mono ?_
          · refine (hc ρ _ #[.pointer (some ⟨ep.r, ep.d + po, none⟩)] (by simpa using VRs.cons hy0' VRs.nil) r1.sr).mono ?_
            rintro ex w2 ⟨ρ', v', rfl, hv, hR⟩
            have hev : v' = .tuple #[] := pf_eq 3 _ _ (by rfl) hv
            subst hev
            have he' := prefix_get hR.pre he
            obtain ⟨d0, z0⟩ := own_cell hR.sr he' hk2 hl2 ho2 hx2 rfl
            obtain ⟨d1, z1⟩ := own_cell hR.sr he' hk2 hl2 ho2 hy2 rfl
            rw [hadd] at d1 z1
            exact ⟨rfl, d0, d1, z0, z1, ρ', hR.pre, hR⟩
          · rintro ex w' ⟨rfl, w2, ⟨ρ', hp, hR⟩, rfl⟩
            have he' := prefix_get hp he
            refine ⟨ρ', .tuple #[], rfl, VRs.nil.toTuple, ?_⟩
            have q := Rel.of_quiet hR.sr (quiet_drew w2) l
            have r3 := setCell_rel q.sr he' h3
            have r4 := setCell_rel r3.sr he' h4
            rw [hadd] at r4
            have t1 := r1.trans hR
            have t2 := t1.trans q
            have t3 := (t2.trans r3).trans r4
            exact t3.mono (by omega)
end Go.Proofs.YtpgmabpaiijipaaGreatDoor
