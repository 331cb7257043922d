/-
  A slice from outside as an argument: read only, of any length.
-/
import Derived.ReadAgain
import Derived.Below
import Derived.OpenShut
import Derived.ChangeSame
import Derived.RowKit3
import Derived.Test.YtfbjpenbpbpcaaaZC
namespace Go.Proofs.Ytfbjpenbpbpcaaa
open Go Den Go.RowKit
set_option linter.unusedVariables false
set_option linter.unnecessarySimpa false

theorem Den.Quiet.below {w w' : World} (h : Quiet w w') : Below w.heap.size w w' := ⟨h.os, h.tape, h.output, h.size, h.keep⟩

section
variable {H : Type} {enc : TypeId × Value → H} {P : Program}

theorem Trod_up {W W' : World} {base : Nat} {sp : Nat → Bool} {hd : Bool} {t : TypeId} {v : Value} {d : DataW H} {ps : List MemPlace}
    (hB : Below W.heap.size W W') (h : DataW.Trod enc P W base sp hd t v d ps) : DataW.Trod enc P W' base sp hd t v d ps := by
  obtain ⟨n, hn⟩ := h
  exact ⟨n, DataW.trod_carry n _ _ _ hn (fun p hp => hB.same (DataW.trod_lt n _ _ _ hn p hp))⟩

theorem TrodAll_up {W W' : World} {base : Nat} {sp : Nat → Bool} {hd : Bool} (hB : Below W.heap.size W W') : ∀ {ts : List TypeId} {vs : List Value} {ds : List (DataW H)} {ps : List MemPlace},
    DataW.TrodAll enc P W base sp hd ts vs ds ps → DataW.TrodAll enc P W' base sp hd ts vs ds ps
  | [], [], [], _, h => h
  | _ :: _, _ :: _, _ :: _, _, ⟨p, q, h1, h2, e⟩ => ⟨p, q, Trod_up hB h1, TrodAll_up hB h2, e⟩

/-- The cells of a slice that came in. -/
theorem outer_cells {w : World} {base : Nat} {held : Bool} {r : Reach} {b0 : Nat} {t e : TypeId} {v : Value} {d : DataW H} {ps : List MemPlace} (ht : P.underlying t = some (.slice e)) (hz : 0 < P.cellsOf e)
    (hval : Value.okWide P w r b0 t v) (hd : DataW.Trod enc P w base (fun _ => true) held t v d ps) (good : Value → Prop)
    (hgood : ∀ fuel cs y, DataW.trod enc P w base (fun _ => true) held fuel e cs = some y → cs.length = P.cellsOf e → ∀ u ∈ cs, good u) :
    v = .slice none 0 0 ∨ ∃ (b off len cap : Nat) (CS : List Value), v = .slice (some ⟨b, off, none⟩) len cap ∧ len ≤ cap ∧ CS.length = len * P.cellsOf e ∧ (∀ u ∈ CS, good u) ∧
      (∃ c el fz, w.heap[b]? = some (.cells c el fz) ∧ ∀ i u, CS[i]? = some u → c[off + i]? = some u) ∧ cap ≤ maxLen := by
  have hna : ∀ cs, v ≠ .agg cs := by
    rintro cs rfl
    unfold Value.okWide at hval
    rw [ht] at hval
    simp [Cell.okWide, Cell.ok, ht] at hval
  obtain ⟨fuel, hf⟩ := hd
  rcases DataW.trod_slice ht hf with ⟨hcs, _⟩ | ⟨a, len, cap, elems, rest, n, _, hcs, _, hb, hl, hm, hlen, hel, _, _⟩
  · left
    cases v <;> first | exact (hna _ rfl).elim | simpa [Value.cells] using hcs
  right
  have hv : v = .slice (some a) len cap := by
    cases v <;> first | exact (hna _ rfl).elim | simpa [Value.cells] using hcs
  subst hv
  unfold Value.okWide at hval
  rw [ht] at hval
  simp only [Cell.okWide, ht, Cell.ok] at hval
  obtain ⟨_, _, _, hsp, row, cells, hsh, _⟩ := hval
  obtain ⟨b, off, spot⟩ := a
  simp only at hsp
  subst hsp
  obtain ⟨c, el, fz, hheap, _⟩ : ∃ c el fz, w.heap[b]? = some (.cells c el fz) ∧ True := by
    unfold World.shape? at hsh
    split at hsh
    · rename_i c el fz hh
      exact ⟨c, el, fz, hh, trivial⟩
    · simp at hsh
  have key : ∀ i, i < len * P.cellsOf e → ∃ u, c[off + i]? = some u ∧ good u := by
    intro i hi
    have hq : i / P.cellsOf e < len := by rw [Nat.div_lt_iff_lt_mul hz]; exact hi
    have hr : i % P.cellsOf e < P.cellsOf e := Nat.mod_lt _ hz
    have h1 := hel (i / P.cellsOf e) hq
    obtain ⟨y, hy⟩ : ∃ y, elems[i / P.cellsOf e]? = some y := ⟨_, List.getElem?_eq_getElem (by omega)⟩
    rw [hy, Option.bind_eq_some_iff] at h1
    obtain ⟨cs, h2, h3⟩ := h1
    obtain ⟨_, h4, h5⟩ := World.cells?_some h2
    have h6 := h5 (i % P.cellsOf e) hr
    obtain ⟨u, hu⟩ : ∃ u, cs[i % P.cellsOf e]? = some u := ⟨_, List.getElem?_eq_getElem (by omega)⟩
    rw [hu, add_none, add_none, cell_of_row w b _ c el fz hheap] at h6
    refine ⟨u, ?_, hgood n cs y h3 h4 u (List.mem_of_getElem? hu)⟩
    rw [← h6]
    congr 1
    have := Nat.div_add_mod i (P.cellsOf e)
    rw [Nat.mul_comm] at this
    omega
  refine ⟨b, off, len, cap, (List.range (len * P.cellsOf e)).map fun i => (c[off + i]?).getD undef, rfl, hl, by simp, ?_, ⟨c, el, fz, hheap, ?_⟩, hm⟩
  · intro u hu
    obtain ⟨i, hi, rfl⟩ := List.mem_map.1 hu
    obtain ⟨x, hx, hg⟩ := key i (List.mem_range.1 hi)
    rw [hx]; exact hg
  · intro i u hu
    rw [List.getElem?_map] at hu
    by_cases hi : i < len * P.cellsOf e
    · rw [List.getElem?_range hi] at hu
      obtain ⟨x, hx, _⟩ := key i hi
      simp only [Option.map_some, hx, Option.getD_some, Option.some.injEq] at hu
      rw [hx, hu]
    · rw [List.getElem?_eq_none (by simp; omega)] at hu
      simp at hu
end

theorem ints_of {CS : List Value} (h : ∀ u ∈ CS, ∃ z, u = .int .i64 z) : ∃ l : List Int, CS = l.map (.int .i64) := by
  induction CS with
  | nil => exact ⟨[], rfl⟩
  | cons u CS ih =>
    obtain ⟨z, rfl⟩ := h u (by simp)
    obtain ⟨l, rfl⟩ := ih fun u hu => h u (by simp [hu])
    exact ⟨z :: l, rfl⟩

theorem bools_of {CS : List Value} (h : ∀ u ∈ CS, ∃ z, u = .bool z) : ∃ l : List Bool, CS = l.map .bool := by
  induction CS with
  | nil => exact ⟨[], rfl⟩
  | cons u CS ih =>
    obtain ⟨z, rfl⟩ := h u (by simp)
    obtain ⟨l, rfl⟩ := ih fun u hu => h u (by simp [hu])
    exact ⟨z :: l, rfl⟩

/-- The small heap of one such slice. -/
theorem SR.outer {w : World} {b off : Nat} {c : Array Value} {el : TypeId} {fz : Nat × Nat} {CS : List Value} (hh : w.heap[b]? = some (.cells c el fz)) (hc : ∀ i u, CS[i]? = some u → c[off + i]? = some u) (hf : ∀ u ∈ CS, isFlat u = true) :
    SR [⟨b, off, 0⟩] [⟨false, none, CS⟩] w := by
  have flat1 : ∀ u, isFlat u = true → oneCell u = true := by
    intro u hu
    cases u <;> first | rfl | simp [isFlat] at hu
  refine ⟨rfl, ?_, ?_⟩
  · intro i e bl hi hb
    cases i with
    | succ i => simp at hi
    | zero =>
      simp at hi hb
      subst hi hb
      exact ⟨c, el, fz, hh, fun i u hu => ⟨flat1 u (hf u (List.mem_of_getElem? hu)), u, hc i u hu, .flat (hf u (List.mem_of_getElem? hu))⟩, fun h => by simp at h, fun s h => by simp at h⟩
  · intro i j e e' b1 b2 hij hi hj hb1 hb2 ho
    cases i with
    | succ i => simp at hi
    | zero =>
      simp at hb1
      subst hb1
      simp at ho

theorem VR.outer {b off len cap : Nat} (h : len ≤ cap) : VR [⟨b, off, 0⟩] (.slice (some ⟨0, 0, none⟩) len cap) (.slice (some ⟨b, off, none⟩) len cap) :=
  VR.slice (ρ := [⟨b, off, 0⟩]) (b := 0) (o := 0) (e := ⟨b, off, 0⟩) rfl h

/-- A call that writes nothing that was there, its value without addresses. -/
theorem CallOk.quiet {P : Program} {f : FuncId} {args : List Value} {H : Heap} {v : Value} {H' : Heap} (h : CallOk P f args H v H' H.length) (hv : pf 3 v = true) {ρ : Rho} {w : World} {args' : Array Value} (ha : VRs ρ args args'.toList) (hs : SR ρ H w) :
    Calls P f args' w fun e w' => e = .returned v ∧ Quiet w w' := by
  refine (h ρ w args' ha hs).mono ?_
  rintro e w' ⟨ρ', v', rfl, hvr, hR⟩
  refine ⟨by rw [pf_eq 3 _ _ hv hvr], hR.os, hR.tape, hR.output, hR.size, fun k hk => hR.keep k hk fun j e0 b0 _ hb _ hj => ?_, hR.frozen⟩
  have := (List.getElem?_eq_some_iff.1 hb).1
  omega

/-- The same, what it makes for itself forgotten. -/
theorem CallOk.still {P : Program} {f : FuncId} {args : List Value} {H : Heap} {v : Value} {H' : Heap} {l : Nat} (h : CallOk P f args H v H' l) (hl : l = H.length) (hv : pf 3 v = true) : CallOk P f args H v H H.length := by
  intro ρ w args' ha hs
  subst hl
  refine (CallOk.quiet h hv ha hs).mono ?_
  rintro e w' ⟨rfl, hq⟩
  exact ⟨ρ, v, rfl, pf_self 3 _ hv, Rel.of_quiet hs hq _⟩

/-- A slice from outside, its cells whole numbers, K to an element. -/
def OuterInts (K : Nat) (w : World) (v : Value) : Prop := v = .slice none 0 0 ∨ ∃ (b off len cap : Nat) (l : List Int), v = .slice (some ⟨b, off, none⟩) len cap ∧ len ≤ cap ∧ l.length = len * K ∧
  ∃ c el fz, w.heap[b]? = some (.cells c el fz) ∧ ∀ i u, (l.map (Value.int .i64))[i]? = some u → c[off + i]? = some u
def OuterBools (w : World) (v : Value) : Prop := v = .slice none 0 0 ∨ ∃ (b off len cap : Nat) (l : List Bool), v = .slice (some ⟨b, off, none⟩) len cap ∧ len ≤ cap ∧ cap ≤ maxLen ∧ l.length = len ∧
  ∃ c el fz, w.heap[b]? = some (.cells c el fz) ∧ ∀ i u, (l.map Value.bool)[i]? = some u → c[off + i]? = some u

section
variable {H : Type} {enc : TypeId × Value → H} {P : Program} {w : World} {base : Nat} {held : Bool} {r : Reach} {b0 : Nat} {t e : TypeId} {v : Value} {d : DataW H} {ps : List MemPlace}

theorem outer_ints (ht : P.underlying t = some (.slice e)) (he : P.underlying e = some (.int .i64)) (hc : P.cellsOf e = 1)
    (hval : Value.okWide P w r b0 t v) (hd : DataW.Trod enc P w base (fun _ => true) held t v d ps) : OuterInts 1 w v := by
  rcases outer_cells ht (by omega) hval hd (fun u => ∃ z, u = .int .i64 z) (fun fuel cs y h _ u hu => by
    obtain ⟨n, rfl, _⟩ := DataW.trod_int he h
    exact ⟨n, by simpa using hu⟩) with h | ⟨b, off, len, cap, CS, h1, h2, h3, h4, h5, h6⟩
  · exact .inl h
  · obtain ⟨l, rfl⟩ := ints_of h4
    exact .inr ⟨b, off, len, cap, l, h1, h2, by rw [hc] at h3; simpa using h3, h5⟩

theorem outer_bools (ht : P.underlying t = some (.slice e)) (he : P.underlying e = some .bool) (hc : P.cellsOf e = 1)
    (hval : Value.okWide P w r b0 t v) (hd : DataW.Trod enc P w base (fun _ => true) held t v d ps) : OuterBools w v := by
  rcases outer_cells ht (by omega) hval hd (fun u => ∃ z, u = .bool z) (fun fuel cs y h _ u hu => by
    obtain ⟨n, rfl, _⟩ := DataW.trod_bool he h
    exact ⟨n, by simpa using hu⟩) with h | ⟨b, off, len, cap, CS, h1, h2, h3, h4, h5, h6⟩
  · exact .inl h
  · obtain ⟨l, rfl⟩ := bools_of h4
    exact .inr ⟨b, off, len, cap, l, h1, h2, h6, by rw [hc] at h3; simpa using h3, h5⟩

theorem outer_arrs {n : Nat} {f : TypeId} (ht : P.underlying t = some (.slice e)) (he : P.underlying e = some (.array n f)) (hf : P.underlying f = some (.int .i64)) (hc : P.cellsOf e = n) (hc2 : P.cellsOf f = 1) (hn : 0 < n)
    (hval : Value.okWide P w r b0 t v) (hd : DataW.Trod enc P w base (fun _ => true) held t v d ps) : OuterInts n w v := by
  rcases outer_cells ht (by omega) hval hd (fun u => ∃ z, u = .int .i64 z) (fun fuel cs y h hl u hu => by
    obtain ⟨xs, m, _, _, _, h6, h7⟩ := DataW.trod_array he h
    obtain ⟨i, hi⟩ := List.getElem?_of_mem hu
    have hlt := (List.getElem?_eq_some_iff.1 hi).1
    have h8 := h7 i (by omega)
    rw [hc2, Nat.mul_one] at h8
    obtain ⟨x, hx⟩ : ∃ x, xs[i]? = some x := ⟨_, List.getElem?_eq_getElem (by omega)⟩
    rw [hx] at h8
    obtain ⟨z, h9, _⟩ := DataW.trod_int hf h8
    refine ⟨z, ?_⟩
    have h10 : ((cs.drop i).take 1)[0]? = some u := by simpa using hi
    rw [h9] at h10
    simpa using h10.symm) with h | ⟨b, off, len, cap, CS, h1, h2, h3, h4, h5, h6⟩
  · exact .inl h
  · obtain ⟨l, rfl⟩ := ints_of h4
    exact .inr ⟨b, off, len, cap, l, h1, h2, by rw [hc] at h3; simpa using h3, h5⟩
end

end Go.Proofs.Ytfbjpenbpbpcaaa

