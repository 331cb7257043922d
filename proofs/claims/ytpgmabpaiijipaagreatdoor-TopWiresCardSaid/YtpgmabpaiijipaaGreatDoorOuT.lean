/-
  TopWires: the message from outside.
-/
import Derived.ReadAgain
import Derived.Below
import Derived.OpenShut
import Derived.ChangeSame
import Derived.RowKit3
import Derived.SizedLaws
import Derived.Test.YtpgmabpaiijipaaGreatDoorZ22
namespace Go.Proofs.YtpgmabpaiijipaaGreatDoor
open Go Den Go.RowKit Go.ChangeShapes
set_option maxRecDepth 100000
set_option linter.unusedVariables false
set_option linter.unnecessarySimpa false
theorem Den.Quiet.below {w w' : World} (h : Quiet w w') : Below w.heap.size w w' := ⟨h.os, h.tape, h.output, h.size, h.keep⟩
section
variable {H : Type} {enc : TypeId × Value → H} {P : Program}
theorem Trod_up {W W' : World} {base : Nat} {sp : Nat → Bool} {hd : Bool} {t : TypeId} {v : Value} {d : DataW H} {ps : List MemPlace}
    (hB : Below W.heap.size W W') (h : DataW.Trod enc P W base sp hd t v d ps) : DataW.Trod enc P W' base sp hd t v d ps := by
  obtain ⟨n, hn⟩ := h
  exact ⟨n, DataW.trod_carry n _ _ _ hn (fun p hp => hB.same (DataW.trod_lt n _ _ _ hn p hp))⟩
theorem TrodAll_up {W W' : World} {base : Nat} {sp : Nat → Bool} {hd : Bool} (hB : Below W.heap.size W W') : ∀ {ts : List TypeId} {vs : List Value} {ds : List (DataW H)} {ps : List MemPlace},
    DataW.TrodAll enc P W base sp hd ts vs ds ps → DataW.TrodAll enc P W' base sp hd ts vs ds ps
  | [], [], [], _, h => h
  | _ :: _, _ :: _, _ :: _, _, ⟨p, q, h1, h2, e⟩ => ⟨p, q, Trod_up hB h1, TrodAll_up hB h2, e⟩
theorem outer_cells {w : World} {base : Nat} {held : Bool} {r : Reach} {b0 : Nat} {t e : TypeId} {v : Value} {d : DataW H} {ps : List MemPlace} (ht : P.underlying t = some (.slice e)) (hz : 0 < P.cellsOf e)
    (hval : Value.okWide P w r b0 t v) (hd : DataW.Trod enc P w base (fun _ => true) held t v d ps) (good : Value → Prop)
    (hgood : ∀ fuel cs y, DataW.trod enc P w base (fun _ => true) held fuel e cs = some y → cs.length = P.cellsOf e → ∀ u ∈ cs, good u) :
    v = .slice none 0 0 ∨ ∃ (b off len cap : Nat) (CS : List Value), v = .slice (some ⟨b, off, none⟩) len cap ∧ len ≤ cap ∧ CS.length = len * P.cellsOf e ∧ (∀ u ∈ CS, good u) ∧
      (∃ c el fz, w.heap[b]? = some (.cells c el fz) ∧ ∀ i u, CS[i]? = some u → c[off + i]? = some u) ∧ cap ≤ maxLen := by
  have hna : ∀ cs, v ≠ .agg cs := by
    rintro cs rfl
    unfold Value.okWide at hval
    rw [ht] at hval
    simp [Cell.okWide, Cell.ok, ht] at hval
  obtain ⟨fuel, hf⟩ := hd
  rcases DataW.trod_slice ht hf with ⟨hcs, _⟩ | ⟨a, len, cap, elems, rest, n, _, hcs, _, hb, hl, hm, hlen, hel, _, _⟩
  · left
    cases v <;> first | exact (hna _ rfl).elim | simpa [Value.cells] using hcs
  right
  have hv : v = .slice (some a) len cap := by
    cases v <;> first | exact (hna _ rfl).elim | simpa [Value.cells] using hcs
  subst hv
  unfold Value.okWide at hval
  rw [ht] at hval
  simp only [Cell.okWide, ht, Cell.ok] at hval
  obtain ⟨_, _, _, hsp, row, cells, hsh, _⟩ := hval
  obtain ⟨b, off, spot⟩ := a
  simp only at hsp
  subst hsp
  obtain ⟨c, el, fz, hheap, _⟩ : ∃ c el fz, w.heap[b]? = some (.cells c el fz) ∧ True := by
    unfold World.shape? at hsh
    split at hsh
    · rename_i c el fz hh
      exact ⟨c, el, fz, hh, trivial⟩
    · simp at hsh
  have key : ∀ i, i < len * P.cellsOf e → ∃ u, c[off + i]? = some u ∧ good u := by
    intro i hi
    have hq : i / P.cellsOf e < len := by rw [Nat.div_lt_iff_lt_mul hz]; exact hi
    have hr : i % P.cellsOf e < P.cellsOf e := Nat.mod_lt _ hz
    have h1 := hel (i / P.cellsOf e) hq
    obtain ⟨y, hy⟩ : ∃ y, elems[i / P.cellsOf e]? = some y := ⟨_, List.getElem?_eq_getElem (by omega)⟩
    rw [hy, Option.bind_eq_some_iff] at h1
    obtain ⟨cs, h2, h3⟩ := h1
    obtain ⟨_, h4, h5⟩ := World.cells?_some h2
    have h6 := h5 (i % P.cellsOf e) hr
    obtain ⟨u, hu⟩ : ∃ u, cs[i % P.cellsOf e]? = some u := ⟨_, List.getElem?_eq_getElem (by omega)⟩
    rw [hu, add_none, add_none, cell_of_row w b _ c el fz hheap] at h6
    refine ⟨u, ?_, hgood n cs y h3 h4 u (List.mem_of_getElem? hu)⟩
    rw [← h6]
    congr 1
    have := Nat.div_add_mod i (P.cellsOf e)
    rw [Nat.mul_comm] at this
    omega
  refine ⟨b, off, len, cap, (List.range (len * P.cellsOf e)).map fun i => (c[off + i]?).getD undef, rfl, hl, by simp, ?_, ⟨c, el, fz, hheap, ?_⟩, hm⟩
  · intro u hu
    obtain ⟨i, hi, rfl⟩ := List.mem_map.1 hu
    obtain ⟨x, hx, hg⟩ := key i (List.mem_range.1 hi)
    rw [hx]; exact hg
  · intro i u hu
    rw [List.getElem?_map] at hu
    by_cases hi : i < len * P.cellsOf e
    · rw [List.getElem?_range hi] at hu
      obtain ⟨x, hx, _⟩ := key i hi
      simp only [Option.map_some, hx, Option.getD_some, Option.some.injEq] at hu
      rw [hx, hu]
    · rw [List.getElem?_eq_none (by simp; omega)] at hu
      simp at hu
end
theorem CallOk.quietN {P : Program} {f : FuncId} {args : List Value} {H : Heap} {v : Value} {H' : Heap} {l : Nat} (h : CallOk P f args H v H' l) (hH : ∀ b ∈ H, b.own = false) (hv : pf 3 v = true) {ρ : Rho} {w : World} {args' : Array Value} (ha : VRs ρ args args'.toList) (hs : SR ρ H w) :
    Calls P f args' w fun e w' => e = .returned v ∧ Quiet w w' := by
  refine (h ρ w args' ha hs).mono ?_
  rintro e w' ⟨ρ', v', rfl, hvr, hR⟩
  refine ⟨by rw [pf_eq 3 _ _ hv hvr], hR.os, hR.tape, hR.output, hR.size, fun k hk => hR.keep k hk fun j e0 b0 _ hb ho _ => ?_⟩
  rw [hH b0 (List.mem_of_getElem? hb)] at ho
  cases ho
theorem SR.outer {w : World} (hT : Tabs w) {b off : Nat} {c : Array Value} {el : TypeId} {fz : Nat × Nat} {CS : List Value} (hh : w.heap[b]? = some (.cells c el fz)) (hc : ∀ i u, CS[i]? = some u → c[off + i]? = some u) (hf : ∀ u ∈ CS, isFlat u = true) :
    SR [⟨b, off, 0⟩] [⟨false, none, CS⟩] w := by
  have flat1 : ∀ u, isFlat u = true → oneCell u = true := by
    intro u hu
    cases u <;> first | rfl | simp [isFlat] at hu
  refine ⟨⟨rfl, ?_, ?_⟩, hT, ?_⟩
  · intro i e bl hi hb
    cases i with
    | succ i => simp at hi
    | zero =>
      simp at hi hb
      subst hi hb
      exact .inl ⟨rfl, c, el, fz, hh, fun i u hu => ⟨flat1 u (hf u (List.mem_of_getElem? hu)), u, hc i u hu, .flat (hf u (List.mem_of_getElem? hu))⟩, fun h => by simp at h, fun s h => by simp at h⟩
  · intro i j e e' b1 b2 hij hi hj hb1 hb2 ho
    cases i with
    | succ i => simp at hi
    | zero =>
      simp at hb1
      subst hb1
      simp at ho
  · intro i e bl hi hb ho
    cases i with
    | succ i => simp at hi
    | zero =>
      simp at hb
      subst hb
      simp at ho
theorem bytes_of {CS : List Value} (h : ∀ u ∈ CS, ∃ z : Nat, u = .int .u8 (z : Int) ∧ z < 256) : ∃ l : List Nat, CS = byteV l ∧ ∀ x ∈ l, x < 256 := by
  induction CS with
  | nil => exact ⟨[], rfl, by simp⟩
  | cons u CS ih =>
    obtain ⟨z, rfl, hz⟩ := h u (by simp)
    obtain ⟨l, rfl, hl⟩ := ih fun u hu => h u (by simp [hu])
    exact ⟨z :: l, rfl, by simpa using ⟨hz, hl⟩⟩
def OuterBytes (w : World) (v : Value) : Prop := v = .slice none 0 0 ∨ ∃ (b off len cap : Nat) (l : List Nat), v = .slice (some ⟨b, off, none⟩) len cap ∧ len ≤ cap ∧ cap ≤ maxLen ∧ l.length = len ∧ (∀ x ∈ l, x < 256) ∧
  ∃ c el fz, w.heap[b]? = some (.cells c el fz) ∧ ∀ i u, (byteV l)[i]? = some u → c[off + i]? = some u
section
variable {H : Type} {enc : TypeId × Value → H} {P : Program} {w : World} {base : Nat} {held : Bool} {r : Reach} {b0 : Nat} {t e : TypeId} {v : Value} {d : DataW H} {ps : List MemPlace}
theorem outer_bytes (ht : P.underlying t = some (.slice e)) (he : P.underlying e = some (.int .u8)) (hc : P.cellsOf e = 1)
    (hval : Value.okWide P w r b0 t v) (hd : DataW.Trod enc P w base (fun _ => true) held t v d ps) : OuterBytes w v := by
  rcases outer_cells ht (by omega) hval hd (fun u => ∃ z : Nat, u = .int .u8 (z : Int) ∧ z < 256) (fun fuel cs y h _ u hu => by
    obtain ⟨n, rfl, h2, h3⟩ := DataW.trod_int he h
    have hu : u = .int .u8 n := by simpa using hu
    have hw : (Lit.int .u8 n).wf = true := by first | exact h3 | exact h2
    have := bounds_u8 hw
    exact ⟨n.toNat, by rw [hu, Int.toNat_of_nonneg this.1], by omega⟩) with h | ⟨b, off, len, cap, CS, h1, h2, h3, h4, h5, h6⟩
  · exact .inl h
  · obtain ⟨l, rfl, hl⟩ := bytes_of h4
    exact .inr ⟨b, off, len, cap, l, h1, h2, h6, by rw [hc] at h3; simpa [byteV] using h3, hl, h5⟩
end
theorem msg_open {H : Type} {enc : TypeId × Value → H} {w : World} {base : Nat} {held : Bool} {r : Reach} {b0 : Nat} {v : Value} {d : DataW H} {ps : List MemPlace}
    (hval : Value.okWide Tryz.prog w r b0 47 v) (hd : DataW.Trod enc Tryz.prog w base (fun _ => true) held 47 v d ps) (hwt : (d.weights Tryz.prog 47).all (· ≤ reachBytes) = true) :
    ∃ (k g f t i e a b : Int) (s : ByteArray) (D : Value), v = msA k g f t i e a b s D ∧ s.size ≤ reachBytes ∧ OuterBytes w D ∧ ∀ p len cap, D = .slice (some p) len cap → len ≤ reachBytes := by
  obtain ⟨n, hn⟩ := hd
  unfold Value.okWide at hval
  rw [Tryz.underlying47] at hval
  obtain ⟨cs, rfl, hsz, ts, hts, _, hcell⟩ := hval
  have hsz : cs.size = 10 := hsz.trans (by kernel_rfl)
  have ets : ts = [3, 3, 3, 3, 3, 3, 3, 3, 9, 37] := Option.some.inj (hts.symm.trans (by kernel_rfl))
  subst ets
  obtain ⟨xs, m, _, hx, _, hxl, hf⟩ := DataW.trod_struct Tryz.underlying47 hn
  have one : Tryz.prog.cellsOf 3 = 1 := by kernel_rfl
  have one9 : Tryz.prog.cellsOf 9 = 1 := by kernel_rfl
  have one37 : Tryz.prog.cellsOf 37 = 1 := by kernel_rfl
  obtain ⟨l, rfl⟩ : ∃ l, cs = List.toArray l := ⟨cs.toList, by simp⟩
  have hl : l.length = 10 := by simpa using hsz
  match l, hl with
  | [c0, c1, c2, c3, c4, c5, c6, c7, c8, c9], _ =>
    match xs, hxl with
    | [x0, x1, x2, x3, x4, x5, x6, x7, x8, x9], _ =>
      have fld : ∀ (j : Nat) (t : TypeId) (c : Value) (x : DataW H × List MemPlace), Tryz.prog.cellsOf t = 1 → (([c0, c1, c2, c3, c4, c5, c6, c7, c8, c9] : List Value).drop j).take 1 = [c] → ([x0, x1, x2, x3, x4, x5, x6, x7, x8, x9] : List (DataW H × List MemPlace))[j]? = some x →
          DataW.trod enc Tryz.prog w base (fun _ => true) held m t ((([c0, c1, c2, c3, c4, c5, c6, c7, c8, c9] : List Value).drop j).take (Tryz.prog.cellsOf t)) = ([x0, x1, x2, x3, x4, x5, x6, x7, x8, x9] : List (DataW H × List MemPlace))[j]? → DataW.trod enc Tryz.prog w base (fun _ => true) held m t [c] = some x := by
        intro j t c x h1 h2 h3 h4
        rw [h1, h2, h3] at h4
        exact h4
      obtain ⟨k, e0, _⟩ := DataW.trod_int Tryz.underlying3 (fld 0 3 c0 x0 one rfl rfl (hf 0 _ rfl))
      obtain ⟨g, e1, _⟩ := DataW.trod_int Tryz.underlying3 (fld 1 3 c1 x1 one rfl rfl (hf 1 _ rfl))
      obtain ⟨f, e2, _⟩ := DataW.trod_int Tryz.underlying3 (fld 2 3 c2 x2 one rfl rfl (hf 2 _ rfl))
      obtain ⟨t, e3, _⟩ := DataW.trod_int Tryz.underlying3 (fld 3 3 c3 x3 one rfl rfl (hf 3 _ rfl))
      obtain ⟨i, e4, _⟩ := DataW.trod_int Tryz.underlying3 (fld 4 3 c4 x4 one rfl rfl (hf 4 _ rfl))
      obtain ⟨e, e5, _⟩ := DataW.trod_int Tryz.underlying3 (fld 5 3 c5 x5 one rfl rfl (hf 5 _ rfl))
      obtain ⟨a, e6, _⟩ := DataW.trod_int Tryz.underlying3 (fld 6 3 c6 x6 one rfl rfl (hf 6 _ rfl))
      obtain ⟨b, e7, _⟩ := DataW.trod_int Tryz.underlying3 (fld 7 3 c7 x7 one rfl rfl (hf 7 _ rfl))
      obtain ⟨s, e8, e8', hs⟩ := DataW.trod_string Tryz.underlying9 (fld 8 9 c8 x8 one9 rfl rfl (hf 8 _ rfl))
      have h9 := fld 9 37 c9 x9 one37 rfl rfl (hf 9 _ rfl)
      obtain ⟨u, hu, hok⟩ := hcell 9 c9 rfl
      have hu : u = 37 := by simpa using hu.symm
      subst hu
      have hc9 : c9.cells.toList = [c9] := by
        rcases DataW.trod_slice Tryz.underlying37 h9 with ⟨hh, _⟩ | ⟨_, _, _, _, _, _, _, hh, _⟩
        · obtain rfl : c9 = _ := List.singleton_inj.1 hh; rfl
        · obtain rfl : c9 = _ := List.singleton_inj.1 hh; rfl
      have ho : OuterBytes w c9 := outer_bytes (r := r) (b0 := b0) (base := base) (held := held) (enc := enc) (d := x9.1) (ps := x9.2) Tryz.underlying37 Tryz.underlying5 (by kernel_rfl) (by unfold Value.okWide; rw [Tryz.underlying37]; exact hok) ⟨m, by rw [hc9]; exact h9⟩
      obtain rfl := List.singleton_inj.1 e0
      obtain rfl := List.singleton_inj.1 e1
      obtain rfl := List.singleton_inj.1 e2
      obtain rfl := List.singleton_inj.1 e3
      obtain rfl := List.singleton_inj.1 e4
      obtain rfl := List.singleton_inj.1 e5
      obtain rfl := List.singleton_inj.1 e6
      obtain rfl := List.singleton_inj.1 e7
      obtain rfl := List.singleton_inj.1 e8
      have hd : d = .agg [x0.1, x1.1, x2.1, x3.1, x4.1, x5.1, x6.1, x7.1, x8.1, x9.1] := congrArg Prod.fst hx
      subst hd
      unfold DataW.weights at hwt
      rw [Tryz.underlying47] at hwt
      refine ⟨k, g, f, t, i, e, a, b, s, c9, rfl, ?_, ho, ?_⟩
      · have := sized_string hwt (j := 8) (t := 9) (bytes := s.data.toList) rfl (by rw [e8']; rfl)
        exact Nat.le_trans (Nat.le_of_eq (Array.length_toList (xs := s.data)).symm) this
      · intro p len cap hp
        rcases DataW.trod_slice Tryz.underlying37 h9 with ⟨hh, _⟩ | ⟨a', len', cap', elems, rest, n', _, hh, hy, _, _, _, hlen, _⟩
        · obtain rfl : c9 = _ := List.singleton_inj.1 hh
          cases hp
        · obtain rfl : c9 = _ := List.singleton_inj.1 hh
          injection hp with h1 h2 h3
          have := sized_slice hwt (j := 9) (t := 37) (elems := elems.map (·.1)) (spare := rest.map (·.1)) rfl (by rw [hy]; rfl) Tryz.underlying37
          have hb : Tryz.prog.bytesOf 5 = 1 := by kernel_rfl
          rw [hb, List.length_map, List.length_map, hlen] at this
          omega
theorem wires_walk {k g f t i e a b bit : Int} {s : ByteArray} {D : Value} {w : World} (hT : Tabs w) (hs : s.size ≤ reachBytes) (hD : OuterBytes w D) (hDl : ∀ p len cap, D = .slice (some p) len cap → len ≤ reachBytes) :
    Calls Tryz.prog 4 #[msA k g f t i e a b s D, .int .i64 bit] w fun e w' => e = .returned (.bool true) ∧ Quiet w w' := by
  have hm : reachBytes ≤ 900000000000000 := by decide
  have pt : ∀ {ρ : Rho} {D D' : Value}, VR ρ D D' → VRs ρ [msA k g f t i e a b s D, .int .i64 bit] [msA k g f t i e a b s D', .int .i64 bit] := by
    intro ρ D D' h
    refine VRs.cons (.agg rfl ?_) (VRs.cons (.flat rfl) VRs.nil)
    intro j v v' hv hv'
    match j with
    | 0 | 1 | 2 | 3 | 4 | 5 | 6 | 7 | 8 =>
      simp at hv hv'
      subst hv hv'
      exact .flat rfl
    | 9 =>
      simp at hv hv'
      subst hv hv'
      exact h
    | n + 10 => simp at hv
  rcases hD with rfl | ⟨bl, off, len, cap, l, rfl, hc, hmx, hl, hb, c, el, fz, hh, hcell⟩
  · obtain ⟨H', q, h⟩ := tp_N (k := k) (g := g) (f := f) (t := t) (i := i) (e := e) (a := a) (b := b) (s := s) (bit := bit) (by omega)
    exact CallOk.quietN h (by simp) rfl (ρ := []) (pt (.flat rfl)) (SR.empty hT)
  · by_cases h0 : l = []
    · subst h0
      obtain rfl : len = 0 := by simpa using hl.symm
      obtain ⟨H', q, h⟩ := tp_G (k := k) (g := g) (f := f) (t := t) (i := i) (e := e) (a := a) (b := b) (s := s) (bit := bit) (by omega)
      exact CallOk.quietN h (by simp) rfl (ρ := []) (pt .gone) (SR.empty hT)
    · subst hl
      have hxl := hDl _ _ _ rfl
      obtain ⟨H', q, h⟩ := tp_O (k := k) (g := g) (f := f) (t := t) (i := i) (e := e) (a := a) (b := b) (s := s) (bit := bit) (x := l) (c := cap) h0 hb (by omega) (by omega)
      refine CallOk.quietN h (by simp) rfl (ρ := [⟨bl, off, 0⟩]) (pt ?_) (SR.outer hT hh hcell (fun u hu => by obtain ⟨x, _, rfl⟩ := List.mem_map.1 hu; rfl))
      exact VR.slice (ρ := [⟨bl, off, 0⟩]) (b := 0) (o := 0) (e := ⟨bl, off, 0⟩) rfl hc
end Go.Proofs.YtpgmabpaiijipaaGreatDoor
