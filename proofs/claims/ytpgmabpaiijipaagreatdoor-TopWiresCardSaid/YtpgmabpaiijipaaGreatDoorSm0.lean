/-
  wire.Same: the rounds.
-/
import Derived.Test.YtpgmabpaiijipaaGreatDoorZ15
namespace Go.Proofs.YtpgmabpaiijipaaGreatDoor
open Go Den
set_option maxRecDepth 100000
set_option linter.unusedSimpArgs false
set_option linter.unusedVariables false
def smeT : Nat → Tale := fun _ f _ Hs => match f with
  | 45 => some (nusV 0, Hs ++ [nusB 0], Hs.length)
  | _ => none
def smeF (p q : Nat) (j : Int) : Slots := [(2, .pointer (some ⟨p, 0, none⟩)), (3, .pointer (some ⟨q, 0, none⟩)), (7, nusV p), (8, .int .i64 j)]
def smeG (p q : Nat) (j : Int) (o : Nat) : Slots := [(2, .pointer (some ⟨p, 0, none⟩)), (3, .pointer (some ⟨q, 0, none⟩)), (7, nusV p), (8, .int .i64 j), (5, .int .i64 j), (6, .pointer (some ⟨p, o, none⟩))]
def smeE (p q : Nat) (j : Int) (b : Nat) (v : Bool) : Slots := [(2, .pointer (some ⟨p, 0, none⟩)), (3, .pointer (some ⟨q, 0, none⟩)), (7, nusV p), (8, .int .i64 j), (b, .bool v)]
abbrev smRO (k g f t i e a b : Int) (s : ByteArray) (x : List Nat) (c : Nat) : Heap := [rowB (byteV x), ⟨false, none, byteV x⟩, msB k g f t i e a b s (.slice (some ⟨0, 0, none⟩) x.length 0), msB k g f t i e a b s (.slice (some ⟨1, 0, none⟩) x.length c)]
abbrev smNN (k g f t i e a b : Int) (s : ByteArray) : Heap := [msB k g f t i e a b s (.slice none 0 0), msB k g f t i e a b s (.slice none 0 0)]
abbrev smNG (k g f t i e a b : Int) (s : ByteArray) : Heap := [msB k g f t i e a b s (.slice none 0 0), msB k g f t i e a b s goneV]
noncomputable def smB : Code := loopAt Tryz.prog 21 0
noncomputable def smD : Code := hdC (tlC (inC (hdC (tlC (tlC smB)))))
abbrev smW (c : Code) (s : St) (s2 : St) : Prop := WP Tryz.prog (ntOf Tryz.prog 21 2) c s .normal s2
theorem smRun {c : Code} {F : Slots} {H : Heap} {lo : Nat} (ks : List Nat) {F' : Slots} {H' : Heap} {lo' : Nat} (h1 : codeOk c = true) (h2 : loopsOf c = []) (h3 : rangesOf c = []) (h : evL Tryz.prog ext noPre noC noLoops 300 (ntOf Tryz.prog 21 2) c F H lo [] ks = some (.normal, F', H', lo', [])) : smW c ⟨F, H, lo⟩ ⟨F', H', lo'⟩ :=
  WP.run (N := 300) (L := noLoops) (os := []) (ob := []) progOk extSound noC_sound h1 (LoopsOk.none h2 h3) ks h (by simp [Holds])
noncomputable def smP (H : Heap) (p q : Nat) (j : Int) (o : Nat) : Option (List (Slots × Heap × Nat × Obs)) := (evPermS Tryz.prog ext (nmPre (frameTPre smeT)) (nbC [] [(20, false)] (frameT smeT)) (ntOf Tryz.prog 21 2) (opsOf smD).toList (opsOf smD).toList.length (List.replicate (opsOf smD).toList.length false) ⟨⟨smeG p q j o, H, p⟩, [(0,true)], []⟩).map (fun L => L.map fun t => (pick t.s.F [2, 3, 7, 8, 20], t.s.H, t.s.lo, t.ob))
theorem sm0_of {H : Heap} {p q : Nat} (h : smW smD ⟨smeG p q 0 1, H, p⟩ ⟨smeE p q 0 20 false, H, p⟩) : smW smB ⟨smeF p q 0, H, p⟩ ⟨smeF p q 1, H, p⟩ :=
  WP.cut (by kernel_rfl) (smRun [2, 3, 7, 8, 9] (by kernel_rfl) (by kernel_rfl) (by kernel_rfl) (by kernel_rfl) : smW (hdC smB) ⟨smeF p q 0, H, p⟩ ⟨smeE p q 0 9 true, H, p⟩) (WP.cut (by kernel_rfl) (smRun [2, 3, 7, 8] (by kernel_rfl) (by kernel_rfl) (by kernel_rfl) (by kernel_rfl) : smW (hdC (tlC smB)) ⟨smeE p q 0 9 true, H, p⟩ ⟨smeF p q 0, H, p⟩) (WP.cut (by kernel_rfl) (WP.inB (by kernel_rfl) (.inl rfl) (WP.cut (by kernel_rfl) (smRun [2, 3, 7, 8, 5, 6] (by kernel_rfl) (by kernel_rfl) (by kernel_rfl) (by kernel_rfl) : smW (hdC (inC (hdC (tlC (tlC smB))))) ⟨smeF p q 0, H, p⟩ ⟨smeG p q 0 1, H, p⟩) (WP.cut (by kernel_rfl) h (smRun [2, 3, 7, 8] (by kernel_rfl) (by kernel_rfl) (by kernel_rfl) (by kernel_rfl) : smW (tlC (tlC (inC (hdC (tlC (tlC smB)))))) ⟨smeE p q 0 20 false, H, p⟩ ⟨smeF p q 0, H, p⟩)))) (smRun [2, 3, 7, 8] (by kernel_rfl) (by kernel_rfl) (by kernel_rfl) (by kernel_rfl) : smW (tlC (tlC (tlC smB))) ⟨smeF p q 0, H, p⟩ ⟨smeF p q 1, H, p⟩)))
theorem sm1_of {H : Heap} {p q : Nat} (h : smW smD ⟨smeG p q 1 2, H, p⟩ ⟨smeE p q 1 20 false, H, p⟩) : smW smB ⟨smeF p q 1, H, p⟩ ⟨smeF p q 2, H, p⟩ :=
  WP.cut (by kernel_rfl) (smRun [2, 3, 7, 8, 9] (by kernel_rfl) (by kernel_rfl) (by kernel_rfl) (by kernel_rfl) : smW (hdC smB) ⟨smeF p q 1, H, p⟩ ⟨smeE p q 1 9 true, H, p⟩) (WP.cut (by kernel_rfl) (smRun [2, 3, 7, 8] (by kernel_rfl) (by kernel_rfl) (by kernel_rfl) (by kernel_rfl) : smW (hdC (tlC smB)) ⟨smeE p q 1 9 true, H, p⟩ ⟨smeF p q 1, H, p⟩) (WP.cut (by kernel_rfl) (WP.inB (by kernel_rfl) (.inl rfl) (WP.cut (by kernel_rfl) (smRun [2, 3, 7, 8, 5, 6] (by kernel_rfl) (by kernel_rfl) (by kernel_rfl) (by kernel_rfl) : smW (hdC (inC (hdC (tlC (tlC smB))))) ⟨smeF p q 1, H, p⟩ ⟨smeG p q 1 2, H, p⟩) (WP.cut (by kernel_rfl) h (smRun [2, 3, 7, 8] (by kernel_rfl) (by kernel_rfl) (by kernel_rfl) (by kernel_rfl) : smW (tlC (tlC (inC (hdC (tlC (tlC smB)))))) ⟨smeE p q 1 20 false, H, p⟩ ⟨smeF p q 1, H, p⟩)))) (smRun [2, 3, 7, 8] (by kernel_rfl) (by kernel_rfl) (by kernel_rfl) (by kernel_rfl) : smW (tlC (tlC (tlC smB))) ⟨smeF p q 1, H, p⟩ ⟨smeF p q 2, H, p⟩)))
theorem sm2_of {H : Heap} {p q : Nat} (h : smW smD ⟨smeG p q 2 3, H, p⟩ ⟨smeE p q 2 20 false, H, p⟩) : smW smB ⟨smeF p q 2, H, p⟩ ⟨smeF p q 3, H, p⟩ :=
  WP.cut (by kernel_rfl) (smRun [2, 3, 7, 8, 9] (by kernel_rfl) (by kernel_rfl) (by kernel_rfl) (by kernel_rfl) : smW (hdC smB) ⟨smeF p q 2, H, p⟩ ⟨smeE p q 2 9 true, H, p⟩) (WP.cut (by kernel_rfl) (smRun [2, 3, 7, 8] (by kernel_rfl) (by kernel_rfl) (by kernel_rfl) (by kernel_rfl) : smW (hdC (tlC smB)) ⟨smeE p q 2 9 true, H, p⟩ ⟨smeF p q 2, H, p⟩) (WP.cut (by kernel_rfl) (WP.inB (by kernel_rfl) (.inl rfl) (WP.cut (by kernel_rfl) (smRun [2, 3, 7, 8, 5, 6] (by kernel_rfl) (by kernel_rfl) (by kernel_rfl) (by kernel_rfl) : smW (hdC (inC (hdC (tlC (tlC smB))))) ⟨smeF p q 2, H, p⟩ ⟨smeG p q 2 3, H, p⟩) (WP.cut (by kernel_rfl) h (smRun [2, 3, 7, 8] (by kernel_rfl) (by kernel_rfl) (by kernel_rfl) (by kernel_rfl) : smW (tlC (tlC (inC (hdC (tlC (tlC smB)))))) ⟨smeE p q 2 20 false, H, p⟩ ⟨smeF p q 2, H, p⟩)))) (smRun [2, 3, 7, 8] (by kernel_rfl) (by kernel_rfl) (by kernel_rfl) (by kernel_rfl) : smW (tlC (tlC (tlC smB))) ⟨smeF p q 2, H, p⟩ ⟨smeF p q 3, H, p⟩)))
theorem sm3_of {H : Heap} {p q : Nat} (h : smW smD ⟨smeG p q 3 4, H, p⟩ ⟨smeE p q 3 20 false, H, p⟩) : smW smB ⟨smeF p q 3, H, p⟩ ⟨smeF p q 4, H, p⟩ :=
  WP.cut (by kernel_rfl) (smRun [2, 3, 7, 8, 9] (by kernel_rfl) (by kernel_rfl) (by kernel_rfl) (by kernel_rfl) : smW (hdC smB) ⟨smeF p q 3, H, p⟩ ⟨smeE p q 3 9 true, H, p⟩) (WP.cut (by kernel_rfl) (smRun [2, 3, 7, 8] (by kernel_rfl) (by kernel_rfl) (by kernel_rfl) (by kernel_rfl) : smW (hdC (tlC smB)) ⟨smeE p q 3 9 true, H, p⟩ ⟨smeF p q 3, H, p⟩) (WP.cut (by kernel_rfl) (WP.inB (by kernel_rfl) (.inl rfl) (WP.cut (by kernel_rfl) (smRun [2, 3, 7, 8, 5, 6] (by kernel_rfl) (by kernel_rfl) (by kernel_rfl) (by kernel_rfl) : smW (hdC (inC (hdC (tlC (tlC smB))))) ⟨smeF p q 3, H, p⟩ ⟨smeG p q 3 4, H, p⟩) (WP.cut (by kernel_rfl) h (smRun [2, 3, 7, 8] (by kernel_rfl) (by kernel_rfl) (by kernel_rfl) (by kernel_rfl) : smW (tlC (tlC (inC (hdC (tlC (tlC smB)))))) ⟨smeE p q 3 20 false, H, p⟩ ⟨smeF p q 3, H, p⟩)))) (smRun [2, 3, 7, 8] (by kernel_rfl) (by kernel_rfl) (by kernel_rfl) (by kernel_rfl) : smW (tlC (tlC (tlC smB))) ⟨smeF p q 3, H, p⟩ ⟨smeF p q 4, H, p⟩)))
theorem sm4_of {H : Heap} {p q : Nat} (h : smW smD ⟨smeG p q 4 5, H, p⟩ ⟨smeE p q 4 20 false, H, p⟩) : smW smB ⟨smeF p q 4, H, p⟩ ⟨smeF p q 5, H, p⟩ :=
  WP.cut (by kernel_rfl) (smRun [2, 3, 7, 8, 9] (by kernel_rfl) (by kernel_rfl) (by kernel_rfl) (by kernel_rfl) : smW (hdC smB) ⟨smeF p q 4, H, p⟩ ⟨smeE p q 4 9 true, H, p⟩) (WP.cut (by kernel_rfl) (smRun [2, 3, 7, 8] (by kernel_rfl) (by kernel_rfl) (by kernel_rfl) (by kernel_rfl) : smW (hdC (tlC smB)) ⟨smeE p q 4 9 true, H, p⟩ ⟨smeF p q 4, H, p⟩) (WP.cut (by kernel_rfl) (WP.inB (by kernel_rfl) (.inl rfl) (WP.cut (by kernel_rfl) (smRun [2, 3, 7, 8, 5, 6] (by kernel_rfl) (by kernel_rfl) (by kernel_rfl) (by kernel_rfl) : smW (hdC (inC (hdC (tlC (tlC smB))))) ⟨smeF p q 4, H, p⟩ ⟨smeG p q 4 5, H, p⟩) (WP.cut (by kernel_rfl) h (smRun [2, 3, 7, 8] (by kernel_rfl) (by kernel_rfl) (by kernel_rfl) (by kernel_rfl) : smW (tlC (tlC (inC (hdC (tlC (tlC smB)))))) ⟨smeE p q 4 20 false, H, p⟩ ⟨smeF p q 4, H, p⟩)))) (smRun [2, 3, 7, 8] (by kernel_rfl) (by kernel_rfl) (by kernel_rfl) (by kernel_rfl) : smW (tlC (tlC (tlC smB))) ⟨smeF p q 4, H, p⟩ ⟨smeF p q 5, H, p⟩)))
theorem sm5_of {H : Heap} {p q : Nat} (h : smW smD ⟨smeG p q 5 6, H, p⟩ ⟨smeE p q 5 20 false, H, p⟩) : smW smB ⟨smeF p q 5, H, p⟩ ⟨smeF p q 6, H, p⟩ :=
  WP.cut (by kernel_rfl) (smRun [2, 3, 7, 8, 9] (by kernel_rfl) (by kernel_rfl) (by kernel_rfl) (by kernel_rfl) : smW (hdC smB) ⟨smeF p q 5, H, p⟩ ⟨smeE p q 5 9 true, H, p⟩) (WP.cut (by kernel_rfl) (smRun [2, 3, 7, 8] (by kernel_rfl) (by kernel_rfl) (by kernel_rfl) (by kernel_rfl) : smW (hdC (tlC smB)) ⟨smeE p q 5 9 true, H, p⟩ ⟨smeF p q 5, H, p⟩) (WP.cut (by kernel_rfl) (WP.inB (by kernel_rfl) (.inl rfl) (WP.cut (by kernel_rfl) (smRun [2, 3, 7, 8, 5, 6] (by kernel_rfl) (by kernel_rfl) (by kernel_rfl) (by kernel_rfl) : smW (hdC (inC (hdC (tlC (tlC smB))))) ⟨smeF p q 5, H, p⟩ ⟨smeG p q 5 6, H, p⟩) (WP.cut (by kernel_rfl) h (smRun [2, 3, 7, 8] (by kernel_rfl) (by kernel_rfl) (by kernel_rfl) (by kernel_rfl) : smW (tlC (tlC (inC (hdC (tlC (tlC smB)))))) ⟨smeE p q 5 20 false, H, p⟩ ⟨smeF p q 5, H, p⟩)))) (smRun [2, 3, 7, 8] (by kernel_rfl) (by kernel_rfl) (by kernel_rfl) (by kernel_rfl) : smW (tlC (tlC (tlC smB))) ⟨smeF p q 5, H, p⟩ ⟨smeF p q 6, H, p⟩)))
theorem sm6_of {H : Heap} {p q : Nat} (h : smW smD ⟨smeG p q 6 7, H, p⟩ ⟨smeE p q 6 20 false, H, p⟩) : smW smB ⟨smeF p q 6, H, p⟩ ⟨smeF p q 7, H, p⟩ :=
  WP.cut (by kernel_rfl) (smRun [2, 3, 7, 8, 9] (by kernel_rfl) (by kernel_rfl) (by kernel_rfl) (by kernel_rfl) : smW (hdC smB) ⟨smeF p q 6, H, p⟩ ⟨smeE p q 6 9 true, H, p⟩) (WP.cut (by kernel_rfl) (smRun [2, 3, 7, 8] (by kernel_rfl) (by kernel_rfl) (by kernel_rfl) (by kernel_rfl) : smW (hdC (tlC smB)) ⟨smeE p q 6 9 true, H, p⟩ ⟨smeF p q 6, H, p⟩) (WP.cut (by kernel_rfl) (WP.inB (by kernel_rfl) (.inl rfl) (WP.cut (by kernel_rfl) (smRun [2, 3, 7, 8, 5, 6] (by kernel_rfl) (by kernel_rfl) (by kernel_rfl) (by kernel_rfl) : smW (hdC (inC (hdC (tlC (tlC smB))))) ⟨smeF p q 6, H, p⟩ ⟨smeG p q 6 7, H, p⟩) (WP.cut (by kernel_rfl) h (smRun [2, 3, 7, 8] (by kernel_rfl) (by kernel_rfl) (by kernel_rfl) (by kernel_rfl) : smW (tlC (tlC (inC (hdC (tlC (tlC smB)))))) ⟨smeE p q 6 20 false, H, p⟩ ⟨smeF p q 6, H, p⟩)))) (smRun [2, 3, 7, 8] (by kernel_rfl) (by kernel_rfl) (by kernel_rfl) (by kernel_rfl) : smW (tlC (tlC (tlC smB))) ⟨smeF p q 6, H, p⟩ ⟨smeF p q 7, H, p⟩)))
theorem sm_obs {n : Int} {b : Bool} (h : b = true) : Holds [(n != n, false), (b, true)] := by
  intro q hq
  simp only [List.mem_cons, List.not_mem_nil, or_false] at hq
  rcases hq with rfl | rfl
  · simp
  · exact h
theorem sme0_RO (k g f t i e a b : Int) (s : ByteArray) (x : List Nat) (c : Nat) : smP (smRO k g f t i e a b s x c) 2 3 0 1 =
  some (List.replicate 112 (smeE 2 3 0 20 false, smRO k g f t i e a b s x c, 2, [(g != g, false), (frameTPre smeT 45 [.pointer (some ⟨3, 0, none⟩)] (smRO k g f t i e a b s x c), true)])) := by kernel_rfl
theorem sm0_okRO {k g f t i e a b : Int} {s : ByteArray} {x : List Nat} {c : Nat} (hne : x ≠ []) : smW smB ⟨smeF 2 3 0, smRO k g f t i e a b s x c, 2⟩ ⟨smeF 2 3 1, smRO k g f t i e a b s x c, 2⟩ := by
  refine sm0_of (WP.permS progOk extSound (nb_sound _ _ (frameT_sound _)) (by kernel_rfl) [(0,true)] [2, 3, 7, 8, 20] 112 (sme0_RO k g f t i e a b s x c) ?_ (Nat.le_refl _))
  exact sm_obs (frameT_ok [3, 1] (wr_nums (k := k) (g := g) (f := f) (t := t) (i := i) (e := e) (a := a) (b := b) (s := s) (D := .slice (some ⟨1, 0, none⟩) x.length c) (X := ⟨false, none, byteV x⟩)) (by exact ro_row hne (ro_row hne (ro_in rfl (ro_in rfl ro_nil)))) (by exact rf_in rfl (rf_row (rf_in rfl rf_nil))))
theorem sme1_RO (k g f t i e a b : Int) (s : ByteArray) (x : List Nat) (c : Nat) : smP (smRO k g f t i e a b s x c) 2 3 1 2 =
  some (List.replicate 112 (smeE 2 3 1 20 false, smRO k g f t i e a b s x c, 2, [(f != f, false), (frameTPre smeT 45 [.pointer (some ⟨3, 0, none⟩)] (smRO k g f t i e a b s x c), true)])) := by kernel_rfl
theorem sm1_okRO {k g f t i e a b : Int} {s : ByteArray} {x : List Nat} {c : Nat} (hne : x ≠ []) : smW smB ⟨smeF 2 3 1, smRO k g f t i e a b s x c, 2⟩ ⟨smeF 2 3 2, smRO k g f t i e a b s x c, 2⟩ := by
  refine sm1_of (WP.permS progOk extSound (nb_sound _ _ (frameT_sound _)) (by kernel_rfl) [(0,true)] [2, 3, 7, 8, 20] 112 (sme1_RO k g f t i e a b s x c) ?_ (Nat.le_refl _))
  exact sm_obs (frameT_ok [3, 1] (wr_nums (k := k) (g := g) (f := f) (t := t) (i := i) (e := e) (a := a) (b := b) (s := s) (D := .slice (some ⟨1, 0, none⟩) x.length c) (X := ⟨false, none, byteV x⟩)) (by exact ro_row hne (ro_row hne (ro_in rfl (ro_in rfl ro_nil)))) (by exact rf_in rfl (rf_row (rf_in rfl rf_nil))))
theorem sme2_RO (k g f t i e a b : Int) (s : ByteArray) (x : List Nat) (c : Nat) : smP (smRO k g f t i e a b s x c) 2 3 2 3 =
  some (List.replicate 112 (smeE 2 3 2 20 false, smRO k g f t i e a b s x c, 2, [(t != t, false), (frameTPre smeT 45 [.pointer (some ⟨3, 0, none⟩)] (smRO k g f t i e a b s x c), true)])) := by kernel_rfl
theorem sm2_okRO {k g f t i e a b : Int} {s : ByteArray} {x : List Nat} {c : Nat} (hne : x ≠ []) : smW smB ⟨smeF 2 3 2, smRO k g f t i e a b s x c, 2⟩ ⟨smeF 2 3 3, smRO k g f t i e a b s x c, 2⟩ := by
  refine sm2_of (WP.permS progOk extSound (nb_sound _ _ (frameT_sound _)) (by kernel_rfl) [(0,true)] [2, 3, 7, 8, 20] 112 (sme2_RO k g f t i e a b s x c) ?_ (Nat.le_refl _))
  exact sm_obs (frameT_ok [3, 1] (wr_nums (k := k) (g := g) (f := f) (t := t) (i := i) (e := e) (a := a) (b := b) (s := s) (D := .slice (some ⟨1, 0, none⟩) x.length c) (X := ⟨false, none, byteV x⟩)) (by exact ro_row hne (ro_row hne (ro_in rfl (ro_in rfl ro_nil)))) (by exact rf_in rfl (rf_row (rf_in rfl rf_nil))))
theorem sme3_RO (k g f t i e a b : Int) (s : ByteArray) (x : List Nat) (c : Nat) : smP (smRO k g f t i e a b s x c) 2 3 3 4 =
  some (List.replicate 112 (smeE 2 3 3 20 false, smRO k g f t i e a b s x c, 2, [(i != i, false), (frameTPre smeT 45 [.pointer (some ⟨3, 0, none⟩)] (smRO k g f t i e a b s x c), true)])) := by kernel_rfl
theorem sm3_okRO {k g f t i e a b : Int} {s : ByteArray} {x : List Nat} {c : Nat} (hne : x ≠ []) : smW smB ⟨smeF 2 3 3, smRO k g f t i e a b s x c, 2⟩ ⟨smeF 2 3 4, smRO k g f t i e a b s x c, 2⟩ := by
  refine sm3_of (WP.permS progOk extSound (nb_sound _ _ (frameT_sound _)) (by kernel_rfl) [(0,true)] [2, 3, 7, 8, 20] 112 (sme3_RO k g f t i e a b s x c) ?_ (Nat.le_refl _))
  exact sm_obs (frameT_ok [3, 1] (wr_nums (k := k) (g := g) (f := f) (t := t) (i := i) (e := e) (a := a) (b := b) (s := s) (D := .slice (some ⟨1, 0, none⟩) x.length c) (X := ⟨false, none, byteV x⟩)) (by exact ro_row hne (ro_row hne (ro_in rfl (ro_in rfl ro_nil)))) (by exact rf_in rfl (rf_row (rf_in rfl rf_nil))))
theorem sme4_RO (k g f t i e a b : Int) (s : ByteArray) (x : List Nat) (c : Nat) : smP (smRO k g f t i e a b s x c) 2 3 4 5 =
  some (List.replicate 112 (smeE 2 3 4 20 false, smRO k g f t i e a b s x c, 2, [(e != e, false), (frameTPre smeT 45 [.pointer (some ⟨3, 0, none⟩)] (smRO k g f t i e a b s x c), true)])) := by kernel_rfl
theorem sm4_okRO {k g f t i e a b : Int} {s : ByteArray} {x : List Nat} {c : Nat} (hne : x ≠ []) : smW smB ⟨smeF 2 3 4, smRO k g f t i e a b s x c, 2⟩ ⟨smeF 2 3 5, smRO k g f t i e a b s x c, 2⟩ := by
  refine sm4_of (WP.permS progOk extSound (nb_sound _ _ (frameT_sound _)) (by kernel_rfl) [(0,true)] [2, 3, 7, 8, 20] 112 (sme4_RO k g f t i e a b s x c) ?_ (Nat.le_refl _))
  exact sm_obs (frameT_ok [3, 1] (wr_nums (k := k) (g := g) (f := f) (t := t) (i := i) (e := e) (a := a) (b := b) (s := s) (D := .slice (some ⟨1, 0, none⟩) x.length c) (X := ⟨false, none, byteV x⟩)) (by exact ro_row hne (ro_row hne (ro_in rfl (ro_in rfl ro_nil)))) (by exact rf_in rfl (rf_row (rf_in rfl rf_nil))))
theorem sme5_RO (k g f t i e a b : Int) (s : ByteArray) (x : List Nat) (c : Nat) : smP (smRO k g f t i e a b s x c) 2 3 5 6 =
  some (List.replicate 112 (smeE 2 3 5 20 false, smRO k g f t i e a b s x c, 2, [(a != a, false), (frameTPre smeT 45 [.pointer (some ⟨3, 0, none⟩)] (smRO k g f t i e a b s x c), true)])) := by kernel_rfl
theorem sm5_okRO {k g f t i e a b : Int} {s : ByteArray} {x : List Nat} {c : Nat} (hne : x ≠ []) : smW smB ⟨smeF 2 3 5, smRO k g f t i e a b s x c, 2⟩ ⟨smeF 2 3 6, smRO k g f t i e a b s x c, 2⟩ := by
  refine sm5_of (WP.permS progOk extSound (nb_sound _ _ (frameT_sound _)) (by kernel_rfl) [(0,true)] [2, 3, 7, 8, 20] 112 (sme5_RO k g f t i e a b s x c) ?_ (Nat.le_refl _))
  exact sm_obs (frameT_ok [3, 1] (wr_nums (k := k) (g := g) (f := f) (t := t) (i := i) (e := e) (a := a) (b := b) (s := s) (D := .slice (some ⟨1, 0, none⟩) x.length c) (X := ⟨false, none, byteV x⟩)) (by exact ro_row hne (ro_row hne (ro_in rfl (ro_in rfl ro_nil)))) (by exact rf_in rfl (rf_row (rf_in rfl rf_nil))))
theorem sme6_RO (k g f t i e a b : Int) (s : ByteArray) (x : List Nat) (c : Nat) : smP (smRO k g f t i e a b s x c) 2 3 6 7 =
  some (List.replicate 112 (smeE 2 3 6 20 false, smRO k g f t i e a b s x c, 2, [(b != b, false), (frameTPre smeT 45 [.pointer (some ⟨3, 0, none⟩)] (smRO k g f t i e a b s x c), true)])) := by kernel_rfl
theorem sm6_okRO {k g f t i e a b : Int} {s : ByteArray} {x : List Nat} {c : Nat} (hne : x ≠ []) : smW smB ⟨smeF 2 3 6, smRO k g f t i e a b s x c, 2⟩ ⟨smeF 2 3 7, smRO k g f t i e a b s x c, 2⟩ := by
  refine sm6_of (WP.permS progOk extSound (nb_sound _ _ (frameT_sound _)) (by kernel_rfl) [(0,true)] [2, 3, 7, 8, 20] 112 (sme6_RO k g f t i e a b s x c) ?_ (Nat.le_refl _))
  exact sm_obs (frameT_ok [3, 1] (wr_nums (k := k) (g := g) (f := f) (t := t) (i := i) (e := e) (a := a) (b := b) (s := s) (D := .slice (some ⟨1, 0, none⟩) x.length c) (X := ⟨false, none, byteV x⟩)) (by exact ro_row hne (ro_row hne (ro_in rfl (ro_in rfl ro_nil)))) (by exact rf_in rfl (rf_row (rf_in rfl rf_nil))))
theorem sme0_NN (k g f t i e a b : Int) (s : ByteArray) : smP (smNN k g f t i e a b s) 0 1 0 1 =
  some (List.replicate 112 (smeE 0 1 0 20 false, smNN k g f t i e a b s, 0, [(g != g, false), (frameTPre smeT 45 [.pointer (some ⟨1, 0, none⟩)] (smNN k g f t i e a b s), true)])) := by kernel_rfl
theorem sm0_okNN {k g f t i e a b : Int} {s : ByteArray} : smW smB ⟨smeF 0 1 0, smNN k g f t i e a b s, 0⟩ ⟨smeF 0 1 1, smNN k g f t i e a b s, 0⟩ := by
  refine sm0_of (WP.permS progOk extSound (nb_sound _ _ (frameT_sound _)) (by kernel_rfl) [(0,true)] [2, 3, 7, 8, 20] 112 (sme0_NN k g f t i e a b s) ?_ (Nat.le_refl _))
  exact sm_obs (frameT_ok [1] (nums_ok_0 (k := k) (g := g) (f := f) (t := t) (i := i) (e := e) (a := a) (b := b) (s := s) (D := (.slice none 0 0)) (X := spB)) (by exact ro_in rfl (ro_in rfl ro_nil)) (by exact rf_in rfl (rf_in rfl rf_nil)))
theorem sme1_NN (k g f t i e a b : Int) (s : ByteArray) : smP (smNN k g f t i e a b s) 0 1 1 2 =
  some (List.replicate 112 (smeE 0 1 1 20 false, smNN k g f t i e a b s, 0, [(f != f, false), (frameTPre smeT 45 [.pointer (some ⟨1, 0, none⟩)] (smNN k g f t i e a b s), true)])) := by kernel_rfl
theorem sm1_okNN {k g f t i e a b : Int} {s : ByteArray} : smW smB ⟨smeF 0 1 1, smNN k g f t i e a b s, 0⟩ ⟨smeF 0 1 2, smNN k g f t i e a b s, 0⟩ := by
  refine sm1_of (WP.permS progOk extSound (nb_sound _ _ (frameT_sound _)) (by kernel_rfl) [(0,true)] [2, 3, 7, 8, 20] 112 (sme1_NN k g f t i e a b s) ?_ (Nat.le_refl _))
  exact sm_obs (frameT_ok [1] (nums_ok_0 (k := k) (g := g) (f := f) (t := t) (i := i) (e := e) (a := a) (b := b) (s := s) (D := (.slice none 0 0)) (X := spB)) (by exact ro_in rfl (ro_in rfl ro_nil)) (by exact rf_in rfl (rf_in rfl rf_nil)))
theorem sme2_NN (k g f t i e a b : Int) (s : ByteArray) : smP (smNN k g f t i e a b s) 0 1 2 3 =
  some (List.replicate 112 (smeE 0 1 2 20 false, smNN k g f t i e a b s, 0, [(t != t, false), (frameTPre smeT 45 [.pointer (some ⟨1, 0, none⟩)] (smNN k g f t i e a b s), true)])) := by kernel_rfl
theorem sm2_okNN {k g f t i e a b : Int} {s : ByteArray} : smW smB ⟨smeF 0 1 2, smNN k g f t i e a b s, 0⟩ ⟨smeF 0 1 3, smNN k g f t i e a b s, 0⟩ := by
  refine sm2_of (WP.permS progOk extSound (nb_sound _ _ (frameT_sound _)) (by kernel_rfl) [(0,true)] [2, 3, 7, 8, 20] 112 (sme2_NN k g f t i e a b s) ?_ (Nat.le_refl _))
  exact sm_obs (frameT_ok [1] (nums_ok_0 (k := k) (g := g) (f := f) (t := t) (i := i) (e := e) (a := a) (b := b) (s := s) (D := (.slice none 0 0)) (X := spB)) (by exact ro_in rfl (ro_in rfl ro_nil)) (by exact rf_in rfl (rf_in rfl rf_nil)))
theorem sme3_NN (k g f t i e a b : Int) (s : ByteArray) : smP (smNN k g f t i e a b s) 0 1 3 4 =
  some (List.replicate 112 (smeE 0 1 3 20 false, smNN k g f t i e a b s, 0, [(i != i, false), (frameTPre smeT 45 [.pointer (some ⟨1, 0, none⟩)] (smNN k g f t i e a b s), true)])) := by kernel_rfl
theorem sm3_okNN {k g f t i e a b : Int} {s : ByteArray} : smW smB ⟨smeF 0 1 3, smNN k g f t i e a b s, 0⟩ ⟨smeF 0 1 4, smNN k g f t i e a b s, 0⟩ := by
  refine sm3_of (WP.permS progOk extSound (nb_sound _ _ (frameT_sound _)) (by kernel_rfl) [(0,true)] [2, 3, 7, 8, 20] 112 (sme3_NN k g f t i e a b s) ?_ (Nat.le_refl _))
  exact sm_obs (frameT_ok [1] (nums_ok_0 (k := k) (g := g) (f := f) (t := t) (i := i) (e := e) (a := a) (b := b) (s := s) (D := (.slice none 0 0)) (X := spB)) (by exact ro_in rfl (ro_in rfl ro_nil)) (by exact rf_in rfl (rf_in rfl rf_nil)))
theorem sme4_NN (k g f t i e a b : Int) (s : ByteArray) : smP (smNN k g f t i e a b s) 0 1 4 5 =
  some (List.replicate 112 (smeE 0 1 4 20 false, smNN k g f t i e a b s, 0, [(e != e, false), (frameTPre smeT 45 [.pointer (some ⟨1, 0, none⟩)] (smNN k g f t i e a b s), true)])) := by kernel_rfl
theorem sm4_okNN {k g f t i e a b : Int} {s : ByteArray} : smW smB ⟨smeF 0 1 4, smNN k g f t i e a b s, 0⟩ ⟨smeF 0 1 5, smNN k g f t i e a b s, 0⟩ := by
  refine sm4_of (WP.permS progOk extSound (nb_sound _ _ (frameT_sound _)) (by kernel_rfl) [(0,true)] [2, 3, 7, 8, 20] 112 (sme4_NN k g f t i e a b s) ?_ (Nat.le_refl _))
  exact sm_obs (frameT_ok [1] (nums_ok_0 (k := k) (g := g) (f := f) (t := t) (i := i) (e := e) (a := a) (b := b) (s := s) (D := (.slice none 0 0)) (X := spB)) (by exact ro_in rfl (ro_in rfl ro_nil)) (by exact rf_in rfl (rf_in rfl rf_nil)))
theorem sme5_NN (k g f t i e a b : Int) (s : ByteArray) : smP (smNN k g f t i e a b s) 0 1 5 6 =
  some (List.replicate 112 (smeE 0 1 5 20 false, smNN k g f t i e a b s, 0, [(a != a, false), (frameTPre smeT 45 [.pointer (some ⟨1, 0, none⟩)] (smNN k g f t i e a b s), true)])) := by kernel_rfl
theorem sm5_okNN {k g f t i e a b : Int} {s : ByteArray} : smW smB ⟨smeF 0 1 5, smNN k g f t i e a b s, 0⟩ ⟨smeF 0 1 6, smNN k g f t i e a b s, 0⟩ := by
  refine sm5_of (WP.permS progOk extSound (nb_sound _ _ (frameT_sound _)) (by kernel_rfl) [(0,true)] [2, 3, 7, 8, 20] 112 (sme5_NN k g f t i e a b s) ?_ (Nat.le_refl _))
  exact sm_obs (frameT_ok [1] (nums_ok_0 (k := k) (g := g) (f := f) (t := t) (i := i) (e := e) (a := a) (b := b) (s := s) (D := (.slice none 0 0)) (X := spB)) (by exact ro_in rfl (ro_in rfl ro_nil)) (by exact rf_in rfl (rf_in rfl rf_nil)))
theorem sme6_NN (k g f t i e a b : Int) (s : ByteArray) : smP (smNN k g f t i e a b s) 0 1 6 7 =
  some (List.replicate 112 (smeE 0 1 6 20 false, smNN k g f t i e a b s, 0, [(b != b, false), (frameTPre smeT 45 [.pointer (some ⟨1, 0, none⟩)] (smNN k g f t i e a b s), true)])) := by kernel_rfl
theorem sm6_okNN {k g f t i e a b : Int} {s : ByteArray} : smW smB ⟨smeF 0 1 6, smNN k g f t i e a b s, 0⟩ ⟨smeF 0 1 7, smNN k g f t i e a b s, 0⟩ := by
  refine sm6_of (WP.permS progOk extSound (nb_sound _ _ (frameT_sound _)) (by kernel_rfl) [(0,true)] [2, 3, 7, 8, 20] 112 (sme6_NN k g f t i e a b s) ?_ (Nat.le_refl _))
  exact sm_obs (frameT_ok [1] (nums_ok_0 (k := k) (g := g) (f := f) (t := t) (i := i) (e := e) (a := a) (b := b) (s := s) (D := (.slice none 0 0)) (X := spB)) (by exact ro_in rfl (ro_in rfl ro_nil)) (by exact rf_in rfl (rf_in rfl rf_nil)))
theorem sme0_NG (k g f t i e a b : Int) (s : ByteArray) : smP (smNG k g f t i e a b s) 0 1 0 1 =
  some (List.replicate 112 (smeE 0 1 0 20 false, smNG k g f t i e a b s, 0, [(g != g, false), (frameTPre smeT 45 [.pointer (some ⟨1, 0, none⟩)] (smNG k g f t i e a b s), true)])) := by kernel_rfl
theorem sm0_okNG {k g f t i e a b : Int} {s : ByteArray} : smW smB ⟨smeF 0 1 0, smNG k g f t i e a b s, 0⟩ ⟨smeF 0 1 1, smNG k g f t i e a b s, 0⟩ := by
  refine sm0_of (WP.permS progOk extSound (nb_sound _ _ (frameT_sound _)) (by kernel_rfl) [(0,true)] [2, 3, 7, 8, 20] 112 (sme0_NG k g f t i e a b s) ?_ (Nat.le_refl _))
  exact sm_obs (frameT_ok [1] (nums_ok_0 (k := k) (g := g) (f := f) (t := t) (i := i) (e := e) (a := a) (b := b) (s := s) (D := goneV) (X := spB)) (by exact ro_in rfl (ro_in rfl ro_nil)) (by exact rf_in rfl (rf_in rfl rf_nil)))
theorem sme1_NG (k g f t i e a b : Int) (s : ByteArray) : smP (smNG k g f t i e a b s) 0 1 1 2 =
  some (List.replicate 112 (smeE 0 1 1 20 false, smNG k g f t i e a b s, 0, [(f != f, false), (frameTPre smeT 45 [.pointer (some ⟨1, 0, none⟩)] (smNG k g f t i e a b s), true)])) := by kernel_rfl
theorem sm1_okNG {k g f t i e a b : Int} {s : ByteArray} : smW smB ⟨smeF 0 1 1, smNG k g f t i e a b s, 0⟩ ⟨smeF 0 1 2, smNG k g f t i e a b s, 0⟩ := by
  refine sm1_of (WP.permS progOk extSound (nb_sound _ _ (frameT_sound _)) (by kernel_rfl) [(0,true)] [2, 3, 7, 8, 20] 112 (sme1_NG k g f t i e a b s) ?_ (Nat.le_refl _))
  exact sm_obs (frameT_ok [1] (nums_ok_0 (k := k) (g := g) (f := f) (t := t) (i := i) (e := e) (a := a) (b := b) (s := s) (D := goneV) (X := spB)) (by exact ro_in rfl (ro_in rfl ro_nil)) (by exact rf_in rfl (rf_in rfl rf_nil)))
theorem sme2_NG (k g f t i e a b : Int) (s : ByteArray) : smP (smNG k g f t i e a b s) 0 1 2 3 =
  some (List.replicate 112 (smeE 0 1 2 20 false, smNG k g f t i e a b s, 0, [(t != t, false), (frameTPre smeT 45 [.pointer (some ⟨1, 0, none⟩)] (smNG k g f t i e a b s), true)])) := by kernel_rfl
theorem sm2_okNG {k g f t i e a b : Int} {s : ByteArray} : smW smB ⟨smeF 0 1 2, smNG k g f t i e a b s, 0⟩ ⟨smeF 0 1 3, smNG k g f t i e a b s, 0⟩ := by
  refine sm2_of (WP.permS progOk extSound (nb_sound _ _ (frameT_sound _)) (by kernel_rfl) [(0,true)] [2, 3, 7, 8, 20] 112 (sme2_NG k g f t i e a b s) ?_ (Nat.le_refl _))
  exact sm_obs (frameT_ok [1] (nums_ok_0 (k := k) (g := g) (f := f) (t := t) (i := i) (e := e) (a := a) (b := b) (s := s) (D := goneV) (X := spB)) (by exact ro_in rfl (ro_in rfl ro_nil)) (by exact rf_in rfl (rf_in rfl rf_nil)))
theorem sme3_NG (k g f t i e a b : Int) (s : ByteArray) : smP (smNG k g f t i e a b s) 0 1 3 4 =
  some (List.replicate 112 (smeE 0 1 3 20 false, smNG k g f t i e a b s, 0, [(i != i, false), (frameTPre smeT 45 [.pointer (some ⟨1, 0, none⟩)] (smNG k g f t i e a b s), true)])) := by kernel_rfl
theorem sm3_okNG {k g f t i e a b : Int} {s : ByteArray} : smW smB ⟨smeF 0 1 3, smNG k g f t i e a b s, 0⟩ ⟨smeF 0 1 4, smNG k g f t i e a b s, 0⟩ := by
  refine sm3_of (WP.permS progOk extSound (nb_sound _ _ (frameT_sound _)) (by kernel_rfl) [(0,true)] [2, 3, 7, 8, 20] 112 (sme3_NG k g f t i e a b s) ?_ (Nat.le_refl _))
  exact sm_obs (frameT_ok [1] (nums_ok_0 (k := k) (g := g) (f := f) (t := t) (i := i) (e := e) (a := a) (b := b) (s := s) (D := goneV) (X := spB)) (by exact ro_in rfl (ro_in rfl ro_nil)) (by exact rf_in rfl (rf_in rfl rf_nil)))
theorem sme4_NG (k g f t i e a b : Int) (s : ByteArray) : smP (smNG k g f t i e a b s) 0 1 4 5 =
  some (List.replicate 112 (smeE 0 1 4 20 false, smNG k g f t i e a b s, 0, [(e != e, false), (frameTPre smeT 45 [.pointer (some ⟨1, 0, none⟩)] (smNG k g f t i e a b s), true)])) := by kernel_rfl
theorem sm4_okNG {k g f t i e a b : Int} {s : ByteArray} : smW smB ⟨smeF 0 1 4, smNG k g f t i e a b s, 0⟩ ⟨smeF 0 1 5, smNG k g f t i e a b s, 0⟩ := by
  refine sm4_of (WP.permS progOk extSound (nb_sound _ _ (frameT_sound _)) (by kernel_rfl) [(0,true)] [2, 3, 7, 8, 20] 112 (sme4_NG k g f t i e a b s) ?_ (Nat.le_refl _))
  exact sm_obs (frameT_ok [1] (nums_ok_0 (k := k) (g := g) (f := f) (t := t) (i := i) (e := e) (a := a) (b := b) (s := s) (D := goneV) (X := spB)) (by exact ro_in rfl (ro_in rfl ro_nil)) (by exact rf_in rfl (rf_in rfl rf_nil)))
theorem sme5_NG (k g f t i e a b : Int) (s : ByteArray) : smP (smNG k g f t i e a b s) 0 1 5 6 =
  some (List.replicate 112 (smeE 0 1 5 20 false, smNG k g f t i e a b s, 0, [(a != a, false), (frameTPre smeT 45 [.pointer (some ⟨1, 0, none⟩)] (smNG k g f t i e a b s), true)])) := by kernel_rfl
theorem sm5_okNG {k g f t i e a b : Int} {s : ByteArray} : smW smB ⟨smeF 0 1 5, smNG k g f t i e a b s, 0⟩ ⟨smeF 0 1 6, smNG k g f t i e a b s, 0⟩ := by
  refine sm5_of (WP.permS progOk extSound (nb_sound _ _ (frameT_sound _)) (by kernel_rfl) [(0,true)] [2, 3, 7, 8, 20] 112 (sme5_NG k g f t i e a b s) ?_ (Nat.le_refl _))
  exact sm_obs (frameT_ok [1] (nums_ok_0 (k := k) (g := g) (f := f) (t := t) (i := i) (e := e) (a := a) (b := b) (s := s) (D := goneV) (X := spB)) (by exact ro_in rfl (ro_in rfl ro_nil)) (by exact rf_in rfl (rf_in rfl rf_nil)))
theorem sme6_NG (k g f t i e a b : Int) (s : ByteArray) : smP (smNG k g f t i e a b s) 0 1 6 7 =
  some (List.replicate 112 (smeE 0 1 6 20 false, smNG k g f t i e a b s, 0, [(b != b, false), (frameTPre smeT 45 [.pointer (some ⟨1, 0, none⟩)] (smNG k g f t i e a b s), true)])) := by kernel_rfl
theorem sm6_okNG {k g f t i e a b : Int} {s : ByteArray} : smW smB ⟨smeF 0 1 6, smNG k g f t i e a b s, 0⟩ ⟨smeF 0 1 7, smNG k g f t i e a b s, 0⟩ := by
  refine sm6_of (WP.permS progOk extSound (nb_sound _ _ (frameT_sound _)) (by kernel_rfl) [(0,true)] [2, 3, 7, 8, 20] 112 (sme6_NG k g f t i e a b s) ?_ (Nat.le_refl _))
  exact sm_obs (frameT_ok [1] (nums_ok_0 (k := k) (g := g) (f := f) (t := t) (i := i) (e := e) (a := a) (b := b) (s := s) (D := goneV) (X := spB)) (by exact ro_in rfl (ro_in rfl ro_nil)) (by exact rf_in rfl (rf_in rfl rf_nil)))
end Go.Proofs.YtpgmabpaiijipaaGreatDoor
