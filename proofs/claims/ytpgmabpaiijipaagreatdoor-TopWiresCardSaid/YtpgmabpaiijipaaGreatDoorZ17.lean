/- Parts of the proof, joined: Sm1, Pz, Sm2, Pl0, Pl1, Pl2, Pl3, Pl4, Pl5, Tp0, Tp1, Tp2. -/
import Derived.Test.YtpgmabpaiijipaaGreatDoorSm0
import Derived.Test.YtpgmabpaiijipaaGreatDoorZ15
namespace Go.Proofs.YtpgmabpaiijipaaGreatDoor
open Go Den
set_option maxRecDepth 100000
set_option linter.unusedSimpArgs false
set_option linter.unusedVariables false
theorem sm_loopRO {k g f t i e a b : Int} {s : ByteArray} {x : List Nat} {c : Nat} (hne : x ≠ []) : WP Tryz.prog (ntOf Tryz.prog 21 2) (.loop (loopAt Tryz.prog 21 0)) ⟨smeF 2 3 0, [rowB (byteV x), ⟨false, none, byteV x⟩, msB k g f t i e a b s (.slice (some ⟨0, 0, none⟩) x.length 0), msB k g f t i e a b s (.slice (some ⟨1, 0, none⟩) x.length c)], 2⟩ (.exit 0) ⟨[(2, .pointer (some ⟨2, 0, none⟩)), (3, .pointer (some ⟨3, 0, none⟩))], [rowB (byteV x), ⟨false, none, byteV x⟩, msB k g f t i e a b s (.slice (some ⟨0, 0, none⟩) x.length 0), msB k g f t i e a b s (.slice (some ⟨1, 0, none⟩) x.length c)], 2⟩ := by
  refine WP.loop (P := Tryz.prog) (nt := (ntOf Tryz.prog 21 2)) (b := (loopAt Tryz.prog 21 0)) (fun j => ⟨smeF 2 3 (j : Nat), [rowB (byteV x), ⟨false, none, byteV x⟩, msB k g f t i e a b s (.slice (some ⟨0, 0, none⟩) x.length 0), msB k g f t i e a b s (.slice (some ⟨1, 0, none⟩) x.length c)], 2⟩) 7 (x := .exit 0) (by simp) ?_
    (WP.run (N := 300) (L := noLoops) (os := []) (ob := []) progOk extSound noC_sound (by kernel_rfl) (LoopsOk.none (by kernel_rfl)) [2, 3] (by kernel_rfl) (by simp [Holds]))
  intro j hj
  match j, hj with
  | 0, _ => exact sm0_okRO hne
  | 1, _ => exact sm1_okRO hne
  | 2, _ => exact sm2_okRO hne
  | 3, _ => exact sm3_okRO hne
  | 4, _ => exact sm4_okRO hne
  | 5, _ => exact sm5_okRO hne
  | 6, _ => exact sm6_okRO hne
  | n + 7, h => omega
theorem sm_loopNN {k g f t i e a b : Int} {s : ByteArray} : WP Tryz.prog (ntOf Tryz.prog 21 2) (.loop (loopAt Tryz.prog 21 0)) ⟨smeF 0 1 0, [msB k g f t i e a b s (.slice none 0 0), msB k g f t i e a b s (.slice none 0 0)], 0⟩ (.exit 0) ⟨[(2, .pointer (some ⟨0, 0, none⟩)), (3, .pointer (some ⟨1, 0, none⟩))], [msB k g f t i e a b s (.slice none 0 0), msB k g f t i e a b s (.slice none 0 0)], 0⟩ := by
  refine WP.loop (P := Tryz.prog) (nt := (ntOf Tryz.prog 21 2)) (b := (loopAt Tryz.prog 21 0)) (fun j => ⟨smeF 0 1 (j : Nat), [msB k g f t i e a b s (.slice none 0 0), msB k g f t i e a b s (.slice none 0 0)], 0⟩) 7 (x := .exit 0) (by simp) ?_
    (WP.run (N := 300) (L := noLoops) (os := []) (ob := []) progOk extSound noC_sound (by kernel_rfl) (LoopsOk.none (by kernel_rfl)) [2, 3] (by kernel_rfl) (by simp [Holds]))
  intro j hj
  match j, hj with
  | 0, _ => exact sm0_okNN
  | 1, _ => exact sm1_okNN
  | 2, _ => exact sm2_okNN
  | 3, _ => exact sm3_okNN
  | 4, _ => exact sm4_okNN
  | 5, _ => exact sm5_okNN
  | 6, _ => exact sm6_okNN
  | n + 7, h => omega
theorem sm_loopNG {k g f t i e a b : Int} {s : ByteArray} : WP Tryz.prog (ntOf Tryz.prog 21 2) (.loop (loopAt Tryz.prog 21 0)) ⟨smeF 0 1 0, [msB k g f t i e a b s (.slice none 0 0), msB k g f t i e a b s goneV], 0⟩ (.exit 0) ⟨[(2, .pointer (some ⟨0, 0, none⟩)), (3, .pointer (some ⟨1, 0, none⟩))], [msB k g f t i e a b s (.slice none 0 0), msB k g f t i e a b s goneV], 0⟩ := by
  refine WP.loop (P := Tryz.prog) (nt := (ntOf Tryz.prog 21 2)) (b := (loopAt Tryz.prog 21 0)) (fun j => ⟨smeF 0 1 (j : Nat), [msB k g f t i e a b s (.slice none 0 0), msB k g f t i e a b s goneV], 0⟩) 7 (x := .exit 0) (by simp) ?_
    (WP.run (N := 300) (L := noLoops) (os := []) (ob := []) progOk extSound noC_sound (by kernel_rfl) (LoopsOk.none (by kernel_rfl)) [2, 3] (by kernel_rfl) (by simp [Holds]))
  intro j hj
  match j, hj with
  | 0, _ => exact sm0_okNG
  | 1, _ => exact sm1_okNG
  | 2, _ => exact sm2_okNG
  | 3, _ => exact sm3_okNG
  | 4, _ => exact sm4_okNG
  | 5, _ => exact sm5_okNG
  | 6, _ => exact sm6_okNG
  | n + 7, h => omega
end Go.Proofs.YtpgmabpaiijipaaGreatDoor
namespace Go.Proofs.YtpgmabpaiijipaaGreatDoor.Den
open Go
def preC : Nat → Code → Code
  | 0, _ => .skip
  | n + 1, c => match c with
    | .seq a b => .seq a (preC n b)
    | _ => .skip
def sufC : Nat → Code → Code
  | 0, c => c
  | n + 1, c => match c with
    | .seq _ b => sufC n b
    | c => c
section
variable {P : Program} {X : Ext} {pre : Pre} {C : Oracle} {L : Loops} {N nt : Nat}
theorem LoopsOk.left {a b : Code} (h : LoopsOk P nt L (.seq a b)) : LoopsOk P nt L a := ⟨fun c hc => h.1 c (by simp [loopsOf, hc]), fun c hc => h.2 c (by simp [rangesOf, hc])⟩
theorem LoopsOk.right {a b : Code} (h : LoopsOk P nt L (.seq a b)) : LoopsOk P nt L b := ⟨fun c hc => h.1 c (by simp [loopsOf, hc]), fun c hc => h.2 c (by simp [rangesOf, hc])⟩
theorem evL_pre (ok : ProgOk P) (hX : XSound P X) (hC : Sound P (strict pre C)) {x : Ex} {s' : St} : ∀ (n : Nat) (c : Code) (s s1 : SS), codeOk (preC n c) = true → LoopsOk P nt L (preC n c) →
    evCodeL P X pre C L N nt (preC n c) s = some (.normal, s1) → Holds s1.ob → WP P nt (sufC n c) s1.s x s' → WP P nt c s.s x s' ∧ Holds s.ob := by
  intro n
  induction n with
  | zero =>
    intro c s s1 _ _ h hh hw
    simp only [preC, evCodeL, Option.some.injEq, Prod.mk.injEq, true_and] at h
    subst h
    exact ⟨hw, hh⟩
  | succ n ih =>
    intro c s s1 hok hl h hh hw
    cases c with
    | seq a b =>
      simp only [preC] at hok hl h
      simp only [sufC] at hw
      simp only [codeOk, Bool.and_eq_true] at hok
      simp only [evCodeL] at h
      split at h
      · rename_i s2 h2
        obtain ⟨k1, k2⟩ := ih b s2 s1 hok.2 hl.right h hh hw
        obtain ⟨g1, g2⟩ := evCodeL_WP ok hX hC a hok.1 none (.inl ⟨rfl, hl.left⟩) _ _ _ h2 k2
        exact ⟨WPr.seq g1 k1, g2⟩
      · rename_i r hr
        exact (hr s1 h).elim
    | _ =>
      simp only [preC, evCodeL, Option.some.injEq, Prod.mk.injEq, true_and] at h
      subst h
      exact ⟨hw, hh⟩
theorem WP.runTo (n : Nat) (ok : ProgOk P) (hX : XSound P X) (hC : Sound P (strict pre C)) {c : Code} (hc : codeOk (preC n c) = true) (hl : LoopsOk P nt L (preC n c)) {F : Slots} {H : Heap} {lo : Nat} {os : Path} (ks : List Nat) {F' : Slots} {H' : Heap} {lo' : Nat} {ob : Obs}
    (h : evL P X pre C L N nt (preC n c) F H lo os ks = some (.normal, F', H', lo', ob)) (hh : Holds ob) {x : Ex} {s' : St} (hw : WP P nt (sufC n c) ⟨F', H', lo'⟩ x s') : WP P nt c ⟨F, H, lo⟩ x s' := by
  unfold evL at h
  split at h
  · rename_i x1 F1 H1 lo1 os1 ob1 hs
    simp only [Option.some.injEq, Prod.mk.injEq] at h
    obtain ⟨rfl, rfl, rfl, rfl, rfl⟩ := h
    obtain ⟨F2, H2, lo2⟩ := s'
    exact (evL_pre ok hX hC n c _ _ hc hl hs hh (WPr.weaken hw (pick_sub _ _) (Sub.refl _))).1
  · simp at h
end
end Go.Proofs.YtpgmabpaiijipaaGreatDoor.Den
namespace Go.Proofs.YtpgmabpaiijipaaGreatDoor
open Go Den
set_option maxRecDepth 100000
set_option linter.unusedSimpArgs false
set_option linter.unusedVariables false
def sameT : Nat → Tale := fun _ f _ Hs => match f with
  | 45 => some (nusV 0, Hs ++ [nusB 0], Hs.length)
  | 40 => some (.bool true, Hs, Hs.length)
  | _ => none
def smeP (p q : Nat) : Slots := [(2, .pointer (some ⟨p, 0, none⟩)), (3, .pointer (some ⟨q, 0, none⟩))]
noncomputable def sameL (p q : Nat) (H : Heap) : Loops := { loop := sumL 2 ⟨smeF p q 0, H, p⟩ (.exit 0) ⟨smeP p q, H, p⟩ }
noncomputable def sameO (p q : Nat) (H : Heap) (A B : Value) (k : Int) (s : ByteArray) : Obs :=
  [(frameTPre sameT 40 [A, B] H, true), (s.toList == s.toList, true), (k == k, true), (cdec (smeF p q 0 = smeF p q 0), true), (cdec (H = H), true), (cdec (p = p), true), (frameTPre sameT 45 [.pointer (some ⟨p, 0, none⟩)] H, true)]
theorem sameO_ok {p q : Nat} {H : Heap} {A B : Value} {k : Int} {s : ByteArray} (h1 : frameTPre sameT 40 [A, B] H = true) (h2 : frameTPre sameT 45 [.pointer (some ⟨p, 0, none⟩)] H = true) : Holds (sameO p q H A B k s) := by
  intro x hx
  simp only [sameO, List.mem_cons, List.not_mem_nil, or_false] at hx
  rcases hx with rfl | rfl | rfl | rfl | rfl | rfl | rfl
  · exact h1
  · simp
  · simp
  · simp [cdec]
  · simp [cdec]
  · simp [cdec]
  · exact h2
theorem sm_loops {p q : Nat} {H : Heap} (h : WP Tryz.prog (ntOf Tryz.prog 21 2) (.loop (loopAt Tryz.prog 21 0)) ⟨smeF p q 0, H, p⟩ (.exit 0) ⟨smeP p q, H, p⟩) : LoopsOk Tryz.prog (ntOf Tryz.prog 21 2) (sameL p q H) (bodyOf Tryz.prog 21) := by
  refine LoopsOk.sum (hL := rfl) ?_
  intro b' hb' _
  have e : loopsOf (bodyOf Tryz.prog 21) = [loopAt Tryz.prog 21 0] := by kernel_rfl
  rw [e] at hb'
  simp only [List.mem_singleton] at hb'
  subst hb'
  exact h
theorem smRO_run (k g f t i e a b : Int) (s : ByteArray) (x : List Nat) (c : Nat) : evFnL Tryz.prog ext 300 (nmPre (frameTPre sameT)) (nbC [] [(26, true), (32, true)] (frameT sameT)) (sameL 2 3 (smRO k g f t i e a b s x c)) [(0,true),(10,true)] 21 [msA k g f t i e a b s (.slice (some ⟨0, 0, none⟩) x.length 0), msA k g f t i e a b s (.slice (some ⟨1, 0, none⟩) x.length c)] [rowB (byteV x), ⟨false, none, byteV x⟩] =
  some ((.bool true, smRO k g f t i e a b s x c, 2), sameO 2 3 (smRO k g f t i e a b s x c) (.slice (some ⟨0, 0, none⟩) x.length 0) (.slice (some ⟨1, 0, none⟩) x.length c) k s) := by kernel_rfl
theorem smNN_run (k g f t i e a b : Int) (s : ByteArray) : evFnL Tryz.prog ext 300 (nmPre (frameTPre sameT)) (nbC [] [(26, true), (32, true)] (frameT sameT)) (sameL 0 1 (smNN k g f t i e a b s)) [(0,true),(10,true)] 21 [msA k g f t i e a b s (.slice none 0 0), msA k g f t i e a b s (.slice none 0 0)] [] =
  some ((.bool true, smNN k g f t i e a b s, 0), (frameTPre sameT 40 [.slice none 0 0, .slice none 0 0] [], true) :: (sameO 0 1 (smNN k g f t i e a b s) (.slice none 0 0) (.slice none 0 0) k s).tail) := by kernel_rfl
theorem smNG_run (k g f t i e a b : Int) (s : ByteArray) : evFnL Tryz.prog ext 300 (nmPre (frameTPre sameT)) (nbC [] [(26, true), (32, true)] (frameT sameT)) (sameL 0 1 (smNG k g f t i e a b s)) [(0,true),(10,true)] 21 [msA k g f t i e a b s (.slice none 0 0), msA k g f t i e a b s goneV] [] =
  some ((.bool true, smNG k g f t i e a b s, 0), sameO 0 1 (smNG k g f t i e a b s) (.slice none 0 0) goneV k s) := by kernel_rfl
theorem eq_nn_run : evFnL Tryz.prog ext 300 noPre noC noLoops [] 40 [.slice none 0 0, .slice none 0 0] [] = some ((.bool true, [], 0), []) := by kernel_rfl
theorem eq_ng_run : evFnL Tryz.prog ext 300 noPre noC noLoops [] 40 [.slice none 0 0, goneV] [] = some ((.bool true, [], 0), []) := by kernel_rfl
theorem eq_nn : CallOk Tryz.prog 40 [.slice none 0 0, .slice none 0 0] [] (.bool true) [] 0 := fnL_ok progOk extSound noC_sound noLoops_ok eq_nn_run (by simp [Holds])
theorem eq_ng : CallOk Tryz.prog 40 [.slice none 0 0, goneV] [] (.bool true) [] 0 := fnL_ok progOk extSound noC_sound noLoops_ok eq_ng_run (by simp [Holds])
theorem same_RO {k g f t i e a b : Int} {s : ByteArray} {x : List Nat} {c : Nat} (hne : x ≠ []) (hl : x.length ≤ 1000000) :
    CallOk Tryz.prog 21 [msA k g f t i e a b s (.slice (some ⟨0, 0, none⟩) x.length 0), msA k g f t i e a b s (.slice (some ⟨1, 0, none⟩) x.length c)] [rowB (byteV x), ⟨false, none, byteV x⟩] (.bool true) (smRO k g f t i e a b s x c) 2 :=
  fnL_ok progOk extSound (nb_sound _ _ (frameT_sound _)) (sm_loops (sm_loopRO hne)) (smRO_run k g f t i e a b s x c) (sameO_ok
    (frameT_ok [0, 1] (equal_ok (o := 0) (n := x.length) (c := 0) (c2 := c) (y := x) (z := x) (b1 := rowB (byteV x)) (b2 := ⟨false, none, byteV x⟩) rfl rfl rfl rfl (by omega) (by omega) hl rfl) (by exact ro_row hne (ro_row hne (ro_in rfl (ro_in rfl ro_nil)))) (by exact rf_row (rf_row rf_nil)))
    (frameT_ok [2, 0] (wr_nums (k := k) (g := g) (f := f) (t := t) (i := i) (e := e) (a := a) (b := b) (s := s) (D := .slice (some ⟨1, 0, none⟩) x.length 0) (X := rowB (byteV x))) (by exact ro_row hne (ro_row hne (ro_in rfl (ro_in rfl ro_nil)))) (by exact rf_in rfl (rf_row (rf_in rfl rf_nil)))))
theorem same_NN {k g f t i e a b : Int} {s : ByteArray} :
    CallOk Tryz.prog 21 [msA k g f t i e a b s (.slice none 0 0), msA k g f t i e a b s (.slice none 0 0)] [] (.bool true) (smNN k g f t i e a b s) 0 := by
  refine fnL_ok progOk extSound (nb_sound _ _ (frameT_sound _)) (sm_loops sm_loopNN) (smNN_run k g f t i e a b s) ?_
  have h0 : frameTPre sameT 40 [.slice none 0 0, .slice none 0 0] [] = true := frameT_ok [] eq_nn (by exact ro_nil) (by exact rf_nil) (by kernel_rfl) (by kernel_rfl)
  have h := sameO_ok (p := 0) (q := 1) (H := smNN k g f t i e a b s) (A := .slice none 0 0) (B := .slice none 0 0) (k := k) (s := s)
    (frameT_ok [] eq_nn (by exact ro_in rfl (ro_in rfl ro_nil)) (by exact rf_nil))
    (frameT_ok [0] (nums_ok_0 (k := k) (g := g) (f := f) (t := t) (i := i) (e := e) (a := a) (b := b) (s := s) (D := .slice none 0 0) (X := spB)) (by exact ro_in rfl (ro_in rfl ro_nil)) (by exact rf_in rfl (rf_in rfl rf_nil)))
  intro q hq
  rcases List.mem_cons.1 hq with rfl | hq
  · exact h0
  · exact h q (List.mem_of_mem_tail hq)
theorem same_NG {k g f t i e a b : Int} {s : ByteArray} :
    CallOk Tryz.prog 21 [msA k g f t i e a b s (.slice none 0 0), msA k g f t i e a b s goneV] [] (.bool true) (smNG k g f t i e a b s) 0 :=
  fnL_ok progOk extSound (nb_sound _ _ (frameT_sound _)) (sm_loops sm_loopNG) (smNG_run k g f t i e a b s) (sameO_ok
    (frameT_ok [] eq_ng (by exact ro_in rfl (ro_in rfl ro_nil)) (by exact rf_nil))
    (frameT_ok [0] (nums_ok_0 (k := k) (g := g) (f := f) (t := t) (i := i) (e := e) (a := a) (b := b) (s := s) (D := .slice none 0 0) (X := spB)) (by exact ro_in rfl (ro_in rfl ro_nil)) (by exact rf_in rfl (rf_in rfl rf_nil))))
end Go.Proofs.YtpgmabpaiijipaaGreatDoor
namespace Go.Proofs.YtpgmabpaiijipaaGreatDoor
open Go Den
set_option maxRecDepth 100000
set_option linter.unusedSimpArgs false
set_option linter.unusedVariables false
def grV (t : Int) (b n : Nat) : Value := .agg #[.int .i64 t, .slice (some ⟨b, 0, none⟩) n 0]
def grB (t : Int) (b n : Nat) : Blk := ⟨true, none, [.int .i64 t, .slice (some ⟨b, 0, none⟩) n 0]⟩
def grC (t : Int) (b n : Nat) : Blk := ⟨true, none, [.int .i64 t, .slice (some ⟨b, 0, none⟩) n 0, .int .i64 0, .slice none 0 0]⟩
def gr0 : Blk := ⟨true, none, [.int .i64 0, .slice none 0 0]⟩
def plV (b l c : Nat) : Value := .agg #[.int .i64 3, .slice (some ⟨b, 0, none⟩) l c]
def plB (b l c : Nat) : Blk := ⟨true, none, [.int .i64 3, .slice (some ⟨b, 0, none⟩) l c]⟩
def pl0 : Value := .agg #[.int .i64 3, .slice none 0 0]
def plB0 : Blk := ⟨true, none, [.int .i64 3, .slice none 0 0]⟩
def ptV (l : List Nat) (n : Nat) : Unit := ()
theorem new_run : evFnL Tryz.prog ext 300 noPre (evAll Tryz.prog ext 300 2) noLoops [] 16 [.int .i64 3] [] = some ((.tuple #[pl0, .int .i64 0], [plB0, plB0], 0), []) := by kernel_rfl
end Go.Proofs.YtpgmabpaiijipaaGreatDoor
namespace Go.Proofs.YtpgmabpaiijipaaGreatDoor
open Go Den
set_option maxRecDepth 100000
set_option linter.unusedSimpArgs false
set_option linter.unusedVariables false
theorem new_ok : CallOk Tryz.prog 16 [.int .i64 3] [] (.tuple #[pl0, .int .i64 0]) [plB0, plB0] 0 :=
  fnL_ok progOk extSound (plain_sound (evAll_sound progOk extSound 300 2)) noLoops_ok new_run (by simp [Holds])
theorem big_run (k g f t i e a b q : Int) (s : ByteArray) (p : Option Addr) (n c : Nat) (H : Heap) (h : H = [] ∨ ∃ X, H = [X]) : evFnL Tryz.prog ext 300 (nmPre noPre) (nbC [(9, q)] [] noC) noLoops [] 13 [msA k g f t i e a b s (.slice p n c)] H =
  some ((.bool (decide (q > 2000)), H ++ [msB k g f t i e a b s (.slice p n c)], H.length), [(decide (IntKind.wrap IntKind.i64 (((ByteArray.size s : Nat) : Int) + ((n : Nat) : Int)) = q), true)]) := by
  rcases h with rfl | ⟨X, rfl⟩
  · kernel_rfl
  · kernel_rfl
theorem big_ok {k g f t i e a b : Int} {s : ByteArray} {p : Option Addr} {n c : Nat} {H : Heap} (h : H = [] ∨ ∃ X, H = [X]) (hs : s.size ≤ 9000000000000000) (hn : n ≤ 9000000000000000) :
    CallOk Tryz.prog 13 [msA k g f t i e a b s (.slice p n c)] H (.bool (decide (s.size + n > 2000))) (H ++ [msB k g f t i e a b s (.slice p n c)]) H.length := by
  have ee : decide (s.size + n > 2000) = decide ((((s.size : Nat) : Int) + ((n : Nat) : Int)) > 2000) := by
    rw [decide_eq_decide]; omega
  rw [ee]
  refine fnL_ok progOk extSound (nb_sound _ _ noC_sound) noLoops_ok (big_run k g f t i e a b _ s p n c H h) ?_
  intro q hq
  simp only [List.mem_cons, List.not_mem_nil, or_false] at hq
  subst hq
  simp only [decide_eq_true_eq]
  exact wrap_i64 (by omega)
theorem good_run (t : Int) (n : Nat) (B : Blk) : evFnL Tryz.prog ext 300 (nmPre noPre) (nbC [] [(5, true), (9, true), (15, true), (21, true)] noC) noLoops [] 53 [grV t 0 n] [B] =
  some ((.bool true, [B, grB t 0 n], 1), [(decide (((n : Nat) : Int) ≤ 200), true), (decide (((n : Nat) : Int) > 0), true), (decide (t ≤ 1073741824), true), (decide (t ≥ 0), true)]) := by kernel_rfl
theorem good_ok {t n : Nat} {B : Blk} (ht : t ≤ 1073741824) (h0 : 0 < n) (hn : n ≤ 200) : CallOk Tryz.prog 53 [grV (t : Nat) 0 n] [B] (.bool true) [B, grB (t : Nat) 0 n] 1 := by
  refine fnL_ok progOk extSound (nb_sound _ _ noC_sound) noLoops_ok (good_run (t : Nat) n B) ?_
  intro q hq
  simp only [List.mem_cons, List.not_mem_nil, or_false] at hq
  rcases hq with rfl | rfl | rfl | rfl <;> simp only [decide_eq_true_eq] <;> omega
def gdT (t : Int) (n : Nat) : Nat → Tale := fun _ f _ Hs => match f with
  | 53 => some (.bool true, Hs ++ [grB t 0 n], Hs.length)
  | _ => none
theorem checkB_run (t : Int) (n : Nat) (y : List Nat) : evFnL Tryz.prog ext 300 (nmPre (frameTPre (gdT t n))) (nbC [] [] (frameT (gdT t n))) noLoops [(11,true)] 52 [plV 0 1 1] [grB t 1 n, rowB (byteV y)] =
  some ((.int .i64 0, [grB t 1 n, rowB (byteV y), plB 0 1 1], 2), [(frameTPre (gdT t n) 53 [grV t 1 n] [grB t 1 n, rowB (byteV y), plB 0 1 1], true)]) := by kernel_rfl
theorem checkC_run (t : Int) (n : Nat) (y : List Nat) : evFnL Tryz.prog ext 300 (nmPre (frameTPre (gdT t n))) (nbC [] [] (frameT (gdT t n))) noLoops [(11,true)] 52 [plV 0 1 2] [grC t 1 n, rowB (byteV y)] =
  some ((.int .i64 0, [grC t 1 n, rowB (byteV y), plB 0 1 2], 2), [(frameTPre (gdT t n) 53 [grV t 1 n] [grC t 1 n, rowB (byteV y), plB 0 1 2], true)]) := by kernel_rfl
theorem holds_one {b : Bool} (h : b = true) : Holds [(b, true)] := by
  intro q hq
  simp only [List.mem_cons, List.not_mem_nil, or_false] at hq
  subst hq
  exact h
theorem checkB_ok {t n : Nat} {y : List Nat} (ht : t ≤ 1073741824) (h0 : 0 < n) (hn : n ≤ 200) (hy : y ≠ []) : CallOk Tryz.prog 52 [plV 0 1 1] [grB (t : Nat) 1 n, rowB (byteV y)] (.int .i64 0) [grB (t : Nat) 1 n, rowB (byteV y), plB 0 1 1] 2 :=
  fnL_ok progOk extSound (nb_sound _ _ (frameT_sound _)) noLoops_ok (checkB_run (t : Nat) n y) (holds_one
    (frameT_ok [1] (good_ok (B := rowB (byteV y)) ht h0 hn) (by exact ro_in rfl (ro_row hy (ro_in rfl ro_nil))) (by exact rf_row (rf_in rfl rf_nil))))
theorem checkC_ok {t n : Nat} {y : List Nat} (ht : t ≤ 1073741824) (h0 : 0 < n) (hn : n ≤ 200) (hy : y ≠ []) : CallOk Tryz.prog 52 [plV 0 1 2] [grC (t : Nat) 1 n, rowB (byteV y)] (.int .i64 0) [grC (t : Nat) 1 n, rowB (byteV y), plB 0 1 2] 2 :=
  fnL_ok progOk extSound (nb_sound _ _ (frameT_sound _)) noLoops_ok (checkC_run (t : Nat) n y) (holds_one
    (frameT_ok [1] (good_ok (B := rowB (byteV y)) ht h0 hn) (by exact ro_in rfl (ro_row hy (ro_in rfl ro_nil))) (by exact rf_row (rf_in rfl rf_nil))))
def leT (y : List Nat) (n : Nat) : Nat → Tale := fun _ f _ _ => match f with
  | 51 => some (.slice (some ⟨2, 0, none⟩) n 0, [rowB (byteV y), ⟨true, none, []⟩, rowB (byteV y)], 1)
  | _ => none
noncomputable def leD : Code := hdC (sufC 1 (bodyOf Tryz.prog 55))
theorem letter_head (t : Int) (n : Nat) (y : List Nat) : evL Tryz.prog ext noPre noC noLoops 300 (ntOf Tryz.prog 55 1) (preC 1 (bodyOf Tryz.prog 55)) (Den.start 0 [grV t 0 n]) [rowB (byteV y)] 1 [] [1, 2] =
  some (.normal, [(1, .pointer (some ⟨1, 0, none⟩)), (2, .pointer (some ⟨2, 0, none⟩))], [rowB (byteV y), grB t 0 n, gr0], 1, []) := by kernel_rfl
theorem letter_perm (t : Int) (n : Nat) (y : List Nat) : (evPermS Tryz.prog ext (nmPre (frameTPre (leT y n))) (nbC [] [] (frameT (leT y n))) (ntOf Tryz.prog 55 1) (opsOf leD).toList (opsOf leD).toList.length (List.replicate (opsOf leD).toList.length false) ⟨⟨[(1, .pointer (some ⟨1, 0, none⟩)), (2, .pointer (some ⟨2, 0, none⟩))], [rowB (byteV y), grB t 0 n, gr0], 1⟩, [(0,true)], []⟩).map (fun L => L.map fun t => (pick t.s.F [2], t.s.H, t.s.lo, t.ob)) =
  some (List.replicate 10 ([(2, .pointer (some ⟨2, 0, none⟩))], [rowB (byteV y), grB t 0 n, grB t 3 n, rowB (byteV y)], 1, [(frameTPre (leT y n) 51 [.slice (some ⟨0, 0, none⟩) n 0] [rowB (byteV y), grB t 0 n, gr0], true)])) := by kernel_rfl
theorem letter_tail (n : Nat) (H : Heap) : evL Tryz.prog ext noPre noC noLoops 300 (ntOf Tryz.prog 55 1) (sufC 2 (bodyOf Tryz.prog 55)) [(2, .pointer (some ⟨2, 0, none⟩))] H 1 [] [2] = some (.ret, [(2, .pointer (some ⟨2, 0, none⟩))], H, 1, []) := by kernel_rfl
theorem letter_ok {t : Int} {n : Nat} {y : List Nat} (h0 : 0 < n) (hn : n ≤ 200) (hy : y.length = n) : CallOk Tryz.prog 55 [grV t 0 n] [rowB (byteV y)] (grV t 3 n) [rowB (byteV y), grB t 0 n, grB t 3 n, rowB (byteV y)] 1 := by
  have hne : y ≠ [] := by intro e; subst e; simp at hy; omega
  have hc := clone_ok (l := y) (o := true) (g := some 1) (c := 0) rfl hne (by omega)
  rw [hy] at hc
  refine CallOk.walk (n := 1) (x := .ret) (F' := [(2, .pointer (some ⟨2, 0, none⟩))]) (by kernel_rfl) rfl ?_ (.inr rfl) (by kernel_rfl)
  refine WP.runTo 1 (N := 300) (L := noLoops) progOk extSound noC_sound (by kernel_rfl) (LoopsOk.none (by kernel_rfl)) [1, 2] (letter_head t n y) (by simp [Holds]) ?_
  refine WP.cut (by kernel_rfl) (WP.permS progOk extSound (nb_sound _ _ (frameT_sound _)) (by kernel_rfl) [(0,true)] [2] 10 (letter_perm t n y) ?_ (Nat.le_refl _)) (WP.run (N := 300) (L := noLoops) progOk extSound noC_sound (by kernel_rfl) (LoopsOk.none (by kernel_rfl)) [2] (letter_tail n _) (by simp [Holds]))
  exact holds_one (frameT_ok [0] hc (by exact ro_row hne (ro_in rfl (ro_in rfl ro_nil))) (by exact rf_row (rf_in rfl (rf_row rf_nil))))
end Go.Proofs.YtpgmabpaiijipaaGreatDoor
namespace Go.Proofs.YtpgmabpaiijipaaGreatDoor
open Go Den
set_option maxRecDepth 100000
set_option linter.unusedSimpArgs false
set_option linter.unusedVariables false
def owT (t : Int) (n : Nat) (y : List Nat) : Nat → Tale := fun _ f _ _ => match f with
  | 55 => some (grV t 3 n, [rowB (byteV y), grB t 0 n, grB t 3 n, rowB (byteV y)], 1)
  | _ => none
def owH (t : Int) (n : Nat) (y : List Nat) (b : Blk) : Heap := [b, rowB (byteV y), plB 4 1 2, plB 4 1 2, grC t 6 n, grB t 1 n, rowB (byteV y), grB t 6 n]
def atT (t : Int) (n : Nat) (y : List Nat) (b : Blk) (c : Nat) : Nat → Tale := fun _ f _ _ => match f with
  | 52 => some (.int .i64 0, [b, rowB (byteV y), plB 0 1 c], 2)
  | 54 => some (plV 4 1 2, owH t n y b, 2)
  | _ => none
def ptB : Blk := ⟨true, none, [.int .i64 0]⟩
theorem holds_two {b c : Bool} (h : b = true) (k : c = true) : Holds [(b, true), (c, true)] := by
  intro q hq
  simp only [List.mem_cons, List.not_mem_nil, or_false] at hq
  rcases hq with rfl | rfl
  · exact h
  · exact k
theorem owned0_ok : CallOk Tryz.prog 54 [pl0] [] (plV 2 0 1) [plB 2 0 1, plB 2 0 1, gr0] 0 :=
  fnL_ok (N := 300) (L := noLoops) (os := []) (ob := []) progOk extSound noC_sound noLoops_ok (by kernel_rfl) (by simp [Holds])
theorem ownedB_run (t : Int) (n : Nat) (y : List Nat) : evFnL Tryz.prog ext 300 (nmPre (frameTPre (owT t n y))) (nbC [] [] (frameT (owT t n y))) noLoops [(1,true)] 54 [plV 0 1 1] [grB t 1 n, rowB (byteV y)] =
  some ((plV 4 1 2, owH t n y (grB t 1 n), 2), [(frameTPre (owT t n y) 55 [grV t 1 n] [grB t 1 n, rowB (byteV y), plB 0 1 1, gr0, ⟨true, none, [.int .i64 0, .slice none 0 0, .int .i64 0, .slice none 0 0]⟩, grB t 1 n], true)]) := by kernel_rfl
theorem ownedB_ok {t : Int} {n : Nat} {y : List Nat} (h0 : 0 < n) (hn : n ≤ 200) (hy : y.length = n) (hne : y ≠ []) : CallOk Tryz.prog 54 [plV 0 1 1] [grB t 1 n, rowB (byteV y)] (plV 4 1 2) (owH t n y (grB t 1 n)) 2 :=
  fnL_ok progOk extSound (nb_sound _ _ (frameT_sound _)) noLoops_ok (ownedB_run t n y) (holds_one
    (frameT_ok [1] (letter_ok (t := t) h0 hn hy) (by exact ro_in rfl (ro_row hne (ro_in rfl (ro_in rfl (ro_in rfl (ro_in rfl ro_nil)))))) (by exact rf_row (rf_in rfl (rf_in rfl (rf_row rf_nil))))))
theorem atB_run (t : Int) (n : Nat) (y : List Nat) : evFnL Tryz.prog ext 300 (nmPre (frameTPre (atT t n y (grB t 1 n) 1))) (nbC [] [] (frameT (atT t n y (grB t 1 n) 1))) noLoops [(0,true),(9,true)] 56 [plV 0 1 1, .slice (some ⟨1, 0, none⟩) 1 1] [grB t 2 n, ptB, rowB (byteV y)] =
  some ((.tuple #[plV 5 1 2, .int .i64 0], [grB t 2 n, ptB, rowB (byteV y), plB 0 1 1, plB 5 1 2, grC t 6 n, rowB (byteV y)], 3), [(frameTPre (atT t n y (grB t 1 n) 1) 54 [plV 0 1 1] [grB t 2 n, ptB, rowB (byteV y), plB 0 1 1, ⟨true, none, [.int .i64 0, .slice none 0 0]⟩], true), (frameTPre (atT t n y (grB t 1 n) 1) 52 [plV 0 1 1] [grB t 2 n, ptB, rowB (byteV y), plB 0 1 1, ⟨true, none, [.int .i64 0, .slice none 0 0]⟩], true)]) := by kernel_rfl
theorem atB_ok {t n : Nat} {y : List Nat} (ht : t ≤ 1073741824) (h0 : 0 < n) (hn : n ≤ 200) (hy : y.length = n) (hne : y ≠ []) :
    CallOk Tryz.prog 56 [plV 0 1 1, .slice (some ⟨1, 0, none⟩) 1 1] [grB (t : Nat) 2 n, ptB, rowB (byteV y)] (.tuple #[plV 5 1 2, .int .i64 0]) [grB (t : Nat) 2 n, ptB, rowB (byteV y), plB 0 1 1, plB 5 1 2, grC (t : Nat) 6 n, rowB (byteV y)] 3 :=
  fnL_ok progOk extSound (nb_sound _ _ (frameT_sound _)) noLoops_ok (atB_run (t : Nat) n y) (holds_two
    (frameT_ok [0, 2] (ownedB_ok (t := (t : Nat)) h0 hn hy hne) (by exact ro_in rfl (ro_in rfl (ro_row hne (ro_in rfl (ro_in rfl ro_nil))))) (by exact rf_in rfl (rf_row (rf_in rfl (rf_in rfl (rf_in rfl (rf_in rfl (rf_row (rf_in rfl rf_nil)))))))))
    (frameT_ok [0, 2] (checkB_ok (t := t) (n := n) (y := y) ht h0 hn hne) (by exact ro_in rfl (ro_in rfl (ro_row hne (ro_in rfl (ro_in rfl ro_nil))))) (by exact rf_in rfl (rf_row (rf_in rfl rf_nil)))))
theorem ownedC_run (t : Int) (n : Nat) (y : List Nat) : evFnL Tryz.prog ext 300 (nmPre (frameTPre (owT t n y))) (nbC [] [] (frameT (owT t n y))) noLoops [(1,true)] 54 [plV 0 1 2] [grC t 1 n, rowB (byteV y)] =
  some ((plV 4 1 2, owH t n y (grC t 1 n), 2), [(frameTPre (owT t n y) 55 [grV t 1 n] [grC t 1 n, rowB (byteV y), plB 0 1 2, gr0, ⟨true, none, [.int .i64 0, .slice none 0 0, .int .i64 0, .slice none 0 0]⟩, grB t 1 n], true)]) := by kernel_rfl
theorem ownedC_ok {t : Int} {n : Nat} {y : List Nat} (h0 : 0 < n) (hn : n ≤ 200) (hy : y.length = n) (hne : y ≠ []) : CallOk Tryz.prog 54 [plV 0 1 2] [grC t 1 n, rowB (byteV y)] (plV 4 1 2) (owH t n y (grC t 1 n)) 2 :=
  fnL_ok progOk extSound (nb_sound _ _ (frameT_sound _)) noLoops_ok (ownedC_run t n y) (holds_one
    (frameT_ok [1] (letter_ok (t := t) h0 hn hy) (by exact ro_in rfl (ro_row hne (ro_in rfl (ro_in rfl (ro_in rfl (ro_in rfl ro_nil)))))) (by exact rf_row (rf_in rfl (rf_in rfl (rf_row rf_nil))))))
theorem atC_run (t : Int) (n : Nat) (y : List Nat) : evFnL Tryz.prog ext 300 (nmPre (frameTPre (atT t n y (grC t 1 n) 2))) (nbC [] [] (frameT (atT t n y (grC t 1 n) 2))) noLoops [(0,true),(9,true)] 56 [plV 0 1 2, .slice (some ⟨1, 0, none⟩) 1 1] [grC t 2 n, ptB, rowB (byteV y)] =
  some ((.tuple #[plV 5 1 2, .int .i64 0], [grC t 2 n, ptB, rowB (byteV y), plB 0 1 2, plB 5 1 2, grC t 6 n, rowB (byteV y)], 3), [(frameTPre (atT t n y (grC t 1 n) 2) 54 [plV 0 1 2] [grC t 2 n, ptB, rowB (byteV y), plB 0 1 2, ⟨true, none, [.int .i64 0, .slice none 0 0]⟩], true), (frameTPre (atT t n y (grC t 1 n) 2) 52 [plV 0 1 2] [grC t 2 n, ptB, rowB (byteV y), plB 0 1 2, ⟨true, none, [.int .i64 0, .slice none 0 0]⟩], true)]) := by kernel_rfl
theorem atC_ok {t n : Nat} {y : List Nat} (ht : t ≤ 1073741824) (h0 : 0 < n) (hn : n ≤ 200) (hy : y.length = n) (hne : y ≠ []) :
    CallOk Tryz.prog 56 [plV 0 1 2, .slice (some ⟨1, 0, none⟩) 1 1] [grC (t : Nat) 2 n, ptB, rowB (byteV y)] (.tuple #[plV 5 1 2, .int .i64 0]) [grC (t : Nat) 2 n, ptB, rowB (byteV y), plB 0 1 2, plB 5 1 2, grC (t : Nat) 6 n, rowB (byteV y)] 3 :=
  fnL_ok progOk extSound (nb_sound _ _ (frameT_sound _)) noLoops_ok (atC_run (t : Nat) n y) (holds_two
    (frameT_ok [0, 2] (ownedC_ok (t := (t : Nat)) h0 hn hy hne) (by exact ro_in rfl (ro_in rfl (ro_row hne (ro_in rfl (ro_in rfl ro_nil))))) (by exact rf_in rfl (rf_row (rf_in rfl (rf_in rfl (rf_in rfl (rf_in rfl (rf_row (rf_in rfl rf_nil)))))))))
    (frameT_ok [0, 2] (checkC_ok (t := t) (n := n) (y := y) ht h0 hn hne) (by exact ro_in rfl (ro_in rfl (ro_row hne (ro_in rfl (ro_in rfl ro_nil))))) (by exact rf_in rfl (rf_row (rf_in rfl rf_nil)))))
end Go.Proofs.YtpgmabpaiijipaaGreatDoor
namespace Go.Proofs.YtpgmabpaiijipaaGreatDoor
open Go Den
set_option maxRecDepth 100000
set_option linter.unusedSimpArgs false
set_option linter.unusedVariables false
def spT (t : Int) (n : Nat) (y : List Nat) : Nat → Tale := fun _ f _ _ => match f with
  | 56 => some (.tuple #[plV 5 1 2, .int .i64 0], [grB t 2 n, ptB, rowB (byteV y), plB 0 1 1, plB 5 1 2, grC t 6 n, rowB (byteV y)], 3)
  | _ => none
noncomputable def spOb (t bit q i x k m z : Int) (n : Nat) (y : List Nat) : Obs :=
  [(live (rowB (byteV y)) && ((rowB (byteV y)).own && decide (0 + i.toNat + 1 ≤ (byteV y).length)), true), (decide (0 ≤ i ∧ i < (n : Int)), true),
   (decide (IntKind.wrap .u8 ((BitVec.toNat (BitVec.ofInt (IntKind.bits .u8) x ^^^ BitVec.ofInt (IntKind.bits .u8) m) : Nat) : Int) = z), true),
   (decide (IntKind.wrap .u8 (1 * 2 ^ (min k.toNat (IntKind.bits .u8))) = m), true), (decide (k < 0), false),
   (decide (IntKind.wrap .i64 ((BitVec.toNat (BitVec.ofInt (IntKind.bits .i64) bit &&& BitVec.ofInt (IntKind.bits .i64) 7) : Nat) : Int) = k), true),
   (decide (intAt (byteV y) (0 + i.toNat) = x), true), (live (rowB (byteV y)) && isIntAt .u8 (byteV y) (0 + i.toNat), true), (decide (0 ≤ i ∧ i < (n : Int)), true),
   (decide (Int.fdiv bit (2 ^ min (Int.toNat 3) (IntKind.bits .i64)) = i), true), (decide (bit ≥ q), false), (decide (IntKind.wrap .i64 (8 * (n : Int)) = q), true), (decide (bit < 0), false),
   (frameTPre (spT t n y) 56 [plV 0 1 1, .slice (some ⟨4, 0, none⟩) 1 1] [grB t 1 n, rowB (byteV y), plB 0 1 1, ⟨true, none, [.int .i64 0, .slice none 0 0]⟩, ptB], true)]
theorem spoil_run (t bit q i x k m z : Int) (n : Nat) (y : List Nat) : evFnL Tryz.prog ext 300 (nmPre (symPre [42, 45, 51] (frameTPre (spT t n y)))) (nbC [(33,q),(44,i),(46,x),(48,k),(49,m),(50,z)] [(23,false),(34,false)] (frameT (spT t n y))) noLoops [(0,true),(13,true),(0,true),(0,false),(0,true),(0,true)] 18 [plV 0 1 1, .int .i64 0, .int .i64 bit] [grB t 1 n, rowB (byteV y)] =
  some ((.tuple #[plV 5 1 2, .int .i64 0], [grB t 1 n, rowB (byteV y), plB 5 1 2, plB 5 1 2, ptB, grC t 6 n, rowB (splice (byteV y) (0 + i.toNat) [.int .u8 z])], 2), spOb t bit q i x k m z n y) := by kernel_rfl
theorem splice_set {y : List Nat} {i z : Nat} (h : i < y.length) : splice (byteV y) i [.int .u8 (z : Int)] = byteV (y.set i z) := by
  unfold splice byteV
  rw [List.set_eq_take_append_cons_drop, if_pos h]
  simp
theorem pow8 (k : Nat) (h : k < 8) : IntKind.wrap .u8 (1 * 2 ^ (min (Int.toNat (k : Int)) (IntKind.bits .u8))) = ((2 ^ k : Nat) : Int) := by
  match k, h with
  | 0, _ | 1, _ | 2, _ | 3, _ | 4, _ | 5, _ | 6, _ | 7, _ => decide
def turn (y : List Nat) (b : Nat) : List Nat := y.set (b / 8) (y.getD (b / 8) 0 ^^^ 2 ^ (b % 8))
theorem spoil_ok {t n b : Nat} {y : List Nat} (ht : t ≤ 1073741824) (h0 : 0 < n) (hn : n ≤ 200) (hy : y.length = n) (hb8 : ∀ x ∈ y, x < 256) (hb : b < 8 * n) :
    CallOk Tryz.prog 18 [plV 0 1 1, .int .i64 0, .int .i64 (b : Nat)] [grB (t : Nat) 1 n, rowB (byteV y)] (.tuple #[plV 5 1 2, .int .i64 0]) [grB (t : Nat) 1 n, rowB (byteV y), plB 5 1 2, plB 5 1 2, ptB, grC (t : Nat) 6 n, rowB (byteV (turn y b))] 2 := by
  have hne : y ≠ [] := by intro e; subst e; simp at hy; omega
  have hi : b / 8 < y.length := by omega
  have hg : y[b / 8]? = some (y.getD (b / 8) 0) := by
    rw [List.getD_eq_getElem?_getD, List.getElem?_eq_getElem hi]; rfl
  have hx : y.getD (b / 8) 0 < 256 := hb8 _ (List.mem_of_getElem? hg)
  have hk : b % 8 < 8 := Nat.mod_lt _ (by decide)
  have hp : 2 ^ (b % 8) < 256 := Nat.pow_lt_pow_right (by decide) (n := 8) hk
  obtain ⟨g1, g2⟩ := byteV_get hg
  have hr := spoil_run (t : Nat) (b : Nat) ((8 * n : Nat) : Int) ((b / 8 : Nat) : Int) ((y.getD (b / 8) 0 : Nat) : Int) ((b % 8 : Nat) : Int) ((2 ^ (b % 8) : Nat) : Int) ((y.getD (b / 8) 0 ^^^ 2 ^ (b % 8) : Nat) : Int) n y
  rw [Int.toNat_natCast, Nat.zero_add, splice_set hi] at hr
  refine fnL_ok progOk extSound (nb_sound _ _ (sym_sound _ (frameT_sound _))) noLoops_ok hr ?_
  intro p hpm
  simp only [spOb, Int.toNat_natCast, Nat.zero_add, List.mem_cons, List.not_mem_nil, or_false] at hpm
  rcases hpm with rfl | rfl | rfl | rfl | rfl | rfl | rfl | rfl | rfl | rfl | rfl | rfl | rfl | rfl
  · simp [rowB, live, byteV]; omega
  · simp only [decide_eq_true_eq]; omega
  · simp only [decide_eq_true_eq]
    have e0 : IntKind.bits .u8 = 8 := rfl
    rw [e0, BitVec.toNat_xor, ofInt_nat, ofInt_nat, Nat.mod_eq_of_lt (show _ < 2 ^ 8 from hx), Nat.mod_eq_of_lt (show _ < 2 ^ 8 from hp)]
    exact wrap_u8 (Crc.xor_lt256 hx hp)
  · simp only [decide_eq_true_eq]; exact pow8 _ hk
  · simp only [decide_eq_false_iff_not]; omega
  · simp only [decide_eq_true_eq]
    have e0 : IntKind.bits .i64 = 64 := rfl
    have e7 : BitVec.toNat (BitVec.ofInt 64 7) = 2 ^ 3 - 1 := by decide
    rw [e0, BitVec.toNat_and, ofInt_nat, e7, Nat.and_two_pow_sub_one_eq_mod, wrap_i64 (by omega)]
    have : (2 : Nat) ^ 64 = 18446744073709551616 := by decide
    rw [this]
    omega
  · simp only [decide_eq_true_eq]; exact g2
  · simp only [g1]; rfl
  · simp only [decide_eq_true_eq]; omega
  · simp only [decide_eq_true_eq]
    have : (2 : Int) ^ min (Int.toNat 3) (IntKind.bits .i64) = 8 := by decide
    rw [this, Int.fdiv_eq_ediv_of_nonneg _ (by omega)]
    rfl
  · simp only [decide_eq_false_iff_not]; omega
  · simp only [decide_eq_true_eq]; rw [wrap_i64 (by omega)]; rfl
  · simp only [decide_eq_false_iff_not]; omega
  · exact tok (frameT_ok [0, 4, 1] (atB_ok ht h0 hn hy hne) (by exact ro_in rfl (ro_row hne (ro_in rfl (ro_in rfl (ro_in rfl ro_nil))))) (by exact rf_in rfl (rf_in rfl (rf_row (rf_in rfl (rf_in rfl (rf_in rfl (rf_row rf_nil))))))))
end Go.Proofs.YtpgmabpaiijipaaGreatDoor
namespace Go.Proofs.YtpgmabpaiijipaaGreatDoor
open Go Den
set_option maxRecDepth 100000
set_option linter.unusedSimpArgs false
set_option linter.unusedVariables false
def gr2 : Blk := ⟨true, none, [.int .i64 0, .slice none 0 0, .int .i64 0, .slice none 0 0]⟩
theorem delete_run (t : Int) (n : Nat) (B : Blk) : evFnL Tryz.prog ext 300 noPre noC noLoops [] 57 [.slice (some ⟨0, 0, none⟩) 1 2, .int .i64 0, .int .i64 1] [grC t 1 n, B] =
  some ((.slice (some ⟨0, 0, none⟩) 0 2, [gr2, B], 0), []) := by kernel_rfl
theorem delete_ok {t : Int} {n : Nat} {B : Blk} : CallOk Tryz.prog 57 [.slice (some ⟨0, 0, none⟩) 1 2, .int .i64 0, .int .i64 1] [grC t 1 n, B] (.slice (some ⟨0, 0, none⟩) 0 2) [gr2, B] 0 :=
  fnL_ok progOk extSound noC_sound noLoops_ok (delete_run t n B) (by simp [Holds])
def taT (t : Int) (n : Nat) (y : List Nat) (b : Blk) (c : Nat) : Nat → Tale := fun _ f _ _ => match f with
  | 56 => some (.tuple #[plV 5 1 2, .int .i64 0], [b, ptB, rowB (byteV y), plB 0 1 c, plB 5 1 2, grC t 6 n, rowB (byteV y)], 3)
  | 57 => some (.slice (some ⟨0, 0, none⟩) 0 2, [gr2, rowB (byteV y)], 0)
  | _ => none
noncomputable def taD : Code := hdC (sufC 5 (bodyOf Tryz.prog 19))
def taF : Slots := [(2, .pointer (some ⟨2, 0, none⟩)), (4, .pointer (some ⟨3, 0, none⟩)), (5, .pointer (some ⟨4, 0, none⟩)), (8, .pointer (some ⟨8, 0, none⟩))]
def taE : Slots := [(4, .pointer (some ⟨3, 0, none⟩)), (5, .pointer (some ⟨4, 0, none⟩)), (6, .int .i64 0)]
def taH (t : Int) (n : Nat) (y : List Nat) (b p g : Blk) : Heap := [b, rowB (byteV y), plB 6 0 2, p, g, ptB, gr2, rowB (byteV y), grB t 7 n]
theorem take_perm (t : Int) (n : Nat) (y : List Nat) (b : Blk) : (evPermS Tryz.prog ext noPre noC (ntOf Tryz.prog 19 2) (opsOf taD).toList (opsOf taD).toList.length (List.replicate (opsOf taD).toList.length false) ⟨⟨taF, taH t n y b gr0 gr0, 2⟩, [], []⟩).map (fun L => L.map fun t => (pick t.s.F [4, 5, 6], t.s.H, t.s.lo, t.ob)) =
  some (List.replicate 3 (taE, taH t n y b (plB 6 0 2) (grB t 7 n), 2, [])) := by kernel_rfl
theorem take_tail (H : Heap) : evL Tryz.prog ext noPre noC noLoops 300 (ntOf Tryz.prog 19 2) (sufC 6 (bodyOf Tryz.prog 19)) taE H 2 [] [4, 5, 6] = some (.ret, taE, H, 2, []) := by kernel_rfl
theorem takeB_head (t : Int) (n : Nat) (y : List Nat) : evL Tryz.prog ext (nmPre (frameTPre (taT t n y (grB t 2 n) 1))) (nbC [] [] (frameT (taT t n y (grB t 2 n) 1))) noLoops 300 (ntOf Tryz.prog 19 2) (preC 5 (bodyOf Tryz.prog 19)) (Den.start 0 [plV 0 1 1, .int .i64 0]) [grB t 1 n, rowB (byteV y)] 2 [(0,true),(1,true)] [2, 4, 5, 8] =
  some (.normal, taF, taH t n y (grB t 1 n) gr0 gr0, 2, [(frameTPre (taT t n y (grB t 2 n) 1) 57 [.slice (some ⟨6, 0, none⟩) 1 2, .int .i64 0, .int .i64 1] [grB t 1 n, rowB (byteV y), plB 6 1 2, gr0, gr0, ptB, grC t 7 n, rowB (byteV y), grB t 7 n], true),
    (frameTPre (taT t n y (grB t 2 n) 1) 56 [plV 0 1 1, .slice (some ⟨5, 0, none⟩) 1 1] [grB t 1 n, rowB (byteV y), plB 0 1 1, gr0, gr0, ptB], true)]) := by kernel_rfl
theorem takeB_ok {t n : Nat} {y : List Nat} (ht : t ≤ 1073741824) (h0 : 0 < n) (hn : n ≤ 200) (hy : y.length = n) :
    CallOk Tryz.prog 19 [plV 0 1 1, .int .i64 0] [grB (t : Nat) 1 n, rowB (byteV y)] (.tuple #[plV 6 0 2, grV (t : Nat) 7 n, .int .i64 0]) (taH (t : Nat) n y (grB (t : Nat) 1 n) (plB 6 0 2) (grB (t : Nat) 7 n)) 2 := by
  have hne : y ≠ [] := by intro e; subst e; simp at hy; omega
  refine CallOk.walk (n := 2) (x := .ret) (F' := taE) (by kernel_rfl) rfl ?_ (.inr rfl) (by kernel_rfl)
  refine WP.runTo 5 (N := 300) (L := noLoops) progOk extSound (nb_sound _ _ (frameT_sound _)) (by kernel_rfl) (LoopsOk.none (by kernel_rfl)) [2, 4, 5, 8] (takeB_head (t : Nat) n y) (holds_two
    (frameT_ok [6, 7] (delete_ok (t := (t : Nat)) (n := n) (B := rowB (byteV y))) (by exact ro_in rfl (ro_row hne (ro_in rfl (ro_in rfl (ro_in rfl (ro_in rfl (ro_in rfl (ro_row hne (ro_in rfl ro_nil))))))))) (by exact rf_in rfl (rf_row rf_nil)))
    (frameT_ok [0, 5, 1] (atB_ok ht h0 hn hy hne) (by exact ro_in rfl (ro_row hne (ro_in rfl (ro_in rfl (ro_in rfl (ro_in rfl ro_nil)))))) (by exact rf_in rfl (rf_in rfl (rf_row (rf_in rfl (rf_in rfl (rf_in rfl (rf_row rf_nil))))))))) ?_
  exact WP.cut (by kernel_rfl) (WP.permS progOk extSound noC_sound (by kernel_rfl) [] [4, 5, 6] 3 (take_perm (t : Nat) n y _) (by simp [Holds]) (Nat.le_refl _)) (WP.run (N := 300) (L := noLoops) progOk extSound noC_sound (by kernel_rfl) (LoopsOk.none (by kernel_rfl)) [4, 5, 6] (take_tail _) (by simp [Holds]))
theorem takeC_head (t : Int) (n : Nat) (y : List Nat) : evL Tryz.prog ext (nmPre (frameTPre (taT t n y (grC t 2 n) 2))) (nbC [] [] (frameT (taT t n y (grC t 2 n) 2))) noLoops 300 (ntOf Tryz.prog 19 2) (preC 5 (bodyOf Tryz.prog 19)) (Den.start 0 [plV 0 1 2, .int .i64 0]) [grC t 1 n, rowB (byteV y)] 2 [(0,true),(1,true)] [2, 4, 5, 8] =
  some (.normal, taF, taH t n y (grC t 1 n) gr0 gr0, 2, [(frameTPre (taT t n y (grC t 2 n) 2) 57 [.slice (some ⟨6, 0, none⟩) 1 2, .int .i64 0, .int .i64 1] [grC t 1 n, rowB (byteV y), plB 6 1 2, gr0, gr0, ptB, grC t 7 n, rowB (byteV y), grB t 7 n], true),
    (frameTPre (taT t n y (grC t 2 n) 2) 56 [plV 0 1 2, .slice (some ⟨5, 0, none⟩) 1 1] [grC t 1 n, rowB (byteV y), plB 0 1 2, gr0, gr0, ptB], true)]) := by kernel_rfl
theorem takeC_ok {t n : Nat} {y : List Nat} (ht : t ≤ 1073741824) (h0 : 0 < n) (hn : n ≤ 200) (hy : y.length = n) :
    CallOk Tryz.prog 19 [plV 0 1 2, .int .i64 0] [grC (t : Nat) 1 n, rowB (byteV y)] (.tuple #[plV 6 0 2, grV (t : Nat) 7 n, .int .i64 0]) (taH (t : Nat) n y (grC (t : Nat) 1 n) (plB 6 0 2) (grB (t : Nat) 7 n)) 2 := by
  have hne : y ≠ [] := by intro e; subst e; simp at hy; omega
  refine CallOk.walk (n := 2) (x := .ret) (F' := taE) (by kernel_rfl) rfl ?_ (.inr rfl) (by kernel_rfl)
  refine WP.runTo 5 (N := 300) (L := noLoops) progOk extSound (nb_sound _ _ (frameT_sound _)) (by kernel_rfl) (LoopsOk.none (by kernel_rfl)) [2, 4, 5, 8] (takeC_head (t : Nat) n y) (holds_two
    (frameT_ok [6, 7] (delete_ok (t := (t : Nat)) (n := n) (B := rowB (byteV y))) (by exact ro_in rfl (ro_row hne (ro_in rfl (ro_in rfl (ro_in rfl (ro_in rfl (ro_in rfl (ro_row hne (ro_in rfl ro_nil))))))))) (by exact rf_in rfl (rf_row rf_nil)))
    (frameT_ok [0, 5, 1] (atC_ok ht h0 hn hy hne) (by exact ro_in rfl (ro_row hne (ro_in rfl (ro_in rfl (ro_in rfl (ro_in rfl ro_nil)))))) (by exact rf_in rfl (rf_in rfl (rf_row (rf_in rfl (rf_in rfl (rf_in rfl (rf_row rf_nil))))))))) ?_
  exact WP.cut (by kernel_rfl) (WP.permS progOk extSound noC_sound (by kernel_rfl) [] [4, 5, 6] 3 (take_perm (t : Nat) n y _) (by simp [Holds]) (Nat.le_refl _)) (WP.run (N := 300) (L := noLoops) progOk extSound noC_sound (by kernel_rfl) (LoopsOk.none (by kernel_rfl)) [4, 5, 6] (take_tail _) (by simp [Holds]))
end Go.Proofs.YtpgmabpaiijipaaGreatDoor
namespace Go.Proofs.YtpgmabpaiijipaaGreatDoor
open Go Den
set_option maxRecDepth 100000
set_option linter.unusedSimpArgs false
set_option linter.unusedVariables false
def seT (t : Int) (n : Nat) (y : List Nat) : Nat → Tale := fun _ f _ Hs => match f with
  | 52 => some (.int .i64 0, [plB0], 0)
  | 53 => some (.bool true, [rowB (byteV y), grB t 0 n], 1)
  | 54 => some (plV 2 0 1, [plB 2 0 1, plB 2 0 1, gr0], 0)
  | 55 => some (grV t 3 n, [rowB (byteV y), grB t 0 n, grB t 3 n, rowB (byteV y)], 1)
  | _ => none
def seF (j : Int) : Slots := [(2, .pointer (some ⟨2, 0, none⟩)), (4, .pointer (some ⟨3, 0, none⟩)), (9, .int .i64 1), (40, .slice (some ⟨0, 0, none⟩) 1 1), (41, .int .i64 1), (42, .int .i64 j)]
def seF2 (j : Int) : Slots := (11, .pointer (some ⟨6, 0, none⟩)) :: seF j
def seF1 : Slots := [(2, .pointer (some ⟨2, 0, none⟩)), (4, .pointer (some ⟨3, 0, none⟩)), (9, .int .i64 1)]
def seH0 (t : Int) (n : Nat) (y : List Nat) : Heap := [grB t 1 n, rowB (byteV y), plB 5 0 1, gr0, grB t 1 n, gr0]
def seHm (t : Int) (n : Nat) (y : List Nat) : Heap := [grB t 1 n, rowB (byteV y), plB 5 0 1, gr0, grB t 1 n, gr0, grB t 1 n]
def seH1 (t : Int) (n : Nat) (y : List Nat) (r : Blk) : Heap := [grB t 1 n, rowB (byteV y), plB 5 1 1, r, grB t 1 n, grB t 7 n, grB t 1 n, rowB (byteV y), grB t 7 n]
noncomputable def seB : Code := loopAt Tryz.prog 17 1
noncomputable def seD : Code := tlC (inC (hdC (sufC 2 seB)))
theorem se_a (t : Int) (n : Nat) (y : List Nat) : evL Tryz.prog ext noPre noC noLoops 300 (ntOf Tryz.prog 17 2) (preC 2 seB) (seF 0) (seH0 t n y) 2 [] [2, 4, 9, 40, 41, 42] = some (.normal, seF 0, seH0 t n y, 2, []) := by kernel_rfl
theorem se_b (t : Int) (n : Nat) (y : List Nat) : evL Tryz.prog ext noPre noC noLoops 300 (ntOf Tryz.prog 17 2) (hdC (inC (hdC (sufC 2 seB)))) (seF 0) (seH0 t n y) 2 [] [11, 2, 4, 9, 40, 41, 42] = some (.normal, seF2 0, seHm t n y, 2, []) := by kernel_rfl
theorem se_c (H : Heap) : evL Tryz.prog ext noPre noC noLoops 300 (ntOf Tryz.prog 17 2) (tlC (sufC 2 seB)) (seF 0) H 2 [] [2, 4, 9, 40, 41, 42] = some (.normal, seF 1, H, 2, []) := by kernel_rfl
theorem se_out (H : Heap) : evL Tryz.prog ext noPre noC noLoops 300 (ntOf Tryz.prog 17 2) seB (seF 1) H 2 [] [2, 4, 9] = some (.exit 2, seF1, H, 2, []) := by kernel_rfl
theorem se_perm (t : Int) (n : Nat) (y : List Nat) : (evPermS Tryz.prog ext (nmPre (frameTPre (seT t n y))) (nbC [] [] (frameT (seT t n y))) (ntOf Tryz.prog 17 2) (opsOf seD).toList (opsOf seD).toList.length (List.replicate (opsOf seD).toList.length false) ⟨⟨seF2 0, seHm t n y, 2⟩, [(0,true)], []⟩).map (fun L => L.map fun t => (pick t.s.F [2, 4, 9, 40, 41, 42], t.s.H, t.s.lo, t.ob)) =
  some (List.replicate 10 (seF 0, seH1 t n y gr0, 2, [(frameTPre (seT t n y) 55 [grV t 1 n] (seHm t n y), true)])) := by kernel_rfl
theorem se_loop {t n : Nat} {y : List Nat} (h0 : 0 < n) (hn : n ≤ 200) (hy : y.length = n) (hne : y ≠ []) : WP Tryz.prog (ntOf Tryz.prog 17 2) (.loop seB) ⟨seF 0, seH0 (t : Nat) n y, 2⟩ (.exit 2) ⟨seF1, seH1 (t : Nat) n y gr0, 2⟩ := by
  refine WP.loop (P := Tryz.prog) (nt := ntOf Tryz.prog 17 2) (b := seB) (fun j => match j with | 0 => ⟨seF 0, seH0 (t : Nat) n y, 2⟩ | _ => ⟨seF 1, seH1 (t : Nat) n y gr0, 2⟩) 1 (x := .exit 2) (by simp) ?_
    (WP.run (N := 300) (L := noLoops) progOk extSound noC_sound (by kernel_rfl) (LoopsOk.none (by kernel_rfl)) [2, 4, 9] (se_out _) (by simp [Holds]))
  intro j hj
  obtain rfl : j = 0 := by omega
  refine WP.runTo 2 (N := 300) (L := noLoops) progOk extSound noC_sound (by kernel_rfl) (LoopsOk.none (by kernel_rfl)) [2, 4, 9, 40, 41, 42] (se_a (t : Nat) n y) (by simp [Holds]) ?_
  refine WP.cut (s1 := ⟨seF 0, seH1 (t : Nat) n y gr0, 2⟩) (by kernel_rfl) (WP.inB (by kernel_rfl) (.inl rfl) (WP.cut (by kernel_rfl)
    (WP.run (N := 300) (L := noLoops) progOk extSound noC_sound (by kernel_rfl) (LoopsOk.none (by kernel_rfl)) [11, 2, 4, 9, 40, 41, 42] (se_b (t : Nat) n y) (by simp [Holds]))
    (WP.permS progOk extSound (nb_sound _ _ (frameT_sound _)) (by kernel_rfl) [(0,true)] [2, 4, 9, 40, 41, 42] 10 (se_perm (t : Nat) n y) ?_ (Nat.le_refl _))))
    (WP.run (N := 300) (L := noLoops) progOk extSound noC_sound (by kernel_rfl) (LoopsOk.none (by kernel_rfl)) [2, 4, 9, 40, 41, 42] (se_c _) (by simp [Holds]))
  exact holds_one (frameT_ok [1] (letter_ok (t := (t : Nat)) h0 hn hy) (by exact ro_in rfl (ro_row hne (ro_in rfl (ro_in rfl (ro_in rfl (ro_in rfl (ro_in rfl ro_nil))))))) (by exact rf_row (rf_in rfl (rf_in rfl (rf_row rf_nil)))))
noncomputable def seL (t : Int) (n : Nat) (y : List Nat) : Loops := { loop := sumL 12 ⟨seF 0, seH0 t n y, 2⟩ (.exit 2) ⟨seF1, seH1 t n y gr0, 2⟩ }
theorem send_run (t : Int) (n : Nat) (y : List Nat) : evFnL Tryz.prog ext 300 (nmPre (frameTPre (seT t n y))) (nbC [] [] (frameT (seT t n y))) (seL t n y) [(0,true),(2,true),(2,true)] 17 [pl0, .slice (some ⟨0, 0, none⟩) 1 1] [grB t 1 n, rowB (byteV y)] =
  some ((.tuple #[plV 5 1 1, .int .i64 1, .int .i64 0], seH1 t n y (plB 5 1 1), 2), [(cdec (seF 0 = seF 0), true), (cdec (seH0 t n y = seH0 t n y), true), (cdec ((2 : Nat) = 2), true),
    (frameTPre (seT t n y) 54 [pl0] [grB t 1 n, rowB (byteV y), plB0, gr0, grB t 1 n], true), (frameTPre (seT t n y) 53 [grV t 1 n] [grB t 1 n, rowB (byteV y), plB0, gr0, grB t 1 n], true), (frameTPre (seT t n y) 52 [pl0] [], true)]) := by kernel_rfl
theorem check0_ok : CallOk Tryz.prog 52 [pl0] [] (.int .i64 0) [plB0] 0 :=
  fnL_ok (N := 300) (L := noLoops) (os := []) (ob := []) progOk extSound noC_sound noLoops_ok (by kernel_rfl) (by simp [Holds])
theorem send_ok {t n : Nat} {y : List Nat} (ht : t ≤ 1073741824) (h0 : 0 < n) (hn : n ≤ 200) (hy : y.length = n) :
    CallOk Tryz.prog 17 [pl0, .slice (some ⟨0, 0, none⟩) 1 1] [grB (t : Nat) 1 n, rowB (byteV y)] (.tuple #[plV 5 1 1, .int .i64 1, .int .i64 0]) (seH1 (t : Nat) n y (plB 5 1 1)) 2 := by
  have hne : y ≠ [] := by intro e; subst e; simp at hy; omega
  refine fnL_ok progOk extSound (nb_sound _ _ (frameT_sound _)) (LoopsOk.sum (hL := rfl) ?_) (send_run (t : Nat) n y) ?_
  · intro b' hb' hid
    have e : loopsOf (bodyOf Tryz.prog 17) = [loopAt Tryz.prog 17 0, seB] := by kernel_rfl
    rw [e] at hb'
    simp only [List.mem_cons, List.not_mem_nil, or_false] at hb'
    rcases hb' with rfl | rfl
    · have e0 : firstId (loopAt Tryz.prog 17 0) = 4 := by kernel_rfl
      rw [e0] at hid
      exact absurd hid (by decide)
    · exact se_loop h0 hn hy hne
  · intro q hq
    simp only [List.mem_cons, List.not_mem_nil, or_false] at hq
    rcases hq with rfl | rfl | rfl | rfl | rfl | rfl
    · simp [cdec]
    · simp [cdec]
    · simp [cdec]
    · exact tok (frameT_ok [] owned0_ok (by exact ro_in rfl (ro_row hne (ro_in rfl (ro_in rfl (ro_in rfl ro_nil))))) (by exact rf_in rfl (rf_in rfl (rf_in rfl rf_nil))))
    · exact tok (frameT_ok [1] (good_ok (B := rowB (byteV y)) ht h0 hn) (by exact ro_in rfl (ro_row hne (ro_in rfl (ro_in rfl (ro_in rfl ro_nil))))) (by exact rf_row (rf_in rfl rf_nil)))
    · exact tok (frameT_ok [] check0_ok (by exact ro_nil) (by exact rf_in rfl rf_nil))
end Go.Proofs.YtpgmabpaiijipaaGreatDoor
namespace Go.Proofs.YtpgmabpaiijipaaGreatDoor
open Go Den
set_option maxRecDepth 100000
set_option linter.unusedSimpArgs false
set_option linter.unusedVariables false
def msA0 : Value := msA 0 0 0 0 0 0 0 0 (ByteArray.mk #[]) (.slice none 0 0)
def msB0 : Blk := msB 0 0 0 0 0 0 0 0 (ByteArray.mk #[]) (.slice none 0 0)
abbrev Told := Option (Value × Heap × Nat)
def sendV (t : Int) (n : Nat) (z : List Nat) : Told := some (.tuple #[plV 5 1 1, .int .i64 1, .int .i64 0], seH1 t n z (plB 5 1 1), 2)
def spoilV (t : Int) (n : Nat) (z w : List Nat) : Told := some (.tuple #[plV 5 1 2, .int .i64 0], [grB t 1 n, rowB (byteV z), plB 5 1 2, plB 5 1 2, ptB, grC t 6 n, rowB (byteV w)], 2)
def takeV (t : Int) (n : Nat) (y : List Nat) (b : Blk) : Told := some (.tuple #[plV 6 0 2, grV t 7 n, .int .i64 0], taH t n y b (plB 6 0 2) (grB t 7 n), 2)
def openV (z : List Nat) (m : Nat) : Told := some (.tuple #[.slice (some ⟨1, 0, none⟩) m 0, .int .i64 0], [rowB (byteV z), rowB (byteV (z.take m))], 1)
def badV (w : List Nat) : Told := some (.tuple #[msA0, .int .i64 30], [rowB (byteV w), msB0], 1)
def tpT (bv : Bool) (ms : Blk) (wv rv sv : Told) (A B : Nat) (t : Int) (m : Nat) (z w : List Nat) : Nat → Tale := fun n f _ Hs => match f with
  | 5 => some (.bool true, [], 0)
  | 13 => some (.bool bv, Hs ++ [ms], Hs.length)
  | 14 => wv
  | 15 => openV z m
  | 16 => some (.tuple #[pl0, .int .i64 0], [plB0, plB0], 0)
  | 17 => sendV t (m + 4) z
  | 18 => spoilV t (m + 4) z w
  | 19 => match Nat.beq n A with
    | true => takeV t (m + 4) z (grB t 1 (m + 4))
    | false => takeV t (m + 4) w (grC t 1 (m + 4))
  | 20 => match Nat.beq n B with
    | true => rv
    | false => badV w
  | 21 => sv
  | _ => none
end Go.Proofs.YtpgmabpaiijipaaGreatDoor
namespace Go.Proofs.YtpgmabpaiijipaaGreatDoor
open Go Den
set_option maxRecDepth 100000
set_option linter.unusedSimpArgs false
set_option linter.unusedVariables false
theorem seal_len (L : List Bool) : (Crc.sealed (Bt.pack L)).length = pn L + 4 := by
  simp [Crc.sealed, Crc.tail, Bt.pack_len, pn]
theorem seal_lt (L : List Bool) : ∀ x ∈ Crc.sealed (Bt.pack L), x < 256 := by
  intro x hx
  unfold Crc.sealed at hx
  rcases List.mem_append.1 hx with h | h
  · exact Bt.pack_lt _ L (Nat.le_refl _) x h
  · exact Crc.tail_lt _ x h
theorem seal_sum (L : List Bool) : (Crc.sealed (Bt.pack L)).drop (pn L) = Crc.tail (Crc.sum ((Crc.sealed (Bt.pack L)).take (pn L))) := by
  have e : pn L = (Bt.pack L).length := (Bt.pack_len L).symm
  unfold Crc.sealed
  rw [e, List.drop_left, List.take_left]
theorem pn_le {L : List Bool} (h : L.length ≤ 1500) : pn L + 4 ≤ 200 := by
  unfold pn
  omega
theorem turn_len (y : List Nat) (b : Nat) : (turn y b).length = y.length := List.length_set
theorem turn_byte {v : Nat} (hv : v < 256) (k : Nat) (hk : k < 8) : v ^^^ 2 ^ k < 256 ∧ v ≠ v ^^^ 2 ^ k := by
  have hp : 2 ^ k < 256 := Nat.pow_lt_pow_right (by decide) (n := 8) hk
  refine ⟨Crc.xor_lt256 hv hp, fun e => ?_⟩
  have h0 : v ^^^ 0 = v ^^^ 2 ^ k := by rw [Nat.xor_zero]; exact e
  have := Crc.xor_cancel h0
  have := Nat.pow_pos (n := k) (show 0 < 2 by decide)
  omega
theorem turn_lt {y : List Nat} (hy : ∀ x ∈ y, x < 256) {b : Nat} (hb : b / 8 < y.length) : ∀ x ∈ turn y b, x < 256 := by
  intro x hx
  have hg : y[b / 8]? = some (y.getD (b / 8) 0) := by
    rw [List.getD_eq_getElem?_getD, List.getElem?_eq_getElem hb]; rfl
  rcases List.mem_or_eq_of_mem_set hx with h | h
  · exact hy x h
  · rw [h]; exact (turn_byte (hy _ (List.mem_of_getElem? hg)) _ (Nat.mod_lt _ (by decide))).1
theorem turn_sum {L : List Bool} {b : Nat} (hb : b < 8 * (pn L + 4)) :
    (turn (Crc.sealed (Bt.pack L)) b).drop (pn L) ≠ Crc.tail (Crc.sum ((turn (Crc.sealed (Bt.pack L)) b).take (pn L))) := by
  have hi : b / 8 < (Crc.sealed (Bt.pack L)).length := by rw [seal_len]; omega
  have hv : (Crc.sealed (Bt.pack L)).getD (b / 8) 0 = (Crc.sealed (Bt.pack L))[b / 8] := by
    rw [List.getD_eq_getElem?_getD, List.getElem?_eq_getElem hi]; rfl
  have hlt := seal_lt L _ (List.getElem_mem hi)
  obtain ⟨h1, h2⟩ := turn_byte hlt (b % 8) (Nat.mod_lt _ (by decide))
  have := Crc.sealed_set (l := Bt.pack L) (i := b / 8) (y := (Crc.sealed (Bt.pack L))[b / 8] ^^^ 2 ^ (b % 8)) (Bt.pack_lt _ L (Nat.le_refl _)) hi h1 h2
  unfold turn
  rw [hv]
  rwa [Bt.pack_len L] at this
def bitOf (bit : Int) (n : Nat) : Nat := (Int.tmod (Int.tmod bit (8 * n : Nat) + (8 * n : Nat)) (8 * n : Nat)).toNat
theorem bit_ok {bit : Int} {n : Nat} (h0 : 0 < n) (hn : n ≤ 200) : bitOf bit n < 8 * n ∧ Int.tmod (Int.tmod bit (8 * n : Nat) + (8 * n : Nat)) (8 * n : Nat) = ((bitOf bit n : Nat) : Int) ∧
    IntKind.wrap .i64 (Int.tmod bit (8 * n : Nat) + (8 * n : Nat)) = Int.tmod bit (8 * n : Nat) + (8 * n : Nat) := by
  have hq : (0 : Int) < ((8 * n : Nat) : Int) := by omega
  have h1 := Int.tmod_lt_of_pos bit hq
  have h2 : -((8 * n : Nat) : Int) < Int.tmod bit (8 * n : Nat) := by
    have := Int.lt_tmod_of_pos bit hq
    exact this
  have hp : 0 ≤ Int.tmod bit (8 * n : Nat) + ((8 * n : Nat) : Int) := by omega
  have h3 := Int.tmod_lt_of_pos (Int.tmod bit (8 * n : Nat) + ((8 * n : Nat) : Int)) hq
  have h4 := Int.tmod_nonneg ((8 * n : Nat) : Int) hp
  refine ⟨?_, ?_, wrap_i64 (by omega)⟩
  · unfold bitOf; omega
  · unfold bitOf; omega
theorem len_wr {kk g f t i e a b : Nat} (hb : g ≤ 1073741824 ∧ f ≤ 1073741824 ∧ t ≤ 1073741824 ∧ i ≤ 1073741824 ∧ e ≤ 1073741824 ∧ a ≤ 1073741824 ∧ b ≤ 1073741824) {n1 n2 : Nat} (h1 : n1 ≤ 64) (h2 : n2 ≤ 64) {u v : List Nat} (hu : u.length ≤ 64) (hv : v.length ≤ 64) :
    ((((wrL kk g f t i e a b 7 ++ Bt.codeB n1) ++ Bt.bytesB u) ++ Bt.codeB n2) ++ Bt.bytesB v).length ≤ 1500 ∧ (((wrL kk g f t i e a b 7 ++ Bt.codeB n1) ++ Bt.codeB n2) ++ Bt.bytesB v).length ≤ 1500 ∧
      (((wrL kk g f t i e a b 7 ++ Bt.codeB n1) ++ Bt.bytesB u) ++ Bt.codeB n2).length ≤ 1500 ∧ ((wrL kk g f t i e a b 7 ++ Bt.codeB n1) ++ Bt.codeB n2).length ≤ 1500 := by
  have hw := wrL_len (kk := kk) hb 7
  have c1 : Bt.cz n1 < 7 := Bt.cz_le (by omega)
  have c2 : Bt.cz n2 < 7 := Bt.cz_le (by omega)
  simp only [List.length_append, Bt.codeB_length, Bt.bytesB_length]
  omega
end Go.Proofs.YtpgmabpaiijipaaGreatDoor
namespace Go.Proofs.YtpgmabpaiijipaaGreatDoor
open Go Den
set_option maxRecDepth 100000
set_option linter.unusedSimpArgs false
set_option linter.unusedVariables false
def tpOb (bit q r1 r2 bt : Int) (m : Nat) : Obs := [(decide (Int.tmod r2 q = bt), true), (decide (q = 0), false), (decide (IntKind.wrap .i64 (8 * ((m + 4 : Nat) : Int)) = q), true), (decide (IntKind.wrap .i64 (r1 + q) = r2), true), (decide (IntKind.wrap .i64 (8 * ((m + 4 : Nat) : Int)) = q), true), (decide (Int.tmod bit q = r1), true), (decide (q = 0), false), (decide (IntKind.wrap .i64 (8 * ((m + 4 : Nat) : Int)) = q), true), (((m : Nat) : Int) != IntKind.wrap .i64 (((m + 4 : Nat) : Int) - 4), false)]
def tpO (k g f t i e a b : Int) (s : ByteArray) (x : List Nat) (c m : Nat) (z w : List Nat) : Nat → Tale := tpT false (msB k g f t i e a b s (.slice (some ⟨0, 0, none⟩) x.length c)) (some (.tuple #[.slice (some ⟨1, 0, none⟩) (m + 4) 0, .int .i64 0], [⟨false, none, byteV x⟩, rowB (byteV z)], 0)) (some (.tuple #[msA k g f t i e a b s (.slice (some ⟨1, 0, none⟩) x.length 0), .int .i64 0], [rowB (byteV z), rowB (byteV x)], 1)) (some (.bool true, smRO k g f t i e a b s x c, 2)) 11 19 t m z w
def tpHO (k g f t i e a b : Int) (s : ByteArray) (x : List Nat) (c m : Nat) (z w : List Nat) : Heap := [⟨false, none, byteV x⟩, msB k g f t i e a b s (.slice (some ⟨0, 0, none⟩) x.length c), rowB (byteV z), rowB (byteV (z.take m)), plB 6 1 1, grB t 2 (m + 4), grB t 7 (m + 4), rowB (byteV z), grC t 9 (m + 4), rowB (byteV w), plB 8 1 2, gr2, rowB (byteV z), plB 11 0 2, grB t 12 (m + 4), gr2, rowB (byteV w), plB 15 0 2, grB t 16 (m + 4), rowB (byteV x), msB k g f t i e a b s (.slice (some ⟨19, 0, none⟩) x.length 0), msB0]
noncomputable def tpAO (bt : Int) (k g f t i e a b : Int) (s : ByteArray) (x : List Nat) (c m : Nat) (z w : List Nat) : Obs := [(frameTPre (tpO k g f t i e a b s x c m z w) 21 [msA k g f t i e a b s (.slice (some ⟨19, 0, none⟩) x.length 0), msA k g f t i e a b s (.slice (some ⟨0, 0, none⟩) x.length c)] [⟨false, none, byteV x⟩, msB k g f t i e a b s (.slice (some ⟨0, 0, none⟩) x.length c), rowB (byteV z), rowB (byteV (z.take m)), plB 6 1 1, grB t 2 (m + 4), grB t 7 (m + 4), rowB (byteV z), grC t 9 (m + 4), rowB (byteV w), plB 8 1 2, gr2, rowB (byteV z), plB 11 0 2, grB t 12 (m + 4), gr2, rowB (byteV w), plB 15 0 2, grB t 16 (m + 4), rowB (byteV x), msB k g f t i e a b s (.slice (some ⟨19, 0, none⟩) x.length 0), msB0], true),
  (frameTPre (tpO k g f t i e a b s x c m z w) 20 [.slice (some ⟨16, 0, none⟩) (m + 4) 0] [⟨false, none, byteV x⟩, msB k g f t i e a b s (.slice (some ⟨0, 0, none⟩) x.length c), rowB (byteV z), rowB (byteV (z.take m)), plB 6 1 1, grB t 2 (m + 4), grB t 7 (m + 4), rowB (byteV z), grC t 9 (m + 4), rowB (byteV w), plB 8 1 2, gr2, rowB (byteV z), plB 11 0 2, grB t 12 (m + 4), gr2, rowB (byteV w), plB 15 0 2, grB t 16 (m + 4), rowB (byteV x), msB k g f t i e a b s (.slice (some ⟨19, 0, none⟩) x.length 0)], true),
  (frameTPre (tpO k g f t i e a b s x c m z w) 20 [.slice (some ⟨12, 0, none⟩) (m + 4) 0] [⟨false, none, byteV x⟩, msB k g f t i e a b s (.slice (some ⟨0, 0, none⟩) x.length c), rowB (byteV z), rowB (byteV (z.take m)), plB 6 1 1, grB t 2 (m + 4), grB t 7 (m + 4), rowB (byteV z), grC t 9 (m + 4), rowB (byteV w), plB 8 1 2, gr2, rowB (byteV z), plB 11 0 2, grB t 12 (m + 4), gr2, rowB (byteV w), plB 15 0 2, grB t 16 (m + 4)], true),
  (frameTPre (tpO k g f t i e a b s x c m z w) 19 [plV 8 1 2, .int .i64 0] [⟨false, none, byteV x⟩, msB k g f t i e a b s (.slice (some ⟨0, 0, none⟩) x.length c), rowB (byteV z), rowB (byteV (z.take m)), plB 6 1 1, grB t 2 (m + 4), grB t 7 (m + 4), rowB (byteV z), grC t 9 (m + 4), rowB (byteV w), plB 8 1 2, gr2, rowB (byteV z), plB 11 0 2, grB t 12 (m + 4)], true),
  (frameTPre (tpO k g f t i e a b s x c m z w) 19 [plV 6 1 1, .int .i64 0] [⟨false, none, byteV x⟩, msB k g f t i e a b s (.slice (some ⟨0, 0, none⟩) x.length c), rowB (byteV z), rowB (byteV (z.take m)), plB 6 1 1, grB t 2 (m + 4), grB t 7 (m + 4), rowB (byteV z), grC t 9 (m + 4), rowB (byteV w), plB 8 1 2], true),
  (frameTPre (tpO k g f t i e a b s x c m z w) 18 [plV 6 1 1, .int .i64 0, .int .i64 bt] [⟨false, none, byteV x⟩, msB k g f t i e a b s (.slice (some ⟨0, 0, none⟩) x.length c), rowB (byteV z), rowB (byteV (z.take m)), plB 6 1 1, grB t 2 (m + 4), grB t 7 (m + 4), rowB (byteV z)], true)]
noncomputable def tpBO (k g f t i e a b : Int) (s : ByteArray) (x : List Nat) (c m : Nat) (z w : List Nat) : Obs := [(frameTPre (tpO k g f t i e a b s x c m z w) 17 [pl0, .slice (some ⟨5, 0, none⟩) 1 1] [⟨false, none, byteV x⟩, msB k g f t i e a b s (.slice (some ⟨0, 0, none⟩) x.length c), rowB (byteV z), rowB (byteV (z.take m)), plB0, grB t 2 (m + 4)], true),
  (frameTPre (tpO k g f t i e a b s x c m z w) 16 [.int .i64 3] [⟨false, none, byteV x⟩, msB k g f t i e a b s (.slice (some ⟨0, 0, none⟩) x.length c), rowB (byteV z), rowB (byteV (z.take m))], true),
  (frameTPre (tpO k g f t i e a b s x c m z w) 15 [.slice (some ⟨2, 0, none⟩) (m + 4) 0] [⟨false, none, byteV x⟩, msB k g f t i e a b s (.slice (some ⟨0, 0, none⟩) x.length c), rowB (byteV z)], true),
  (frameTPre (tpO k g f t i e a b s x c m z w) 14 [msA k g f t i e a b s (.slice (some ⟨0, 0, none⟩) x.length c)] [⟨false, none, byteV x⟩, msB k g f t i e a b s (.slice (some ⟨0, 0, none⟩) x.length c)], true),
  (frameTPre (tpO k g f t i e a b s x c m z w) 13 [msA k g f t i e a b s (.slice (some ⟨0, 0, none⟩) x.length c)] [⟨false, none, byteV x⟩, msB k g f t i e a b s (.slice (some ⟨0, 0, none⟩) x.length c)], true),
  (frameTPre (tpO k g f t i e a b s x c m z w) 5 [] [], true)]
theorem tpO_run (bit q r1 r2 bt : Int) (k g f t i e a b : Int) (s : ByteArray) (x : List Nat) (c m : Nat) (z w : List Nat) : evFnL Tryz.prog ext 300 (nmPre (frameTPre (tpO k g f t i e a b s x c m z w))) (nbC [(85, q), (86, r1), (89, q), (90, r2), (93, q), (94, bt)] [(80, false)] (frameT (tpO k g f t i e a b s x c m z w))) noLoops [(0,true),(1,true),(1,true),(1,true),(0,true),(0,true),(13,false),(0,false),(0,true),(0,true),(0,true),(5,true),(0,true),(5,true)] 4 [msA k g f t i e a b s (.slice (some ⟨0, 0, none⟩) x.length c), .int .i64 bit] [⟨false, none, byteV x⟩] =
  some ((.bool true, tpHO k g f t i e a b s x c m z w, 0), tpAO bt k g f t i e a b s x c m z w ++ (tpOb bit q r1 r2 bt m ++ tpBO k g f t i e a b s x c m z w)) := by kernel_rfl
def tpN (k g f t i e a b : Int) (s : ByteArray) (m : Nat) (z w : List Nat) : Nat → Tale := tpT false (msB k g f t i e a b s (.slice none 0 0)) (some (.tuple #[.slice (some ⟨0, 0, none⟩) (m + 4) 0, .int .i64 0], [rowB (byteV z)], 0)) (some (.tuple #[msA k g f t i e a b s (.slice none 0 0), .int .i64 0], [rowB (byteV z)], 1)) (some (.bool true, smNN k g f t i e a b s, 0)) 10 18 t m z w
def tpHN (k g f t i e a b : Int) (s : ByteArray) (m : Nat) (z w : List Nat) : Heap := [msB k g f t i e a b s (.slice none 0 0), rowB (byteV z), rowB (byteV (z.take m)), plB 5 1 1, grB t 1 (m + 4), grB t 6 (m + 4), rowB (byteV z), grC t 8 (m + 4), rowB (byteV w), plB 7 1 2, gr2, rowB (byteV z), plB 10 0 2, grB t 11 (m + 4), gr2, rowB (byteV w), plB 14 0 2, grB t 15 (m + 4), msB k g f t i e a b s (.slice none 0 0), msB0]
noncomputable def tpAN (bt : Int) (k g f t i e a b : Int) (s : ByteArray) (m : Nat) (z w : List Nat) : Obs := [(frameTPre (tpN k g f t i e a b s m z w) 21 [msA k g f t i e a b s (.slice none 0 0), msA k g f t i e a b s (.slice none 0 0)] [], true),
  (frameTPre (tpN k g f t i e a b s m z w) 20 [.slice (some ⟨15, 0, none⟩) (m + 4) 0] [msB k g f t i e a b s (.slice none 0 0), rowB (byteV z), rowB (byteV (z.take m)), plB 5 1 1, grB t 1 (m + 4), grB t 6 (m + 4), rowB (byteV z), grC t 8 (m + 4), rowB (byteV w), plB 7 1 2, gr2, rowB (byteV z), plB 10 0 2, grB t 11 (m + 4), gr2, rowB (byteV w), plB 14 0 2, grB t 15 (m + 4), msB k g f t i e a b s (.slice none 0 0)], true),
  (frameTPre (tpN k g f t i e a b s m z w) 20 [.slice (some ⟨11, 0, none⟩) (m + 4) 0] [msB k g f t i e a b s (.slice none 0 0), rowB (byteV z), rowB (byteV (z.take m)), plB 5 1 1, grB t 1 (m + 4), grB t 6 (m + 4), rowB (byteV z), grC t 8 (m + 4), rowB (byteV w), plB 7 1 2, gr2, rowB (byteV z), plB 10 0 2, grB t 11 (m + 4), gr2, rowB (byteV w), plB 14 0 2, grB t 15 (m + 4)], true),
  (frameTPre (tpN k g f t i e a b s m z w) 19 [plV 7 1 2, .int .i64 0] [msB k g f t i e a b s (.slice none 0 0), rowB (byteV z), rowB (byteV (z.take m)), plB 5 1 1, grB t 1 (m + 4), grB t 6 (m + 4), rowB (byteV z), grC t 8 (m + 4), rowB (byteV w), plB 7 1 2, gr2, rowB (byteV z), plB 10 0 2, grB t 11 (m + 4)], true),
  (frameTPre (tpN k g f t i e a b s m z w) 19 [plV 5 1 1, .int .i64 0] [msB k g f t i e a b s (.slice none 0 0), rowB (byteV z), rowB (byteV (z.take m)), plB 5 1 1, grB t 1 (m + 4), grB t 6 (m + 4), rowB (byteV z), grC t 8 (m + 4), rowB (byteV w), plB 7 1 2], true),
  (frameTPre (tpN k g f t i e a b s m z w) 18 [plV 5 1 1, .int .i64 0, .int .i64 bt] [msB k g f t i e a b s (.slice none 0 0), rowB (byteV z), rowB (byteV (z.take m)), plB 5 1 1, grB t 1 (m + 4), grB t 6 (m + 4), rowB (byteV z)], true)]
noncomputable def tpBN (k g f t i e a b : Int) (s : ByteArray) (m : Nat) (z w : List Nat) : Obs := [(frameTPre (tpN k g f t i e a b s m z w) 17 [pl0, .slice (some ⟨4, 0, none⟩) 1 1] [msB k g f t i e a b s (.slice none 0 0), rowB (byteV z), rowB (byteV (z.take m)), plB0, grB t 1 (m + 4)], true),
  (frameTPre (tpN k g f t i e a b s m z w) 16 [.int .i64 3] [msB k g f t i e a b s (.slice none 0 0), rowB (byteV z), rowB (byteV (z.take m))], true),
  (frameTPre (tpN k g f t i e a b s m z w) 15 [.slice (some ⟨1, 0, none⟩) (m + 4) 0] [msB k g f t i e a b s (.slice none 0 0), rowB (byteV z)], true),
  (frameTPre (tpN k g f t i e a b s m z w) 14 [msA k g f t i e a b s (.slice none 0 0)] [msB k g f t i e a b s (.slice none 0 0)], true),
  (frameTPre (tpN k g f t i e a b s m z w) 13 [msA k g f t i e a b s (.slice none 0 0)] [], true),
  (frameTPre (tpN k g f t i e a b s m z w) 5 [] [], true)]
theorem tpN_run (bit q r1 r2 bt : Int) (k g f t i e a b : Int) (s : ByteArray) (m : Nat) (z w : List Nat) : evFnL Tryz.prog ext 300 (nmPre (frameTPre (tpN k g f t i e a b s m z w))) (nbC [(85, q), (86, r1), (89, q), (90, r2), (93, q), (94, bt)] [(80, false)] (frameT (tpN k g f t i e a b s m z w))) noLoops [(0,true),(1,true),(1,true),(1,true),(0,true),(0,true),(13,false),(0,false),(0,true),(0,true),(0,true),(5,true),(0,true),(5,true)] 4 [msA k g f t i e a b s (.slice none 0 0), .int .i64 bit] [] =
  some ((.bool true, tpHN k g f t i e a b s m z w, 0), tpAN bt k g f t i e a b s m z w ++ (tpOb bit q r1 r2 bt m ++ tpBN k g f t i e a b s m z w)) := by kernel_rfl
def tpG (k g f t i e a b : Int) (s : ByteArray) (m : Nat) (z w : List Nat) : Nat → Tale := tpT false (msB k g f t i e a b s goneV) (some (.tuple #[.slice (some ⟨0, 0, none⟩) (m + 4) 0, .int .i64 0], [rowB (byteV z)], 0)) (some (.tuple #[msA k g f t i e a b s (.slice none 0 0), .int .i64 0], [rowB (byteV z)], 1)) (some (.bool true, smNG k g f t i e a b s, 0)) 10 18 t m z w
def tpHG (k g f t i e a b : Int) (s : ByteArray) (m : Nat) (z w : List Nat) : Heap := [msB k g f t i e a b s goneV, rowB (byteV z), rowB (byteV (z.take m)), plB 5 1 1, grB t 1 (m + 4), grB t 6 (m + 4), rowB (byteV z), grC t 8 (m + 4), rowB (byteV w), plB 7 1 2, gr2, rowB (byteV z), plB 10 0 2, grB t 11 (m + 4), gr2, rowB (byteV w), plB 14 0 2, grB t 15 (m + 4), msB k g f t i e a b s (.slice none 0 0), msB0]
noncomputable def tpAG (bt : Int) (k g f t i e a b : Int) (s : ByteArray) (m : Nat) (z w : List Nat) : Obs := [(frameTPre (tpG k g f t i e a b s m z w) 21 [msA k g f t i e a b s (.slice none 0 0), msA k g f t i e a b s goneV] [msB k g f t i e a b s goneV, rowB (byteV z), rowB (byteV (z.take m)), plB 5 1 1, grB t 1 (m + 4), grB t 6 (m + 4), rowB (byteV z), grC t 8 (m + 4), rowB (byteV w), plB 7 1 2, gr2, rowB (byteV z), plB 10 0 2, grB t 11 (m + 4), gr2, rowB (byteV w), plB 14 0 2, grB t 15 (m + 4), msB k g f t i e a b s (.slice none 0 0), msB0], true),
  (frameTPre (tpG k g f t i e a b s m z w) 20 [.slice (some ⟨15, 0, none⟩) (m + 4) 0] [msB k g f t i e a b s goneV, rowB (byteV z), rowB (byteV (z.take m)), plB 5 1 1, grB t 1 (m + 4), grB t 6 (m + 4), rowB (byteV z), grC t 8 (m + 4), rowB (byteV w), plB 7 1 2, gr2, rowB (byteV z), plB 10 0 2, grB t 11 (m + 4), gr2, rowB (byteV w), plB 14 0 2, grB t 15 (m + 4), msB k g f t i e a b s (.slice none 0 0)], true),
  (frameTPre (tpG k g f t i e a b s m z w) 20 [.slice (some ⟨11, 0, none⟩) (m + 4) 0] [msB k g f t i e a b s goneV, rowB (byteV z), rowB (byteV (z.take m)), plB 5 1 1, grB t 1 (m + 4), grB t 6 (m + 4), rowB (byteV z), grC t 8 (m + 4), rowB (byteV w), plB 7 1 2, gr2, rowB (byteV z), plB 10 0 2, grB t 11 (m + 4), gr2, rowB (byteV w), plB 14 0 2, grB t 15 (m + 4)], true),
  (frameTPre (tpG k g f t i e a b s m z w) 19 [plV 7 1 2, .int .i64 0] [msB k g f t i e a b s goneV, rowB (byteV z), rowB (byteV (z.take m)), plB 5 1 1, grB t 1 (m + 4), grB t 6 (m + 4), rowB (byteV z), grC t 8 (m + 4), rowB (byteV w), plB 7 1 2, gr2, rowB (byteV z), plB 10 0 2, grB t 11 (m + 4)], true),
  (frameTPre (tpG k g f t i e a b s m z w) 19 [plV 5 1 1, .int .i64 0] [msB k g f t i e a b s goneV, rowB (byteV z), rowB (byteV (z.take m)), plB 5 1 1, grB t 1 (m + 4), grB t 6 (m + 4), rowB (byteV z), grC t 8 (m + 4), rowB (byteV w), plB 7 1 2], true),
  (frameTPre (tpG k g f t i e a b s m z w) 18 [plV 5 1 1, .int .i64 0, .int .i64 bt] [msB k g f t i e a b s goneV, rowB (byteV z), rowB (byteV (z.take m)), plB 5 1 1, grB t 1 (m + 4), grB t 6 (m + 4), rowB (byteV z)], true)]
noncomputable def tpBG (k g f t i e a b : Int) (s : ByteArray) (m : Nat) (z w : List Nat) : Obs := [(frameTPre (tpG k g f t i e a b s m z w) 17 [pl0, .slice (some ⟨4, 0, none⟩) 1 1] [msB k g f t i e a b s goneV, rowB (byteV z), rowB (byteV (z.take m)), plB0, grB t 1 (m + 4)], true),
  (frameTPre (tpG k g f t i e a b s m z w) 16 [.int .i64 3] [msB k g f t i e a b s goneV, rowB (byteV z), rowB (byteV (z.take m))], true),
  (frameTPre (tpG k g f t i e a b s m z w) 15 [.slice (some ⟨1, 0, none⟩) (m + 4) 0] [msB k g f t i e a b s goneV, rowB (byteV z)], true),
  (frameTPre (tpG k g f t i e a b s m z w) 14 [msA k g f t i e a b s goneV] [msB k g f t i e a b s goneV], true),
  (frameTPre (tpG k g f t i e a b s m z w) 13 [msA k g f t i e a b s goneV] [msB k g f t i e a b s goneV], true),
  (frameTPre (tpG k g f t i e a b s m z w) 5 [] [], true)]
theorem tpG_run (bit q r1 r2 bt : Int) (k g f t i e a b : Int) (s : ByteArray) (m : Nat) (z w : List Nat) : evFnL Tryz.prog ext 300 (nmPre (frameTPre (tpG k g f t i e a b s m z w))) (nbC [(85, q), (86, r1), (89, q), (90, r2), (93, q), (94, bt)] [(80, false)] (frameT (tpG k g f t i e a b s m z w))) noLoops [(0,true),(1,true),(1,true),(1,true),(0,true),(0,true),(13,false),(0,false),(0,true),(0,true),(0,true),(5,true),(0,true),(5,true)] 4 [msA k g f t i e a b s goneV, .int .i64 bit] [] =
  some ((.bool true, tpHG k g f t i e a b s m z w, 0), tpAG bt k g f t i e a b s m z w ++ (tpOb bit q r1 r2 bt m ++ tpBG k g f t i e a b s m z w)) := by kernel_rfl
end Go.Proofs.YtpgmabpaiijipaaGreatDoor
