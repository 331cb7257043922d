/- Parts of the proof, joined: Cs0, Cs1, Sy2, Cs2, Ac, Cs3, JnN, JnG, By0, By1, Ey1, Va, Sy3, Na. -/
import Derived.Shelf.Unicode.ValidAny
import Derived.Lib.TrimU
import Derived.Test.YtpgmabpaiijipaaGreatDoorZ08
import Derived.Test.YtpgmabpaiijipaaGreatDoorOn3
import Derived.Test.YtpgmabpaiijipaaGreatDoorCr0
import Derived.Test.YtpgmabpaiijipaaGreatDoorZ04

namespace Go.Proofs.YtpgmabpaiijipaaGreatDoor
open Go Den
set_option maxRecDepth 100000
set_option linter.unusedSimpArgs false
set_option linter.unusedVariables false
def smF (j c n : Int) (m cap : Nat) : Slots := [(19, .int .i64 j), (5, .int .u32 c), (18, .int .i64 n), (17, .slice (some ⟨1, 0, none⟩) m cap), (4, .pointer (some ⟨2, 3, none⟩)), (11, .slice (some ⟨0, 0, none⟩) 1 1), (12, .int .i64 1), (13, .int .i64 0)]
def arB (g m cap : Nat) : Blk := ⟨true, none, [.slice (some ⟨g, 0, none⟩) m cap]⟩
def tb0 : Blk := tabB 0 0 (List.replicate 256 0)
def tb1 : Blk := tabB 1 0 crcTab
def smT : Nat → Tale := fun _ f _ _ => match f with
  | 97 => some (.pointer (some ⟨0, 3, none⟩), [tb1], 0)
  | _ => none
noncomputable def smL (b : Blk) (c : Int) (m cap : Nat) : Loops := { loop := sumL 8 ⟨smF 0 4294967295 m m cap, [arB 1 m cap, b, tb1], 2⟩ (.exit 2) ⟨smF m c m m cap, [arB 1 m cap, b, tb1], 2⟩ }
theorem sum_runR (y : List Nat) (c s : Int) (m cap : Nat) : evFnL Tryz.prog ext 300 (nmPre (frameTPre smT)) (nbC [(37, s)] [] (frameT smT)) (smL (rowB (byteV y)) c m cap) [(0,true)] 50 [.slice (some ⟨0, 0, none⟩) 1 1] [arB 1 m cap, rowB (byteV y)] =
  some ((.int .u32 s, [arB 1 m cap, rowB (byteV y), tb1], 2), [(decide (IntKind.wrap .u32 ((BitVec.toNat (BitVec.ofInt (IntKind.bits .u32) (IntKind.max .u32) ^^^ BitVec.ofInt (IntKind.bits .u32) c) : Nat) : Int) = s), true), (cdec (smF 0 4294967295 m m cap = smF 0 4294967295 m m cap), true), (cdec ([arB 1 m cap, rowB (byteV y), tb1] = [arB 1 m cap, rowB (byteV y), tb1]), true), (cdec ((2 : Nat) = 2), true),
    (frameTPre smT 97 [.pointer (some ⟨2, 0, none⟩)] [arB 1 m cap, rowB (byteV y), tb0], true)]) := by kernel_rfl
theorem sum_runO (y : List Nat) (c s : Int) (m cap : Nat) : evFnL Tryz.prog ext 300 (nmPre (frameTPre smT)) (nbC [(37, s)] [] (frameT smT)) (smL (⟨false, none, byteV y⟩) c m cap) [(0,true)] 50 [.slice (some ⟨0, 0, none⟩) 1 1] [arB 1 m cap, ⟨false, none, byteV y⟩] =
  some ((.int .u32 s, [arB 1 m cap, ⟨false, none, byteV y⟩, tb1], 2), [(decide (IntKind.wrap .u32 ((BitVec.toNat (BitVec.ofInt (IntKind.bits .u32) (IntKind.max .u32) ^^^ BitVec.ofInt (IntKind.bits .u32) c) : Nat) : Int) = s), true), (cdec (smF 0 4294967295 m m cap = smF 0 4294967295 m m cap), true), (cdec ([arB 1 m cap, ⟨false, none, byteV y⟩, tb1] = [arB 1 m cap, ⟨false, none, byteV y⟩, tb1]), true), (cdec ((2 : Nat) = 2), true),
    (frameTPre smT 97 [.pointer (some ⟨2, 0, none⟩)] [arB 1 m cap, ⟨false, none, byteV y⟩, tb0], true)]) := by kernel_rfl
theorem sum_more (j c n x i t c' j' : Int) (m cap : Nat) (ar b tb : Blk) : evL Tryz.prog ext (nmPre (symPre [17, 21, 28, 29] noPre)) (nbC [(22, x), (27, i), (30, t), (33, c'), (34, j')] [] noC) noLoops 300 (ntOf Tryz.prog 50 1) (loopAt Tryz.prog 50 1) (smF j c n m cap) [ar, b, tb] 2 [(0,true),(0,true),(0,true),(0,true),(0,true)] [19, 5, 18, 17, 4, 11, 12, 13] =
  some (Ex.normal, [(19, .int .i64 j'), (5, .int .u32 c'), (18, .int .i64 n), (17, .slice (some ⟨1, 0, none⟩) m cap), (4, .pointer (some ⟨2, 3, none⟩)), (11, .slice (some ⟨0, 0, none⟩) 1 1), (12, .int .i64 1), (13, .int .i64 0)], [ar, b, tb], 2, [(decide (IntKind.wrap .i64 (j + 1) = j'), true), (decide (IntKind.wrap .u32 ((BitVec.toNat (BitVec.ofInt (IntKind.bits .u32) t ^^^ BitVec.ofInt (IntKind.bits .u32) (Int.fdiv c (2 ^ min (Int.toNat 8) (IntKind.bits .u32)))) : Nat) : Int) = c'), true), (decide (intAt (Blk.cells tb) (Addr.off { block := 2, off := 3 + Int.toNat i }) = t), true), (live tb && isIntAt .u32 (Blk.cells tb) (Addr.off { block := 2, off := 3 + Int.toNat i }), true), (decide (0 ≤ i ∧ i < ((256 : Nat) : Int)), true), (decide (IntKind.wrap .u8 ((BitVec.toNat (BitVec.ofInt (IntKind.bits .u8) (IntKind.wrap .u8 c) ^^^ BitVec.ofInt (IntKind.bits .u8) x) : Nat) : Int) = i), true), (decide (intAt (Blk.cells b) (Addr.off { block := 1, off := 0 + Int.toNat j }) = x), true), (live b && isIntAt .u8 (Blk.cells b) (Addr.off { block := 1, off := 0 + Int.toNat j }), true), (decide (0 ≤ j ∧ j < ((m : Nat) : Int)), true), (decide (j < n), true)]) := by kernel_rfl
theorem sum_out (j c n x i t c' j' : Int) (m cap : Nat) (ar b tb : Blk) : evL Tryz.prog ext (nmPre (symPre [17, 21, 28, 29] noPre)) (nbC [(22, x), (27, i), (30, t), (33, c'), (34, j')] [] noC) noLoops 300 (ntOf Tryz.prog 50 1) (loopAt Tryz.prog 50 1) (smF j c n m cap) [ar, b, tb] 2 [(0,false)] [19, 5, 18, 17, 4, 11, 12, 13] =
  some (Ex.exit 2, [(19, .int .i64 j), (5, .int .u32 c), (18, .int .i64 n), (17, .slice (some ⟨1, 0, none⟩) m cap), (4, .pointer (some ⟨2, 3, none⟩)), (11, .slice (some ⟨0, 0, none⟩) 1 1), (12, .int .i64 1), (13, .int .i64 0)], [ar, b, tb], 2, [(decide (j < n), false)]) := by kernel_rfl
theorem crcTab_eq : crcTab = Crc.tab.map (fun (n : Nat) => (n : Int)) := by decide +kernel
theorem tb1_get {i : Nat} (hi : i < 256) : isIntAt .u32 tb1.cells (3 + i) = true ∧ intAt tb1.cells (3 + i) = ((Crc.tab.getD i 0 : Nat) : Int) := by
  have hlen : Crc.tab.length = 256 := by decide +kernel
  have h1 : Crc.tab[i]? = some (Crc.tab.getD i 0) := by
    rw [List.getD_eq_getElem?_getD, List.getElem?_eq_getElem (by omega)]; rfl
  have h2 : tb1.cells[3 + i]? = some (.int .u32 ((Crc.tab.getD i 0 : Nat) : Int)) := by
    have e : tb1.cells = [.int .u32 1, .int .i32 0, .int .u32 0] ++ crcTab.map (.int .u32 ·) := rfl
    rw [e, List.getElem?_append_right (by simp), crcTab_eq]
    simp only [List.length_cons, List.length_nil, List.getElem?_map]
    rw [show 3 + i - (0 + 1 + 1 + 1) = i by omega, h1]
    rfl
  exact ⟨by simp [isIntAt, h2, eqK], by simp [intAt, h2]⟩
theorem wrap_u32 {n : Nat} (h : n < 4294967296) : IntKind.wrap .u32 (n : Int) = (n : Int) := by
  have e1 : (2 : Int) ^ IntKind.u32.bits = 4294967296 := rfl
  have e2 : IntKind.u32.signed = false := rfl
  simp only [IntKind.wrap, e1, e2]
  simp
  omega
theorem wrap_u8m (n : Nat) : IntKind.wrap .u8 (n : Int) = ((n % 256 : Nat) : Int) := by
  have e1 : (2 : Int) ^ IntKind.u8.bits = 256 := rfl
  have e2 : IntKind.u8.signed = false := rfl
  simp only [IntKind.wrap, e1, e2, Bool.false_and, Bool.false_eq_true, if_false]
  omega
theorem idx_eq {c x : Nat} (hx : x < 256) : IntKind.wrap .u8 ((BitVec.toNat (BitVec.ofInt (IntKind.bits .u8) (IntKind.wrap .u8 (c : Int)) ^^^ BitVec.ofInt (IntKind.bits .u8) (x : Int)) : Nat) : Int) = (((c % 256) ^^^ x : Nat) : Int) := by
  have e0 : IntKind.bits .u8 = 8 := rfl
  rw [wrap_u8m c, e0, BitVec.toNat_xor, ofInt_nat, ofInt_nat]
  have h1 : c % 256 % 2 ^ 8 = c % 256 := Nat.mod_eq_of_lt (Nat.mod_lt _ (by decide))
  have h2 : x % 2 ^ 8 = x := Nat.mod_eq_of_lt hx
  rw [h1, h2]
  exact wrap_u8 (Crc.xor_lt256 (Nat.mod_lt _ (by decide)) hx)
theorem step_eq {c t : Nat} (hc : c < 4294967296) (ht : t < 4294967296) : IntKind.wrap .u32 ((BitVec.toNat (BitVec.ofInt (IntKind.bits .u32) (t : Int) ^^^ BitVec.ofInt (IntKind.bits .u32) (Int.fdiv (c : Int) (2 ^ min (Int.toNat 8) (IntKind.bits .u32)))) : Nat) : Int) = ((t ^^^ (c / 256) : Nat) : Int) := by
  have e0 : IntKind.bits .u32 = 32 := rfl
  have e1 : Int.fdiv (c : Int) (2 ^ min (Int.toNat 8) (IntKind.bits .u32)) = ((c / 256 : Nat) : Int) := by
    have : (2 : Int) ^ min (Int.toNat 8) (IntKind.bits .u32) = 256 := by decide
    rw [this, Int.fdiv_eq_ediv_of_nonneg _ (by omega)]
    rfl
  rw [e1, e0, BitVec.toNat_xor, ofInt_nat, ofInt_nat]
  have h1 : t % 2 ^ 32 = t := Nat.mod_eq_of_lt ht
  have h2 : c / 256 % 2 ^ 32 = c / 256 := Nat.mod_eq_of_lt (Nat.lt_of_le_of_lt (Nat.div_le_self _ _) hc)
  rw [h1, h2]
  exact wrap_u32 (Crc.xor_lt32 ht (by omega))
theorem not_eq {c : Nat} (hc : c < 4294967296) : IntKind.wrap .u32 ((BitVec.toNat (BitVec.ofInt (IntKind.bits .u32) (IntKind.max .u32) ^^^ BitVec.ofInt (IntKind.bits .u32) (c : Int)) : Nat) : Int) = ((4294967295 - c : Nat) : Int) := by
  have e0 : IntKind.bits .u32 = 32 := rfl
  rw [e0]
  have e1 : BitVec.ofInt 32 (IntKind.max .u32) = BitVec.allOnes 32 := by decide
  have h1 : c % 2 ^ 32 = c := Nat.mod_eq_of_lt hc
  rw [e1, ← BitVec.not_def, BitVec.toNat_not, ofInt_nat, h1]
  have : (2 : Nat) ^ 32 - 1 - c = 4294967295 - c := by
    have : (2 : Nat) ^ 32 = 4294967296 := by decide
    omega
  rw [this]
  exact wrap_u32 (by omega)
theorem run_take {y : List Nat} {j : Nat} (hj : j < y.length) (c : Nat) : Crc.run c (y.take (j + 1)) = Crc.step (Crc.run c (y.take j)) y[j] := by
  rw [List.take_succ_eq_append_getElem hj, Crc.run_append]; rfl
theorem sum_loop {y : List Nat} {m cap : Nat} {ar b : Blk} (hl : live b = true) (hc : b.cells = byteV y) (hm : m ≤ y.length) (hy : ∀ x ∈ y, x < 256) (hb : y.length ≤ 1000000) :
    WP Tryz.prog (ntOf Tryz.prog 50 1) (.loop (loopAt Tryz.prog 50 1)) ⟨smF 0 4294967295 m m cap, [ar, b, tb1], 2⟩ (.exit 2) ⟨smF m (Crc.run 4294967295 (y.take m) : Nat) m m cap, [ar, b, tb1], 2⟩ := by
  have key := WP.while (P := Tryz.prog) (nt := ntOf Tryz.prog 50 1) (b := loopAt Tryz.prog 50 1) (S := fun j : Nat => ⟨smF (j : Nat) (Crc.run 4294967295 (y.take j) : Nat) m m cap, [ar, b, tb1], 2⟩) (fun j => j ≤ m) (fun j => m - j)
    (x := .exit 2) (s' := ⟨smF m (Crc.run 4294967295 (y.take m) : Nat) m m cap, [ar, b, tb1], 2⟩) (by simp) ?_ 0 (by omega)
  · exact key
  intro j hj
  by_cases h : j = m
  · subst h
    left
    exact WP.run progOk extSound (nb_sound _ _ (sym_sound _ noC_sound)) (by kernel_rfl) (LoopsOk.none (by kernel_rfl)) [19, 5, 18, 17, 4, 11, 12, 13] (sum_out (j : Nat) (Crc.run 4294967295 (y.take j) : Nat) (j : Nat) 0 0 0 0 0 j cap ar b tb1) (by simp [Holds])
  · right
    have hjl : j < y.length := by omega
    refine ⟨j + 1, by omega, by omega, ?_⟩
    have hrl := Crc.run_lt (y.take j) 4294967295 (by omega) fun x hx => hy x (List.mem_of_mem_take hx)
    generalize hr : Crc.run 4294967295 (y.take j) = r at hrl
    have hx := hy y[j] (List.getElem_mem hjl)
    have hget : y[j]? = some y[j] := List.getElem?_eq_getElem hjl
    obtain ⟨g1, g2⟩ := byteV_get hget
    have hi : (r % 256) ^^^ y[j] < 256 := Crc.xor_lt256 (Nat.mod_lt _ (by decide)) hx
    obtain ⟨t1, t2⟩ := tb1_get hi
    have htl := Crc.tab_lt _ hi
    rw [run_take hjl, hr]
    refine WP.run progOk extSound (nb_sound _ _ (sym_sound _ noC_sound)) (by kernel_rfl) (LoopsOk.none (by kernel_rfl)) [19, 5, 18, 17, 4, 11, 12, 13]
      (sum_more (j : Nat) (r : Nat) (m : Nat) (y[j] : Nat) (((r % 256) ^^^ y[j] : Nat) : Int) (Crc.tab.getD ((r % 256) ^^^ y[j]) 0 : Nat) (Crc.step r y[j] : Nat) ((j + 1 : Nat) : Int) m cap ar b tb1) ?_
    intro q hq
    simp only [hc, Int.toNat_natCast, Nat.zero_add, g1, g2, t1, t2, List.mem_cons, List.not_mem_nil, or_false] at hq
    rcases hq with rfl | rfl | rfl | rfl | rfl | rfl | rfl | rfl | rfl | rfl
    · simp only [decide_eq_true_eq]; rw [wrap_i64 (by omega)]; omega
    · simp only [decide_eq_true_eq]; exact step_eq hrl htl
    · simp
    · rfl
    · simp only [decide_eq_true_eq]; omega
    · simp only [decide_eq_true_eq]; exact idx_eq hx
    · simp
    · simp [hl]
    · simp only [decide_eq_true_eq]; omega
    · simp only [decide_eq_true_eq]; omega
theorem loops50 : loopsOf (bodyOf Tryz.prog 50) = [loopAt Tryz.prog 50 0, loopAt Tryz.prog 50 1] := by kernel_rfl
theorem first50 : firstId (loopAt Tryz.prog 50 0) = 5 := by kernel_rfl
theorem smL_ok {y : List Nat} {m cap : Nat} {b : Blk} (hl : live b = true) (hc : b.cells = byteV y) (hm : m ≤ y.length) (hy : ∀ x ∈ y, x < 256) (hb : y.length ≤ 1000000) :
    LoopsOk Tryz.prog (ntOf Tryz.prog 50 1) (smL b (Crc.run 4294967295 (y.take m) : Nat) m cap) (bodyOf Tryz.prog 50) := by
  refine LoopsOk.sum (hL := rfl) ?_
  intro b' hb' hf
  have e := loops50
  rw [e] at hb'
  simp only [List.mem_cons, List.not_mem_nil, or_false] at hb'
  rcases hb' with rfl | rfl
  · rw [first50] at hf; omega
  · exact sum_loop hl hc hm hy hb
theorem sum_lt_run {y : List Nat} {m : Nat} (hy : ∀ x ∈ y, x < 256) : Crc.run 4294967295 (y.take m) < 4294967296 := Crc.run_lt _ _ (by omega) fun x hx => hy x (List.mem_of_mem_take hx)
theorem sum_obs {y : List Nat} {m cap : Nat} {b : Blk} (hy : ∀ x ∈ y, x < 256) (hro : RowsOk [2] 0 [arB 1 m cap, b, tb0]) (hcut : cutQ [.pointer (some ⟨2, 0, none⟩)] [arB 1 m cap, b, tb0] = some ([2], [.pointer (some ⟨0, 0, none⟩)], [tb0])) (s : Int) (hs : s = ((Crc.sum (y.take m) : Nat) : Int)) :
    Holds [(decide (IntKind.wrap .u32 ((BitVec.toNat (BitVec.ofInt (IntKind.bits .u32) (IntKind.max .u32) ^^^ BitVec.ofInt (IntKind.bits .u32) (Crc.run 4294967295 (y.take m) : Nat)) : Nat) : Int) = s), true), (cdec (smF 0 4294967295 m m cap = smF 0 4294967295 m m cap), true), (cdec ([arB 1 m cap, b, tb1] = [arB 1 m cap, b, tb1]), true), (cdec ((2 : Nat) = 2), true),
      (frameTPre smT 97 [.pointer (some ⟨2, 0, none⟩)] [arB 1 m cap, b, tb0], true)] := by
  intro q hq
  simp only [List.mem_cons, List.not_mem_nil, or_false] at hq
  rcases hq with rfl | rfl | rfl | rfl | rfl
  · simp only [decide_eq_true_eq]
    rw [hs]
    exact not_eq (sum_lt_run hy)
  · simp [cdec]
  · simp [cdec]
  · simp [cdec]
  · exact tok (frameT_ok [2] get_ok hro (by exact rf_in rfl rf_nil) hcut rfl)
theorem sum_ok {y : List Nat} {m cap : Nat} (hne : y ≠ []) (hm : m ≤ y.length) (hy : ∀ x ∈ y, x < 256) (hb : y.length ≤ 1000000) :
    CallOk Tryz.prog 50 [.slice (some ⟨0, 0, none⟩) 1 1] [arB 1 m cap, rowB (byteV y)] (.int .u32 (Crc.sum (y.take m) : Nat)) [arB 1 m cap, rowB (byteV y), tb1] 2 :=
  fnL_ok progOk extSound (nb_sound _ _ (frameT_sound _)) (smL_ok rfl rfl hm hy hb) (sum_runR y (Crc.run 4294967295 (y.take m) : Nat) (Crc.sum (y.take m) : Nat) m cap) (sum_obs hy (by exact ro_in rfl (ro_row hne (ro_in rfl ro_nil))) (by kernel_rfl) _ rfl)
theorem sum_outer {y : List Nat} {m cap : Nat} (hne : y ≠ []) (hm : m ≤ y.length) (hy : ∀ x ∈ y, x < 256) (hb : y.length ≤ 1000000) :
    CallOk Tryz.prog 50 [.slice (some ⟨0, 0, none⟩) 1 1] [arB 1 m cap, ⟨false, none, byteV y⟩] (.int .u32 (Crc.sum (y.take m) : Nat)) [arB 1 m cap, ⟨false, none, byteV y⟩, tb1] 2 :=
  fnL_ok progOk extSound (nb_sound _ _ (frameT_sound _)) (smL_ok rfl rfl hm hy hb) (sum_runO y (Crc.run 4294967295 (y.take m) : Nat) (Crc.sum (y.take m) : Nat) m cap) (sum_obs hy (by exact ro_in rfl (ro_row hne (ro_in rfl ro_nil))) (by kernel_rfl) _ rfl)
end Go.Proofs.YtpgmabpaiijipaaGreatDoor
namespace Go.Proofs.YtpgmabpaiijipaaGreatDoor
open Go Den
set_option linter.unusedVariables false
def symPre2 (ks : List Nat) (pre : Pre) : Pre := fun f args H => (match Nat.beq f 1000004 with
  | true => match args with
    | [.int _ t] => !(ks.any fun u => decide ((u : Int) = t))
    | _ => true
  | false => true) && pre f args H
theorem sym2_sound {pre : Pre} {C : Oracle} (ks : List Nat) (h : Sound Tryz.prog (strict pre C)) : Sound Tryz.prog (strict (symPre2 ks pre) C) := by
  intro f args H v H' n hc
  unfold strict at hc
  split at hc
  · rename_i hp
    unfold symPre2 at hp
    simp only [Bool.and_eq_true] at hp
    exact h f args H v H' n (by unfold strict; rw [hp.2]; exact hc)
  · simp at hc
end Go.Proofs.YtpgmabpaiijipaaGreatDoor
namespace Go.Proofs.YtpgmabpaiijipaaGreatDoor
open Go Den
set_option maxRecDepth 100000
set_option linter.unusedSimpArgs false
set_option linter.unusedVariables false
def ccT (n : Nat) : Nat → Tale := fun _ f _ _ => match f with
  | 153 => some (.slice (some ⟨0, 0, some 0⟩) 0 0, [rowB (List.replicate n (.int .u8 0))], 0)
  | _ => none
def ar2 (n m : Nat) : Blk := ⟨true, none, [.slice (some ⟨1, 0, none⟩) n 0, .slice (some ⟨2, 0, none⟩) m m]⟩
def tlB (t : List Nat) : Blk := ⟨true, none, byteV t⟩
theorem tail_run (c a0 a1 a2 a3 : Int) : evFnL Tryz.prog ext 300 (nmPre noPre) (nbC [(4, a0), (7, a1), (10, a2), (13, a3)] [] noC) noLoops [] 49 [.int .u32 c] [] =
  some ((Value.slice (some ⟨0, 0, none⟩) 4 4, [{ own := true, grown := none, cells := [Value.int IntKind.u8 a0, Value.int IntKind.u8 a1, Value.int IntKind.u8 a2, Value.int IntKind.u8 a3] }], 0), [(decide (IntKind.wrap IntKind.u8 (Int.fdiv c (2 ^ min (Int.toNat 24) (IntKind.bits IntKind.u32))) = a3), true), (decide (IntKind.wrap IntKind.u8 (Int.fdiv c (2 ^ min (Int.toNat 16) (IntKind.bits IntKind.u32))) = a2), true), (decide (IntKind.wrap IntKind.u8 (Int.fdiv c (2 ^ min (Int.toNat 8) (IntKind.bits IntKind.u32))) = a1), true), (decide (IntKind.wrap IntKind.u8 c = a0), true)]) := by kernel_rfl
theorem grow_run (n : Nat) : evFnL Tryz.prog ext 300 (nmPre (symPre [21] (symPre2 [22] noPre))) (nbC [(14, (n : Int)), (1, (n : Int))] [] noC) noLoops [(0,false),(0,true),(0,true),(0,true)] 153 [.slice none 0 0, .int .i64 n] [] =
  some ((Value.slice (some { block := 0, off := 0, spot := some 0 }) 0 0, [{ own := true, grown := some 1, cells := List.replicate n (Value.int IntKind.u8 0) }], 0), [(decide (0 < n), true), (decide (0 < n ∧ n ≤ 1000000), true), (decide (((n : Nat) : Int) > 0), true), (decide (((n : Nat) : Int) = ((n : Nat) : Int)), true), (decide (IntKind.wrap IntKind.i64 (((n : Nat) : Int) - IntKind.wrap IntKind.i64 (((0 : Nat) : Int) - ((0 : Nat) : Int))) = ((n : Nat) : Int)), true), (decide (((n : Nat) : Int) < 0), false)]) := by kernel_rfl
theorem fdiv32 (c k : Nat) (hk : k ≤ 32) : Int.fdiv (c : Int) (2 ^ min (Int.toNat (k : Int)) (IntKind.bits IntKind.u32)) = ((c / 2 ^ k : Nat) : Int) := by
  have e1 : min (Int.toNat (k : Int)) (IntKind.bits .u32) = k := by rw [Int.toNat_natCast]; exact Nat.min_eq_left hk
  have h2 : (2 : Int) ^ k = ((2 ^ k : Nat) : Int) := by push_cast; rfl
  rw [e1, h2, Int.fdiv_eq_ediv_of_nonneg _ (Int.natCast_nonneg _)]
  rfl
theorem tail_ok (c : Nat) : CallOk Tryz.prog 49 [.int .u32 (c : Nat)] [] (.slice (some ⟨0, 0, none⟩) 4 4) [tlB (Crc.tail c)] 0 := by
  have hr := tail_run (c : Nat) ((c % 256 : Nat) : Int) ((c / 256 % 256 : Nat) : Int) ((c / 65536 % 256 : Nat) : Int) ((c / 16777216 % 256 : Nat) : Int)
  refine fnL_ok progOk extSound (nb_sound _ _ noC_sound) noLoops_ok hr ?_
  have f8 := fdiv32 c 8 (by omega)
  have f16 := fdiv32 c 16 (by omega)
  have f24 := fdiv32 c 24 (by omega)
  have e8 : ((8 : Nat) : Int) = 8 := rfl
  have e16 : ((16 : Nat) : Int) = 16 := rfl
  have e24 : ((24 : Nat) : Int) = 24 := rfl
  rw [e8] at f8
  rw [e16] at f16
  rw [e24] at f24
  intro q hq
  simp only [List.mem_cons, List.not_mem_nil, or_false] at hq
  rcases hq with rfl | rfl | rfl | rfl
  · simp only [decide_eq_true_eq]; rw [f24, wrap_u8m]
  · simp only [decide_eq_true_eq]; rw [f16, wrap_u8m]
  · simp only [decide_eq_true_eq]; rw [f8, wrap_u8m]
  · simp only [decide_eq_true_eq]; rw [wrap_u8m]
theorem byteV_zeros (n : Nat) : List.replicate n (Value.int .u8 0) = byteV (List.replicate n 0) := by simp [byteV]
theorem grow_ok {n : Nat} (h0 : 0 < n) (h1 : n ≤ 1000000) : CallOk Tryz.prog 153 [.slice none 0 0, .int .i64 (n : Nat)] [] (.slice (some ⟨0, 0, some 0⟩) 0 0) [rowB (List.replicate n (.int .u8 0))] 0 := by
  refine fnL_ok progOk extSound (nb_sound _ _ (sym_sound _ (sym2_sound _ noC_sound))) noLoops_ok (grow_run n) ?_
  intro q hq
  simp only [List.mem_cons, List.not_mem_nil, or_false] at hq
  rcases hq with rfl | rfl | rfl | rfl | rfl | rfl
  · simpa using h0
  · simp only [decide_eq_true_eq]; omega
  · simp only [decide_eq_true_eq]; omega
  · simp
  · simp only [decide_eq_true_eq]
    have : IntKind.wrap .i64 (((0 : Nat) : Int) - ((0 : Nat) : Int)) = 0 := by decide
    rw [this, wrap_i64 (by omega)]; omega
  · simp only [decide_eq_false_iff_not]; omega
theorem concat_run (y : List Nat) (n k : Nat) (s2 : Int) (a b c d : Nat) : evFnL Tryz.prog ext 300 (nmPre (symPre [32] (frameTPre (ccT k)))) (nbC [(23, s2)] [(20, false)] (frameT (ccT k))) noLoops [(5,true),(1,true),(1,true)] 96 [.slice (some ⟨0, 0, none⟩) 2 2] [ar2 n 4, rowB (byteV y), tlB [a, b, c, d]] =
  some ((.slice (some ⟨5, 0, none⟩) (n + 4) 0, [ar2 n 4, rowB (byteV y), tlB [a, b, c, d], spB, spB, rowB ((List.drop 0 (byteV y)).take (n * 1) ++ (List.drop 0 (byteV [a, b, c, d])).take 4)], 3),
   [(live (tlB [a, b, c, d]) && decide (0 < n ∧ ((List.drop 0 (byteV y)).take (n * 1)).length = n ∧ 0 + 4 ≤ (byteV [a, b, c, d]).length ∧ n + 4 ≤ 140737488355328), true),
    (live (rowB (byteV y)) && (!List.isEmpty (List.replicate k (Value.int IntKind.u8 0)) && decide ((Value.cells (Value.int IntKind.u8 0)).size = 1 ∧ 0 < 1 ∧ 0 < n ∧ n * 1 ≤ 140737488355328 ∧ n ≤ 9223372036854775807 ∧ 1 = 1 ∧ true = true ∧ 0 + n * 1 ≤ (byteV y).length)), true),
    (frameTPre (ccT k) 153 [.slice none 0 0, .int .i64 s2] [ar2 n 4, rowB (byteV y), tlB [a, b, c, d]], true),
    (decide (IntKind.wrap .i64 (IntKind.wrap .i64 (0 + ((n : Nat) : Int)) + ((4 : Nat) : Int)) = s2), true), (decide (IntKind.wrap .i64 (IntKind.wrap .i64 (0 + ((n : Nat) : Int)) + ((4 : Nat) : Int)) < 0), false), (decide (IntKind.wrap .i64 (0 + ((n : Nat) : Int)) < 0), false)]) := by kernel_rfl
theorem concat_ok {y : List Nat} {a b c d : Nat} (hne : y ≠ []) (hl : y.length ≤ 100000) :
    CallOk Tryz.prog 96 [.slice (some ⟨0, 0, none⟩) 2 2] [ar2 y.length 4, rowB (byteV y), tlB [a, b, c, d]] (.slice (some ⟨5, 0, none⟩) (y.length + 4) 0) [ar2 y.length 4, rowB (byteV y), tlB [a, b, c, d], spB, spB, rowB (byteV (y ++ [a, b, c, d]))] 3 := by
  have hpos : 0 < y.length := List.length_pos_iff.2 hne
  have hr := concat_run y y.length (y.length + 4) ((y.length + 4 : Nat) : Int) a b c d
  have e1 : (List.drop 0 (byteV y)).take (y.length * 1) ++ (List.drop 0 (byteV [a, b, c, d])).take 4 = byteV (y ++ [a, b, c, d]) := by
    rw [List.drop_zero, List.drop_zero, Nat.mul_one, List.take_of_length_le (by simp), List.take_of_length_le (by simp), byteV_append]
  rw [e1] at hr
  refine fnL_ok progOk extSound (nb_sound _ _ (sym_sound _ (frameT_sound _))) noLoops_ok hr ?_
  intro q hq
  simp only [List.mem_cons, List.not_mem_nil, or_false] at hq
  rcases hq with rfl | rfl | rfl | rfl | rfl | rfl
  · simp [live, tlB]; omega
  · simp [live, rowB, Value.cells]; omega
  · exact tok (frameT_ok [] (grow_ok (n := y.length + 4) (by omega) (by omega)) (by exact ro_in rfl (ro_row hne (ro_in rfl ro_nil))) (by rw [byteV_zeros]; exact rf_row rf_nil))
  · simp only [decide_eq_true_eq]; rw [wrap_i64 (n := 0 + ((y.length : Nat) : Int)) (by omega), wrap_i64 (by omega)]; omega
  · simp only [decide_eq_false_iff_not]; rw [wrap_i64 (n := 0 + ((y.length : Nat) : Int)) (by omega), wrap_i64 (by omega)]; omega
  · simp only [decide_eq_false_iff_not]; rw [wrap_i64 (n := 0 + ((y.length : Nat) : Int)) (by omega)]; omega
def slT (y : List Nat) (n : Nat) (s : Int) (a b c d : Nat) : Nat → Tale := fun _ f _ _ => match f with
  | 50 => some (.int .u32 s, [arB 1 n 0, rowB (byteV y), tb1], 2)
  | 49 => some (.slice (some ⟨0, 0, none⟩) 4 4, [tlB [a, b, c, d]], 0)
  | 96 => some (.slice (some ⟨5, 0, none⟩) (n + 4) 0, [ar2 n 4, rowB (byteV y), tlB [a, b, c, d], spB, spB, rowB (byteV (y ++ [a, b, c, d]))], 3)
  | _ => none
theorem seal_run (y : List Nat) (n : Nat) (s : Int) (a b c d : Nat) : evFnL Tryz.prog ext 300 (nmPre (frameTPre (slT y n s a b c d))) (nbC [] [(6, false)] (frameT (slT y n s a b c d))) noLoops [(1,true),(0,true),(0,true)] 48 [.slice (some ⟨0, 0, none⟩) n 0] [rowB (byteV y)] =
  some ((Value.tuple { toList := [Value.slice (some ⟨4, 0, none⟩) (n + 4) 0, Value.int IntKind.i64 0] }, [{ own := true, grown := some 1, cells := byteV y }, { own := true, grown := none, cells := [Value.slice (some ⟨0, 0, none⟩) n 0] }, { own := true, grown := none, cells := [Value.int IntKind.u8 ((a : Nat) : Int), Value.int IntKind.u8 ((b : Nat) : Int), Value.int IntKind.u8 ((c : Nat) : Int), Value.int IntKind.u8 ((d : Nat) : Int)] }, { own := true, grown := none, cells := [Value.slice (some ⟨0, 0, none⟩) n 0, Value.slice (some ⟨2, 0, none⟩) 4 4] }, { own := true, grown := some 1, cells := byteV (y ++ [a, b, c, d]) }], 1), [(frameTPre (slT y n s a b c d) 96 [Value.slice (some ⟨3, 0, none⟩) 2 2] [{ own := true, grown := some 1, cells := byteV y }, { own := true, grown := none, cells := [Value.slice (some ⟨0, 0, none⟩) n 0] }, { own := true, grown := none, cells := [Value.int IntKind.u8 ((a : Nat) : Int), Value.int IntKind.u8 ((b : Nat) : Int), Value.int IntKind.u8 ((c : Nat) : Int), Value.int IntKind.u8 ((d : Nat) : Int)] }, { own := true, grown := none, cells := [Value.slice (some ⟨0, 0, none⟩) n 0, Value.slice (some ⟨2, 0, none⟩) 4 4] }], true), (frameTPre (slT y n s a b c d) 49 [Value.int IntKind.u32 s] [{ own := true, grown := some 1, cells := byteV y }, { own := true, grown := none, cells := [Value.slice (some ⟨0, 0, none⟩) n 0] }], true), (frameTPre (slT y n s a b c d) 50 [Value.slice (some ⟨1, 0, none⟩) 1 1] [{ own := true, grown := some 1, cells := byteV y }, { own := true, grown := none, cells := [Value.slice (some ⟨0, 0, none⟩) n 0] }], true), (decide (((n : Nat) : Int) > 65536), false)]) := by kernel_rfl
theorem seal_ok1 {y : List Nat} (hne : y ≠ []) (hy : ∀ x ∈ y, x < 256) (hl : y.length ≤ 60000) :
    CallOk Tryz.prog 48 [.slice (some ⟨0, 0, none⟩) y.length 0] [rowB (byteV y)] (.tuple #[.slice (some ⟨4, 0, none⟩) (y.length + 4) 0, .int .i64 0]) [rowB (byteV y), arB 0 y.length 0, tlB (Crc.tail (Crc.sum y)), ⟨true, none, [.slice (some ⟨0, 0, none⟩) y.length 0, .slice (some ⟨2, 0, none⟩) 4 4]⟩, rowB (byteV (Crc.sealed y))] 1 := by
  have ht : y.take y.length = y := List.take_length
  refine fnL_ok progOk extSound (nb_sound _ _ (frameT_sound _)) noLoops_ok (seal_run y y.length (Crc.sum y : Nat) (Crc.sum y % 256) (Crc.sum y / 256 % 256) (Crc.sum y / 65536 % 256) (Crc.sum y / 16777216 % 256)) ?_
  intro q hq
  simp only [List.mem_cons, List.not_mem_nil, or_false] at hq
  rcases hq with rfl | rfl | rfl | rfl
  · exact tok (frameT_ok [3, 0, 2] (concat_ok (a := Crc.sum y % 256) (b := Crc.sum y / 256 % 256) (c := Crc.sum y / 65536 % 256) (d := Crc.sum y / 16777216 % 256) hne (by omega)) (by exact ro_row hne (ro_in rfl (ro_in rfl (ro_in rfl ro_nil)))) (by exact rf_in rfl (rf_row (rf_in rfl (rf_sp (rf_sp (rf_row rf_nil)))))))
  · exact tok (frameT_ok [] (tail_ok (Crc.sum y)) (by exact ro_row hne (ro_in rfl ro_nil)) (by exact rf_in rfl rf_nil))
  · have h := sum_ok (y := y) (m := y.length) (cap := 0) hne (Nat.le_refl _) hy (by omega)
    rw [ht] at h
    exact tok (frameT_ok [1, 0] h (by exact ro_row hne (ro_in rfl ro_nil)) (by exact rf_in rfl (rf_row (rf_in rfl rf_nil))))
  · simp only [decide_eq_false_iff_not]; omega
def eqF (j : Int) (o n c n2 c2 : Nat) : Slots := [(13, .int .i64 j), (12, .int .i64 n), (0, .slice (some ⟨0, o, none⟩) n c), (1, .slice (some ⟨1, 0, none⟩) n2 c2)]
theorem eq_run_t (o n c n2 c2 : Nat) (b1 b2 : Blk) : evFnL Tryz.prog ext 300 (nmPre noPre) (nbC [] [(10, false)] noC) { loop := sumL 4 ⟨eqF 0 o n c n2 c2, [b1, b2], 2⟩ (.exit 0) ⟨eqF n o n c n2 c2, [b1, b2], 2⟩ } [] 40 [.slice (some ⟨0, o, none⟩) n c, .slice (some ⟨1, 0, none⟩) n2 c2] [b1, b2] =
  some ((.bool true, [b1, b2], 2), [(cdec (eqF 0 o n c n2 c2 = eqF 0 o n c n2 c2), true), (cdec ([b1, b2] = [b1, b2]), true), (cdec ((2 : Nat) = 2), true), (((n : Nat) : Int) != ((n2 : Nat) : Int), false)]) := by kernel_rfl
theorem eq_run_f (o n c n2 c2 : Nat) (b1 b2 : Blk) : evFnL Tryz.prog ext 300 (nmPre noPre) (nbC [] [(10, false)] noC) { loop := sumL 4 ⟨eqF 0 o n c n2 c2, [b1, b2], 2⟩ .ret ⟨[(4, .bool false)], [b1, b2], 2⟩ } [] 40 [.slice (some ⟨0, o, none⟩) n c, .slice (some ⟨1, 0, none⟩) n2 c2] [b1, b2] =
  some ((.bool false, [b1, b2], 2), [(cdec (eqF 0 o n c n2 c2 = eqF 0 o n c n2 c2), true), (cdec ([b1, b2] = [b1, b2]), true), (cdec ((2 : Nat) = 2), true), (((n : Nat) : Int) != ((n2 : Nat) : Int), false)]) := by kernel_rfl
theorem eq_more (j j' x z : Int) (o n c n2 c2 : Nat) (b1 b2 : Blk) : evL Tryz.prog ext (nmPre (symPre [16, 18, 20, 22] noPre)) (nbC [(25, j'), (19, x), (23, z)] [(24, false)] noC) noLoops 300 (ntOf Tryz.prog 40 2) (loopAt Tryz.prog 40 0) (eqF j o n c n2 c2) [b1, b2] 2 [(0,true),(0,true),(0,true),(0,true),(0,true)] [13, 12, 0, 1] =
  some (Ex.normal, [(13, Value.int IntKind.i64 j'), (12, Value.int IntKind.i64 ((n : Nat) : Int)), (0, Value.slice (some { block := 0, off := o }) n c), (1, Value.slice (some ⟨1, 0, none⟩) n2 c2)], [b1, b2], 2, [(decide (IntKind.wrap IntKind.i64 (j + 1) = j'), true), (x != z, false), (decide (intAt (Blk.cells b2) (Addr.off { block := 1, off := 0 + Int.toNat j }) = z), true), (live b2 && isIntAt IntKind.u8 (Blk.cells b2) (Addr.off { block := 1, off := 0 + Int.toNat j }), true), (decide (0 ≤ j ∧ j < ((n2 : Nat) : Int)), true), (decide (intAt (Blk.cells b1) (Addr.off { block := 0, off := o + Int.toNat j }) = x), true), (live b1 && isIntAt IntKind.u8 (Blk.cells b1) (Addr.off { block := 0, off := o + Int.toNat j }), true), (decide (0 ≤ j ∧ j < ((n : Nat) : Int)), true), (decide (j < ((n : Nat) : Int)), true)]) := by kernel_rfl
theorem eq_diff (j j' x z : Int) (o n c n2 c2 : Nat) (b1 b2 : Blk) : evL Tryz.prog ext (nmPre (symPre [16, 18, 20, 22] noPre)) (nbC [(25, j'), (19, x), (23, z)] [(24, true)] noC) noLoops 300 (ntOf Tryz.prog 40 2) (loopAt Tryz.prog 40 0) (eqF j o n c n2 c2) [b1, b2] 2 [(0,true),(0,true),(0,true),(0,true),(0,true)] [4] =
  some (Ex.ret, [(4, Value.bool false)], [b1, b2], 2, [(x != z, true), (decide (intAt (Blk.cells b2) (Addr.off { block := 1, off := 0 + Int.toNat j }) = z), true), (live b2 && isIntAt IntKind.u8 (Blk.cells b2) (Addr.off { block := 1, off := 0 + Int.toNat j }), true), (decide (0 ≤ j ∧ j < ((n2 : Nat) : Int)), true), (decide (intAt (Blk.cells b1) (Addr.off { block := 0, off := o + Int.toNat j }) = x), true), (live b1 && isIntAt IntKind.u8 (Blk.cells b1) (Addr.off { block := 0, off := o + Int.toNat j }), true), (decide (0 ≤ j ∧ j < ((n : Nat) : Int)), true), (decide (j < ((n : Nat) : Int)), true)]) := by kernel_rfl
theorem eq_out (j j' x z : Int) (o n c n2 c2 : Nat) (b1 b2 : Blk) : evL Tryz.prog ext (nmPre (symPre [16, 18, 20, 22] noPre)) (nbC [(25, j'), (19, x), (23, z)] [(24, false)] noC) noLoops 300 (ntOf Tryz.prog 40 2) (loopAt Tryz.prog 40 0) (eqF j o n c n2 c2) [b1, b2] 2 [(0,false)] [13, 12, 0, 1] =
  some (Ex.exit 0, [(13, Value.int IntKind.i64 j), (12, Value.int IntKind.i64 ((n : Nat) : Int)), (0, Value.slice (some { block := 0, off := o }) n c), (1, Value.slice (some ⟨1, 0, none⟩) n2 c2)], [b1, b2], 2, [(decide (j < ((n : Nat) : Int)), false)]) := by kernel_rfl
section
variable {y z : List Nat} {o n c c2 : Nat} {b1 b2 : Blk}
theorem eq_round (h1 : live b1 = true) (h2 : live b2 = true) (hc1 : b1.cells = byteV y) (hc2 : b2.cells = byteV z) (hy : o + n ≤ y.length) (hz : n ≤ z.length) (hn : n ≤ 1000000) {j : Nat} (hj : j < n) (he : y[o + j]? = z[j]?) :
    WP Tryz.prog (ntOf Tryz.prog 40 2) (loopAt Tryz.prog 40 0) ⟨eqF (j : Nat) o n c n c2, [b1, b2], 2⟩ .normal ⟨eqF ((j + 1 : Nat) : Int) o n c n c2, [b1, b2], 2⟩ := by
  have g1 : y[o + j]? = some y[o + j] := List.getElem?_eq_getElem (by omega)
  have g2 : z[j]? = some y[o + j] := by rw [← he, g1]
  obtain ⟨a1, a2⟩ := byteV_get g1
  obtain ⟨d1, d2⟩ := byteV_get g2
  refine WP.run progOk extSound (nb_sound _ _ (sym_sound _ noC_sound)) (by kernel_rfl) (LoopsOk.none (by kernel_rfl)) [13, 12, 0, 1] (eq_more (j : Nat) ((j + 1 : Nat) : Int) (y[o + j] : Nat) (y[o + j] : Nat) o n c n c2 b1 b2) ?_
  intro q hq
  simp only [hc1, hc2, Int.toNat_natCast, Nat.zero_add, a1, a2, d1, d2, List.mem_cons, List.not_mem_nil, or_false] at hq
  rcases hq with rfl | rfl | rfl | rfl | rfl | rfl | rfl | rfl | rfl
  · simp only [decide_eq_true_eq]; rw [wrap_i64 (by omega)]; omega
  · simp
  · simp
  · simp [h2]
  · simp only [decide_eq_true_eq]; omega
  · simp
  · simp [h1]
  · simp only [decide_eq_true_eq]; omega
  · simp only [decide_eq_true_eq]; omega
theorem loops40 : loopsOf (bodyOf Tryz.prog 40) = [loopAt Tryz.prog 40 0] := by kernel_rfl
theorem equal_ok (h1 : live b1 = true) (h2 : live b2 = true) (hc1 : b1.cells = byteV y) (hc2 : b2.cells = byteV z) (hy : o + n ≤ y.length) (hz : n ≤ z.length) (hn : n ≤ 1000000) (he : (y.drop o).take n = z.take n) :
    CallOk Tryz.prog 40 [.slice (some ⟨0, o, none⟩) n c, .slice (some ⟨1, 0, none⟩) n c2] [b1, b2] (.bool true) [b1, b2] 2 := by
  refine fnL_ok progOk extSound (nb_sound _ _ noC_sound) (LoopsOk.sum (hL := rfl) ?_) (eq_run_t o n c n c2 b1 b2) (by simp [Holds, cdec])
  intro b' hb' _
  rw [loops40] at hb'
  simp only [List.mem_singleton] at hb'
  subst hb'
  have key := WP.while (P := Tryz.prog) (nt := ntOf Tryz.prog 40 2) (b := loopAt Tryz.prog 40 0) (S := fun j : Nat => ⟨eqF (j : Nat) o n c n c2, [b1, b2], 2⟩) (fun j => j ≤ n) (fun j => n - j) (x := .exit 0) (s' := ⟨eqF n o n c n c2, [b1, b2], 2⟩) (by simp) ?_ 0 (by omega)
  · exact key
  intro j hj
  by_cases h : j = n
  · subst h
    left
    exact WP.run progOk extSound (nb_sound _ _ (sym_sound _ noC_sound)) (by kernel_rfl) (LoopsOk.none (by kernel_rfl)) [13, 12, 0, 1] (eq_out (j : Nat) 0 0 0 o j c j c2 b1 b2) (by simp [Holds])
  · right
    refine ⟨j + 1, by omega, by omega, eq_round h1 h2 hc1 hc2 hy hz hn (by omega) ?_⟩
    have := congrArg (fun l => l[j]?) he
    simp only [List.getElem?_take_of_lt (show j < n by omega), List.getElem?_drop] at this
    exact this
theorem least {p : Nat → Prop} : ∀ n, p n → ∃ j, p j ∧ j ≤ n ∧ ∀ i, i < j → ¬ p i := by
  intro n
  induction n using Nat.strongRecOn with
  | ind n ih =>
    intro h
    by_cases hx : ∃ i, i < n ∧ p i
    · obtain ⟨i, h1, h2⟩ := hx
      obtain ⟨j, a, b, c⟩ := ih i h1 h2
      exact ⟨j, a, by omega, c⟩
    · exact ⟨n, h, Nat.le_refl _, fun i hi hp => hx ⟨i, hi, hp⟩⟩
theorem equal_not (h1 : live b1 = true) (h2 : live b2 = true) (hc1 : b1.cells = byteV y) (hc2 : b2.cells = byteV z) (hy : o + n ≤ y.length) (hz : n ≤ z.length) (hn : n ≤ 1000000) (he : (y.drop o).take n ≠ z.take n) :
    CallOk Tryz.prog 40 [.slice (some ⟨0, o, none⟩) n c, .slice (some ⟨1, 0, none⟩) n c2] [b1, b2] (.bool false) [b1, b2] 2 := by
  have hex : ∃ j, j < n ∧ y[o + j]? ≠ z[j]? := by
    refine Classical.byContradiction fun hno => he (List.ext_getElem? fun j => ?_)
    by_cases hj : j < n
    · rw [List.getElem?_take_of_lt hj, List.getElem?_take_of_lt hj, List.getElem?_drop]
      exact Classical.byContradiction fun hh => hno ⟨j, hj, hh⟩
    · rw [List.getElem?_eq_none (by simp; omega), List.getElem?_eq_none (by simp; omega)]
  obtain ⟨j1, hj1, hd1⟩ := hex
  obtain ⟨d, hd, hdj, hlt⟩ := least (p := fun j => y[o + j]? ≠ z[j]?) j1 hd1
  have hdn : d < n := by omega
  refine fnL_ok progOk extSound (nb_sound _ _ noC_sound) (LoopsOk.sum (hL := rfl) ?_) (eq_run_f o n c n c2 b1 b2) (by simp [Holds, cdec])
  intro b' hb' _
  rw [loops40] at hb'
  simp only [List.mem_singleton] at hb'
  subst hb'
  have key := WP.while (P := Tryz.prog) (nt := ntOf Tryz.prog 40 2) (b := loopAt Tryz.prog 40 0) (S := fun j : Nat => ⟨eqF (j : Nat) o n c n c2, [b1, b2], 2⟩) (fun j => j ≤ d) (fun j => d - j) (x := .ret) (s' := ⟨[(4, .bool false)], [b1, b2], 2⟩) (by simp) ?_ 0 (by omega)
  · exact key
  intro j hj
  by_cases h : j = d
  · subst h
    left
    have g1 : y[o + j]? = some y[o + j] := List.getElem?_eq_getElem (by omega)
    have g2 : z[j]? = some z[j] := List.getElem?_eq_getElem (by omega)
    obtain ⟨a1, a2⟩ := byteV_get g1
    obtain ⟨d1, d2⟩ := byteV_get g2
    refine WP.run progOk extSound (nb_sound _ _ (sym_sound _ noC_sound)) (by kernel_rfl) (LoopsOk.none (by kernel_rfl)) [4] (eq_diff (j : Nat) 0 (y[o + j] : Nat) (z[j] : Nat) o n c n c2 b1 b2) ?_
    intro q hq
    simp only [hc1, hc2, Int.toNat_natCast, Nat.zero_add, a1, a2, d1, d2, List.mem_cons, List.not_mem_nil, or_false] at hq
    rcases hq with rfl | rfl | rfl | rfl | rfl | rfl | rfl | rfl
    · have hne : y[o + j] ≠ z[j] := fun e => hd (by rw [g1, g2, e])
      simp only [bne_iff_ne, ne_eq]
      omega
    · simp
    · simp [h2]
    · simp only [decide_eq_true_eq]; omega
    · simp
    · simp [h1]
    · simp only [decide_eq_true_eq]; omega
    · simp only [decide_eq_true_eq]; omega
  · right
    refine ⟨j + 1, by omega, by omega, eq_round h1 h2 hc1 hc2 hy hz hn (by omega) ?_⟩
    exact Classical.byContradiction fun hh => hlt j (by omega) hh
end
end Go.Proofs.YtpgmabpaiijipaaGreatDoor
namespace Go.Proofs.YtpgmabpaiijipaaGreatDoor.Den
open Go
theorem CallOk.anyCapF {P : Program} {f : FuncId} {n sz : Nat} {own : Bool} {cells : List Value} {v : Value} {news : Heap} (hn : 0 < n) (hsz : 0 < sz)
    (h : ∀ k, CallOk P f [.slice (some ⟨0, 0, none⟩) n (k + n)] [⟨false, none, cells⟩] v (⟨false, none, cells⟩ :: news) 1) :
    CallOk P f [.slice (some ⟨0, 0, none⟩) n 0] [⟨own, some sz, cells⟩] v (⟨own, some sz, cells⟩ :: news) 1 := by
  intro ρ w args' hva hs
  have hlive : live ⟨own, some sz, cells⟩ = true := by
    unfold live
    cases sz with
    | zero => omega
    | succ m => rfl
  have hlen := hva.1
  obtain ⟨x, hargs⟩ : ∃ x, args'.toList = [x] := by
    match args'.toList, hlen with
    | [x], _ => exact ⟨x, rfl⟩
  have hx := hva.2 0 _ x rfl (by rw [hargs]; rfl)
  obtain ⟨e, he⟩ : ∃ e, ρ[0]? = some e := get_lt (by rw [hs.len]; simp)
  have hbr := hs.blk 0 e _ he rfl
  obtain ⟨c, el, fz, b1, b2, b3, b4⟩ := hbr.row hlive
  have hs0 : SR ρ [⟨false, none, cells⟩] w := by
    refine ⟨⟨by simpa using hs.len, ?_, ?_⟩, hs.gl.tabs, ?_⟩
    · intro i e' b hi hb
      cases i with
      | zero =>
        simp at hb
        subst hb
        rw [he] at hi
        injection hi with hi
        subst hi
        exact .inl ⟨rfl, c, el, fz, b1, b2, fun h => by simp at h, fun sz h => by simp at h⟩
      | succ i => simp at hb
    · intro i j e1 e2 b b' hij _ _ hb hb'
      have h1 := (List.getElem?_eq_some_iff.1 hb).1
      have h2 := (List.getElem?_eq_some_iff.1 hb').1
      simp at h1 h2
      omega
    · intro i e' b hi hb ho
      cases i with
      | zero =>
        simp at hb
        subst hb
        simp at ho
      | succ i => simp at hb
  have main : ∀ (k : Nat), x = .slice (some ⟨e.r, e.d, none⟩) n (k + n) → Calls P f args' w fun e w' => ∃ ρ' v', e = .returned v' ∧ VR ρ' v v' ∧ Rel ρ [⟨own, some sz, cells⟩] w ρ' (⟨own, some sz, cells⟩ :: news) 1 w' := by
    intro k hxk
    refine (h k ρ w args' ⟨by simpa using hlen, fun i v1 v1' p q => ?_⟩ hs0).mono ?_
    · cases i with
      | zero =>
        rw [hargs] at q
        simp at p q
        subst p q
        rw [hxk]
        exact VR.slice (e := e) (o := 0) he (by omega)
      | succ i => simp at p
    · rintro ex w' ⟨ρ', v', rfl, hv, hR⟩
      refine ⟨ρ', v', rfl, hv, ?_⟩
      have hkeep : w'.heap[e.r]? = w.heap[e.r]? := hR.keep e.r hbr.lt fun j e0 b0 _ hb0 _ hl => by
        have := (List.getElem?_eq_some_iff.1 hb0).1
        simp at this
        omega
      refine ⟨hs.gl, hs.len, hR.pre, ⟨by simpa using hR.sr.len, ?_, ?_⟩, by simp, ?_, fun i e1 hi he1 => ?_, hR.os, hR.tape, hR.output, hR.size, fun k' hk' hh => hR.keep k' hk' fun j e0 b0 _ hb0 _ hl => ?_⟩
      · intro i e1 b hi hb
        cases i with
        | zero =>
          simp at hb
          subst hb
          have := prefix_get hR.pre he
          rw [hi] at this
          injection this with this
          subst this
          exact (hbr.at hkeep).mono hR.pre
        | succ i => exact hR.sr.blk (i + 1) e1 b hi (by simpa using hb)
      · intro i j e1 e2 b b' hij hi hj hb hb' ho hc
        have far : ∀ (i : Nat) (x : Ent), 0 < i → ρ'[i]? = some x → w.heap.size ≤ x.r := by
          intro i x hi0 hx
          rcases hR.new i x (by simp; omega) hx with h1 | ⟨j, _, _, _, hb0, _, hl, _⟩
          · exact h1
          · have := (List.getElem?_eq_some_iff.1 hb0).1
            simp at this
            omega
        have near : ∀ (x : Ent), ρ'[0]? = some x → x.r < w.heap.size := by
          intro x hx
          have := prefix_get hR.pre he
          rw [hx] at this
          injection this with this
          rw [this]; exact hbr.lt
        cases i with
        | zero =>
          have h1 := near e1 hi
          have h2 := far j e2 (by omega) hj
          omega
        | succ i =>
          cases j with
          | zero =>
            have h1 := near e2 hj
            have h2 := far (i + 1) e1 (by omega) hi
            omega
          | succ j => exact hR.sr.inj (i + 1) (j + 1) e1 e2 b b' hij hi hj (by simpa using hb) (by simpa using hb') ho hc
      · intro i b hi hb ho
        have : i = 0 := by simp at hi; exact hi
        subst this
        simp at hb
        subst hb
        exact ⟨_, rfl, ho⟩
      · rcases hR.new i e1 (by simpa using hi) he1 with h1 | ⟨j, _, _, _, hb0, _, hl, _⟩
        · exact .inl h1
        · have := (List.getElem?_eq_some_iff.1 hb0).1
          simp at this
          omega
      · have := (List.getElem?_eq_some_iff.1 hb0).1
        simp at this
        omega
  cases hx with
  | flat hf => simp [isFlat] at hf
  | slice _ hl => omega
  | sliceU he' h0 hl =>
    rename_i e2
    have : e2 = e := by rw [he] at he'; injection he' with h; exact h.symm
    subst this
    exact main (e2.k - n) (by rw [show e2.k - n + n = e2.k by omega])
end Go.Proofs.YtpgmabpaiijipaaGreatDoor.Den
namespace Go.Proofs.YtpgmabpaiijipaaGreatDoor
open Go Den
set_option maxRecDepth 100000
set_option linter.unusedSimpArgs false
set_option linter.unusedVariables false
theorem clone_pre {l : List Nat} {o : Bool} {g : Option Nat} {m c : Nat} (hl : live ⟨o, g, byteV l⟩ = true) (h0 : 0 < m) (hm : m ≤ l.length) (hb : l.length ≤ 1000000) :
    CallOk Tryz.prog 51 [.slice (some ⟨0, 0, none⟩) m c] [⟨o, g, byteV l⟩] (.slice (some ⟨2, 0, none⟩) m 0) [⟨o, g, byteV l⟩, ⟨true, none, []⟩, rowB (byteV (l.take m))] 1 := by
  have hr := clone_run m c o g (byteV l)
  have e : (List.drop 0 (byteV l)).take (m * 1) = byteV (l.take m) := by
    rw [List.drop_zero, Nat.mul_one]; simp [byteV, List.map_take]
  rw [e] at hr
  refine fnL_ok progOk extSound (sym_sound [6] noC_sound) noLoops_ok hr ?_
  intro q hq
  simp only [List.mem_cons, List.not_mem_nil, or_false] at hq
  subst hq
  simp only [hl, Bool.true_and, decide_eq_true_eq]
  exact ⟨rfl, by omega, h0, by simp; omega, by omega, by omega⟩
def opT (y : List Nat) (m cap : Nat) (s : Int) (t : List Nat) (r : Bool) : Nat → Tale := fun _ f _ _ => match f with
  | 50 => some (.int .u32 s, [arB 1 m cap, ⟨false, none, byteV y⟩, tb1], 2)
  | 49 => some (.slice (some ⟨0, 0, none⟩) 4 4, [tlB t], 0)
  | 40 => some (.bool r, [⟨false, none, byteV y⟩, tlB t], 2)
  | 51 => some (.slice (some ⟨2, 0, none⟩) m 0, [⟨false, none, byteV y⟩, ⟨true, none, []⟩, rowB (byteV (y.take m))], 1)
  | _ => none
noncomputable def opObs (y : List Nat) (m k : Nat) (s : Int) (t : List Nat) (r : Bool) : Obs :=
  [(frameTPre (opT y m k s t r) 40 [.slice (some ⟨0, 0 + m * 1, none⟩) (m + 4 - m) (k - m), .slice (some ⟨2, 0, none⟩) 4 4] [⟨false, none, byteV y⟩, arB 0 m k, tlB t], true),
   (frameTPre (opT y m k s t r) 49 [.int .u32 s] [] && frameTPre (opT y m k s t r) 49 [.int .u32 s] [⟨false, none, byteV y⟩, arB 0 m k], true),
   (frameTPre (opT y m k s t r) 50 [.slice (some ⟨1, 0, none⟩) 1 1] [⟨false, none, byteV y⟩, arB 0 m k], true),
   (decide ((0 : Int) ≤ 0 ∧ (0 : Int) ≤ ((m : Nat) : Int) ∧ ((m : Nat) : Int) ≤ ((k : Nat) : Int) ∧ (0 : Int) < ((k : Nat) : Int) ∧ m + 4 ≤ k), true),
   (decide (0 ≤ ((m : Nat) : Int) ∧ ((m : Nat) : Int) ≤ ((m + 4 : Nat) : Int) ∧ ((m + 4 : Nat) : Int) ≤ ((k : Nat) : Int) ∧ ((m : Nat) : Int) < ((k : Nat) : Int) ∧ m + 4 ≤ k), true),
   (decide (((m : Nat) : Int) > 65536), false), (decide (((m : Nat) : Int) < 0), false), (decide (IntKind.wrap .i64 (((m + 4 : Nat) : Int) - 4) = ((m : Nat) : Int)), true)]
theorem open_runF (y : List Nat) (m k : Nat) (s : Int) (a b c d : Nat) : evFnL Tryz.prog ext 300 (nmPre (symPre [15, 18, 26] (frameTPre (opT y m k s [a, b, c, d] false)))) (nbC [(7, (m : Int))] [(10, false), (13, false)] (frameT (opT y m k s [a, b, c, d] false))) noLoops [(2,true),(0,true),(0,true),(0,true),(0,true)] 15 [.slice (some ⟨0, 0, none⟩) (m + 4) k] [⟨false, none, byteV y⟩] =
  some ((.tuple #[.slice none 0 0, .int .i64 30], [⟨false, none, byteV y⟩, arB 0 m k, tlB [a, b, c, d]], 1), opObs y m k s [a, b, c, d] false) := by kernel_rfl
theorem open_runT (y : List Nat) (m k : Nat) (s : Int) (a b c d : Nat) : evFnL Tryz.prog ext 300 (nmPre (symPre [15, 18, 26] (frameTPre (opT y m k s [a, b, c, d] true)))) (nbC [(7, (m : Int))] [(10, false), (13, false)] (frameT (opT y m k s [a, b, c, d] true))) noLoops [(2,true),(0,true),(0,true),(0,true),(0,true),(1,true),(0,true)] 15 [.slice (some ⟨0, 0, none⟩) (m + 4) k] [⟨false, none, byteV y⟩] =
  some ((.tuple #[.slice (some ⟨3, 0, none⟩) m 0, .int .i64 0], [⟨false, none, byteV y⟩, arB 0 m k, tlB [a, b, c, d], rowB (byteV (y.take m))], 1),
    (frameTPre (opT y m k s [a, b, c, d] true) 51 [.slice (some ⟨0, 0, none⟩) m k] [⟨false, none, byteV y⟩, arB 0 m k, tlB [a, b, c, d]], true) ::
    (decide ((0 : Int) ≤ 0 ∧ (0 : Int) ≤ ((m : Nat) : Int) ∧ ((m : Nat) : Int) ≤ ((k : Nat) : Int) ∧ (0 : Int) < ((k : Nat) : Int) ∧ m + 4 ≤ k), true) :: opObs y m k s [a, b, c, d] true) := by kernel_rfl
theorem opObs_ok {y : List Nat} {m k : Nat} (h0 : 0 < m) (hlen : y.length = m + 4) (hk : m + 4 ≤ k) (hy : ∀ x ∈ y, x < 256) (hl : y.length ≤ 60000) {r : Bool} (hr : r = decide (y.drop m = Crc.tail (Crc.sum (y.take m)))) :
    Holds (opObs y m k (Crc.sum (y.take m) : Nat) (Crc.tail (Crc.sum (y.take m))) r) := by
  have hne : y ≠ [] := by intro e; rw [e] at hlen; simp at hlen
  intro q hq
  simp only [opObs, List.mem_cons, List.not_mem_nil, or_false] at hq
  rcases hq with rfl | rfl | rfl | rfl | rfl | rfl | rfl | rfl
  · have e4 : m + 4 - m = 4 := by omega
    have eo : 0 + m * 1 = m := by omega
    have htl : (Crc.tail (Crc.sum (y.take m))).length = 4 := rfl
    have hd : (y.drop m).take 4 = y.drop m := List.take_of_length_le (by simp; omega)
    have ht : (Crc.tail (Crc.sum (y.take m))).take 4 = Crc.tail (Crc.sum (y.take m)) := List.take_of_length_le (by rw [htl]; omega)
    have h : CallOk Tryz.prog 40 [.slice (some ⟨0, m, none⟩) 4 (k - m), .slice (some ⟨1, 0, none⟩) 4 4] [⟨false, none, byteV y⟩, tlB (Crc.tail (Crc.sum (y.take m)))] (.bool r) [⟨false, none, byteV y⟩, tlB (Crc.tail (Crc.sum (y.take m)))] 2 := by
      by_cases he : y.drop m = Crc.tail (Crc.sum (y.take m))
      · have : r = true := by rw [hr]; simpa using he
        subst this
        exact equal_ok (y := y) (z := Crc.tail (Crc.sum (y.take m))) rfl rfl rfl rfl (by omega) (by rw [htl]; omega) (by omega) (by rw [hd, ht]; exact he)
      · have : r = false := by rw [hr]; simpa using he
        subst this
        exact equal_not (y := y) (z := Crc.tail (Crc.sum (y.take m))) rfl rfl rfl rfl (by omega) (by rw [htl]; omega) (by omega) (by rw [hd, ht]; exact he)
    rw [e4, eo]
    exact tok (frameT_ok [0, 2] h (by exact ro_row hne (ro_in rfl (ro_in rfl ro_nil))) (by exact rf_row (rf_in rfl rf_nil)))
  · refine tok ?_
    rw [frameT_ok [] (tail_ok (Crc.sum (y.take m))) (by exact ro_nil) (by exact rf_in rfl rf_nil) (by kernel_rfl) (by kernel_rfl)]
    exact frameT_ok [] (tail_ok (Crc.sum (y.take m))) (by exact ro_row hne (ro_in rfl ro_nil)) (by exact rf_in rfl rf_nil) (by kernel_rfl) (by kernel_rfl)
  · exact tok (frameT_ok [1, 0] (sum_outer (y := y) (m := m) (cap := k) hne (by omega) hy (by omega)) (by exact ro_row hne (ro_in rfl ro_nil)) (by exact rf_in rfl (rf_row (rf_in rfl rf_nil))))
  · simp only [decide_eq_true_eq]; omega
  · simp only [decide_eq_true_eq]; omega
  · simp only [decide_eq_false_iff_not]; omega
  · simp only [decide_eq_false_iff_not]; omega
  · simp only [decide_eq_true_eq]; rw [wrap_i64 (by omega)]; omega
theorem openF_outer {y : List Nat} {m k : Nat} (h0 : 0 < m) (hlen : y.length = m + 4) (hk : m + 4 ≤ k) (hy : ∀ x ∈ y, x < 256) (hl : y.length ≤ 60000) (hs : y.drop m ≠ Crc.tail (Crc.sum (y.take m))) :
    CallOk Tryz.prog 15 [.slice (some ⟨0, 0, none⟩) (m + 4) k] [⟨false, none, byteV y⟩] (.tuple #[.slice none 0 0, .int .i64 30]) [⟨false, none, byteV y⟩] 1 := by
  have h : CallOk Tryz.prog 15 [.slice (some ⟨0, 0, none⟩) (m + 4) k] [⟨false, none, byteV y⟩] (.tuple #[.slice none 0 0, .int .i64 30]) [⟨false, none, byteV y⟩, arB 0 m k, tlB (Crc.tail (Crc.sum (y.take m)))] 1 :=
    fnL_ok progOk extSound (nb_sound _ _ (sym_sound _ (frameT_sound _))) noLoops_ok (open_runF y m k (Crc.sum (y.take m) : Nat) _ _ _ _) (opObs_ok h0 hlen hk hy hl (by simp [hs]))
  refine h.view (Views.canon [] (by simp) (by simp) (by simp) rfl (fun i b2 hi hb => ?_) (fun j i b2 hj hb => by simp at hj) (renF_get rfl))
  match i, hi with
  | 0, _ => injection hb with hb; subst hb; exact ⟨_, rfl, renA_row _ _ _ _⟩
  | n + 1, hi => simp at hi
theorem openT_outer {y : List Nat} {m k : Nat} (h0 : 0 < m) (hlen : y.length = m + 4) (hk : m + 4 ≤ k) (hy : ∀ x ∈ y, x < 256) (hl : y.length ≤ 60000) (hs : y.drop m = Crc.tail (Crc.sum (y.take m))) :
    CallOk Tryz.prog 15 [.slice (some ⟨0, 0, none⟩) (m + 4) k] [⟨false, none, byteV y⟩] (.tuple #[.slice (some ⟨1, 0, none⟩) m 0, .int .i64 0]) [⟨false, none, byteV y⟩, rowB (byteV (y.take m))] 1 := by
  have hne : y ≠ [] := by intro e; rw [e] at hlen; simp at hlen
  have h : CallOk Tryz.prog 15 [.slice (some ⟨0, 0, none⟩) (m + 4) k] [⟨false, none, byteV y⟩] (.tuple #[.slice (some ⟨3, 0, none⟩) m 0, .int .i64 0]) [⟨false, none, byteV y⟩, arB 0 m k, tlB (Crc.tail (Crc.sum (y.take m))), rowB (byteV (y.take m))] 1 := by
    refine fnL_ok progOk extSound (nb_sound _ _ (sym_sound _ (frameT_sound _))) noLoops_ok (open_runT y m k (Crc.sum (y.take m) : Nat) _ _ _ _) ?_
    intro q hq
    rcases List.mem_cons.1 hq with rfl | hq
    · exact tok (frameT_ok [0] (clone_pre (l := y) (m := m) (o := false) (g := none) (c := k) rfl h0 (by omega) (by omega)) (by exact ro_row hne (ro_in rfl (ro_in rfl ro_nil))) (by exact rf_row (rf_in rfl (rf_row rf_nil))))
    rcases List.mem_cons.1 hq with rfl | hq
    · simp only [decide_eq_true_eq]; omega
    · exact opObs_ok h0 hlen hk hy hl (by simp [hs]) q hq
  refine h.view (Views.canon [3] (by simp) (by simp) (by simp) rfl (fun i b2 hi hb => ?_) (fun j i b2 hj hb => ?_) (renF_get rfl))
  · match i, hi with
    | 0, _ => injection hb with hb; subst hb; exact ⟨_, rfl, renA_row _ _ _ _⟩
    | n + 1, hi => simp at hi
  · match j, hj with
    | 0, hj =>
      injection hj with hj
      subst hj
      injection hb with hb
      subst hb
      exact ⟨_, rfl, renA_row _ _ _ _⟩
theorem open_ok {y : List Nat} {m : Nat} (h0 : 0 < m) (hlen : y.length = m + 4) (hy : ∀ x ∈ y, x < 256) (hl : y.length ≤ 60000) (hs : y.drop m = Crc.tail (Crc.sum (y.take m))) :
    CallOk Tryz.prog 15 [.slice (some ⟨0, 0, none⟩) (m + 4) 0] [rowB (byteV y)] (.tuple #[.slice (some ⟨1, 0, none⟩) m 0, .int .i64 0]) [rowB (byteV y), rowB (byteV (y.take m))] 1 :=
  CallOk.anyCapF (by omega) (by omega) fun k => openT_outer h0 hlen (by omega) hy hl hs
theorem open_not {y : List Nat} {m : Nat} (h0 : 0 < m) (hlen : y.length = m + 4) (hy : ∀ x ∈ y, x < 256) (hl : y.length ≤ 60000) (hs : y.drop m ≠ Crc.tail (Crc.sum (y.take m))) :
    CallOk Tryz.prog 15 [.slice (some ⟨0, 0, none⟩) (m + 4) 0] [rowB (byteV y)] (.tuple #[.slice none 0 0, .int .i64 30]) [rowB (byteV y)] 1 :=
  CallOk.anyCapF (by omega) (by omega) fun k => openF_outer h0 hlen (by omega) hy hl hs
end Go.Proofs.YtpgmabpaiijipaaGreatDoor
namespace Go.Proofs.YtpgmabpaiijipaaGreatDoor
open Go Den
set_option maxRecDepth 100000
set_option linter.unusedSimpArgs false
set_option linter.unusedVariables false
def jAN (l : List Bool) : Blk := ⟨true, none, [.slice (some ⟨1, 0, none⟩) (pn l) 0, .int .i64 (l.length : Nat), .slice none 0 0, .int .i64 0]⟩
def j5N (l : List Bool) : Blk := ⟨true, none, [.slice none 0 0, .int .i64 0]⟩
def jH1N (l : List Bool) : Heap := [jAN l, pk l, resB, bitsB 1 (pn l) (l.length : Nat), j5N l, resB, bitsB 1 (pn l) (l.length : Nat)]
def jH2N (l : List Bool) (L : List Bool) : Heap := [jAN l, pk l, resB, bitsB 1 (pn l) (l.length : Nat), j5N l, bitsB 7 (pn L) (L.length : Nat), bitsB 1 (pn l) (l.length : Nat), pk L]
def jH3N (l : List Bool) (L : List Bool) : Heap := [jAN l, pk l, resB, bitsB 1 (pn l) (l.length : Nat), j5N l, bitsB 9 (pn L) (L.length : Nat), bitsB 1 (pn l) (l.length : Nat), spB, j5N l, pk L]
def jFN (a i : Int) (p : Nat) : Slots := [(11, .int .i64 a), (8, .pointer (some ⟨5, 0, none⟩)), (10, .pointer (some ⟨p, 0, none⟩)), (2, .pointer (some ⟨2, 0, none⟩)), (34, .slice (some ⟨0, 0, none⟩) 2 2), (35, .int .i64 2), (36, .int .i64 i)]
def jTN (b : List Bool) (L L' : List Bool) (t : Int) : Nat → Tale := fun _ f _ _ => match f with
  | 152 => some (.int .u64 t, tkH (pn b) 0 (b.length : Nat) (pk b), 1)
  | 91 => some (pv 3 L', [spB, bitsB 3 (pn L') (L'.length : Nat), bitsB 3 (pn L') (L'.length : Nat), pk L'], 0)
  | _ => none
def jT0N (b : List Bool) (L' : List Bool) (t k : Int) : Nat → Tale := fun _ f _ _ => match f with
  | 152 => some (.int .u64 t, tkH (pn b) 0 (b.length : Nat) (pk b), 1)
  | 91 => some (pv 3 L', [bitsB 3 1 k, bitsB 3 1 k, ⟨true, none, [.int .u8 0]⟩, pk L'], 0)
  | _ => none
def jTfN (l : List Bool) : Nat → Tale := fun n f _ _ => match f, n with
  | 89, 4 => some (.int .i64 0, [pk l, bitsB 0 (pn l) (l.length : Nat)], 1)
  | 89, _ => some (.int .i64 0, [resB], 0)
  | _, _ => none
def jH2bN (l : List Bool) (L : List Bool) : Heap := [jAN l, pk l, resB, bitsB 1 (pn l) (l.length : Nat), j5N l, bitsB 7 (pn L) (L.length : Nat), bitsB 1 (pn l) (l.length : Nat), pk L, j5N l]
noncomputable def jLN (l : List Bool) (L2 : List Bool) (a1 a2 : Int) : Loops := { loop := fun i s => match Nat.beq i 17 with
  | true => (match at? 36 s.F with
    | some (.int _ 0) => sumL 17 ⟨jFN 0 0 6, jH1N l, 2⟩ (.exit 4) ⟨jFN a1 0 6, jH2N l l, 2⟩ i s
    | _ => sumL 17 ⟨jFN 0 1 8, jH2bN l l, 2⟩ (.exit 4) ⟨jFN a2 1 8, jH3N l L2, 2⟩ i s)
  | false => none }
theorem j1fN (l : List Bool) (L' : List Bool) (a' k t : Int) : evL Tryz.prog ext (nmPre (frameTPre (jT0N l L' t k))) (nbC [(12, k), (11, a')] [] (frameT (jT0N l L' t k))) noLoops 300 (ntOf Tryz.prog 95 1) (loopAt Tryz.prog 95 2) (jFN 0 0 6) (jH1N l) 2 [(0,true),(0,true),(0,true)] [11, 8, 10, 2, 34, 35, 36] =
  some (Ex.normal, [(11, .int .i64 a'), (8, .pointer (some ⟨5, 0, none⟩)), (10, .pointer (some ⟨6, 0, none⟩)), (2, .pointer (some ⟨2, 0, none⟩)), (34, .slice (some ⟨0, 0, none⟩) 2 2), (35, .int .i64 2), (36, .int .i64 0)], [⟨true, none, [.slice (some ⟨1, 0, none⟩) (pn l) 0, .int .i64 ((List.length l : Nat) : Int), .slice none 0 0, .int .i64 0]⟩, pk l, resB, bitsB 1 (pn l) (List.length l : Nat), resB, ⟨true, none, [.slice (some ⟨7, 0, none⟩) (pn L') 0, .int .i64 ((List.length L' : Nat) : Int)]⟩, bitsB 1 (pn l) (List.length l : Nat), ⟨true, some 1, byteV (Bt.pack L')⟩], 2, [(decide (IntKind.wrap .i64 (0 + 8) = a'), true), (frameTPre (jT0N l L' t k) 91 [.agg #[.slice none 0 0, .int .i64 0], .int .u64 t, .int .i64 k] [] && frameTPre (jT0N l L' t k) 91 [.agg #[.slice none 0 0, .int .i64 0], .int .u64 t, .int .i64 k] [⟨true, none, [.slice (some ⟨1, 0, none⟩) (pn l) 0, .int .i64 ((List.length l : Nat) : Int), .slice none 0 0, .int .i64 0]⟩, pk l, resB, bitsB 1 (pn l) (List.length l : Nat), resB, resB, bitsB 1 (pn l) (List.length l : Nat)], true), (frameTPre (jT0N l L' t k) 152 [pv 1 l, .int .i64 0, .int .i64 k] [⟨true, none, [.slice (some ⟨1, 0, none⟩) (pn l) 0, .int .i64 ((List.length l : Nat) : Int), .slice none 0 0, .int .i64 0]⟩, pk l, resB, bitsB 1 (pn l) (List.length l : Nat), resB, resB, bitsB 1 (pn l) (List.length l : Nat)], true), (decide ((if IntKind.wrap .i64 (((List.length l : Nat) : Int) - 0) < 8 then IntKind.wrap .i64 (((List.length l : Nat) : Int) - 0) else 8) = k), true), (decide (0 < ((List.length l : Nat) : Int)), true)]) := by kernel_rfl
theorem j1mN (l : List Bool) (L L' : List Bool) (a a' k t : Int) : evL Tryz.prog ext (nmPre (frameTPre (jTN l L L' t))) (nbC [(12, k), (11, a')] [] (frameT (jTN l L L' t))) noLoops 300 (ntOf Tryz.prog 95 1) (loopAt Tryz.prog 95 2) (jFN a 0 6) (jH2N l L) 2 [(0,true),(0,true),(0,true)] [11, 8, 10, 2, 34, 35, 36] =
  some (Ex.normal, [(11, .int .i64 a'), (8, .pointer (some ⟨5, 0, none⟩)), (10, .pointer (some ⟨6, 0, none⟩)), (2, .pointer (some ⟨2, 0, none⟩)), (34, .slice (some ⟨0, 0, none⟩) 2 2), (35, .int .i64 2), (36, .int .i64 0)], [⟨true, none, [.slice (some ⟨1, 0, none⟩) (pn l) 0, .int .i64 ((List.length l : Nat) : Int), .slice none 0 0, .int .i64 0]⟩, pk l, resB, bitsB 1 (pn l) (List.length l : Nat), resB, ⟨true, none, [.slice (some ⟨8, 0, none⟩) (pn L') 0, .int .i64 ((List.length L' : Nat) : Int)]⟩, bitsB 1 (pn l) (List.length l : Nat), spB, ⟨true, some 1, byteV (Bt.pack L')⟩], 2, [(decide (IntKind.wrap .i64 (a + 8) = a'), true), (frameTPre (jTN l L L' t) 91 [pv 7 L, .int .u64 t, .int .i64 k] [⟨true, none, [.slice (some ⟨1, 0, none⟩) (pn l) 0, .int .i64 ((List.length l : Nat) : Int), .slice none 0 0, .int .i64 0]⟩, pk l, resB, bitsB 1 (pn l) (List.length l : Nat), resB, bitsB 7 (pn L) (List.length L : Nat), bitsB 1 (pn l) (List.length l : Nat), pk L], true), (frameTPre (jTN l L L' t) 152 [pv 1 l, .int .i64 a, .int .i64 k] [⟨true, none, [.slice (some ⟨1, 0, none⟩) (pn l) 0, .int .i64 ((List.length l : Nat) : Int), .slice none 0 0, .int .i64 0]⟩, pk l, resB, bitsB 1 (pn l) (List.length l : Nat), resB, bitsB 7 (pn L) (List.length L : Nat), bitsB 1 (pn l) (List.length l : Nat), pk L], true), (decide ((if IntKind.wrap .i64 (((List.length l : Nat) : Int) - a) < 8 then IntKind.wrap .i64 (((List.length l : Nat) : Int) - a) else 8) = k), true), (decide (a < ((List.length l : Nat) : Int)), true)]) := by kernel_rfl
theorem j1oN (l : List Bool) (L : List Bool) (a a' k : Int) : evL Tryz.prog ext (nmPre (frameTPre (jT0N l L 0 0))) (nbC [(12, k), (11, a')] [] (frameT (jT0N l L 0 0))) noLoops 300 (ntOf Tryz.prog 95 1) (loopAt Tryz.prog 95 2) (jFN a 0 6) (jH2N l L) 2 [(0,false)] [11, 8, 10, 2, 34, 35, 36] =
  some (Ex.exit 4, [(11, .int .i64 a), (8, .pointer (some ⟨5, 0, none⟩)), (10, .pointer (some ⟨6, 0, none⟩)), (2, .pointer (some ⟨2, 0, none⟩)), (34, .slice (some ⟨0, 0, none⟩) 2 2), (35, .int .i64 2), (36, .int .i64 0)], [⟨true, none, [.slice (some ⟨1, 0, none⟩) (pn l) 0, .int .i64 ((List.length l : Nat) : Int), .slice none 0 0, .int .i64 0]⟩, pk l, resB, bitsB 1 (pn l) (List.length l : Nat), resB, bitsB 7 (pn L) (List.length L : Nat), bitsB 1 (pn l) (List.length l : Nat), pk L], 2, [(decide (a < ((List.length l : Nat) : Int)), false)]) := by kernel_rfl
theorem j2oN (l : List Bool) (L : List Bool) (a a' k : Int) : evL Tryz.prog ext (nmPre (frameTPre (jT0N l L 0 0))) (nbC [(12, k), (11, a')] [] (frameT (jT0N l L 0 0))) noLoops 300 (ntOf Tryz.prog 95 1) (loopAt Tryz.prog 95 2) (jFN a 1 8) (jH3N l L) 2 [(0,false)] [11, 8, 10, 2, 34, 35, 36] =
  some (Ex.exit 4, [(11, .int .i64 a), (8, .pointer (some ⟨5, 0, none⟩)), (10, .pointer (some ⟨8, 0, none⟩)), (2, .pointer (some ⟨2, 0, none⟩)), (34, .slice (some ⟨0, 0, none⟩) 2 2), (35, .int .i64 2), (36, .int .i64 1)], [⟨true, none, [.slice (some ⟨1, 0, none⟩) (pn l) 0, .int .i64 ((List.length l : Nat) : Int), .slice none 0 0, .int .i64 0]⟩, pk l, resB, bitsB 1 (pn l) (List.length l : Nat), resB, bitsB 9 (pn L) (List.length L : Nat), bitsB 1 (pn l) (List.length l : Nat), spB, resB, pk L], 2, [(decide (a < 0), false)]) := by kernel_rfl
theorem jview1N (l : List Bool) (L : List Bool) (a : Int) : Views 7 ⟨jFN a 0 6, [jAN l, pk l, resB, bitsB 1 (pn l) (l.length : Nat), j5N l, bitsB 8 (pn L) (L.length : Nat), bitsB 1 (pn l) (l.length : Nat), spB, pk L], 2⟩ ⟨jFN a 0 6, jH2N l L, 2⟩ := by
  refine Views.canon [8] (by simp) (by simp) (by simp) rfl (fun i b2 hi hb => ?_) (fun j i b2 hj hb => ?_) (renF_get rfl)
  · match i, hi with
    | 0, _ => injection hb with hb; subst hb; exact ⟨_, rfl, rfl⟩
    | 1, _ => injection hb with hb; subst hb; exact ⟨_, rfl, renA_row _ _ _ _⟩
    | 2, _ => injection hb with hb; subst hb; exact ⟨_, rfl, rfl⟩
    | 3, _ => injection hb with hb; subst hb; exact ⟨_, rfl, rfl⟩
    | 4, _ => injection hb with hb; subst hb; exact ⟨_, rfl, rfl⟩
    | 5, _ => injection hb with hb; subst hb; exact ⟨_, rfl, rfl⟩
    | 6, _ => injection hb with hb; subst hb; exact ⟨_, rfl, rfl⟩
    | n + 7, hi => omega
  · match j, hj with
    | 0, hj =>
      injection hj with hj
      subst hj
      injection hb with hb
      subst hb
      exact ⟨_, rfl, renA_row _ _ _ _⟩
theorem j_pass1N (l : List Bool) (hl : l ≠ []) (h : l.length ≤ 60000) :
    WP Tryz.prog (ntOf Tryz.prog 95 1) (.loop (loopAt Tryz.prog 95 2)) ⟨jFN 0 0 6, jH1N l, 2⟩ (.exit 4) ⟨jFN (((l.length + 7) / 8 * 8 : Nat) : Int) 0 6, jH2N l l, 2⟩ := by
  have hpos : 0 < l.length := List.length_pos_iff.2 hl
  refine WP.whileV (α := Nat) _ (fun a => ⟨jFN (a : Nat) 0 6, match a with
    | 0 => jH1N l
    | b + 1 => jH2N l (l.take (b + 1)), 2⟩) (fun a => a % 8 = 0 ∧ a < l.length + 8) (fun a => l.length + 8 - a) (by simp) ?_ 0 ⟨rfl, by omega⟩ (Views.refl _ _)
  rintro a ⟨ha8, hal⟩
  by_cases hlt : a < l.length
  · right
    have hpl := part_len hlt
    have hpa := part_add l hlt
    generalize hk : min 8 (l.length - a) = k at hpl hpa
    have hbe := be_of hpl
    have hv := val_lt64 (X := (l.drop a).take k) (by omega)
    have htk := take_ok (l := l) (a0 := a) (w0 := k) (b := pk l) (len := pn l) (cap := 0) (N := (l.length : Nat)) rfl rfl rfl (by omega) (by omega) (by omega)
    generalize ht : Bt.val ((l.drop a).take k) = t at hbe hv htk
    cases a with
    | zero =>
      refine ⟨8, _, ⟨rfl, by omega⟩, by omega, WP.run progOk extSound (nb_sound _ _ (frameT_sound _)) (by kernel_rfl) (LoopsOk.none (by kernel_rfl)) [11, 8, 10, 2, 34, 35, 36] (j1fN l (l.take 8) 8 (k : Nat) (t : Nat)) ?_, Views.refl _ _⟩
      have hL : Bt.be k t = l.take 8 := by
        rw [hbe]; simpa using hpa
      have hadd := add_nil (v := t) (w := k) (by omega) (by omega) hv
      rw [hL] at hadd
      intro q hq
      simp only [List.mem_cons, List.not_mem_nil, or_false] at hq
      rcases hq with rfl | rfl | rfl | rfl | rfl
      · simp only [decide_eq_true_eq]; exact wrap_i64 (by omega)
      · refine tok ?_
        rw [frameT_ok [] hadd (by exact ro_nil) (by exact rf_in rfl (rf_in rfl (rf_in rfl (rf_pk rf_nil)))) (by kernel_rfl) (by kernel_rfl)]
        exact frameT_ok [] hadd (by exact ro_in rfl (ro_pk hl (ro_in rfl (ro_in rfl (ro_in rfl (ro_in rfl (ro_in rfl (ro_nil)))))))) (by exact rf_in rfl (rf_in rfl (rf_in rfl (rf_pk rf_nil)))) (by kernel_rfl) (by kernel_rfl)
      · exact tok (frameT_ok [1] htk (by exact ro_in rfl (ro_pk hl (ro_in rfl (ro_in rfl (ro_in rfl (ro_in rfl (ro_in rfl (ro_nil)))))))) (by exact rf_pk (rf_in rfl rf_nil)))
      · simp only [decide_eq_true_eq]
        rw [wrap_i64 (by omega)]
        split <;> omega
      · simp only [decide_eq_true_eq]; omega
    | succ a =>
      have hLn := take_ne (a := a + 1) hl (by omega)
      refine ⟨a + 1 + 8, _, ⟨by omega, by omega⟩, by omega, WP.run progOk extSound (nb_sound _ _ (frameT_sound _)) (by kernel_rfl) (LoopsOk.none (by kernel_rfl)) [11, 8, 10, 2, 34, 35, 36] (j1mN l (l.take (a + 1)) (l.take (a + 1 + 8)) ((a + 1 : Nat) : Int) ((a + 1 + 8 : Nat) : Int) (k : Nat) (t : Nat)) ?_, jview1N l (l.take (a + 1 + 8)) _⟩
      have hadd := add_ok (l := l.take (a + 1)) (v := t) (w := k) hLn (by simp; omega) (by omega) hv
      rw [hbe, hpa] at hadd
      intro q hq
      simp only [List.mem_cons, List.not_mem_nil, or_false] at hq
      rcases hq with rfl | rfl | rfl | rfl | rfl
      · simp only [decide_eq_true_eq]; rw [wrap_i64 (by omega)]; omega
      · exact tok (frameT_ok [7] hadd (by exact ro_in rfl (ro_pk hl (ro_in rfl (ro_in rfl (ro_in rfl (ro_in rfl (ro_in rfl (ro_pk hLn (ro_nil))))))))) (by exact rf_sp (rf_in rfl (rf_in rfl (rf_pk rf_nil)))))
      · exact tok (frameT_ok [1] htk (by exact ro_in rfl (ro_pk hl (ro_in rfl (ro_in rfl (ro_in rfl (ro_in rfl (ro_in rfl (ro_pk hLn (ro_nil))))))))) (by exact rf_pk (rf_in rfl rf_nil)))
      · simp only [decide_eq_true_eq]
        rw [wrap_i64 (by omega)]
        split <;> omega
      · simp only [decide_eq_true_eq]; omega
  · left
    have ha : a = (l.length + 7) / 8 * 8 := by omega
    subst ha
    obtain ⟨b, hb⟩ : ∃ b, (l.length + 7) / 8 * 8 = b + 1 := ⟨(l.length + 7) / 8 * 8 - 1, by omega⟩
    rw [hb]
    have ht : l.take (b + 1) = l := List.take_of_length_le (by omega)
    have hr := j1oN l (l.take (b + 1)) ((b + 1 : Nat) : Int) 0 0
    have hw := WP.run progOk extSound (nb_sound _ _ (frameT_sound _)) (by kernel_rfl) (LoopsOk.none (by kernel_rfl)) [11, 8, 10, 2, 34, 35, 36] hr (by simp [Holds]; omega)
    simp only
    rw [ht] at hw ⊢
    exact hw
theorem jview2N (l : List Bool) (L : List Bool) (a : Int) : Views 9 ⟨jFN a 1 8, jH2bN l L, 2⟩ ⟨jFN a 1 8, jH3N l L, 2⟩ := by
  have key : Views 9 ⟨jFN a 1 8, jH2bN l L, 2⟩ ⟨jFN a 1 8, jH3N l L, min 2 7⟩ := by
    refine Views.spend (g := 7) (old := pk L) rfl rfl rfl rfl (fun i b2 hi hne hb => ?_) rfl (fun b2 hb => ?_) (renF_get rfl)
    · match i, hi with
      | 0, _ => injection hb with hb; subst hb; exact ⟨_, rfl, rfl⟩
      | 1, _ => injection hb with hb; subst hb; exact ⟨_, rfl, renA_row _ _ _ _⟩
      | 2, _ => injection hb with hb; subst hb; exact ⟨_, rfl, rfl⟩
      | 3, _ => injection hb with hb; subst hb; exact ⟨_, rfl, rfl⟩
      | 4, _ => injection hb with hb; subst hb; exact ⟨_, rfl, rfl⟩
      | 5, _ => injection hb with hb; subst hb; exact ⟨_, rfl, rfl⟩
      | 6, _ => injection hb with hb; subst hb; exact ⟨_, rfl, rfl⟩
      | 7, _ => exact (hne rfl).elim
      | 8, _ => injection hb with hb; subst hb; exact ⟨_, rfl, rfl⟩
      | n + 9, hi => simp [jH2bN] at hi; omega
    · injection hb with hb
      subst hb
      exact renA_row _ _ _ _
  exact key
theorem j_pass2N (l : List Bool) :
    WP Tryz.prog (ntOf Tryz.prog 95 1) (.loop (loopAt Tryz.prog 95 2)) ⟨jFN 0 1 8, jH2bN l l, 2⟩ (.exit 4) ⟨jFN 0 1 8, jH3N l l, 2⟩ := by
  refine WP.loopV _ (fun _ => ⟨jFN 0 1 8, jH3N l l, 2⟩) (fun _ => ⟨jFN 0 1 8, jH3N l l, 2⟩) 0 (by simp) (jview2N l l 0) (fun i hi => by omega) (fun i hi => by omega) ?_
  exact WP.run progOk extSound (nb_sound _ _ (frameT_sound _)) (by kernel_rfl) (LoopsOk.none (by kernel_rfl)) [11, 8, 10, 2, 34, 35, 36] (j2oN l l 0 0 0) (by simp [Holds])
theorem jfN (l : List Bool) (L2 : List Bool) (a1 a2 : Int) : evFnL Tryz.prog ext 300 (nmPre (frameTPre (jTfN l))) (nbC [] [(31, false)] (frameT (jTfN l))) (jLN l L2 a1 a2) [(1,true),(2,true)] 95 [.slice (some ⟨0, 0, none⟩) 2 2] [jAN l, pk l] =
  some ((.tuple #[pv 9 L2, .int .i64 0], [jAN l, pk l, bitsB 9 (pn L2) (L2.length : Nat), bitsB 1 (pn l) (l.length : Nat), j5N l, bitsB 9 (pn L2) (L2.length : Nat), bitsB 1 (pn l) (l.length : Nat), spB, j5N l, pk L2], 2),
    [(cdec (jFN 0 1 8 = jFN 0 1 8), true), (cdec (jH2bN l l = jH2bN l l), true), (cdec (2 = 2), true),
     (cdec (jFN 0 0 6 = jFN 0 0 6), true), (cdec (jH1N l = jH1N l), true), (cdec (2 = 2), true),
     (decide (IntKind.wrap .i64 (IntKind.wrap .i64 (0 + (l.length : Nat)) + 0) > (65536 : Int)), false),
     (frameTPre (jTfN l) 89 [bitsV0] [], true), (frameTPre (jTfN l) 89 [pv 1 l] [jAN l, pk l, resB, bitsB 1 (pn l) (l.length : Nat)], true)]) := by kernel_rfl
theorem joinN_ok (l : List Bool) (hl : l ≠ []) (h : l.length ≤ 60000) :
    CallOk Tryz.prog 95 [.slice (some ⟨0, 0, none⟩) 2 2] [jAN l, pk l] (.tuple #[pv 9 l, .int .i64 0])
      [jAN l, pk l, bitsB 9 (pn l) (List.length l : Nat), bitsB 1 (pn l) (l.length : Nat), j5N l, bitsB 9 (pn l) (List.length l : Nat), bitsB 1 (pn l) (l.length : Nat), spB, j5N l, pk l] 2 := by
  refine fnL_ok progOk extSound (nb_sound _ _ (frameT_sound _)) ?_ (jfN l l (((l.length + 7) / 8 * 8 : Nat) : Int) 0) ?_
  · refine .flat (by kernel_rfl) ?_
    intro b hb st x s' o hs ho
    have e : loopsOf (bodyOf Tryz.prog 95) = [loopAt Tryz.prog 95 0, loopAt Tryz.prog 95 1, loopAt Tryz.prog 95 2] := loops95
    rw [e] at hb
    simp only [List.mem_cons, List.not_mem_nil, or_false] at hb
    obtain ⟨f0, f1, f2⟩ := first95
    rcases hb with rfl | rfl | rfl
    · rw [f0] at hs; simp [jLN] at hs
    · rw [f1] at hs; simp [jLN] at hs
    · rw [f2] at hs
      dsimp only [jLN] at hs
      split at hs
      · exact sumL_ok (j_pass1N l hl (by omega)) hs ho
      · exact sumL_ok (j_pass2N l) hs ho
  · intro q hq
    simp only [List.mem_cons, List.not_mem_nil, or_false] at hq
    rcases hq with rfl | rfl | rfl | rfl | rfl | rfl | rfl | rfl | rfl
    · simp [cdec]
    · simp [cdec]
    · simp [cdec]
    · simp [cdec]
    · simp [cdec]
    · simp [cdec]
    · simp only [decide_eq_false_iff_not]
      rw [wrap_i64 (n := 0 + (l.length : Int)) (by omega), wrap_i64 (by omega)]
      omega
    · exact tok (frameT_ok [] check_nil (by exact ro_nil) (by exact rf_in rfl rf_nil))
    · exact tok (frameT_ok [1] (check_ok (l := l) (b := pk l) (c := 0) rfl rfl (by omega)) (by exact ro_in rfl (ro_pk hl (ro_in rfl (ro_in rfl (ro_nil))))) (by exact rf_pk (rf_in rfl rf_nil)))
end Go.Proofs.YtpgmabpaiijipaaGreatDoor
namespace Go.Proofs.YtpgmabpaiijipaaGreatDoor
open Go Den
set_option maxRecDepth 100000
set_option linter.unusedSimpArgs false
set_option linter.unusedVariables false
def jAG (l : List Bool) : Blk := ⟨true, none, [.slice (some ⟨1, 0, none⟩) (pn l) 0, .int .i64 (l.length : Nat), goneV, .int .i64 0]⟩
def j5G (l : List Bool) : Blk := ⟨true, none, [goneV, .int .i64 0]⟩
def jH1G (l : List Bool) : Heap := [jAG l, pk l, resB, bitsB 1 (pn l) (l.length : Nat), j5G l, resB, bitsB 1 (pn l) (l.length : Nat)]
def jH2G (l : List Bool) (L : List Bool) : Heap := [jAG l, pk l, resB, bitsB 1 (pn l) (l.length : Nat), j5G l, bitsB 7 (pn L) (L.length : Nat), bitsB 1 (pn l) (l.length : Nat), pk L]
def jH3G (l : List Bool) (L : List Bool) : Heap := [jAG l, pk l, resB, bitsB 1 (pn l) (l.length : Nat), j5G l, bitsB 9 (pn L) (L.length : Nat), bitsB 1 (pn l) (l.length : Nat), spB, j5G l, pk L]
def jFG (a i : Int) (p : Nat) : Slots := [(11, .int .i64 a), (8, .pointer (some ⟨5, 0, none⟩)), (10, .pointer (some ⟨p, 0, none⟩)), (2, .pointer (some ⟨2, 0, none⟩)), (34, .slice (some ⟨0, 0, none⟩) 2 2), (35, .int .i64 2), (36, .int .i64 i)]
def jTG (b : List Bool) (L L' : List Bool) (t : Int) : Nat → Tale := fun _ f _ _ => match f with
  | 152 => some (.int .u64 t, tkH (pn b) 0 (b.length : Nat) (pk b), 1)
  | 91 => some (pv 3 L', [spB, bitsB 3 (pn L') (L'.length : Nat), bitsB 3 (pn L') (L'.length : Nat), pk L'], 0)
  | _ => none
def jT0G (b : List Bool) (L' : List Bool) (t k : Int) : Nat → Tale := fun _ f _ _ => match f with
  | 152 => some (.int .u64 t, tkH (pn b) 0 (b.length : Nat) (pk b), 1)
  | 91 => some (pv 3 L', [bitsB 3 1 k, bitsB 3 1 k, ⟨true, none, [.int .u8 0]⟩, pk L'], 0)
  | _ => none
def jTfG (l : List Bool) : Nat → Tale := fun n f _ _ => match f, n with
  | 89, 4 => some (.int .i64 0, [pk l, bitsB 0 (pn l) (l.length : Nat)], 1)
  | 89, _ => some (.int .i64 0, [⟨true, none, [goneV, .int .i64 0]⟩], 0)
  | _, _ => none
def jH2bG (l : List Bool) (L : List Bool) : Heap := [jAG l, pk l, resB, bitsB 1 (pn l) (l.length : Nat), j5G l, bitsB 7 (pn L) (L.length : Nat), bitsB 1 (pn l) (l.length : Nat), pk L, j5G l]
noncomputable def jLG (l : List Bool) (L2 : List Bool) (a1 a2 : Int) : Loops := { loop := fun i s => match Nat.beq i 17 with
  | true => (match at? 36 s.F with
    | some (.int _ 0) => sumL 17 ⟨jFG 0 0 6, jH1G l, 2⟩ (.exit 4) ⟨jFG a1 0 6, jH2G l l, 2⟩ i s
    | _ => sumL 17 ⟨jFG 0 1 8, jH2bG l l, 2⟩ (.exit 4) ⟨jFG a2 1 8, jH3G l L2, 2⟩ i s)
  | false => none }
theorem j1fG (l : List Bool) (L' : List Bool) (a' k t : Int) : evL Tryz.prog ext (nmPre (frameTPre (jT0G l L' t k))) (nbC [(12, k), (11, a')] [] (frameT (jT0G l L' t k))) noLoops 300 (ntOf Tryz.prog 95 1) (loopAt Tryz.prog 95 2) (jFG 0 0 6) (jH1G l) 2 [(0,true),(0,true),(0,true)] [11, 8, 10, 2, 34, 35, 36] =
  some (Ex.normal, [(11, .int .i64 a'), (8, .pointer (some ⟨5, 0, none⟩)), (10, .pointer (some ⟨6, 0, none⟩)), (2, .pointer (some ⟨2, 0, none⟩)), (34, .slice (some ⟨0, 0, none⟩) 2 2), (35, .int .i64 2), (36, .int .i64 0)], [⟨true, none, [.slice (some ⟨1, 0, none⟩) (pn l) 0, .int .i64 ((List.length l : Nat) : Int), .slice (some { block := 0, off := 0, spot := some 1 }) 0 0, .int .i64 0]⟩, pk l, resB, bitsB 1 (pn l) (List.length l : Nat), ⟨true, none, [.slice (some { block := 0, off := 0, spot := some 1 }) 0 0, .int .i64 0]⟩, ⟨true, none, [.slice (some ⟨7, 0, none⟩) (pn L') 0, .int .i64 ((List.length L' : Nat) : Int)]⟩, bitsB 1 (pn l) (List.length l : Nat), ⟨true, some 1, byteV (Bt.pack L')⟩], 2, [(decide (IntKind.wrap .i64 (0 + 8) = a'), true), (frameTPre (jT0G l L' t k) 91 [.agg #[.slice none 0 0, .int .i64 0], .int .u64 t, .int .i64 k] [] && frameTPre (jT0G l L' t k) 91 [.agg #[.slice none 0 0, .int .i64 0], .int .u64 t, .int .i64 k] [⟨true, none, [.slice (some ⟨1, 0, none⟩) (pn l) 0, .int .i64 ((List.length l : Nat) : Int), .slice (some { block := 0, off := 0, spot := some 1 }) 0 0, .int .i64 0]⟩, pk l, resB, bitsB 1 (pn l) (List.length l : Nat), ⟨true, none, [.slice (some { block := 0, off := 0, spot := some 1 }) 0 0, .int .i64 0]⟩, resB, bitsB 1 (pn l) (List.length l : Nat)], true), (frameTPre (jT0G l L' t k) 152 [pv 1 l, .int .i64 0, .int .i64 k] [⟨true, none, [.slice (some ⟨1, 0, none⟩) (pn l) 0, .int .i64 ((List.length l : Nat) : Int), .slice (some { block := 0, off := 0, spot := some 1 }) 0 0, .int .i64 0]⟩, pk l, resB, bitsB 1 (pn l) (List.length l : Nat), ⟨true, none, [.slice (some { block := 0, off := 0, spot := some 1 }) 0 0, .int .i64 0]⟩, resB, bitsB 1 (pn l) (List.length l : Nat)], true), (decide ((if IntKind.wrap .i64 (((List.length l : Nat) : Int) - 0) < 8 then IntKind.wrap .i64 (((List.length l : Nat) : Int) - 0) else 8) = k), true), (decide (0 < ((List.length l : Nat) : Int)), true)]) := by kernel_rfl
theorem j1mG (l : List Bool) (L L' : List Bool) (a a' k t : Int) : evL Tryz.prog ext (nmPre (frameTPre (jTG l L L' t))) (nbC [(12, k), (11, a')] [] (frameT (jTG l L L' t))) noLoops 300 (ntOf Tryz.prog 95 1) (loopAt Tryz.prog 95 2) (jFG a 0 6) (jH2G l L) 2 [(0,true),(0,true),(0,true)] [11, 8, 10, 2, 34, 35, 36] =
  some (Ex.normal, [(11, .int .i64 a'), (8, .pointer (some ⟨5, 0, none⟩)), (10, .pointer (some ⟨6, 0, none⟩)), (2, .pointer (some ⟨2, 0, none⟩)), (34, .slice (some ⟨0, 0, none⟩) 2 2), (35, .int .i64 2), (36, .int .i64 0)], [⟨true, none, [.slice (some ⟨1, 0, none⟩) (pn l) 0, .int .i64 ((List.length l : Nat) : Int), .slice (some { block := 0, off := 0, spot := some 1 }) 0 0, .int .i64 0]⟩, pk l, resB, bitsB 1 (pn l) (List.length l : Nat), ⟨true, none, [.slice (some { block := 0, off := 0, spot := some 1 }) 0 0, .int .i64 0]⟩, ⟨true, none, [.slice (some ⟨8, 0, none⟩) (pn L') 0, .int .i64 ((List.length L' : Nat) : Int)]⟩, bitsB 1 (pn l) (List.length l : Nat), spB, ⟨true, some 1, byteV (Bt.pack L')⟩], 2, [(decide (IntKind.wrap .i64 (a + 8) = a'), true), (frameTPre (jTG l L L' t) 91 [pv 7 L, .int .u64 t, .int .i64 k] [⟨true, none, [.slice (some ⟨1, 0, none⟩) (pn l) 0, .int .i64 ((List.length l : Nat) : Int), .slice (some { block := 0, off := 0, spot := some 1 }) 0 0, .int .i64 0]⟩, pk l, resB, bitsB 1 (pn l) (List.length l : Nat), ⟨true, none, [.slice (some { block := 0, off := 0, spot := some 1 }) 0 0, .int .i64 0]⟩, bitsB 7 (pn L) (List.length L : Nat), bitsB 1 (pn l) (List.length l : Nat), pk L], true), (frameTPre (jTG l L L' t) 152 [pv 1 l, .int .i64 a, .int .i64 k] [⟨true, none, [.slice (some ⟨1, 0, none⟩) (pn l) 0, .int .i64 ((List.length l : Nat) : Int), .slice (some { block := 0, off := 0, spot := some 1 }) 0 0, .int .i64 0]⟩, pk l, resB, bitsB 1 (pn l) (List.length l : Nat), ⟨true, none, [.slice (some { block := 0, off := 0, spot := some 1 }) 0 0, .int .i64 0]⟩, bitsB 7 (pn L) (List.length L : Nat), bitsB 1 (pn l) (List.length l : Nat), pk L], true), (decide ((if IntKind.wrap .i64 (((List.length l : Nat) : Int) - a) < 8 then IntKind.wrap .i64 (((List.length l : Nat) : Int) - a) else 8) = k), true), (decide (a < ((List.length l : Nat) : Int)), true)]) := by kernel_rfl
theorem j1oG (l : List Bool) (L : List Bool) (a a' k : Int) : evL Tryz.prog ext (nmPre (frameTPre (jT0G l L 0 0))) (nbC [(12, k), (11, a')] [] (frameT (jT0G l L 0 0))) noLoops 300 (ntOf Tryz.prog 95 1) (loopAt Tryz.prog 95 2) (jFG a 0 6) (jH2G l L) 2 [(0,false)] [11, 8, 10, 2, 34, 35, 36] =
  some (Ex.exit 4, [(11, .int .i64 a), (8, .pointer (some ⟨5, 0, none⟩)), (10, .pointer (some ⟨6, 0, none⟩)), (2, .pointer (some ⟨2, 0, none⟩)), (34, .slice (some ⟨0, 0, none⟩) 2 2), (35, .int .i64 2), (36, .int .i64 0)], [⟨true, none, [.slice (some ⟨1, 0, none⟩) (pn l) 0, .int .i64 ((List.length l : Nat) : Int), .slice (some { block := 0, off := 0, spot := some 1 }) 0 0, .int .i64 0]⟩, pk l, resB, bitsB 1 (pn l) (List.length l : Nat), ⟨true, none, [.slice (some { block := 0, off := 0, spot := some 1 }) 0 0, .int .i64 0]⟩, bitsB 7 (pn L) (List.length L : Nat), bitsB 1 (pn l) (List.length l : Nat), pk L], 2, [(decide (a < ((List.length l : Nat) : Int)), false)]) := by kernel_rfl
theorem j2oG (l : List Bool) (L : List Bool) (a a' k : Int) : evL Tryz.prog ext (nmPre (frameTPre (jT0G l L 0 0))) (nbC [(12, k), (11, a')] [] (frameT (jT0G l L 0 0))) noLoops 300 (ntOf Tryz.prog 95 1) (loopAt Tryz.prog 95 2) (jFG a 1 8) (jH3G l L) 2 [(0,false)] [11, 8, 10, 2, 34, 35, 36] =
  some (Ex.exit 4, [(11, .int .i64 a), (8, .pointer (some ⟨5, 0, none⟩)), (10, .pointer (some ⟨8, 0, none⟩)), (2, .pointer (some ⟨2, 0, none⟩)), (34, .slice (some ⟨0, 0, none⟩) 2 2), (35, .int .i64 2), (36, .int .i64 1)], [⟨true, none, [.slice (some ⟨1, 0, none⟩) (pn l) 0, .int .i64 ((List.length l : Nat) : Int), .slice (some { block := 0, off := 0, spot := some 1 }) 0 0, .int .i64 0]⟩, pk l, resB, bitsB 1 (pn l) (List.length l : Nat), ⟨true, none, [.slice (some { block := 0, off := 0, spot := some 1 }) 0 0, .int .i64 0]⟩, bitsB 9 (pn L) (List.length L : Nat), bitsB 1 (pn l) (List.length l : Nat), spB, ⟨true, none, [.slice (some { block := 0, off := 0, spot := some 1 }) 0 0, .int .i64 0]⟩, pk L], 2, [(decide (a < 0), false)]) := by kernel_rfl
theorem jview1G (l : List Bool) (L : List Bool) (a : Int) : Views 7 ⟨jFG a 0 6, [jAG l, pk l, resB, bitsB 1 (pn l) (l.length : Nat), j5G l, bitsB 8 (pn L) (L.length : Nat), bitsB 1 (pn l) (l.length : Nat), spB, pk L], 2⟩ ⟨jFG a 0 6, jH2G l L, 2⟩ := by
  refine Views.canon [8] (by simp) (by simp) (by simp) rfl (fun i b2 hi hb => ?_) (fun j i b2 hj hb => ?_) (renF_get rfl)
  · match i, hi with
    | 0, _ => injection hb with hb; subst hb; exact ⟨_, rfl, rfl⟩
    | 1, _ => injection hb with hb; subst hb; exact ⟨_, rfl, renA_row _ _ _ _⟩
    | 2, _ => injection hb with hb; subst hb; exact ⟨_, rfl, rfl⟩
    | 3, _ => injection hb with hb; subst hb; exact ⟨_, rfl, rfl⟩
    | 4, _ => injection hb with hb; subst hb; exact ⟨_, rfl, rfl⟩
    | 5, _ => injection hb with hb; subst hb; exact ⟨_, rfl, rfl⟩
    | 6, _ => injection hb with hb; subst hb; exact ⟨_, rfl, rfl⟩
    | n + 7, hi => omega
  · match j, hj with
    | 0, hj =>
      injection hj with hj
      subst hj
      injection hb with hb
      subst hb
      exact ⟨_, rfl, renA_row _ _ _ _⟩
theorem j_pass1G (l : List Bool) (hl : l ≠ []) (h : l.length ≤ 60000) :
    WP Tryz.prog (ntOf Tryz.prog 95 1) (.loop (loopAt Tryz.prog 95 2)) ⟨jFG 0 0 6, jH1G l, 2⟩ (.exit 4) ⟨jFG (((l.length + 7) / 8 * 8 : Nat) : Int) 0 6, jH2G l l, 2⟩ := by
  have hpos : 0 < l.length := List.length_pos_iff.2 hl
  refine WP.whileV (α := Nat) _ (fun a => ⟨jFG (a : Nat) 0 6, match a with
    | 0 => jH1G l
    | b + 1 => jH2G l (l.take (b + 1)), 2⟩) (fun a => a % 8 = 0 ∧ a < l.length + 8) (fun a => l.length + 8 - a) (by simp) ?_ 0 ⟨rfl, by omega⟩ (Views.refl _ _)
  rintro a ⟨ha8, hal⟩
  by_cases hlt : a < l.length
  · right
    have hpl := part_len hlt
    have hpa := part_add l hlt
    generalize hk : min 8 (l.length - a) = k at hpl hpa
    have hbe := be_of hpl
    have hv := val_lt64 (X := (l.drop a).take k) (by omega)
    have htk := take_ok (l := l) (a0 := a) (w0 := k) (b := pk l) (len := pn l) (cap := 0) (N := (l.length : Nat)) rfl rfl rfl (by omega) (by omega) (by omega)
    generalize ht : Bt.val ((l.drop a).take k) = t at hbe hv htk
    cases a with
    | zero =>
      refine ⟨8, _, ⟨rfl, by omega⟩, by omega, WP.run progOk extSound (nb_sound _ _ (frameT_sound _)) (by kernel_rfl) (LoopsOk.none (by kernel_rfl)) [11, 8, 10, 2, 34, 35, 36] (j1fG l (l.take 8) 8 (k : Nat) (t : Nat)) ?_, Views.refl _ _⟩
      have hL : Bt.be k t = l.take 8 := by
        rw [hbe]; simpa using hpa
      have hadd := add_nil (v := t) (w := k) (by omega) (by omega) hv
      rw [hL] at hadd
      intro q hq
      simp only [List.mem_cons, List.not_mem_nil, or_false] at hq
      rcases hq with rfl | rfl | rfl | rfl | rfl
      · simp only [decide_eq_true_eq]; exact wrap_i64 (by omega)
      · refine tok ?_
        rw [frameT_ok [] hadd (by exact ro_nil) (by exact rf_in rfl (rf_in rfl (rf_in rfl (rf_pk rf_nil)))) (by kernel_rfl) (by kernel_rfl)]
        exact frameT_ok [] hadd (by exact ro_in rfl (ro_pk hl (ro_in rfl (ro_in rfl (ro_in rfl (ro_in rfl (ro_in rfl (ro_nil)))))))) (by exact rf_in rfl (rf_in rfl (rf_in rfl (rf_pk rf_nil)))) (by kernel_rfl) (by kernel_rfl)
      · exact tok (frameT_ok [1] htk (by exact ro_in rfl (ro_pk hl (ro_in rfl (ro_in rfl (ro_in rfl (ro_in rfl (ro_in rfl (ro_nil)))))))) (by exact rf_pk (rf_in rfl rf_nil)))
      · simp only [decide_eq_true_eq]
        rw [wrap_i64 (by omega)]
        split <;> omega
      · simp only [decide_eq_true_eq]; omega
    | succ a =>
      have hLn := take_ne (a := a + 1) hl (by omega)
      refine ⟨a + 1 + 8, _, ⟨by omega, by omega⟩, by omega, WP.run progOk extSound (nb_sound _ _ (frameT_sound _)) (by kernel_rfl) (LoopsOk.none (by kernel_rfl)) [11, 8, 10, 2, 34, 35, 36] (j1mG l (l.take (a + 1)) (l.take (a + 1 + 8)) ((a + 1 : Nat) : Int) ((a + 1 + 8 : Nat) : Int) (k : Nat) (t : Nat)) ?_, jview1G l (l.take (a + 1 + 8)) _⟩
      have hadd := add_ok (l := l.take (a + 1)) (v := t) (w := k) hLn (by simp; omega) (by omega) hv
      rw [hbe, hpa] at hadd
      intro q hq
      simp only [List.mem_cons, List.not_mem_nil, or_false] at hq
      rcases hq with rfl | rfl | rfl | rfl | rfl
      · simp only [decide_eq_true_eq]; rw [wrap_i64 (by omega)]; omega
      · exact tok (frameT_ok [7] hadd (by exact ro_in rfl (ro_pk hl (ro_in rfl (ro_in rfl (ro_in rfl (ro_in rfl (ro_in rfl (ro_pk hLn (ro_nil))))))))) (by exact rf_sp (rf_in rfl (rf_in rfl (rf_pk rf_nil)))))
      · exact tok (frameT_ok [1] htk (by exact ro_in rfl (ro_pk hl (ro_in rfl (ro_in rfl (ro_in rfl (ro_in rfl (ro_in rfl (ro_pk hLn (ro_nil))))))))) (by exact rf_pk (rf_in rfl rf_nil)))
      · simp only [decide_eq_true_eq]
        rw [wrap_i64 (by omega)]
        split <;> omega
      · simp only [decide_eq_true_eq]; omega
  · left
    have ha : a = (l.length + 7) / 8 * 8 := by omega
    subst ha
    obtain ⟨b, hb⟩ : ∃ b, (l.length + 7) / 8 * 8 = b + 1 := ⟨(l.length + 7) / 8 * 8 - 1, by omega⟩
    rw [hb]
    have ht : l.take (b + 1) = l := List.take_of_length_le (by omega)
    have hr := j1oG l (l.take (b + 1)) ((b + 1 : Nat) : Int) 0 0
    have hw := WP.run progOk extSound (nb_sound _ _ (frameT_sound _)) (by kernel_rfl) (LoopsOk.none (by kernel_rfl)) [11, 8, 10, 2, 34, 35, 36] hr (by simp [Holds]; omega)
    simp only
    rw [ht] at hw ⊢
    exact hw
theorem jview2G (l : List Bool) (L : List Bool) (a : Int) : Views 9 ⟨jFG a 1 8, jH2bG l L, 2⟩ ⟨jFG a 1 8, jH3G l L, 2⟩ := by
  have key : Views 9 ⟨jFG a 1 8, jH2bG l L, 2⟩ ⟨jFG a 1 8, jH3G l L, min 2 7⟩ := by
    refine Views.spend (g := 7) (old := pk L) rfl rfl rfl rfl (fun i b2 hi hne hb => ?_) rfl (fun b2 hb => ?_) (renF_get rfl)
    · match i, hi with
      | 0, _ => injection hb with hb; subst hb; exact ⟨_, rfl, rfl⟩
      | 1, _ => injection hb with hb; subst hb; exact ⟨_, rfl, renA_row _ _ _ _⟩
      | 2, _ => injection hb with hb; subst hb; exact ⟨_, rfl, rfl⟩
      | 3, _ => injection hb with hb; subst hb; exact ⟨_, rfl, rfl⟩
      | 4, _ => injection hb with hb; subst hb; exact ⟨_, rfl, rfl⟩
      | 5, _ => injection hb with hb; subst hb; exact ⟨_, rfl, rfl⟩
      | 6, _ => injection hb with hb; subst hb; exact ⟨_, rfl, rfl⟩
      | 7, _ => exact (hne rfl).elim
      | 8, _ => injection hb with hb; subst hb; exact ⟨_, rfl, rfl⟩
      | n + 9, hi => simp [jH2bG] at hi; omega
    · injection hb with hb
      subst hb
      exact renA_row _ _ _ _
  exact key
theorem j_pass2G (l : List Bool) :
    WP Tryz.prog (ntOf Tryz.prog 95 1) (.loop (loopAt Tryz.prog 95 2)) ⟨jFG 0 1 8, jH2bG l l, 2⟩ (.exit 4) ⟨jFG 0 1 8, jH3G l l, 2⟩ := by
  refine WP.loopV _ (fun _ => ⟨jFG 0 1 8, jH3G l l, 2⟩) (fun _ => ⟨jFG 0 1 8, jH3G l l, 2⟩) 0 (by simp) (jview2G l l 0) (fun i hi => by omega) (fun i hi => by omega) ?_
  exact WP.run progOk extSound (nb_sound _ _ (frameT_sound _)) (by kernel_rfl) (LoopsOk.none (by kernel_rfl)) [11, 8, 10, 2, 34, 35, 36] (j2oG l l 0 0 0) (by simp [Holds])
theorem check_gone : CallOk Tryz.prog 89 [.agg #[goneV, .int .i64 0]] [] (.int .i64 0) [⟨true, none, [goneV, .int .i64 0]⟩] 0 :=
  fnL_ok (N := 300) (L := noLoops) (os := []) (ob := []) progOk extSound noC_sound noLoops_ok (by kernel_rfl) (by simp [Holds])
theorem jfG (l : List Bool) (L2 : List Bool) (a1 a2 : Int) : evFnL Tryz.prog ext 300 (nmPre (frameTPre (jTfG l))) (nbC [] [(31, false)] (frameT (jTfG l))) (jLG l L2 a1 a2) [(1,true),(2,true)] 95 [.slice (some ⟨0, 0, none⟩) 2 2] [jAG l, pk l] =
  some ((.tuple #[pv 9 L2, .int .i64 0], [jAG l, pk l, bitsB 9 (pn L2) (L2.length : Nat), bitsB 1 (pn l) (l.length : Nat), j5G l, bitsB 9 (pn L2) (L2.length : Nat), bitsB 1 (pn l) (l.length : Nat), spB, j5G l, pk L2], 2),
    [(cdec (jFG 0 1 8 = jFG 0 1 8), true), (cdec (jH2bG l l = jH2bG l l), true), (cdec (2 = 2), true),
     (cdec (jFG 0 0 6 = jFG 0 0 6), true), (cdec (jH1G l = jH1G l), true), (cdec (2 = 2), true),
     (decide (IntKind.wrap .i64 (IntKind.wrap .i64 (0 + (l.length : Nat)) + 0) > (65536 : Int)), false),
     (frameTPre (jTfG l) 89 [.agg #[goneV, .int .i64 0]] [jAG l, pk l, resB, bitsB 1 (pn l) (l.length : Nat), j5G l], true), (frameTPre (jTfG l) 89 [pv 1 l] [jAG l, pk l, resB, bitsB 1 (pn l) (l.length : Nat)], true)]) := by kernel_rfl
theorem joinG_ok (l : List Bool) (hl : l ≠ []) (h : l.length ≤ 60000) :
    CallOk Tryz.prog 95 [.slice (some ⟨0, 0, none⟩) 2 2] [jAG l, pk l] (.tuple #[pv 9 l, .int .i64 0])
      [jAG l, pk l, bitsB 9 (pn l) (List.length l : Nat), bitsB 1 (pn l) (l.length : Nat), j5G l, bitsB 9 (pn l) (List.length l : Nat), bitsB 1 (pn l) (l.length : Nat), spB, j5G l, pk l] 2 := by
  refine fnL_ok progOk extSound (nb_sound _ _ (frameT_sound _)) ?_ (jfG l l (((l.length + 7) / 8 * 8 : Nat) : Int) 0) ?_
  · refine .flat (by kernel_rfl) ?_
    intro b hb st x s' o hs ho
    have e : loopsOf (bodyOf Tryz.prog 95) = [loopAt Tryz.prog 95 0, loopAt Tryz.prog 95 1, loopAt Tryz.prog 95 2] := loops95
    rw [e] at hb
    simp only [List.mem_cons, List.not_mem_nil, or_false] at hb
    obtain ⟨f0, f1, f2⟩ := first95
    rcases hb with rfl | rfl | rfl
    · rw [f0] at hs; simp [jLG] at hs
    · rw [f1] at hs; simp [jLG] at hs
    · rw [f2] at hs
      dsimp only [jLG] at hs
      split at hs
      · exact sumL_ok (j_pass1G l hl (by omega)) hs ho
      · exact sumL_ok (j_pass2G l) hs ho
  · intro q hq
    simp only [List.mem_cons, List.not_mem_nil, or_false] at hq
    rcases hq with rfl | rfl | rfl | rfl | rfl | rfl | rfl | rfl | rfl
    · simp [cdec]
    · simp [cdec]
    · simp [cdec]
    · simp [cdec]
    · simp [cdec]
    · simp [cdec]
    · simp only [decide_eq_false_iff_not]
      rw [wrap_i64 (n := 0 + (l.length : Int)) (by omega), wrap_i64 (by omega)]
      omega
    · exact tok (frameT_ok [] check_gone (by exact ro_in rfl (ro_pk hl (ro_in rfl (ro_in rfl (ro_in rfl (ro_nil)))))) (by exact rf_in rfl rf_nil))
    · exact tok (frameT_ok [1] (check_ok (l := l) (b := pk l) (c := 0) rfl rfl (by omega)) (by exact ro_in rfl (ro_pk hl (ro_in rfl (ro_in rfl (ro_nil))))) (by exact rf_pk (rf_in rfl rf_nil)))
end Go.Proofs.YtpgmabpaiijipaaGreatDoor

namespace Go.Proofs.YtpgmabpaiijipaaGreatDoor
open Go Den
set_option maxRecDepth 100000
set_option linter.unusedSimpArgs false
set_option linter.unusedVariables false
def nbB (n : Int) : Blk := ⟨true, none, [.int .i64 n]⟩
def penB (g : Nat) (l : List Bool) : Blk := ⟨true, none, [.slice (some ⟨g, 0, none⟩) (pn l) 0, .int .i64 (l.length : Nat), .int .i64 0]⟩
def lbB (g n c : Nat) : Blk := ⟨true, none, [.slice (some ⟨g, 0, none⟩) n c]⟩
def lbN : Blk := ⟨true, none, [.slice none 0 0]⟩
def lbG : Blk := ⟨true, none, [goneV]⟩
def c1T (l l' : List Bool) : Nat → Tale := fun _ f _ _ => match f with
  | 93 => some (.tuple #[pv 5 l', .int .i64 0], [pk l, bitsB 3 (pn l) (List.length l : Nat), bitsB 5 (pn l') (List.length l' : Nat), spB, spB, pk l'], 1)
  | _ => none
def d1T (l l' : List Bool) (n : Int) : Nat → Tale := fun _ f _ _ => match f with
  | 92 => some (.tuple #[pv 4 l', .int .i64 0], [pk l, nbB n, bitsB 0 (pn l) (l.length : Nat), bitsB 4 (pn l') (l'.length : Nat), pk l'], 2)
  | _ => none
def coT (l l' : List Bool) (n : Int) : Nat → Tale := fun _ f _ _ => match f with
  | 42 => some (.tuple #[], [penB 3 l', nbB n, pk l, pk l'], 0)
  | _ => none
def jEnd (x2 : Value) (M : Value) (l : List Bool) : Heap := [⟨true, none, [.slice (some ⟨1, 0, none⟩) (pn l) 0, .int .i64 (l.length : Nat), x2, M]⟩, pk l, bitsB 9 (pn l) (l.length : Nat), bitsB 1 (pn l) (l.length : Nat), ⟨true, none, [x2, M]⟩, bitsB 9 (pn l) (l.length : Nat), bitsB 1 (pn l) (l.length : Nat), spB, ⟨true, none, [x2, M]⟩, pk l]
def b1T (X : Blk) (l m lm : List Bool) : Nat → Tale := fun _ f _ _ => match f with
  | 58 => some (pv 2 m, [X, bitsB 2 (pn m) (m.length : Nat), pk m], 1)
  | 95 => some (.tuple #[pv 10 lm, .int .i64 0], [jAR l m, pk l, pk m, bitsB 10 (pn lm) (List.length lm : Nat), bitsB 1 (pn l) (l.length : Nat), j5R l m, bitsB 10 (pn lm) (List.length lm : Nat), bitsB 1 (pn l) (l.length : Nat), spB, j5R l m, pk lm], 3)
  | _ => none
def b1TN (l : List Bool) : Nat → Tale := fun _ f _ _ => match f with
  | 58 => some (bitsV0, [resB], 0)
  | 95 => some (.tuple #[pv 9 l, .int .i64 0], jEnd (.slice none 0 0) (.int .i64 0) l, 2)
  | _ => none
def b1TG (l : List Bool) : Nat → Tale := fun _ f _ _ => match f with
  | 58 => some (.agg #[goneV, .int .i64 0], [⟨true, none, [goneV, .int .i64 0]⟩, ⟨true, none, []⟩], 0)
  | 95 => some (.tuple #[pv 9 l, .int .i64 0], jEnd goneV (.int .i64 0) l, 2)
  | _ => none
def e94 (X : Blk) (n c : Nat) (l m lm : List Bool) : Heap := [pk l, lbB 2 n c, X, bitsB 0 (pn l) (l.length : Nat), bitsB 7 (pn lm) (lm.length : Nat), pk m, ⟨true, none, [.slice (some ⟨0, 0, none⟩) (pn l) 0, .int .i64 (l.length : Nat), .slice (some ⟨5, 0, none⟩) (pn m) 0, .int .i64 (m.length : Nat)]⟩, pk lm]
def e94N (lb : Blk) (v : Value) (l : List Bool) : Heap := [pk l, lb, bitsB 0 (pn l) (l.length : Nat), bitsB 5 (pn l) (l.length : Nat), ⟨true, none, [.slice (some ⟨0, 0, none⟩) (pn l) 0, .int .i64 (l.length : Nat), v, .int .i64 0]⟩, pk l]
def d4T (X : Blk) (n c : Nat) (l m lm : List Bool) : Nat → Tale := fun _ f _ _ => match f with
  | 94 => some (.tuple #[pv 7 lm, .int .i64 0], e94 X n c l m lm, 3)
  | _ => none
def d4TN (lb : Blk) (v : Value) (l : List Bool) : Nat → Tale := fun _ f _ _ => match f with
  | 94 => some (.tuple #[pv 5 l, .int .i64 0], e94N lb v l, 2)
  | _ => none
def byT (X : Blk) (n c : Nat) (l l1 lm : List Bool) : Nat → Tale := fun _ f _ _ => match f with
  | 46 => some (.tuple #[], [penB 3 l1, pk l, nbB n, pk l1], 0)
  | 42 => some (.tuple #[], [penB 4 lm, lbB 3 n c, pk l1, X, pk lm], 0)
  | _ => none
def byTN (lb : Blk) (l l1 : List Bool) : Nat → Tale := fun _ f _ _ => match f with
  | 46 => some (.tuple #[], [penB 3 l1, pk l, nbB 0, pk l1], 0)
  | 42 => some (.tuple #[], [penB 3 l1, lb, pk l1, pk l1], 0)
  | _ => none
theorem code1_run (l l' : List Bool) (n u : Int) : evFnL Tryz.prog ext 300 (nmPre (frameTPre (c1T l l'))) (nbC [(7, u)] [] (frameT (c1T l l'))) noLoops [(0,true)] 92 [pv 0 l, .pointer (some ⟨1, 0, none⟩)] [pk l, nbB n] =
  some ((.tuple #[.agg #[.slice (some ⟨4, 0, none⟩) (pn l') 0, .int .i64 ((List.length l' : Nat) : Int)], .int .i64 0], [pk l, ⟨true, none, [.int .i64 n]⟩, bitsB 0 (pn l) (List.length l : Nat), ⟨true, none, [.slice (some ⟨4, 0, none⟩) (pn l') 0, .int .i64 ((List.length l' : Nat) : Int)]⟩, ⟨true, some 1, byteV (Bt.pack l')⟩], 2), [(frameTPre (c1T l l') 93 [pv 0 l, .int .u64 u] [pk l, ⟨true, none, [.int .i64 n]⟩, bitsB 0 (pn l) (List.length l : Nat), resB], true), (decide (IntKind.wrap .u64 n = u), true)]) := by kernel_rfl
theorem do1_run (l l' : List Bool) (n : Int) : evFnL Tryz.prog ext 300 (nmPre (frameTPre (d1T l l' n))) (nbC [] [] (frameT (d1T l l' n))) noLoops [(1,true)] 42 [.pointer (some ⟨0, 0, none⟩), .func (.func 92) #[] #[.pointer (some ⟨1, 0, none⟩)]] [penB 2 l, nbB n, pk l] =
  some ((.tuple #[], [⟨true, none, [.slice (some ⟨3, 0, none⟩) (pn l') 0, .int .i64 ((List.length l' : Nat) : Int), .int .i64 0]⟩, ⟨true, none, [.int .i64 n]⟩, pk l, ⟨true, some 1, byteV (Bt.pack l')⟩], 0), [(frameTPre (d1T l l' n) 92 [pv 2 l, .pointer (some ⟨1, 0, none⟩)] [⟨true, none, [.slice (some ⟨2, 0, none⟩) (pn l) 0, .int .i64 ((List.length l : Nat) : Int), .int .i64 0]⟩, ⟨true, none, [.int .i64 n]⟩, pk l], true)]) := by kernel_rfl
theorem code_run (l l' : List Bool) (n : Int) : evFnL Tryz.prog ext 300 (nmPre (frameTPre (coT l l' n))) (nbC [] [] (frameT (coT l l' n))) noLoops [(0,true)] 46 [.pointer (some ⟨0, 0, none⟩), .int .i64 n] [penB 1 l, pk l] =
  some ((.tuple #[], [⟨true, none, [.slice (some ⟨3, 0, none⟩) (pn l') 0, .int .i64 ((List.length l' : Nat) : Int), .int .i64 0]⟩, pk l, ⟨true, none, [.int .i64 n]⟩, ⟨true, some 1, byteV (Bt.pack l')⟩], 0), [(frameTPre (coT l l' n) 42 [.pointer (some ⟨0, 0, none⟩), Value.func (Fn.func 92) #[] #[.pointer (some ⟨2, 0, none⟩)]] [⟨true, none, [.slice (some ⟨1, 0, none⟩) (pn l) 0, .int .i64 ((List.length l : Nat) : Int), .int .i64 0]⟩, pk l, ⟨true, none, [.int .i64 n]⟩], true)]) := by kernel_rfl
theorem code_ne (l : List Bool) (n : Nat) : l ++ Bt.codeB n ≠ [] := by
  intro e
  have := congrArg List.length e
  simp at this
theorem code1_ok {l : List Bool} {n : Nat} (hne : l ≠ []) (hn : n ≤ 1073741824) (hl : l.length + 100 ≤ 65536):
    CallOk Tryz.prog 92 [pv 0 l, .pointer (some ⟨1, 0, none⟩)] [pk l, nbB (n : Nat)] (.tuple #[pv 4 (l ++ Bt.codeB n), .int .i64 0]) [pk l, nbB (n : Nat), bitsB 0 (pn l) (l.length : Nat), bitsB 4 (pn (l ++ Bt.codeB n)) ((l ++ Bt.codeB n).length : Nat), pk (l ++ Bt.codeB n)] 2 := by
  refine fnL_ok progOk extSound (nb_sound _ _ (frameT_sound _)) noLoops_ok (code1_run l (l ++ Bt.codeB n) (n : Nat) (n : Nat)) ?_
  intro q hq
  simp only [List.mem_cons, List.not_mem_nil, or_false] at hq
  rcases hq with rfl | rfl
  · exact tok (frameT_ok [0] (putcode_ok hne hn hl) (by exact ro_pk hne (ro_in rfl (ro_in rfl (ro_in rfl (ro_nil))))) (by exact rf_pk (rf_in rfl (rf_in rfl (rf_sp (rf_sp (rf_pk (rf_nil))))))))
  · simp only [decide_eq_true_eq]; exact wrap_u64 (by omega)
theorem do1_ok {l : List Bool} {n : Nat} (hne : l ≠ []) (hn : n ≤ 1073741824) (hl : l.length + 100 ≤ 65536):
    CallOk Tryz.prog 42 [.pointer (some ⟨0, 0, none⟩), .func (.func 92) #[] #[.pointer (some ⟨1, 0, none⟩)]] [penB 2 l, nbB (n : Nat), pk l] (.tuple #[]) [penB 3 (l ++ Bt.codeB n), nbB (n : Nat), pk l, pk (l ++ Bt.codeB n)] 0 := by
  refine fnL_ok progOk extSound (nb_sound _ _ (frameT_sound _)) noLoops_ok (do1_run l (l ++ Bt.codeB n) (n : Nat)) ?_
  intro q hq
  simp only [List.mem_cons, List.not_mem_nil, or_false] at hq
  rcases hq with rfl
  · exact tok (frameT_ok [2, 1] (code1_ok hne hn hl) (by exact ro_in rfl (ro_in rfl (ro_pk hne (ro_nil)))) (by exact rf_pk (rf_in rfl (rf_in rfl (rf_in rfl (rf_pk (rf_nil)))))))
theorem code_ok {l : List Bool} {n : Nat} (hne : l ≠ []) (hn : n ≤ 1073741824) (hl : l.length + 100 ≤ 65536):
    CallOk Tryz.prog 46 [.pointer (some ⟨0, 0, none⟩), .int .i64 (n : Nat)] [penB 1 l, pk l] (.tuple #[]) [penB 3 (l ++ Bt.codeB n), pk l, nbB (n : Nat), pk (l ++ Bt.codeB n)] 0 := by
  refine fnL_ok progOk extSound (nb_sound _ _ (frameT_sound _)) noLoops_ok (code_run l (l ++ Bt.codeB n) (n : Nat)) ?_
  intro q hq
  simp only [List.mem_cons, List.not_mem_nil, or_false] at hq
  rcases hq with rfl
  · exact tok (frameT_ok [0, 2, 1] (do1_ok hne hn hl) (by exact ro_in rfl (ro_pk hne (ro_in rfl (ro_nil)))) (by exact rf_in rfl (rf_in rfl (rf_pk (rf_pk (rf_nil))))))
theorem of_outerM {x : List Nat} {c : Nat} (hne : x ≠ []) (hx : ∀ b ∈ x, b < 256) (hl : x.length ≤ 8000) :
    CallOk Tryz.prog 58 [.slice (some ⟨0, 0, none⟩) x.length c] [⟨false, none, byteV x⟩] (pv 2 (Bt.bytesB x)) [⟨false, none, byteV x⟩, bitsB 2 (pn (Bt.bytesB x)) ((Bt.bytesB x).length : Nat), pk (Bt.bytesB x)] 1 := by
  rw [pv_bytes, pn_bytes, pk_bytes hx, Bt.bytesB_length]
  exact of_outer hne hl
theorem of_okM {x : List Nat} {c : Nat} (hne : x ≠ []) (hx : ∀ b ∈ x, b < 256) (hl : x.length ≤ 8000) :
    CallOk Tryz.prog 58 [.slice (some ⟨0, 0, none⟩) x.length c] [rowB (byteV x)] (pv 2 (Bt.bytesB x)) [rowB (byteV x), bitsB 2 (pn (Bt.bytesB x)) ((Bt.bytesB x).length : Nat), pk (Bt.bytesB x)] 1 := by
  rw [pv_bytes, pn_bytes, pk_bytes hx, Bt.bytesB_length]
  exact of_ok hne hl
theorem bytes_ne {x : List Nat} (hne : x ≠ []) : Bt.bytesB x ≠ [] := by
  intro e
  have := congrArg List.length e
  have := List.length_pos_iff.2 hne
  simp at *
  omega
theorem by1_permO (l m lm : List Bool) (x : List Nat) (n c : Nat) : (evPermS Tryz.prog ext (nmPre (frameTPre (b1T (⟨false, none, byteV x⟩) l m lm))) (nbC [] [] (frameT (b1T (⟨false, none, byteV x⟩) l m lm))) (ntOf Tryz.prog 94 2) (opsOf (hdC (tlC (bodyOf Tryz.prog 94)))).toList (opsOf (hdC (tlC (bodyOf Tryz.prog 94)))).toList.length (List.replicate (opsOf (hdC (tlC (bodyOf Tryz.prog 94)))).toList.length false) ⟨⟨[(2, .pointer (some ⟨3, 0, none⟩)), (3, .pointer (some ⟨4, 0, none⟩)), (1, .pointer (some ⟨1, 0, none⟩))], [pk l, lbB 2 n c, ⟨false, none, byteV x⟩, bitsB 0 (pn l) (l.length : Nat), resB], 3⟩, [(0,true),(0,true)], []⟩).map (fun L => L.map fun t => (pick t.s.F [4, 3], t.s.H, t.s.lo, t.ob)) =
  some (List.replicate 6 ([(4, .int .i64 0), (3, .pointer (some ⟨4, 0, none⟩))], [pk l, ⟨true, none, [.slice (some ⟨2, 0, none⟩) n c]⟩, ⟨false, none, byteV x⟩, bitsB 0 (pn l) (List.length l : Nat), bitsB 7 (pn lm) (List.length lm : Nat), pk m, ⟨true, none, [.slice (some ⟨0, 0, none⟩) (pn l) 0, .int .i64 ((List.length l : Nat) : Int), .slice (some ⟨5, 0, none⟩) (pn m) 0, .int .i64 ((List.length m : Nat) : Int)]⟩, pk lm], 3, [(frameTPre (b1T ⟨false, none, byteV x⟩ l m lm) 95 [.slice (some ⟨6, 0, none⟩) 2 2] [pk l, ⟨true, none, [.slice (some ⟨2, 0, none⟩) n c]⟩, ⟨false, none, byteV x⟩, bitsB 0 (pn l) (List.length l : Nat), resB, pk m, ⟨true, none, [.slice (some ⟨0, 0, none⟩) (pn l) 0, .int .i64 ((List.length l : Nat) : Int), .slice (some ⟨5, 0, none⟩) (pn m) 0, .int .i64 ((List.length m : Nat) : Int)]⟩], true), (frameTPre (b1T ⟨false, none, byteV x⟩ l m lm) 58 [.slice (some ⟨2, 0, none⟩) n c] [pk l, ⟨true, none, [.slice (some ⟨2, 0, none⟩) n c]⟩, ⟨false, none, byteV x⟩, bitsB 0 (pn l) (List.length l : Nat), resB], true)])) := by kernel_rfl
theorem by1_okO {l : List Bool} {x : List Nat} {c : Nat} (hl : l ≠ []) (hne : x ≠ []) (hx : ∀ b ∈ x, b < 256) (h : l.length + 8 * x.length ≤ 60000) :
    CallOk Tryz.prog 94 [pv 0 l, .pointer (some ⟨1, 0, none⟩)] [pk l, lbB 2 x.length c, ⟨false, none, byteV x⟩] (.tuple #[pv 7 (l ++ Bt.bytesB x), .int .i64 0]) (e94 (⟨false, none, byteV x⟩) x.length c l (Bt.bytesB x) (l ++ Bt.bytesB x)) 3 := by
  refine CallOk.walk (n := 2) (x := .ret) (F' := [(4, .int .i64 0), (3, .pointer (some ⟨4, 0, none⟩))]) (by kernel_rfl) rfl ?_ (.inr rfl) (by kernel_rfl)
  refine WP.cut (s1 := ⟨[(2, .pointer (some ⟨3, 0, none⟩)), (3, .pointer (some ⟨4, 0, none⟩)), (1, .pointer (some ⟨1, 0, none⟩))], [pk l, lbB 2 x.length c, ⟨false, none, byteV x⟩, bitsB 0 (pn l) (l.length : Nat), resB], 3⟩) (by kernel_rfl) ?_ ?_
  · exact WP.run (N := 300) (L := noLoops) (os := []) (ob := []) progOk extSound noC_sound (by kernel_rfl) (LoopsOk.none (by kernel_rfl)) [2, 3, 1] (by kernel_rfl) (by simp [Holds])
  refine WP.cut (s1 := ⟨[(4, .int .i64 0), (3, .pointer (some ⟨4, 0, none⟩))], e94 (⟨false, none, byteV x⟩) x.length c l (Bt.bytesB x) (l ++ Bt.bytesB x), 3⟩) (by kernel_rfl) ?_ ?_
  · refine WP.permS progOk extSound (nb_sound _ _ (frameT_sound _)) (by kernel_rfl) [(0,true),(0,true)] [4, 3] 6 (by1_permO l (Bt.bytesB x) (l ++ Bt.bytesB x) x x.length c) ?_ (Nat.le_refl _)
    intro q hq
    simp only [List.mem_cons, List.not_mem_nil, or_false] at hq
    rcases hq with rfl | rfl
    · exact tok (frameT_ok [6, 0, 5] (joinR_ok l (Bt.bytesB x) hl (bytes_ne hne) (by simp; omega)) (by exact ro_pk hl (ro_in rfl (ro_row hne (ro_in rfl (ro_in rfl (ro_pk (bytes_ne hne) (ro_in rfl (ro_nil)))))))) (by exact rf_in rfl (rf_pk (rf_pk (rf_in rfl (rf_in rfl (rf_in rfl (rf_in rfl (rf_in rfl (rf_sp (rf_in rfl (rf_pk (rf_nil)))))))))))))
    · exact tok (frameT_ok [2] (of_outerM (c := c) hne hx (by omega)) (by exact ro_pk hl (ro_in rfl (ro_row hne (ro_in rfl (ro_in rfl (ro_nil)))))) (by exact rf_row (rf_in rfl (rf_pk (rf_nil)))))
  · exact WP.run (N := 300) (L := noLoops) (os := []) (ob := []) progOk extSound noC_sound (by kernel_rfl) (LoopsOk.none (by kernel_rfl)) [4, 3] (by kernel_rfl) (by simp [Holds])
theorem do4_runO (l m lm : List Bool) (x : List Nat) (n c : Nat) : evFnL Tryz.prog ext 300 (nmPre (frameTPre (d4T (⟨false, none, byteV x⟩) n c l m lm))) (nbC [] [] (frameT (d4T (⟨false, none, byteV x⟩) n c l m lm))) noLoops [(1,true)] 42 [.pointer (some ⟨0, 0, none⟩), .func (.func 94) #[] #[.pointer (some ⟨1, 0, none⟩)]] [penB 2 l, lbB 3 n c, pk l, ⟨false, none, byteV x⟩] =
  some ((.tuple #[], [⟨true, none, [.slice (some ⟨4, 0, none⟩) (pn lm) 0, .int .i64 ((List.length lm : Nat) : Int), .int .i64 0]⟩, ⟨true, none, [.slice (some ⟨3, 0, none⟩) n c]⟩, pk l, ⟨false, none, byteV x⟩, pk lm], 0), [(frameTPre (d4T ⟨false, none, byteV x⟩ n c l m lm) 94 [pv 2 l, .pointer (some ⟨1, 0, none⟩)] [⟨true, none, [.slice (some ⟨2, 0, none⟩) (pn l) 0, .int .i64 ((List.length l : Nat) : Int), .int .i64 0]⟩, ⟨true, none, [.slice (some ⟨3, 0, none⟩) n c]⟩, pk l, ⟨false, none, byteV x⟩], true)]) := by kernel_rfl
theorem bytes_runO (l l1 lm : List Bool) (x : List Nat) (n c : Nat) : evFnL Tryz.prog ext 300 (nmPre (frameTPre (byT (⟨false, none, byteV x⟩) n c l l1 lm))) (nbC [] [] (frameT (byT (⟨false, none, byteV x⟩) n c l l1 lm))) noLoops [(0,true),(0,true)] 47 [.pointer (some ⟨0, 0, none⟩), .slice (some ⟨1, 0, none⟩) n c] [penB 2 l, ⟨false, none, byteV x⟩, pk l] =
  some ((.tuple #[], [⟨true, none, [.slice (some ⟨5, 0, none⟩) (pn lm) 0, .int .i64 ((List.length lm : Nat) : Int), .int .i64 0]⟩, ⟨false, none, byteV x⟩, pk l, ⟨true, none, [.slice (some ⟨1, 0, none⟩) n c]⟩, pk l1, pk lm], 0), [(frameTPre (byT ⟨false, none, byteV x⟩ n c l l1 lm) 42 [.pointer (some ⟨0, 0, none⟩), Value.func (Fn.func 94) #[] #[.pointer (some ⟨3, 0, none⟩)]] [⟨true, none, [.slice (some ⟨4, 0, none⟩) (pn l1) 0, .int .i64 ((List.length l1 : Nat) : Int), .int .i64 0]⟩, ⟨false, none, byteV x⟩, pk l, ⟨true, none, [.slice (some ⟨1, 0, none⟩) n c]⟩, pk l1], true), (frameTPre (byT ⟨false, none, byteV x⟩ n c l l1 lm) 46 [.pointer (some ⟨0, 0, none⟩), .int .i64 ((n : Nat) : Int)] [⟨true, none, [.slice (some ⟨2, 0, none⟩) (pn l) 0, .int .i64 ((List.length l : Nat) : Int), .int .i64 0]⟩, ⟨false, none, byteV x⟩, pk l, ⟨true, none, [.slice (some ⟨1, 0, none⟩) n c]⟩], true)]) := by kernel_rfl
theorem do4_okO {l : List Bool} {x : List Nat} {c : Nat} (hl : l ≠ []) (hne : x ≠ []) (hx : ∀ b ∈ x, b < 256) (h : l.length + 8 * x.length ≤ 60000):
    CallOk Tryz.prog 42 [.pointer (some ⟨0, 0, none⟩), .func (.func 94) #[] #[.pointer (some ⟨1, 0, none⟩)]] [penB 2 l, lbB 3 x.length c, pk l, ⟨false, none, byteV x⟩] (.tuple #[]) [penB 4 (l ++ Bt.bytesB x), lbB 3 x.length c, pk l, ⟨false, none, byteV x⟩, pk (l ++ Bt.bytesB x)] 0 := by
  refine fnL_ok progOk extSound (nb_sound _ _ (frameT_sound _)) noLoops_ok (do4_runO l (Bt.bytesB x) (l ++ Bt.bytesB x) x x.length c) ?_
  intro q hq
  simp only [List.mem_cons, List.not_mem_nil, or_false] at hq
  rcases hq with rfl
  · exact tok (frameT_ok [2, 1, 3] (by1_okO (c := c) hl hne hx h) (by exact ro_in rfl (ro_in rfl (ro_pk hl (ro_row hne (ro_nil))))) (by exact rf_pk (rf_in rfl (rf_row (rf_in rfl (rf_in rfl (rf_pk (rf_in rfl (rf_pk (rf_nil))))))))))
theorem bytes_okO {l : List Bool} {x : List Nat} {c : Nat} (hl : l ≠ []) (hne : x ≠ []) (hx : ∀ b ∈ x, b < 256) (hx2 : x.length ≤ 1000) (h : l.length ≤ 50000):
    CallOk Tryz.prog 47 [.pointer (some ⟨0, 0, none⟩), .slice (some ⟨1, 0, none⟩) x.length c] [penB 2 l, ⟨false, none, byteV x⟩, pk l] (.tuple #[]) [penB 5 (l ++ Bt.codeB x.length ++ Bt.bytesB x), ⟨false, none, byteV x⟩, pk l, lbB 1 x.length c, pk (l ++ Bt.codeB x.length), pk (l ++ Bt.codeB x.length ++ Bt.bytesB x)] 0 := by
  have hcz : Bt.cz x.length < 31 := Bt.cz_le (by omega)
  refine fnL_ok progOk extSound (nb_sound _ _ (frameT_sound _)) noLoops_ok (bytes_runO l (l ++ Bt.codeB x.length) (l ++ Bt.codeB x.length ++ Bt.bytesB x) x x.length c) ?_
  intro q hq
  simp only [List.mem_cons, List.not_mem_nil, or_false] at hq
  rcases hq with rfl | rfl
  · exact tok (frameT_ok [0, 3, 4, 1] (do4_okO (l := l ++ Bt.codeB x.length) (x := x) (c := c) (code_ne _ _) hne hx (by simp; omega)) (by exact ro_in rfl (ro_row hne (ro_pk hl (ro_in rfl (ro_pk (code_ne _ _) (ro_nil)))))) (by exact rf_in rfl (rf_in rfl (rf_pk (rf_row (rf_pk (rf_nil)))))))
  · exact tok (frameT_ok [0, 2] (code_ok (l := l) (n := x.length) hl (by omega) (by omega)) (by exact ro_in rfl (ro_row hne (ro_pk hl (ro_in rfl (ro_nil))))) (by exact rf_in rfl (rf_pk (rf_in rfl (rf_pk (rf_nil))))))
theorem by1_permR (l m lm : List Bool) (x : List Nat) (n c : Nat) : (evPermS Tryz.prog ext (nmPre (frameTPre (b1T (rowB (byteV x)) l m lm))) (nbC [] [] (frameT (b1T (rowB (byteV x)) l m lm))) (ntOf Tryz.prog 94 2) (opsOf (hdC (tlC (bodyOf Tryz.prog 94)))).toList (opsOf (hdC (tlC (bodyOf Tryz.prog 94)))).toList.length (List.replicate (opsOf (hdC (tlC (bodyOf Tryz.prog 94)))).toList.length false) ⟨⟨[(2, .pointer (some ⟨3, 0, none⟩)), (3, .pointer (some ⟨4, 0, none⟩)), (1, .pointer (some ⟨1, 0, none⟩))], [pk l, lbB 2 n c, rowB (byteV x), bitsB 0 (pn l) (l.length : Nat), resB], 3⟩, [(0,true),(0,true)], []⟩).map (fun L => L.map fun t => (pick t.s.F [4, 3], t.s.H, t.s.lo, t.ob)) =
  some (List.replicate 6 ([(4, .int .i64 0), (3, .pointer (some ⟨4, 0, none⟩))], [pk l, ⟨true, none, [.slice (some ⟨2, 0, none⟩) n c]⟩, ⟨true, some 1, byteV x⟩, bitsB 0 (pn l) (List.length l : Nat), bitsB 7 (pn lm) (List.length lm : Nat), pk m, ⟨true, none, [.slice (some ⟨0, 0, none⟩) (pn l) 0, .int .i64 ((List.length l : Nat) : Int), .slice (some ⟨5, 0, none⟩) (pn m) 0, .int .i64 ((List.length m : Nat) : Int)]⟩, pk lm], 3, [(frameTPre (b1T (rowB (byteV x)) l m lm) 95 [.slice (some ⟨6, 0, none⟩) 2 2] [pk l, ⟨true, none, [.slice (some ⟨2, 0, none⟩) n c]⟩, ⟨true, some 1, byteV x⟩, bitsB 0 (pn l) (List.length l : Nat), resB, pk m, ⟨true, none, [.slice (some ⟨0, 0, none⟩) (pn l) 0, .int .i64 ((List.length l : Nat) : Int), .slice (some ⟨5, 0, none⟩) (pn m) 0, .int .i64 ((List.length m : Nat) : Int)]⟩], true), (frameTPre (b1T (rowB (byteV x)) l m lm) 58 [.slice (some ⟨2, 0, none⟩) n c] [pk l, ⟨true, none, [.slice (some ⟨2, 0, none⟩) n c]⟩, ⟨true, some 1, byteV x⟩, bitsB 0 (pn l) (List.length l : Nat), resB], true)])) := by kernel_rfl
theorem by1_okR {l : List Bool} {x : List Nat} {c : Nat} (hl : l ≠ []) (hne : x ≠ []) (hx : ∀ b ∈ x, b < 256) (h : l.length + 8 * x.length ≤ 60000) :
    CallOk Tryz.prog 94 [pv 0 l, .pointer (some ⟨1, 0, none⟩)] [pk l, lbB 2 x.length c, rowB (byteV x)] (.tuple #[pv 7 (l ++ Bt.bytesB x), .int .i64 0]) (e94 (rowB (byteV x)) x.length c l (Bt.bytesB x) (l ++ Bt.bytesB x)) 3 := by
  refine CallOk.walk (n := 2) (x := .ret) (F' := [(4, .int .i64 0), (3, .pointer (some ⟨4, 0, none⟩))]) (by kernel_rfl) rfl ?_ (.inr rfl) (by kernel_rfl)
  refine WP.cut (s1 := ⟨[(2, .pointer (some ⟨3, 0, none⟩)), (3, .pointer (some ⟨4, 0, none⟩)), (1, .pointer (some ⟨1, 0, none⟩))], [pk l, lbB 2 x.length c, rowB (byteV x), bitsB 0 (pn l) (l.length : Nat), resB], 3⟩) (by kernel_rfl) ?_ ?_
  · exact WP.run (N := 300) (L := noLoops) (os := []) (ob := []) progOk extSound noC_sound (by kernel_rfl) (LoopsOk.none (by kernel_rfl)) [2, 3, 1] (by kernel_rfl) (by simp [Holds])
  refine WP.cut (s1 := ⟨[(4, .int .i64 0), (3, .pointer (some ⟨4, 0, none⟩))], e94 (rowB (byteV x)) x.length c l (Bt.bytesB x) (l ++ Bt.bytesB x), 3⟩) (by kernel_rfl) ?_ ?_
  · refine WP.permS progOk extSound (nb_sound _ _ (frameT_sound _)) (by kernel_rfl) [(0,true),(0,true)] [4, 3] 6 (by1_permR l (Bt.bytesB x) (l ++ Bt.bytesB x) x x.length c) ?_ (Nat.le_refl _)
    intro q hq
    simp only [List.mem_cons, List.not_mem_nil, or_false] at hq
    rcases hq with rfl | rfl
    · exact tok (frameT_ok [6, 0, 5] (joinR_ok l (Bt.bytesB x) hl (bytes_ne hne) (by simp; omega)) (by exact ro_pk hl (ro_in rfl (ro_row hne (ro_in rfl (ro_in rfl (ro_pk (bytes_ne hne) (ro_in rfl (ro_nil)))))))) (by exact rf_in rfl (rf_pk (rf_pk (rf_in rfl (rf_in rfl (rf_in rfl (rf_in rfl (rf_in rfl (rf_sp (rf_in rfl (rf_pk (rf_nil)))))))))))))
    · exact tok (frameT_ok [2] (of_okM (c := c) hne hx (by omega)) (by exact ro_pk hl (ro_in rfl (ro_row hne (ro_in rfl (ro_in rfl (ro_nil)))))) (by exact rf_row (rf_in rfl (rf_pk (rf_nil)))))
  · exact WP.run (N := 300) (L := noLoops) (os := []) (ob := []) progOk extSound noC_sound (by kernel_rfl) (LoopsOk.none (by kernel_rfl)) [4, 3] (by kernel_rfl) (by simp [Holds])
theorem do4_runR (l m lm : List Bool) (x : List Nat) (n c : Nat) : evFnL Tryz.prog ext 300 (nmPre (frameTPre (d4T (rowB (byteV x)) n c l m lm))) (nbC [] [] (frameT (d4T (rowB (byteV x)) n c l m lm))) noLoops [(1,true)] 42 [.pointer (some ⟨0, 0, none⟩), .func (.func 94) #[] #[.pointer (some ⟨1, 0, none⟩)]] [penB 2 l, lbB 3 n c, pk l, rowB (byteV x)] =
  some ((.tuple #[], [⟨true, none, [.slice (some ⟨4, 0, none⟩) (pn lm) 0, .int .i64 ((List.length lm : Nat) : Int), .int .i64 0]⟩, ⟨true, none, [.slice (some ⟨3, 0, none⟩) n c]⟩, pk l, ⟨true, some 1, byteV x⟩, pk lm], 0), [(frameTPre (d4T (rowB (byteV x)) n c l m lm) 94 [pv 2 l, .pointer (some ⟨1, 0, none⟩)] [⟨true, none, [.slice (some ⟨2, 0, none⟩) (pn l) 0, .int .i64 ((List.length l : Nat) : Int), .int .i64 0]⟩, ⟨true, none, [.slice (some ⟨3, 0, none⟩) n c]⟩, pk l, ⟨true, some 1, byteV x⟩], true)]) := by kernel_rfl
theorem bytes_runR (l l1 lm : List Bool) (x : List Nat) (n c : Nat) : evFnL Tryz.prog ext 300 (nmPre (frameTPre (byT (rowB (byteV x)) n c l l1 lm))) (nbC [] [] (frameT (byT (rowB (byteV x)) n c l l1 lm))) noLoops [(0,true),(0,true)] 47 [.pointer (some ⟨0, 0, none⟩), .slice (some ⟨1, 0, none⟩) n c] [penB 2 l, rowB (byteV x), pk l] =
  some ((.tuple #[], [⟨true, none, [.slice (some ⟨5, 0, none⟩) (pn lm) 0, .int .i64 ((List.length lm : Nat) : Int), .int .i64 0]⟩, ⟨true, some 1, byteV x⟩, pk l, ⟨true, none, [.slice (some ⟨1, 0, none⟩) n c]⟩, pk l1, pk lm], 0), [(frameTPre (byT (rowB (byteV x)) n c l l1 lm) 42 [.pointer (some ⟨0, 0, none⟩), Value.func (Fn.func 94) #[] #[.pointer (some ⟨3, 0, none⟩)]] [⟨true, none, [.slice (some ⟨4, 0, none⟩) (pn l1) 0, .int .i64 ((List.length l1 : Nat) : Int), .int .i64 0]⟩, ⟨true, some 1, byteV x⟩, pk l, ⟨true, none, [.slice (some ⟨1, 0, none⟩) n c]⟩, pk l1], true), (frameTPre (byT (rowB (byteV x)) n c l l1 lm) 46 [.pointer (some ⟨0, 0, none⟩), .int .i64 ((n : Nat) : Int)] [⟨true, none, [.slice (some ⟨2, 0, none⟩) (pn l) 0, .int .i64 ((List.length l : Nat) : Int), .int .i64 0]⟩, ⟨true, some 1, byteV x⟩, pk l, ⟨true, none, [.slice (some ⟨1, 0, none⟩) n c]⟩], true)]) := by kernel_rfl
theorem do4_okR {l : List Bool} {x : List Nat} {c : Nat} (hl : l ≠ []) (hne : x ≠ []) (hx : ∀ b ∈ x, b < 256) (h : l.length + 8 * x.length ≤ 60000):
    CallOk Tryz.prog 42 [.pointer (some ⟨0, 0, none⟩), .func (.func 94) #[] #[.pointer (some ⟨1, 0, none⟩)]] [penB 2 l, lbB 3 x.length c, pk l, rowB (byteV x)] (.tuple #[]) [penB 4 (l ++ Bt.bytesB x), lbB 3 x.length c, pk l, rowB (byteV x), pk (l ++ Bt.bytesB x)] 0 := by
  refine fnL_ok progOk extSound (nb_sound _ _ (frameT_sound _)) noLoops_ok (do4_runR l (Bt.bytesB x) (l ++ Bt.bytesB x) x x.length c) ?_
  intro q hq
  simp only [List.mem_cons, List.not_mem_nil, or_false] at hq
  rcases hq with rfl
  · exact tok (frameT_ok [2, 1, 3] (by1_okR (c := c) hl hne hx h) (by exact ro_in rfl (ro_in rfl (ro_pk hl (ro_row hne (ro_nil))))) (by exact rf_pk (rf_in rfl (rf_row (rf_in rfl (rf_in rfl (rf_pk (rf_in rfl (rf_pk (rf_nil))))))))))
theorem bytes_okR {l : List Bool} {x : List Nat} {c : Nat} (hl : l ≠ []) (hne : x ≠ []) (hx : ∀ b ∈ x, b < 256) (hx2 : x.length ≤ 1000) (h : l.length ≤ 50000):
    CallOk Tryz.prog 47 [.pointer (some ⟨0, 0, none⟩), .slice (some ⟨1, 0, none⟩) x.length c] [penB 2 l, rowB (byteV x), pk l] (.tuple #[]) [penB 5 (l ++ Bt.codeB x.length ++ Bt.bytesB x), rowB (byteV x), pk l, lbB 1 x.length c, pk (l ++ Bt.codeB x.length), pk (l ++ Bt.codeB x.length ++ Bt.bytesB x)] 0 := by
  have hcz : Bt.cz x.length < 31 := Bt.cz_le (by omega)
  refine fnL_ok progOk extSound (nb_sound _ _ (frameT_sound _)) noLoops_ok (bytes_runR l (l ++ Bt.codeB x.length) (l ++ Bt.codeB x.length ++ Bt.bytesB x) x x.length c) ?_
  intro q hq
  simp only [List.mem_cons, List.not_mem_nil, or_false] at hq
  rcases hq with rfl | rfl
  · exact tok (frameT_ok [0, 3, 4, 1] (do4_okR (l := l ++ Bt.codeB x.length) (x := x) (c := c) (code_ne _ _) hne hx (by simp; omega)) (by exact ro_in rfl (ro_row hne (ro_pk hl (ro_in rfl (ro_pk (code_ne _ _) (ro_nil)))))) (by exact rf_in rfl (rf_in rfl (rf_pk (rf_row (rf_pk (rf_nil)))))))
  · exact tok (frameT_ok [0, 2] (code_ok (l := l) (n := x.length) hl (by omega) (by omega)) (by exact ro_in rfl (ro_row hne (ro_pk hl (ro_in rfl (ro_nil))))) (by exact rf_in rfl (rf_pk (rf_in rfl (rf_pk (rf_nil))))))
theorem by1_permN (l : List Bool) : (evPermS Tryz.prog ext (nmPre (frameTPre (b1TN l))) (nbC [] [] (frameT (b1TN l))) (ntOf Tryz.prog 94 2) (opsOf (hdC (tlC (bodyOf Tryz.prog 94)))).toList (opsOf (hdC (tlC (bodyOf Tryz.prog 94)))).toList.length (List.replicate (opsOf (hdC (tlC (bodyOf Tryz.prog 94)))).toList.length false) ⟨⟨[(2, .pointer (some ⟨2, 0, none⟩)), (3, .pointer (some ⟨3, 0, none⟩)), (1, .pointer (some ⟨1, 0, none⟩))], [pk l, lbN, bitsB 0 (pn l) (l.length : Nat), resB], 2⟩, [(0,true),(0,true)], []⟩).map (fun L => L.map fun t => (pick t.s.F [4, 3], t.s.H, t.s.lo, t.ob)) =
  some (List.replicate 6 ([(4, .int .i64 0), (3, .pointer (some ⟨3, 0, none⟩))], [pk l, ⟨true, none, [.slice none 0 0]⟩, bitsB 0 (pn l) (List.length l : Nat), bitsB 5 (pn l) (List.length l : Nat), ⟨true, none, [.slice (some ⟨0, 0, none⟩) (pn l) 0, .int .i64 ((List.length l : Nat) : Int), .slice none 0 0, .int .i64 0]⟩, pk l], 2, [(frameTPre (b1TN l) 95 [.slice (some ⟨4, 0, none⟩) 2 2] [pk l, ⟨true, none, [.slice none 0 0]⟩, bitsB 0 (pn l) (List.length l : Nat), resB, ⟨true, none, [.slice (some ⟨0, 0, none⟩) (pn l) 0, .int .i64 ((List.length l : Nat) : Int), .slice none 0 0, .int .i64 0]⟩], true), (frameTPre (b1TN l) 58 [.slice none 0 0] [], true)])) := by kernel_rfl
theorem by1_okN {l : List Bool} (hl : l ≠ []) (h : l.length ≤ 60000) :
    CallOk Tryz.prog 94 [pv 0 l, .pointer (some ⟨1, 0, none⟩)] [pk l, lbN] (.tuple #[pv 5 l, .int .i64 0]) (e94N lbN (.slice none 0 0) l) 2 := by
  refine CallOk.walk (n := 2) (x := .ret) (F' := [(4, .int .i64 0), (3, .pointer (some ⟨3, 0, none⟩))]) (by kernel_rfl) rfl ?_ (.inr rfl) (by kernel_rfl)
  refine WP.cut (s1 := ⟨[(2, .pointer (some ⟨2, 0, none⟩)), (3, .pointer (some ⟨3, 0, none⟩)), (1, .pointer (some ⟨1, 0, none⟩))], [pk l, lbN, bitsB 0 (pn l) (l.length : Nat), resB], 2⟩) (by kernel_rfl) ?_ ?_
  · exact WP.run (N := 300) (L := noLoops) (os := []) (ob := []) progOk extSound noC_sound (by kernel_rfl) (LoopsOk.none (by kernel_rfl)) [2, 3, 1] (by kernel_rfl) (by simp [Holds])
  refine WP.cut (s1 := ⟨[(4, .int .i64 0), (3, .pointer (some ⟨3, 0, none⟩))], e94N lbN (.slice none 0 0) l, 2⟩) (by kernel_rfl) ?_ ?_
  · refine WP.permS progOk extSound (nb_sound _ _ (frameT_sound _)) (by kernel_rfl) [(0,true),(0,true)] [4, 3] 6 (by1_permN l) ?_ (Nat.le_refl _)
    intro q hq
    simp only [List.mem_cons, List.not_mem_nil, or_false] at hq
    rcases hq with rfl | rfl
    · exact tok (frameT_ok [4, 0] (joinN_ok l hl h) (by exact ro_pk hl (ro_in rfl (ro_in rfl (ro_in rfl (ro_in rfl (ro_nil)))))) (by exact rf_in rfl (rf_pk (rf_in rfl (rf_in rfl (rf_in rfl (rf_in rfl (rf_in rfl (rf_sp (rf_in rfl (rf_pk (rf_nil))))))))))))
    · exact tok (frameT_ok [] (of_nil) (by exact ro_nil) (by exact rf_in rfl (rf_nil)))
  · exact WP.run (N := 300) (L := noLoops) (os := []) (ob := []) progOk extSound noC_sound (by kernel_rfl) (LoopsOk.none (by kernel_rfl)) [4, 3] (by kernel_rfl) (by simp [Holds])
theorem do4_runN (l : List Bool) : evFnL Tryz.prog ext 300 (nmPre (frameTPre (d4TN lbN (.slice none 0 0) l))) (nbC [] [] (frameT (d4TN lbN (.slice none 0 0) l))) noLoops [(1,true)] 42 [.pointer (some ⟨0, 0, none⟩), .func (.func 94) #[] #[.pointer (some ⟨1, 0, none⟩)]] [penB 2 l, lbN, pk l] =
  some ((.tuple #[], [⟨true, none, [.slice (some ⟨3, 0, none⟩) (pn l) 0, .int .i64 ((List.length l : Nat) : Int), .int .i64 0]⟩, ⟨true, none, [.slice none 0 0]⟩, pk l, pk l], 0), [(frameTPre (d4TN lbN (.slice none 0 0) l) 94 [pv 2 l, .pointer (some ⟨1, 0, none⟩)] [⟨true, none, [.slice (some ⟨2, 0, none⟩) (pn l) 0, .int .i64 ((List.length l : Nat) : Int), .int .i64 0]⟩, ⟨true, none, [.slice none 0 0]⟩, pk l], true)]) := by kernel_rfl
theorem bytes_runN (l l1 : List Bool) : evFnL Tryz.prog ext 300 (nmPre (frameTPre (byTN lbN l l1))) (nbC [] [] (frameT (byTN lbN l l1))) noLoops [(0,true),(0,true)] 47 [.pointer (some ⟨0, 0, none⟩), .slice none 0 0] [penB 1 l, pk l] =
  some ((.tuple #[], [⟨true, none, [.slice (some ⟨4, 0, none⟩) (pn l1) 0, .int .i64 ((List.length l1 : Nat) : Int), .int .i64 0]⟩, pk l, ⟨true, none, [.slice none 0 0]⟩, pk l1, pk l1], 0), [(frameTPre (byTN lbN l l1) 42 [.pointer (some ⟨0, 0, none⟩), Value.func (Fn.func 94) #[] #[.pointer (some ⟨2, 0, none⟩)]] [⟨true, none, [.slice (some ⟨3, 0, none⟩) (pn l1) 0, .int .i64 ((List.length l1 : Nat) : Int), .int .i64 0]⟩, pk l, ⟨true, none, [.slice none 0 0]⟩, pk l1], true), (frameTPre (byTN lbN l l1) 46 [.pointer (some ⟨0, 0, none⟩), .int .i64 ((0 : Nat) : Int)] [⟨true, none, [.slice (some ⟨1, 0, none⟩) (pn l) 0, .int .i64 ((List.length l : Nat) : Int), .int .i64 0]⟩, pk l, ⟨true, none, [.slice none 0 0]⟩], true)]) := by kernel_rfl
theorem do4_okN {l : List Bool} (hl : l ≠ []) (h : l.length ≤ 60000):
    CallOk Tryz.prog 42 [.pointer (some ⟨0, 0, none⟩), .func (.func 94) #[] #[.pointer (some ⟨1, 0, none⟩)]] [penB 2 l, lbN, pk l] (.tuple #[]) [penB 3 l, lbN, pk l, pk l] 0 := by
  refine fnL_ok progOk extSound (nb_sound _ _ (frameT_sound _)) noLoops_ok (do4_runN l) ?_
  intro q hq
  simp only [List.mem_cons, List.not_mem_nil, or_false] at hq
  rcases hq with rfl
  · exact tok (frameT_ok [2, 1] (by1_okN hl h) (by exact ro_in rfl (ro_in rfl (ro_pk hl (ro_nil)))) (by exact rf_pk (rf_in rfl (rf_in rfl (rf_in rfl (rf_in rfl (rf_pk (rf_nil))))))))
theorem bytes_okN {l : List Bool} (hl : l ≠ []) (h : l.length ≤ 50000):
    CallOk Tryz.prog 47 [.pointer (some ⟨0, 0, none⟩), .slice none 0 0] [penB 1 l, pk l] (.tuple #[]) [penB 4 (l ++ Bt.codeB 0), pk l, lbN, pk (l ++ Bt.codeB 0), pk (l ++ Bt.codeB 0)] 0 := by
  have hcz : Bt.cz 0 < 31 := Bt.cz_le (by omega)
  refine fnL_ok progOk extSound (nb_sound _ _ (frameT_sound _)) noLoops_ok (bytes_runN l (l ++ Bt.codeB 0)) ?_
  intro q hq
  simp only [List.mem_cons, List.not_mem_nil, or_false] at hq
  rcases hq with rfl | rfl
  · exact tok (frameT_ok [0, 2, 3] (do4_okN (l := l ++ Bt.codeB 0) (code_ne _ _) (by simp; omega)) (by exact ro_in rfl (ro_pk hl (ro_in rfl (ro_pk (code_ne _ _) (ro_nil))))) (by exact rf_in rfl (rf_in rfl (rf_pk (rf_pk (rf_nil))))))
  · exact tok (frameT_ok [0, 1] (code_ok (l := l) (n := 0) hl (by omega) (by omega)) (by exact ro_in rfl (ro_pk hl (ro_in rfl (ro_nil)))) (by exact rf_in rfl (rf_pk (rf_in rfl (rf_pk (rf_nil))))))
theorem by1_permG (l : List Bool) : (evPermS Tryz.prog ext (nmPre (frameTPre (b1TG l))) (nbC [] [] (frameT (b1TG l))) (ntOf Tryz.prog 94 2) (opsOf (hdC (tlC (bodyOf Tryz.prog 94)))).toList (opsOf (hdC (tlC (bodyOf Tryz.prog 94)))).toList.length (List.replicate (opsOf (hdC (tlC (bodyOf Tryz.prog 94)))).toList.length false) ⟨⟨[(2, .pointer (some ⟨2, 0, none⟩)), (3, .pointer (some ⟨3, 0, none⟩)), (1, .pointer (some ⟨1, 0, none⟩))], [pk l, lbG, bitsB 0 (pn l) (l.length : Nat), resB], 2⟩, [(0,true),(0,true)], []⟩).map (fun L => L.map fun t => (pick t.s.F [4, 3], t.s.H, t.s.lo, t.ob)) =
  some (List.replicate 6 ([(4, .int .i64 0), (3, .pointer (some ⟨3, 0, none⟩))], [pk l, ⟨true, none, [.slice (some { block := 0, off := 0, spot := some 1 }) 0 0]⟩, bitsB 0 (pn l) (List.length l : Nat), bitsB 5 (pn l) (List.length l : Nat), ⟨true, none, [.slice (some ⟨0, 0, none⟩) (pn l) 0, .int .i64 ((List.length l : Nat) : Int), .slice (some { block := 0, off := 0, spot := some 1 }) 0 0, .int .i64 0]⟩, pk l], 2, [(frameTPre (b1TG l) 95 [.slice (some ⟨4, 0, none⟩) 2 2] [pk l, ⟨true, none, [.slice (some { block := 0, off := 0, spot := some 1 }) 0 0]⟩, bitsB 0 (pn l) (List.length l : Nat), resB, ⟨true, none, [.slice (some ⟨0, 0, none⟩) (pn l) 0, .int .i64 ((List.length l : Nat) : Int), .slice (some { block := 0, off := 0, spot := some 1 }) 0 0, .int .i64 0]⟩], true), (frameTPre (b1TG l) 58 [.slice (some { block := 0, off := 0, spot := some 1 }) 0 0] [pk l, ⟨true, none, [.slice (some { block := 0, off := 0, spot := some 1 }) 0 0]⟩, bitsB 0 (pn l) (List.length l : Nat), resB], true)])) := by kernel_rfl
theorem by1_okG {l : List Bool} (hl : l ≠ []) (h : l.length ≤ 60000) :
    CallOk Tryz.prog 94 [pv 0 l, .pointer (some ⟨1, 0, none⟩)] [pk l, lbG] (.tuple #[pv 5 l, .int .i64 0]) (e94N lbG (goneV) l) 2 := by
  refine CallOk.walk (n := 2) (x := .ret) (F' := [(4, .int .i64 0), (3, .pointer (some ⟨3, 0, none⟩))]) (by kernel_rfl) rfl ?_ (.inr rfl) (by kernel_rfl)
  refine WP.cut (s1 := ⟨[(2, .pointer (some ⟨2, 0, none⟩)), (3, .pointer (some ⟨3, 0, none⟩)), (1, .pointer (some ⟨1, 0, none⟩))], [pk l, lbG, bitsB 0 (pn l) (l.length : Nat), resB], 2⟩) (by kernel_rfl) ?_ ?_
  · exact WP.run (N := 300) (L := noLoops) (os := []) (ob := []) progOk extSound noC_sound (by kernel_rfl) (LoopsOk.none (by kernel_rfl)) [2, 3, 1] (by kernel_rfl) (by simp [Holds])
  refine WP.cut (s1 := ⟨[(4, .int .i64 0), (3, .pointer (some ⟨3, 0, none⟩))], e94N lbG (goneV) l, 2⟩) (by kernel_rfl) ?_ ?_
  · refine WP.permS progOk extSound (nb_sound _ _ (frameT_sound _)) (by kernel_rfl) [(0,true),(0,true)] [4, 3] 6 (by1_permG l) ?_ (Nat.le_refl _)
    intro q hq
    simp only [List.mem_cons, List.not_mem_nil, or_false] at hq
    rcases hq with rfl | rfl
    · exact tok (frameT_ok [4, 0] (joinG_ok l hl h) (by exact ro_pk hl (ro_in rfl (ro_in rfl (ro_in rfl (ro_in rfl (ro_nil)))))) (by exact rf_in rfl (rf_pk (rf_in rfl (rf_in rfl (rf_in rfl (rf_in rfl (rf_in rfl (rf_sp (rf_in rfl (rf_pk (rf_nil))))))))))))
    · exact tok (frameT_ok [] (of_gone) (by exact ro_pk hl (ro_in rfl (ro_in rfl (ro_in rfl (ro_nil))))) (by exact rf_in rfl (rf_in rfl (rf_nil))))
  · exact WP.run (N := 300) (L := noLoops) (os := []) (ob := []) progOk extSound noC_sound (by kernel_rfl) (LoopsOk.none (by kernel_rfl)) [4, 3] (by kernel_rfl) (by simp [Holds])
theorem do4_runG (l : List Bool) : evFnL Tryz.prog ext 300 (nmPre (frameTPre (d4TN lbG (goneV) l))) (nbC [] [] (frameT (d4TN lbG (goneV) l))) noLoops [(1,true)] 42 [.pointer (some ⟨0, 0, none⟩), .func (.func 94) #[] #[.pointer (some ⟨1, 0, none⟩)]] [penB 2 l, lbG, pk l] =
  some ((.tuple #[], [⟨true, none, [.slice (some ⟨3, 0, none⟩) (pn l) 0, .int .i64 ((List.length l : Nat) : Int), .int .i64 0]⟩, ⟨true, none, [.slice (some { block := 0, off := 0, spot := some 1 }) 0 0]⟩, pk l, pk l], 0), [(frameTPre (d4TN lbG goneV l) 94 [pv 2 l, .pointer (some ⟨1, 0, none⟩)] [⟨true, none, [.slice (some ⟨2, 0, none⟩) (pn l) 0, .int .i64 ((List.length l : Nat) : Int), .int .i64 0]⟩, ⟨true, none, [.slice (some { block := 0, off := 0, spot := some 1 }) 0 0]⟩, pk l], true)]) := by kernel_rfl
theorem bytes_runG (l l1 : List Bool) : evFnL Tryz.prog ext 300 (nmPre (frameTPre (byTN lbG l l1))) (nbC [] [] (frameT (byTN lbG l l1))) noLoops [(0,true),(0,true)] 47 [.pointer (some ⟨0, 0, none⟩), goneV] [penB 1 l, pk l] =
  some ((.tuple #[], [⟨true, none, [.slice (some ⟨4, 0, none⟩) (pn l1) 0, .int .i64 ((List.length l1 : Nat) : Int), .int .i64 0]⟩, pk l, ⟨true, none, [.slice (some { block := 0, off := 0, spot := some 1 }) 0 0]⟩, pk l1, pk l1], 0), [(frameTPre (byTN lbG l l1) 42 [.pointer (some ⟨0, 0, none⟩), Value.func (Fn.func 94) #[] #[.pointer (some ⟨2, 0, none⟩)]] [⟨true, none, [.slice (some ⟨3, 0, none⟩) (pn l1) 0, .int .i64 ((List.length l1 : Nat) : Int), .int .i64 0]⟩, pk l, ⟨true, none, [.slice (some { block := 0, off := 0, spot := some 1 }) 0 0]⟩, pk l1], true), (frameTPre (byTN lbG l l1) 46 [.pointer (some ⟨0, 0, none⟩), .int .i64 ((0 : Nat) : Int)] [⟨true, none, [.slice (some ⟨1, 0, none⟩) (pn l) 0, .int .i64 ((List.length l : Nat) : Int), .int .i64 0]⟩, pk l, ⟨true, none, [.slice (some { block := 0, off := 0, spot := some 1 }) 0 0]⟩], true)]) := by kernel_rfl
theorem do4_okG {l : List Bool} (hl : l ≠ []) (h : l.length ≤ 60000):
    CallOk Tryz.prog 42 [.pointer (some ⟨0, 0, none⟩), .func (.func 94) #[] #[.pointer (some ⟨1, 0, none⟩)]] [penB 2 l, lbG, pk l] (.tuple #[]) [penB 3 l, lbG, pk l, pk l] 0 := by
  refine fnL_ok progOk extSound (nb_sound _ _ (frameT_sound _)) noLoops_ok (do4_runG l) ?_
  intro q hq
  simp only [List.mem_cons, List.not_mem_nil, or_false] at hq
  rcases hq with rfl
  · exact tok (frameT_ok [2, 1] (by1_okG hl h) (by exact ro_in rfl (ro_in rfl (ro_pk hl (ro_nil)))) (by exact rf_pk (rf_in rfl (rf_in rfl (rf_in rfl (rf_in rfl (rf_pk (rf_nil))))))))
theorem bytes_okG {l : List Bool} (hl : l ≠ []) (h : l.length ≤ 50000):
    CallOk Tryz.prog 47 [.pointer (some ⟨0, 0, none⟩), goneV] [penB 1 l, pk l] (.tuple #[]) [penB 4 (l ++ Bt.codeB 0), pk l, lbG, pk (l ++ Bt.codeB 0), pk (l ++ Bt.codeB 0)] 0 := by
  have hcz : Bt.cz 0 < 31 := Bt.cz_le (by omega)
  refine fnL_ok progOk extSound (nb_sound _ _ (frameT_sound _)) noLoops_ok (bytes_runG l (l ++ Bt.codeB 0)) ?_
  intro q hq
  simp only [List.mem_cons, List.not_mem_nil, or_false] at hq
  rcases hq with rfl | rfl
  · exact tok (frameT_ok [0, 2, 3] (do4_okG (l := l ++ Bt.codeB 0) (code_ne _ _) (by simp; omega)) (by exact ro_in rfl (ro_pk hl (ro_in rfl (ro_pk (code_ne _ _) (ro_nil))))) (by exact rf_in rfl (rf_in rfl (rf_pk (rf_pk (rf_nil))))))
  · exact tok (frameT_ok [0, 1] (code_ok (l := l) (n := 0) hl (by omega) (by omega)) (by exact ro_in rfl (ro_pk hl (ro_in rfl (ro_nil)))) (by exact rf_in rfl (rf_pk (rf_in rfl (rf_pk (rf_nil))))))
end Go.Proofs.YtpgmabpaiijipaaGreatDoor
namespace Go.Proofs.YtpgmabpaiijipaaGreatDoor
open Go Den
set_option maxRecDepth 100000
set_option linter.unusedSimpArgs false
set_option linter.unusedVariables false
def eyB (g : Nat) (l : List Bool) (a : Int) : Blk := ⟨true, none, [.slice (some ⟨g, 0, none⟩) (pn l) 0, .int .i64 (l.length : Nat), .int .i64 a, .bool true]⟩
def nuT (l : List Bool) (t : Int) : Nat → Tale := fun _ f _ _ => match f with
  | 98 => some (.tuple #[.int .u64 t, .int .i64 0], [pk l, bitsB 0 (pn l) (l.length : Nat)], 1)
  | _ => none
def ecT (l : List Bool) (t a : Int) : Nat → Tale := fun _ f _ _ => match f with
  | 99 => some (.tuple #[.int .u64 t, .int .i64 a, .int .i64 0], gcH l, 1)
  | _ => none
def ebT (l : List Bool) (t a : Int) : Nat → Tale := fun _ f _ _ => match f with
  | 59 => some (.int .i64 t, [eyB 1 l a, pk l], 0)
  | 60 => some (.int .i64 t, [eyB 1 l a, pk l], 0)
  | _ => none
def ebF (n : Int) (v : Value) : Slots := [(3, .int .i64 n), (4, v), (0, .pointer (some ⟨0, 0, none⟩))]
def ebV (j : Nat) : Value := match j with
  | 0 => .slice none 0 0
  | j + 1 => .slice (some ⟨2, 0, none⟩) (j + 1) 0
theorem num_run (l : List Bool) (a w t u a' : Int) : evFnL Tryz.prog ext 300 (nmPre (frameTPre (nuT l t))) (nbC [(40, u), (36, a')] [] (frameT (nuT l t))) noLoops [(0,true)] 59 [.pointer (some ⟨0, 0, none⟩), .int .i64 w] [eyB 1 l a, pk l] =
  some ((.int .i64 u, [⟨true, none, [.slice (some ⟨1, 0, none⟩) (pn l) 0, .int .i64 ((List.length l : Nat) : Int), .int .i64 a', .bool true]⟩, pk l], 0), [(decide (IntKind.wrap .i64 t = u), true), (decide (IntKind.wrap .i64 (a + w) = a'), true), (frameTPre (nuT l t) 98 [pv 1 l, .int .i64 a, .int .i64 w] [⟨true, none, [.slice (some ⟨1, 0, none⟩) (pn l) 0, .int .i64 ((List.length l : Nat) : Int), .int .i64 a, .bool true]⟩, pk l], true)]) := by kernel_rfl
theorem ecode_run (l : List Bool) (a t a' u : Int) : evFnL Tryz.prog ext 300 (nmPre (frameTPre (ecT l t a'))) (nbC [(37, u)] [] (frameT (ecT l t a'))) noLoops [(0,true)] 60 [.pointer (some ⟨0, 0, none⟩)] [eyB 1 l a, pk l] =
  some ((.int .i64 u, [⟨true, none, [.slice (some ⟨1, 0, none⟩) (pn l) 0, .int .i64 ((List.length l : Nat) : Int), .int .i64 a', .bool true]⟩, pk l], 0), [(decide (IntKind.wrap .i64 t = u), true), (frameTPre (ecT l t a') 99 [pv 1 l, .int .i64 a] [⟨true, none, [.slice (some ⟨1, 0, none⟩) (pn l) 0, .int .i64 ((List.length l : Nat) : Int), .int .i64 a, .bool true]⟩, pk l], true)]) := by kernel_rfl
theorem eb_first (l : List Bool) (n n' b t a a' : Int) : evL Tryz.prog ext (nmPre (symPre [32] (frameTPre (ebT l t a')))) (nbC [(31, b), (27, n')] [] (frameT (ebT l t a'))) noLoops 300 (ntOf Tryz.prog 61 1) (loopAt Tryz.prog 61 0) (ebF n (.slice none 0 0)) [eyB 1 l a, pk l] 0 [(2,true),(0,true)] [3, 4, 0] =
  some (Ex.normal, [(3, .int .i64 n'), (4, .slice (some ⟨3, 0, none⟩) 1 0), (0, .pointer (some ⟨0, 0, none⟩))], [⟨true, none, [.slice (some ⟨1, 0, none⟩) (pn l) 0, .int .i64 ((List.length l : Nat) : Int), .int .i64 a', .bool true]⟩, pk l, ⟨true, none, [.int .u8 b]⟩, ⟨true, some 1, [.int .u8 b]⟩], 0, [(decide (IntKind.wrap .i64 (n - 1) = n'), true), (decide (IntKind.wrap .u8 t = b), true), (frameTPre (ebT l t a') 59 [.pointer (some ⟨0, 0, none⟩), .int .i64 8] [⟨true, none, [.slice (some ⟨1, 0, none⟩) (pn l) 0, .int .i64 ((List.length l : Nat) : Int), .int .i64 a, .bool true]⟩, pk l], true), (bif true then decide (n > 0) else false, true)]) := by kernel_rfl
theorem eb_out (l : List Bool) (R : Heap) (v : Value) (n n' b t a : Int) : evL Tryz.prog ext (nmPre (symPre [32] (frameTPre (ebT l t a)))) (nbC [(31, b), (27, n')] [] (frameT (ebT l t a))) noLoops 300 (ntOf Tryz.prog 61 1) (loopAt Tryz.prog 61 0) (ebF n v) (eyB 1 l a :: pk l :: R) 0 [(2,false)] [3, 4, 0] =
  some (Ex.exit 0, [(3, .int .i64 n), (4, v), (0, .pointer (some ⟨0, 0, none⟩))], ⟨true, none, [.slice (some ⟨1, 0, none⟩) (pn l) 0, .int .i64 ((List.length l : Nat) : Int), .int .i64 a, .bool true]⟩ :: pk l :: R, 0, [(bif true then decide (n > 0) else false, false)]) := by kernel_rfl
theorem eb_more (l : List Bool) (r : List Value) (m : Nat) (n n' b t a a' : Int) : evL Tryz.prog ext (nmPre (symPre [32] (frameTPre (ebT l t a')))) (nbC [(31, b), (27, n')] [] (frameT (ebT l t a'))) noLoops 300 (ntOf Tryz.prog 61 1) (loopAt Tryz.prog 61 0) (ebF n (.slice (some ⟨2, 0, none⟩) m 0)) [eyB 1 l a, pk l, rowB r] 0 [(2,true),(0,true),(0,true)] [3, 4, 0] =
  some (Ex.normal, [(3, .int .i64 n'), (4, .slice (some ⟨4, 0, none⟩) (m + 1) 0), (0, .pointer (some ⟨0, 0, none⟩))], [⟨true, none, [.slice (some ⟨1, 0, none⟩) (pn l) 0, .int .i64 ((List.length l : Nat) : Int), .int .i64 a', .bool true]⟩, pk l, spB, ⟨true, none, [.int .u8 b]⟩, ⟨true, some 1, r ++ [.int .u8 b]⟩], 0, [(decide (IntKind.wrap .i64 (n - 1) = n'), true), (live ⟨true, none, [.int .u8 b]⟩ && decide (0 < m ∧ List.length r = m ∧ 0 + 1 ≤ List.length (Blk.cells ⟨true, none, [.int .u8 b]⟩) ∧ m + 1 ≤ 140737488355328), true), (decide (IntKind.wrap .u8 t = b), true), (frameTPre (ebT l t a') 59 [.pointer (some ⟨0, 0, none⟩), .int .i64 8] [⟨true, none, [.slice (some ⟨1, 0, none⟩) (pn l) 0, .int .i64 ((List.length l : Nat) : Int), .int .i64 a, .bool true]⟩, pk l, ⟨true, some 1, r⟩], true), (bif true then decide (n > 0) else false, true)]) := by kernel_rfl
theorem num_ok {l : List Bool} {a w t : Nat} (hne : l ≠ []) (hin : a + w ≤ l.length) (hw : w ≤ 60) (hl : l.length ≤ 65536) (ht : Bt.val ((l.drop a).take w) = t):
    CallOk Tryz.prog 59 [.pointer (some ⟨0, 0, none⟩), .int .i64 (w : Nat)] [eyB 1 l (a : Nat), pk l] (.int .i64 (t : Nat)) [eyB 1 l ((a + w : Nat) : Int), pk l] 0 := by
  have hlt : t < 2 ^ 60 := by
    have h1 := Bt.val_lt ((l.drop a).take w)
    rw [ht] at h1
    have h2 : ((l.drop a).take w).length ≤ 60 := by simp; omega
    exact Nat.lt_of_lt_of_le h1 (Nat.pow_le_pow_right (by omega) h2)
  have h60 : (2 : Nat) ^ 60 = 1152921504606846976 := by decide
  refine fnL_ok progOk extSound (nb_sound _ _ (frameT_sound _)) noLoops_ok (num_run l (a : Nat) (w : Nat) (t : Nat) (t : Nat) ((a + w : Nat) : Int)) ?_
  intro q hq
  simp only [List.mem_cons, List.not_mem_nil, or_false] at hq
  rcases hq with rfl | rfl | rfl
  · simp only [decide_eq_true_eq]; exact wrap_i64 (by omega)
  · simp only [decide_eq_true_eq]; rw [wrap_i64 (by omega)]; omega
  · exact tok (frameT_ok [1] (bget_ok hne hin (by omega) hl ht) (by exact ro_in rfl (ro_pk hne ro_nil)) (by exact rf_pk (rf_in rfl rf_nil)))
theorem ecode_ok {l : List Bool} {a n : Nat} {rest : List Bool} (hne : l ≠ []) (hl : l.length ≤ 60000) (h : l.drop a = Bt.codeB n ++ rest) (hn : n ≤ 1073741824):
    CallOk Tryz.prog 60 [.pointer (some ⟨0, 0, none⟩)] [eyB 1 l (a : Nat), pk l] (.int .i64 (n : Nat)) [eyB 1 l ((a + (2 * Bt.cz n + 1) : Nat) : Int), pk l] 0 := by
  refine fnL_ok progOk extSound (nb_sound _ _ (frameT_sound _)) noLoops_ok (ecode_run l (a : Nat) (n : Nat) ((a + (2 * Bt.cz n + 1) : Nat) : Int) (n : Nat)) ?_
  intro q hq
  simp only [List.mem_cons, List.not_mem_nil, or_false] at hq
  rcases hq with rfl | rfl
  · simp only [decide_eq_true_eq]; exact wrap_i64 (by omega)
  · exact tok (frameT_ok [1] (getcode_ok hne hl h hn) (by exact ro_in rfl (ro_pk hne ro_nil)) (by exact rf_pk (rf_in rfl rf_nil)))
theorem eb_view (v : Value) (n a : Int) (l : List Bool) (x : List Nat) (j : Nat) :
    Views 2 ⟨ebF n (.slice (some ⟨4, 0, none⟩) (j + 1) 0), [eyB 1 l a, pk l, spB, ⟨true, none, [v]⟩, rowB (byteV x)], 0⟩ ⟨ebF n (.slice (some ⟨2, 0, none⟩) (j + 1) 0), [eyB 1 l a, pk l, rowB (byteV x)], 0⟩ := by
  refine Views.canon [4] (by simp) (by simp) (by simp) rfl (fun i b2 hi hb => ?_) (fun j i b2 hj hb => ?_) (renF_get rfl)
  · match i, hi with
    | 0, _ => injection hb with hb; subst hb; exact ⟨_, rfl, rfl⟩
    | 1, _ => injection hb with hb; subst hb; exact ⟨_, rfl, renA_row _ _ _ _⟩
    | n + 2, hi => omega
  · match j, hj with
    | 0, hj =>
      injection hj with hj
      subst hj
      injection hb with hb
      subst hb
      exact ⟨_, rfl, renA_row _ _ _ _⟩
theorem eb_view0 (v : Value) (n a : Int) (l : List Bool) (x : List Nat) :
    Views 2 ⟨ebF n (.slice (some ⟨3, 0, none⟩) 1 0), [eyB 1 l a, pk l, ⟨true, none, [v]⟩, rowB (byteV x)], 0⟩ ⟨ebF n (.slice (some ⟨2, 0, none⟩) 1 0), [eyB 1 l a, pk l, rowB (byteV x)], 0⟩ := by
  refine Views.canon [3] (by simp) (by simp) (by simp) rfl (fun i b2 hi hb => ?_) (fun j i b2 hj hb => ?_) (renF_get rfl)
  · match i, hi with
    | 0, _ => injection hb with hb; subst hb; exact ⟨_, rfl, rfl⟩
    | 1, _ => injection hb with hb; subst hb; exact ⟨_, rfl, renA_row _ _ _ _⟩
    | n + 2, hi => omega
  · match j, hj with
    | 0, hj =>
      injection hj with hj
      subst hj
      injection hb with hb
      subst hb
      exact ⟨_, rfl, renA_row _ _ _ _⟩
def ebH (l : List Bool) (a : Nat) (x : List Nat) (j : Nat) : Heap := match j with
  | 0 => [eyB 1 l (a : Nat), pk l]
  | j + 1 => [eyB 1 l ((a + 8 * (j + 1) : Nat) : Int), pk l, rowB (byteV (x.take (j + 1)))]
theorem byte_at {l : List Bool} {a : Nat} {x : List Nat} {rest : List Bool} (h : l.drop a = Bt.bytesB x ++ rest) (hx : ∀ b ∈ x, b < 256) {j : Nat} (hj : j < x.length) :
    a + 8 * j + 8 ≤ l.length ∧ Bt.val ((l.drop (a + 8 * j)).take 8) = x[j] := by
  have hlen : l.length - a = 8 * x.length + rest.length := by
    have := congrArg List.length h
    simpa using this
  refine ⟨by omega, ?_⟩
  have e : x = x.take j ++ x[j] :: x.drop (j + 1) := by rw [← List.drop_eq_getElem_cons hj, List.take_append_drop]
  have e2 : l.drop (a + 8 * j) = Bt.be 8 x[j] ++ (Bt.bytesB (x.drop (j + 1)) ++ rest) := by
    have h2 : Bt.bytesB x = Bt.bytesB (x.take j) ++ (Bt.be 8 x[j] ++ Bt.bytesB (x.drop (j + 1))) := by
      conv => lhs; rw [e]
      rw [Bt.bytesB_append]; rfl
    rw [← List.drop_drop, h, h2, List.append_assoc, List.drop_left' (by simp; omega), List.append_assoc]
  exact Bt.val_take_be e2 (by have := hx x[j] (List.getElem_mem hj); omega)
theorem eb_loop {l : List Bool} {a : Nat} {x : List Nat} {rest : List Bool} (hne : l ≠ []) (hl : l.length ≤ 60000) (h : l.drop a = Bt.bytesB x ++ rest) (hx : ∀ b ∈ x, b < 256) :
    WP Tryz.prog (ntOf Tryz.prog 61 1) (.loop (loopAt Tryz.prog 61 0)) ⟨ebF (x.length : Nat) (.slice none 0 0), [eyB 1 l (a : Nat), pk l], 0⟩ (.exit 0) ⟨ebF 0 (ebV x.length), ebH l a x x.length, 0⟩ := by
  have hlen : l.length - a = 8 * x.length + rest.length := by
    have := congrArg List.length h
    simpa using this
  refine WP.whileV (α := Nat) _ (fun j => ⟨ebF ((x.length - j : Nat) : Int) (ebV j), ebH l a x j, 0⟩) (fun j => j ≤ x.length) (fun j => x.length - j) (by simp) ?_ 0 (by omega) (Views.refl _ _)
  intro j hj
  by_cases hjx : j = x.length
  · subst hjx
    left
    have h0 : ((x.length - x.length : Nat) : Int) = 0 := by omega
    rw [h0]
    have hout := fun (R : Heap) (v : Value) (a2 : Int) => WP.run progOk extSound (nb_sound _ _ (sym_sound _ (frameT_sound _))) (by kernel_rfl) (LoopsOk.none (by kernel_rfl)) [3, 4, 0] (eb_out l R v 0 0 0 0 a2) (by simp [Holds])
    generalize x.length = q at *
    cases q with
    | zero => exact hout [] _ _
    | succ q => exact hout [rowB (byteV (x.take (q + 1)))] _ _
  · right
    have hjl : j < x.length := by omega
    obtain ⟨hin, hval⟩ := byte_at h hx hjl
    have hb := hx x[j] (List.getElem_mem hjl)
    have htk : x.take (j + 1) = x.take j ++ [x[j]] := List.take_succ_eq_append_getElem hjl
    have hnum := num_ok (l := l) (a := a + 8 * j) (w := 8) hne hin (by omega) (by omega) hval
    cases j with
    | zero =>
      refine ⟨1, _, by omega, by omega, WP.run progOk extSound (nb_sound _ _ (sym_sound _ (frameT_sound _))) (by kernel_rfl) (LoopsOk.none (by kernel_rfl)) [3, 4, 0] (eb_first l (x.length : Nat) ((x.length - 1 : Nat) : Int) (x[0] : Nat) (x[0] : Nat) (a : Nat) ((a + 8 * 1 : Nat) : Int)) ?_, ?_⟩
      · intro q hq
        simp only [List.mem_cons, List.not_mem_nil, or_false] at hq
        rcases hq with rfl | rfl | rfl | rfl
        · simp only [decide_eq_true_eq]; rw [wrap_i64 (by omega)]; omega
        · simp only [decide_eq_true_eq]; exact wrap_u8 hb
        · exact tok (frameT_ok [0, 1] hnum (by exact ro_in rfl (ro_pk hne ro_nil)) (by exact rf_in rfl (rf_pk rf_nil)))
        · simp; omega
      · have e1 : x.take 1 = [x[0]] := by rw [htk]; rfl
        have := eb_view0 (.int .u8 (x[0] : Nat)) ((x.length - 1 : Nat) : Int) ((a + 8 * 1 : Nat) : Int) l [x[0]]
        simp only [ebH, ebV, e1]
        exact this
    | succ j =>
      refine ⟨j + 1 + 1, _, by omega, by omega, WP.run progOk extSound (nb_sound _ _ (sym_sound _ (frameT_sound _))) (by kernel_rfl) (LoopsOk.none (by kernel_rfl)) [3, 4, 0]
        (eb_more l (byteV (x.take (j + 1))) (j + 1) ((x.length - (j + 1) : Nat) : Int) ((x.length - (j + 1 + 1) : Nat) : Int) (x[j + 1] : Nat) (x[j + 1] : Nat) ((a + 8 * (j + 1) : Nat) : Int) ((a + 8 * (j + 1 + 1) : Nat) : Int)) ?_, ?_⟩
      · intro q hq
        have hrn : x.take (j + 1) ≠ [] := by
          intro e
          rcases List.take_eq_nil_iff.1 e with h | h
          · omega
          · rw [h] at hjl; simp at hjl
        have e8 : a + 8 * (j + 1) + 8 = a + 8 * (j + 1 + 1) := by omega
        rw [e8] at hnum
        simp only [List.mem_cons, List.not_mem_nil, or_false] at hq
        rcases hq with rfl | rfl | rfl | rfl | rfl
        · simp only [decide_eq_true_eq]; rw [wrap_i64 (by omega)]; omega
        · simp [live]; omega
        · simp only [decide_eq_true_eq]; exact wrap_u8 hb
        · exact tok (frameT_ok [0, 1] hnum (by exact ro_in rfl (ro_pk hne (ro_row hrn ro_nil))) (by exact rf_in rfl (rf_pk rf_nil)))
        · simp; omega
      · have e1 : byteV (x.take (j + 1)) ++ [.int .u8 (x[j + 1] : Nat)] = byteV (x.take (j + 1 + 1)) := by rw [htk, byteV_append]; rfl
        rw [e1]
        exact eb_view _ _ _ l (x.take (j + 1 + 1)) (j + 1)
theorem eb_runN (l : List Bool) (a a1 : Int) : evFnL Tryz.prog ext 300 (nmPre (frameTPre (ebT l 0 a1))) (nbC [] [] (frameT (ebT l 0 a1))) { loop := sumL 4 ⟨ebF 0 (.slice none 0 0), [eyB 1 l a1, pk l], 0⟩ (.exit 0) ⟨ebF 0 (.slice none 0 0), [eyB 1 l a1, pk l], 0⟩ } [(0,true)] 61 [.pointer (some ⟨0, 0, none⟩)] [eyB 1 l a, pk l] =
  some ((.slice none 0 0, [eyB 1 l a1, pk l], 0), [(cdec (ebF 0 (.slice none 0 0) = ebF 0 (.slice none 0 0)), true), (cdec ([eyB 1 l a1, pk l] = [eyB 1 l a1, pk l]), true), (cdec ((0 : Nat) = 0), true), (frameTPre (ebT l 0 a1) 60 [.pointer (some ⟨0, 0, none⟩)] [eyB 1 l a, pk l], true)]) := by kernel_rfl
theorem eb_runR (l : List Bool) (x : List Nat) (m : Nat) (n a a1 a2 : Int) : evFnL Tryz.prog ext 300 (nmPre (frameTPre (ebT l n a1))) (nbC [] [(14, true)] (frameT (ebT l n a1))) { loop := sumL 4 ⟨ebF n (.slice none 0 0), [eyB 1 l a1, pk l], 0⟩ (.exit 0) ⟨ebF 0 (.slice (some ⟨2, 0, none⟩) m 0), [eyB 1 l a2, pk l, rowB (byteV x)], 0⟩ } [(0,true)] 61 [.pointer (some ⟨0, 0, none⟩)] [eyB 1 l a, pk l] =
  some ((.slice (some ⟨2, 0, none⟩) m 0, [eyB 1 l a2, pk l, rowB (byteV x)], 0), [(cdec (ebF n (.slice none 0 0) = ebF n (.slice none 0 0)), true), (cdec ([eyB 1 l a1, pk l] = [eyB 1 l a1, pk l]), true), (cdec ((0 : Nat) = 0), true), (decide (n ≤ 64), true), (frameTPre (ebT l n a1) 60 [.pointer (some ⟨0, 0, none⟩)] [eyB 1 l a, pk l], true)]) := by kernel_rfl
theorem loops61 : loopsOf (bodyOf Tryz.prog 61) = [loopAt Tryz.prog 61 0] := by kernel_rfl
theorem ebytesN_ok {l : List Bool} {a : Nat} {rest : List Bool} (hne : l ≠ []) (hl : l.length ≤ 60000) (h : l.drop a = Bt.codeB 0 ++ rest) :
    CallOk Tryz.prog 61 [.pointer (some ⟨0, 0, none⟩)] [eyB 1 l (a : Nat), pk l] (.slice none 0 0) [eyB 1 l ((a + (2 * Bt.cz 0 + 1) : Nat) : Int), pk l] 0 := by
  have h2 := Bt.drop_code h
  refine fnL_ok progOk extSound (nb_sound _ _ (frameT_sound _)) (LoopsOk.sum (hL := rfl) ?_) (eb_runN l (a : Nat) ((a + (2 * Bt.cz 0 + 1) : Nat) : Int)) ?_
  · intro b' hb' _
    rw [loops61] at hb'
    simp only [List.mem_singleton] at hb'
    subst hb'
    exact eb_loop (x := []) hne hl (by rw [h2]; rfl) (by simp)
  · intro q hq
    simp only [List.mem_cons, List.not_mem_nil, or_false] at hq
    rcases hq with rfl | rfl | rfl | rfl
    · simp [cdec]
    · simp [cdec]
    · simp [cdec]
    · exact tok (frameT_ok [0, 1] (ecode_ok (n := 0) hne hl h (by omega)) (by exact ro_in rfl (ro_pk hne ro_nil)) (by exact rf_in rfl (rf_pk rf_nil)))
theorem ebytes_ok {l : List Bool} {a : Nat} {x : List Nat} {rest : List Bool} (hne : l ≠ []) (hl : l.length ≤ 60000) (h : l.drop a = Bt.codeB x.length ++ (Bt.bytesB x ++ rest)) (hx : ∀ b ∈ x, b < 256) (hxn : x ≠ []) (h64 : x.length ≤ 64) :
    CallOk Tryz.prog 61 [.pointer (some ⟨0, 0, none⟩)] [eyB 1 l (a : Nat), pk l] (.slice (some ⟨2, 0, none⟩) x.length 0) [eyB 1 l ((a + (2 * Bt.cz x.length + 1) + 8 * x.length : Nat) : Int), pk l, rowB (byteV x)] 0 := by
  have h2 := Bt.drop_code h
  refine fnL_ok progOk extSound (nb_sound _ _ (frameT_sound _)) (LoopsOk.sum (hL := rfl) ?_) (eb_runR l x x.length (x.length : Nat) (a : Nat) ((a + (2 * Bt.cz x.length + 1) : Nat) : Int) _) ?_
  · intro b' hb' _
    rw [loops61] at hb'
    simp only [List.mem_singleton] at hb'
    subst hb'
    have hl2 := eb_loop (x := x) hne hl h2 hx
    obtain ⟨q, hq⟩ : ∃ q, x.length = q + 1 := ⟨x.length - 1, by have := List.length_pos_iff.2 hxn; omega⟩
    have ht : x.take (q + 1) = x := List.take_of_length_le (by omega)
    have e1 : ebV x.length = .slice (some ⟨2, 0, none⟩) x.length 0 := by rw [hq]; rfl
    have e2 : ebH l (a + (2 * Bt.cz x.length + 1)) x x.length = [eyB 1 l ((a + (2 * Bt.cz x.length + 1) + 8 * x.length : Nat) : Int), pk l, rowB (byteV x)] := by
      have : ∀ n, n = q + 1 → ebH l (a + (2 * Bt.cz x.length + 1)) x n = [eyB 1 l ((a + (2 * Bt.cz x.length + 1) + 8 * n : Nat) : Int), pk l, rowB (byteV (x.take n))] := by
        rintro n rfl; rfl
      rw [this _ hq, List.take_length]
    rw [e1, e2] at hl2
    exact hl2
  · intro q hq
    simp only [List.mem_cons, List.not_mem_nil, or_false] at hq
    rcases hq with rfl | rfl | rfl | rfl | rfl
    · simp [cdec]
    · simp [cdec]
    · simp [cdec]
    · simp only [decide_eq_true_eq]; omega
    · exact tok (frameT_ok [0, 1] (ecode_ok (n := x.length) hne hl h (by omega)) (by exact ro_in rfl (ro_pk hne ro_nil)) (by exact rf_in rfl (rf_pk rf_nil)))
end Go.Proofs.YtpgmabpaiijipaaGreatDoor
namespace Go.Proofs.YtpgmabpaiijipaaGreatDoor
open Go Den Go.Shelf Go.RowKit Go.Lib
set_option maxRecDepth 100000
def vRen : Shelf.Ren where
  f := fun x => match x with
    | 196 => 151
    | 259 => 196
    | n => n
  t := fun x => match x with
    | 9 => 9
    | 4 => 4
    | 3 => 3
    | 5 => 5
    | 12 => 12
    | 119 => 329
    | 0 => 0
    | 46 => 149
    | 139 => 332
    | 138 => 331
    | 53 => 101
    | n => n
  g := fun x => match x with
    | 3 => 0
    | 4 => 1
    | n => n
theorem vLays : Lays.n196 Tryz.prog vRen where
  mixed := by kernel_rfl
  f196 := Tryz.func151.trans (congrArg some (by kernel_rfl))
  f259 := Tryz.func196.trans (congrArg some (by kernel_rfl))
  t0 := Tryz.underlying0
  a0 := Tryz.isAgg0
  z0 := Tryz.sizeOf0
  v0 := Tryz.zeroValue0
  t3 := Tryz.underlying3
  a3 := Tryz.isAgg3
  z3 := Tryz.sizeOf3
  v3 := Tryz.zeroValue3
  t4 := Tryz.underlying4
  a4 := Tryz.isAgg4
  z4 := Tryz.sizeOf4
  v4 := Tryz.zeroValue4
  t5 := Tryz.underlying5
  a5 := Tryz.isAgg5
  z5 := Tryz.sizeOf5
  v5 := Tryz.zeroValue5
  t9 := Tryz.underlying9
  a9 := Tryz.isAgg9
  z9 := Tryz.sizeOf9
  v9 := Tryz.zeroValue9
  t12 := Tryz.underlying12
  a12 := Tryz.isAgg12
  z12 := Tryz.sizeOf12
  v12 := Tryz.zeroValue12
  t46 := Tryz.underlying149
  a46 := Tryz.isAgg149
  z46 := Tryz.sizeOf149
  v46 := Tryz.zeroValue149
  t53 := Tryz.underlying101
  a53 := Tryz.isAgg101
  z53 := Tryz.sizeOf101
  v53 := Tryz.zeroValue101
  t119 := Tryz.underlying329
  a119 := Tryz.isAgg329
  z119 := Tryz.sizeOf329
  t138 := Tryz.underlying331
  a138 := Tryz.isAgg331
  z138 := Tryz.sizeOf331
  v138 := Tryz.zeroValue331
  t139 := Tryz.underlying332
  a139 := Tryz.isAgg332
  z139 := Tryz.sizeOf332
  v139 := Tryz.zeroValue332
  g3 := by kernel_rfl
  g4 := by kernel_rfl
noncomputable def validB (s : ByteArray) : Bool := Lib.validD s.data.toList
theorem valid_ok {s : ByteArray} (hs : s.size ≤ 9223372036854775807) : CallOk Tryz.prog 151 [.string s] [] (.bool (validB s)) [] 0 := by
  intro ρ w args' hva hsr
  have he : args' = #[.string s] := by
    apply Array.ext'
    exact hva.eq_of_pf (n := 3) rfl
  subst he
  have hT : Lib.Utf8Tabs (vRen.g 3) (vRen.g 4) w := hsr.gl.tabs
  refine (Any.utf8_ValidString vLays s w hs hT).mono ?_
  rintro e w' ⟨rfl, hb⟩
  have q : Quiet w w' := by
    obtain ⟨h1, h2, h3, h4, h5⟩ := hb
    exact ⟨h1, h2, h3, h4, h5⟩
  exact ⟨ρ, _, rfl, .flat rfl, Rel.of_quiet hsr q 0⟩
end Go.Proofs.YtpgmabpaiijipaaGreatDoor
namespace Go.Proofs.YtpgmabpaiijipaaGreatDoor
open Go Den
set_option linter.unusedVariables false
def gatePre (g : Nat) (ks : List Nat) (pre : Pre) : Pre := fun f args H => (match Nat.beq f g with
  | true => match args with
    | [.int _ t] => !(ks.any fun u => decide ((u : Int) = t))
    | _ => true
  | false => true) && pre f args H
theorem gate_sound {pre : Pre} {C : Oracle} (g : Nat) (ks : List Nat) (h : Sound Tryz.prog (strict pre C)) : Sound Tryz.prog (strict (gatePre g ks pre) C) := by
  intro f args H v H' n hc
  unfold strict at hc
  split at hc
  · rename_i hp
    unfold gatePre at hp
    simp only [Bool.and_eq_true] at hp
    exact h f args H v H' n (by unfold strict; rw [hp.2]; exact hc)
  · simp at hc
end Go.Proofs.YtpgmabpaiijipaaGreatDoor
namespace Go.Proofs.YtpgmabpaiijipaaGreatDoor
open Go Den
set_option maxRecDepth 100000
set_option linter.unusedSimpArgs false
set_option linter.unusedVariables false
def nmF (s : ByteArray) (k : Int) : Slots := [(0, .string s), (3, .int .i64 k), (7, .pointer (some ⟨0, 0, none⟩))]
def itB (s : ByteArray) (p : Nat) : Blk := ⟨true, some 0, [.string s, .int .i64 (Int.ofNat p)]⟩
def nmT (b v : Bool) : Nat → Tale := fun _ f _ _ => match f with
  | 150 => some (.bool b, [], 0)
  | 151 => some (.bool v, [], 0)
  | _ => none
noncomputable def nmLR (s : ByteArray) (p : Nat) : Loops := { loop := sumL 3 ⟨nmF s 0, [itB s 0], 0⟩ .ret ⟨[(2, .bool false)], [itB s p], 0⟩ }
noncomputable def nmLE (s : ByteArray) (p : Nat) (k : Int) : Loops := { loop := sumL 3 ⟨nmF s 0, [itB s 0], 0⟩ (.exit 0) ⟨nmF s k, [itB s p], 0⟩ }
theorem nm_f1 (s : ByteArray) (p : Nat) : evFnL Tryz.prog ext 300 noPre noC (nmLR s p) [] 88 [.string s] [] =
  some ((.bool false, [itB s p], 0), [(cdec (nmF s 0 = nmF s 0), true), (cdec ([itB s 0] = [itB s 0]), true), (cdec ((0 : Nat) = 0), true)]) := by kernel_rfl
theorem nm_f2 (s : ByteArray) (p : Nat) (k : Int) : evFnL Tryz.prog ext 300 (nmPre (frameTPre (nmT true true))) (nbC [] [(17, false)] (frameT (nmT true true))) (nmLE s p k) [] 88 [.string s] [] =
  some ((.bool false, [itB s p], 0), [(decide (k ≤ 16), false), (cdec (nmF s 0 = nmF s 0), true), (cdec ([itB s 0] = [itB s 0]), true), (cdec ((0 : Nat) = 0), true)]) := by kernel_rfl
theorem nm_f3 (s : ByteArray) (p : Nat) (k : Int) (v : Bool) : evFnL Tryz.prog ext 300 (nmPre (frameTPre (nmT true v))) (nbC [] [(17, true)] (frameT (nmT true v))) (nmLE s p k) [(2,true)] 88 [.string s] [] =
  some ((.bool v, [itB s p], 0), [(frameTPre (nmT true v) 151 [.string s] [], true), (decide (k ≤ 16), true), (cdec (nmF s 0 = nmF s 0), true), (cdec ([itB s 0] = [itB s 0]), true), (cdec ((0 : Nat) = 0), true)]) := by kernel_rfl
theorem nm_more (s : ByteArray) (p : Nat) (k k' : Int) : evL Tryz.prog ext (nmPre (gatePre 1000005 [7] (frameTPre (nmT true true)))) (nbC [(15, k')] [] (frameT (nmT true true))) noLoops 300 (ntOf Tryz.prog 88 1) (loopAt Tryz.prog 88 0) (nmF s k) [itB s p] 0 [(0,true),(1,true)] [0, 3, 7] =
  some (Ex.normal, [(0, .string s), (3, .int .i64 k'), (7, .pointer (some ⟨0, 0, none⟩))], [⟨true, some 0, [.string s, .int .i64 (Int.ofNat (p + Prod.snd (Utf8.decode s p)))]⟩], 0, [(decide (IntKind.wrap .i64 (k + 1) = k'), true), (gatePre 1000005 [7] (frameTPre (nmT true true)) 150 [.int .i32 ((Prod.fst (Utf8.decode s p) : Nat) : Int)] [], true), (decide (p < ByteArray.size s), true)]) := by kernel_rfl
theorem nm_dirty (s : ByteArray) (p : Nat) (k k' : Int) : evL Tryz.prog ext (nmPre (gatePre 1000005 [7] (frameTPre (nmT false true)))) (nbC [(15, k')] [] (frameT (nmT false true))) noLoops 300 (ntOf Tryz.prog 88 1) (loopAt Tryz.prog 88 0) (nmF s k) [itB s p] 0 [(0,true),(1,true)] [2] =
  some (Ex.ret, [(2, .bool false)], [⟨true, some 0, [.string s, .int .i64 (Int.ofNat (p + Prod.snd (Utf8.decode s p)))]⟩], 0, [(gatePre 1000005 [7] (frameTPre (nmT false true)) 150 [.int .i32 ((Prod.fst (Utf8.decode s p) : Nat) : Int)] [], true), (decide (p < ByteArray.size s), true)]) := by kernel_rfl
theorem nm_out (s : ByteArray) (p : Nat) (k k' : Int) : evL Tryz.prog ext (nmPre (gatePre 1000006 [7] (frameTPre (nmT true true)))) (nbC [(15, k')] [] (frameT (nmT true true))) noLoops 300 (ntOf Tryz.prog 88 1) (loopAt Tryz.prog 88 0) (nmF s k) [itB s p] 0 [(0,true)] [0, 3, 7] =
  some (Ex.exit 0, [(0, .string s), (3, .int .i64 k), (7, .pointer (some ⟨0, 0, none⟩))], [⟨true, some 0, [.string s, .int .i64 (Int.ofNat p)]⟩], 0, [(decide (ByteArray.size s ≤ p), true)]) := by kernel_rfl
theorem clean_t (c : Int) : evFnL Tryz.prog ext 300 (nmPre noPre) (nbC [] [(4, true), (7, true)] noC) noLoops [] 150 [.int .i32 c] [] = some ((.bool true, [], 0), [(c != 127, true), (decide (c ≥ 32), true)]) := by kernel_rfl
theorem clean_f1 (c : Int) : evFnL Tryz.prog ext 300 (nmPre noPre) (nbC [] [(4, false)] noC) noLoops [] 150 [.int .i32 c] [] = some ((.bool false, [], 0), [(decide (c ≥ 32), false)]) := by kernel_rfl
theorem clean_f2 (c : Int) : evFnL Tryz.prog ext 300 (nmPre noPre) (nbC [] [(4, true), (7, false)] noC) noLoops [] 150 [.int .i32 c] [] = some ((.bool false, [], 0), [(c != 127, false), (decide (c ≥ 32), true)]) := by kernel_rfl
def cleanB (c : Int) : Bool := decide (c ≥ 32) && (c != 127)
theorem clean_ok (c : Int) : CallOk Tryz.prog 150 [.int .i32 c] [] (.bool (cleanB c)) [] 0 := by
  by_cases h1 : c ≥ 32
  · by_cases h2 : c = 127
    · have e : cleanB c = false := by simp [cleanB, h2]
      rw [e]
      exact fnL_ok progOk extSound (nb_sound _ _ noC_sound) noLoops_ok (clean_f2 c) (by simp [Holds, h2])
    · have e : cleanB c = true := by simp [cleanB, h2, h1]
      rw [e]
      exact fnL_ok progOk extSound (nb_sound _ _ noC_sound) noLoops_ok (clean_t c) (by simp [Holds, h2]; omega)
  · have e : cleanB c = false := by simp [cleanB, h1]
    rw [e]
    exact fnL_ok progOk extSound (nb_sound _ _ noC_sound) noLoops_ok (clean_f1 c) (by simp [Holds]; omega)
theorem gate_ok {g : Nat} {ks : List Nat} {pre : Pre} {f : FuncId} {args : List Value} {H : Heap} (hf : Nat.beq f g = false) (h : pre f args H = true) : gatePre g ks pre f args H = true := by
  unfold gatePre
  simp only [hf, h, Bool.and_self]
theorem nm_step {s : ByteArray} {p k : Nat} (hp : p < s.size) (hk : k ≤ 9223372036854775000) (hc : cleanB (Utf8.decode s p).1 = true) :
    WP Tryz.prog (ntOf Tryz.prog 88 1) (loopAt Tryz.prog 88 0) ⟨nmF s (k : Nat), [itB s p], 0⟩ .normal ⟨nmF s ((k + 1 : Nat) : Int), [itB s (p + (Utf8.decode s p).2)], 0⟩ := by
  refine WP.run progOk extSound (nb_sound _ _ (gate_sound _ _ (frameT_sound _))) (by kernel_rfl) (LoopsOk.none (by kernel_rfl)) [0, 3, 7] (nm_more s p (k : Nat) ((k + 1 : Nat) : Int)) ?_
  intro q hq
  simp only [List.mem_cons, List.not_mem_nil, or_false] at hq
  rcases hq with rfl | rfl | rfl
  · simp only [decide_eq_true_eq]; rw [wrap_i64 (by omega)]; omega
  · refine tok (gate_ok rfl ?_)
    have h := clean_ok (Utf8.decode s p).1
    rw [hc] at h
    exact frameT_ok [] h (by exact ro_nil) (by exact rf_nil) (by kernel_rfl) (by kernel_rfl)
  · simp only [decide_eq_true_eq]; exact hp
theorem loops88 : loopsOf (bodyOf Tryz.prog 88) = [loopAt Tryz.prog 88 0] := by kernel_rfl
def posN (s : ByteArray) : Nat → Nat
  | 0 => 0
  | i + 1 => posN s i + (Utf8.decode s (posN s i)).2
def stopB (s : ByteArray) (i : Nat) : Prop := s.size ≤ posN s i ∨ cleanB (Utf8.decode s (posN s i)).1 = false
theorem posN_ge (s : ByteArray) (i : Nat) : i ≤ posN s i := by
  induction i with
  | zero => exact Nat.le_refl _
  | succ i ih => have := Lib.width_pos s (posN s i); simp only [posN]; omega
theorem width_le (s : ByteArray) (p : Nat) : (Utf8.decode s p).2 ≤ 4 := by
  rw [Lib.decode_at]
  unfold Lib.decodeN
  repeat' split
  all_goals simp
theorem posN_le (s : ByteArray) (i : Nat) : posN s i ≤ 4 * i := by
  induction i with
  | zero => exact Nat.le_refl _
  | succ i ih => have := width_le s (posN s i); simp only [posN]; omega
theorem stop_ex (s : ByteArray) : ∃ j, stopB s j ∧ j ≤ s.size ∧ ∀ i, i < j → ¬ stopB s i := least (p := stopB s) s.size (.inl (posN_ge s s.size))
noncomputable def stopN (s : ByteArray) : Nat := Classical.choose (stop_ex s)
theorem stopN_spec (s : ByteArray) : stopB s (stopN s) ∧ stopN s ≤ s.size ∧ ∀ i, i < stopN s → ¬ stopB s i := Classical.choose_spec (stop_ex s)
noncomputable def nmB (s : ByteArray) : Bool := decide (s.size ≤ posN s (stopN s)) && (decide (stopN s ≤ 16) && validB s)
theorem nmB_size {s : ByteArray} (h : nmB s = true) : s.size ≤ 64 := by
  simp only [nmB, Bool.and_eq_true, decide_eq_true_eq] at h
  have := posN_le s (stopN s)
  omega
theorem nm_dirty_WP {s : ByteArray} {p k : Nat} (hp : p < s.size) (hc : cleanB (Utf8.decode s p).1 = false) :
    WP Tryz.prog (ntOf Tryz.prog 88 1) (loopAt Tryz.prog 88 0) ⟨nmF s (k : Nat), [itB s p], 0⟩ .ret ⟨[(2, .bool false)], [itB s (p + (Utf8.decode s p).2)], 0⟩ := by
  refine WP.run progOk extSound (nb_sound _ _ (gate_sound _ _ (frameT_sound _))) (by kernel_rfl) (LoopsOk.none (by kernel_rfl)) [2] (nm_dirty s p (k : Nat) 0) ?_
  intro q hq
  simp only [List.mem_cons, List.not_mem_nil, or_false] at hq
  rcases hq with rfl | rfl
  · refine tok (gate_ok rfl ?_)
    have h := clean_ok (Utf8.decode s p).1
    rw [hc] at h
    exact frameT_ok [] h (by exact ro_nil) (by exact rf_nil) (by kernel_rfl) (by kernel_rfl)
  · simp only [decide_eq_true_eq]; exact hp
theorem nm_out_WP {s : ByteArray} {p k : Nat} (hp : s.size ≤ p) :
    WP Tryz.prog (ntOf Tryz.prog 88 1) (loopAt Tryz.prog 88 0) ⟨nmF s (k : Nat), [itB s p], 0⟩ (.exit 0) ⟨nmF s (k : Nat), [itB s p], 0⟩ :=
  WP.run progOk extSound (nb_sound _ _ (gate_sound _ _ (frameT_sound _))) (by kernel_rfl) (LoopsOk.none (by kernel_rfl)) [0, 3, 7] (nm_out s p (k : Nat) 0) (by simp [Holds]; omega)
theorem name_ok {s : ByteArray} (hs : s.size ≤ 9223372036854770000) : ∃ H, CallOk Tryz.prog 88 [.string s] [] (.bool (nmB s)) H 0 := by
  obtain ⟨h1, h2, h3⟩ := stopN_spec s
  have hsteps : ∀ i, i < stopN s → WP Tryz.prog (ntOf Tryz.prog 88 1) (loopAt Tryz.prog 88 0) ⟨nmF s (i : Nat), [itB s (posN s i)], 0⟩ .normal ⟨nmF s ((i + 1 : Nat) : Int), [itB s (posN s (i + 1))], 0⟩ := by
    intro i hi
    have hn := h3 i hi
    simp only [stopB, not_or, Bool.not_eq_false] at hn
    exact nm_step (by omega) (by omega) hn.2
  by_cases hend : s.size ≤ posN s (stopN s)
  · have hloop := WP.loop (P := Tryz.prog) (nt := ntOf Tryz.prog 88 1) (b := loopAt Tryz.prog 88 0) (fun i => ⟨nmF s (i : Nat), [itB s (posN s i)], 0⟩) (stopN s) (x := .exit 0) (by simp) hsteps (nm_out_WP hend)
    have hL : ∀ k, k = ((stopN s : Nat) : Int) → LoopsOk Tryz.prog (ntOf Tryz.prog 88 1) (nmLE s (posN s (stopN s)) k) (bodyOf Tryz.prog 88) := by
      rintro k rfl
      refine LoopsOk.sum (hL := rfl) ?_
      intro b' hb' _
      rw [loops88] at hb'
      simp only [List.mem_singleton] at hb'
      subst hb'
      exact hloop
    by_cases h16 : stopN s ≤ 16
    · have e : nmB s = validB s := by simp [nmB, hend, h16]
      rw [e]
      refine ⟨_, fnL_ok progOk extSound (nb_sound _ _ (frameT_sound _)) (hL _ rfl) (nm_f3 s (posN s (stopN s)) (stopN s : Nat) (validB s)) ?_⟩
      intro q hq
      simp only [List.mem_cons, List.not_mem_nil, or_false] at hq
      rcases hq with rfl | rfl | rfl | rfl | rfl
      · exact tok (frameT_ok [] (valid_ok (s := s) (by omega)) (by exact ro_nil) (by exact rf_nil))
      · simp only [decide_eq_true_eq]; omega
      · simp [cdec]
      · simp [cdec]
      · simp [cdec]
    · have e : nmB s = false := by simp [nmB, h16]
      rw [e]
      refine ⟨_, fnL_ok progOk extSound (nb_sound _ _ (frameT_sound _)) (hL _ rfl) (nm_f2 s (posN s (stopN s)) (stopN s : Nat)) ?_⟩
      intro q hq
      simp only [List.mem_cons, List.not_mem_nil, or_false] at hq
      rcases hq with rfl | rfl | rfl | rfl
      · simp only [decide_eq_false_iff_not]; omega
      · simp [cdec]
      · simp [cdec]
      · simp [cdec]
  · have e : nmB s = false := by simp [nmB, hend]
    rw [e]
    have hd : cleanB (Utf8.decode s (posN s (stopN s))).1 = false := h1.resolve_left hend
    have hloop := WP.loop (P := Tryz.prog) (nt := ntOf Tryz.prog 88 1) (b := loopAt Tryz.prog 88 0) (fun i => ⟨nmF s (i : Nat), [itB s (posN s i)], 0⟩) (stopN s) (x := .ret) (by simp) hsteps (nm_dirty_WP (by omega) hd)
    refine ⟨_, fnL_ok progOk extSound noC_sound (LoopsOk.sum (hL := rfl) ?_) (nm_f1 s (posN s (stopN s) + (Utf8.decode s (posN s (stopN s))).2)) (by simp [Holds, cdec])⟩
    intro b' hb' _
    rw [loops88] at hb'
    simp only [List.mem_singleton] at hb'
    subst hb'
    exact hloop
theorem name_ok0 {s : ByteArray} (hs : s.size ≤ 9223372036854770000) : CallOk Tryz.prog 88 [.string s] [] (.bool (nmB s)) [] 0 := by
  obtain ⟨H, h⟩ := name_ok hs
  exact h.gc [] rfl rfl rfl rfl
end Go.Proofs.YtpgmabpaiijipaaGreatDoor
