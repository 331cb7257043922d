/-
  The square of a number of several words: the inner loop (fixed.square).
-/
import Derived.Test.YtfbjpenbpbpcaaaSq0
namespace Go.Proofs.Ytfbjpenbpbpcaaa
open Go Den
set_option maxRecDepth 100000
set_option linter.unusedSimpArgs false
set_option linter.unusedVariables false

def sqPre   : Pre := fun f args _ => match f, args with
  | 1000000, _ => false
  | 137, [.int .u64 x, .int .u64 y] => isU x && isU y
  | _, _ => true
def sqC : Oracle := fun f args H => match H with
  | [] => match f, args with
    | 137, [.int .u64 x, .int .u64 y] => some (.tuple #[.int .u64 (x * y / 18446744073709551616), .int .u64 (x * y % 18446744073709551616)], [], 0)
    | _, _ => none
  | _ => none
theorem sqC_sound : Sound Try.prog (strict sqPre sqC) := by
  refine Sound.strict fun f args H v H' l hp h => ?_
  unfold sqC at h
  split at h
  · split at h
    · simp only [Option.some.injEq, Prod.mk.injEq] at h; obtain ⟨rfl, rfl, rfl⟩ := h
      simp only [sqPre, Bool.and_eq_true] at hp
      exact mul64_ok _ _ hp.1 hp.2
    · simp at h
  · simp at h

theorem intAt_map (k : IntKind) (l : List Int) (o : Nat) : intAt (l.map (Value.int k)) o = l.getD o 0 := by
  unfold intAt
  rw [List.getElem?_map, List.getD_eq_getElem?_getD]
  cases l[o]? <;> rfl

theorem isIntAt_map (l : List Int) (o : Nat) (h : o < l.length) : isIntAt .u64 (l.map (Value.int .u64)) o = true := by
  unfold isIntAt
  rw [List.getElem?_map]
  simp [h, eqK]

theorem splice_map (k : IntKind) (l : List Int) (o : Nat) (v : Int) (h : o < l.length) : splice (l.map (Value.int k)) o [Value.int k v] = (l.set o v).map (Value.int k) := by
  unfold splice
  rw [List.map_set, List.set_eq_take_append_cons_drop, if_pos (by simpa using h)]
  simp

abbrev DD : Int := 18446744073709551616

def inF (j m i k : Nat) (a c : Int) : Slots := [(0, .slice (some ⟨j, 0, none⟩) m m), (3, .slice (some ⟨j + 1, 0, none⟩) (2 * m) (2 * m)), (4, .int .i64 i), (5, .int .u64 a), (6, .int .u64 c), (16, .slice (some ⟨j, 0, none⟩) m m), (17, .int .i64 m), (18, .int .i64 i), (23, .slice (some ⟨j, 0, none⟩) m m), (24, .int .i64 m), (25, .int .i64 k)]

def inN (B HI LO LO2 C1 HI2 C2 : Int) : Loops := { renF := fun id => match id with
  | 9 => [(8, B)]
  | 10 => [(9, HI), (10, LO)]
  | 11 => [(10, LO2), (11, C1)]
  | 12 => [(9, HI2)]
  | 13 => [(11, C2)]
  | _ => [] }

theorem codeOk116 : codeOk (loopAt Try.prog 116 1) = true := by kernel_rfl
theorem loops116 : loopsOf (loopAt Try.prog 116 1) = [] := by kernel_rfl


/-- One step of the inner loop. -/
theorem in_step (Hp : Heap) (hHp : Hp.length ≤ 2) (b0 : Bool) (h1 h2 : Option Nat) (lo m i k : Nat) (a c : Int) (xs zs : List Int) (ha : isU a = true) (hx : inD DD xs) (hz : inD DD zs) (hc : 0 ≤ c ∧ c < DD)
    (hm : xs.length = m) (hzl : zs.length = 2 * m) (hi : i < m) (hk : k < m) (hm2 : m ≤ 1000) (hlo : lo ≤ Hp.length + 1) :
    WP Try.prog 77 (loopAt Try.prog 116 1) ⟨inF Hp.length m i k a c, Hp ++ [⟨b0, h1, xs.map (.int .u64)⟩, ⟨true, h2, zs.map (.int .u64)⟩], lo⟩ .normal
      ⟨inF Hp.length m i (k + 1) a ((a * xs.getD k 0 + zs.getD (i + k) 0 + c) / DD), Hp ++ [⟨b0, h1, xs.map (.int .u64)⟩, ⟨true, h2, (zs.set (i + k) ((a * xs.getD k 0 + zs.getD (i + k) 0 + c) % DD)).map (.int .u64)⟩], lo⟩ := by
  obtain ⟨a0, a1⟩ := isU_iff.1 ha
  have hb := hx k
  have ho := hz (i + k)
  have iB : isU (xs.getD k 0) = true := isU_iff.2 (by simp only [DD] at hb; omega)
  obtain ⟨m0, m1, m2, m3, m4⟩ := mac_le (D := DD) (by decide) ⟨a0, by simp only [DD]; omega⟩ hb ho hc
  have wi : IntKind.i64.wrap ((i : Int) + k) = ((i + k : Nat) : Int) := by rw [wrap_in (inI_iff.2 (by omega))]; omega
  have wk : IntKind.i64.wrap ((k : Int) + 1) = ((k + 1 : Nat) : Int) := by rw [wrap_in (inI_iff.2 (by omega))]; omega
  have e64 : Extern.MathBitsCarry.m64 = 18446744073709551616 := by decide
  -- the names
  generalize hP : a * xs.getD k 0 = P at *
  generalize hO : zs.getD (i + k) 0 = O at *
  generalize hBB : xs.getD k 0 = B at *
  have hmax : (DD - 1) * (DD - 1) = 340282366920938463426481119284349108225 := by decide
  rw [hmax] at m1
  simp only [DD] at m1 m2 m3 m4 ho hc hb ⊢
  have f1 : Int.ofNat ((Int.toNat (P % 18446744073709551616) + Int.toNat c + 0) % Extern.MathBitsCarry.m64) = (P % 18446744073709551616 + c) % 18446744073709551616 := by rw [e64]; simp; omega
  have f2 : Int.ofNat ((Int.toNat (P % 18446744073709551616) + Int.toNat c + 0) / Extern.MathBitsCarry.m64) = (P % 18446744073709551616 + c) / 18446744073709551616 := by rw [e64]; simp; omega
  have f3 : IntKind.u64.wrap (P / 18446744073709551616 + (P % 18446744073709551616 + c) / 18446744073709551616) = P / 18446744073709551616 + (P % 18446744073709551616 + c) / 18446744073709551616 := wrapU_in (by omega) (by omega)
  have f4 : Int.ofNat ((Int.toNat O + Int.toNat ((P % 18446744073709551616 + c) % 18446744073709551616) + 0) / Extern.MathBitsCarry.m64) = (O + (P % 18446744073709551616 + c) % 18446744073709551616) / 18446744073709551616 := by rw [e64]; simp; omega
  have f5 : Int.ofNat ((Int.toNat O + Int.toNat ((P % 18446744073709551616 + c) % 18446744073709551616) + 0) % Extern.MathBitsCarry.m64) = (P + O + c) % 18446744073709551616 := by rw [e64]; simp; omega
  have f6 : IntKind.u64.wrap (P / 18446744073709551616 + (P % 18446744073709551616 + c) / 18446744073709551616 + (O + (P % 18446744073709551616 + c) % 18446744073709551616) / 18446744073709551616) = (P + O + c) / 18446744073709551616 := by rw [wrapU_in (by omega) (by omega)]; omega
  have g1 : intAt (xs.map (Value.int .u64)) (0 + Int.toNat (k : Int)) = B := by rw [intAt_map, Nat.zero_add, Int.toNat_natCast, hBB]
  have g2 : isIntAt .u64 (xs.map (Value.int .u64)) (0 + Int.toNat (k : Int)) = true := isIntAt_map _ _ (by omega)
  have g3 : intAt (zs.map (Value.int .u64)) (0 + Int.toNat ((i + k : Nat) : Int)) = O := by rw [intAt_map, Nat.zero_add, Int.toNat_natCast, hO]
  have g4 : isIntAt .u64 (zs.map (Value.int .u64)) (0 + Int.toNat ((i + k : Nat) : Int)) = true := isIntAt_map _ _ (by omega)
  have key : ∀ j, j = Hp.length → WP Try.prog 77 (loopAt Try.prog 116 1) ⟨inF j m i k a c, Hp ++ [⟨b0, h1, xs.map (.int .u64)⟩, ⟨true, h2, zs.map (.int .u64)⟩], lo⟩ .normal
      ⟨[(0, .slice (some ⟨j, 0, none⟩) m m), (3, .slice (some ⟨j + 1, 0, none⟩) (2 * m) (2 * m)), (4, .int .i64 i), (5, .int .u64 a), (6, .int .u64 (IntKind.wrap IntKind.u64 (P / 18446744073709551616 + (P % 18446744073709551616 + c) / 18446744073709551616 + (O + (P % 18446744073709551616 + c) % 18446744073709551616) / 18446744073709551616))), (16, .slice (some ⟨j, 0, none⟩) m m), (17, .int .i64 m), (18, .int .i64 i), (23, .slice (some ⟨j, 0, none⟩) m m), (24, .int .i64 m), (25, .int .i64 (IntKind.i64.wrap ((k : Int) + 1)))],
        Hp ++ [⟨b0, h1, xs.map (.int .u64)⟩, ⟨true, h2, splice (zs.map (.int .u64)) (0 + Int.toNat (IntKind.i64.wrap ((i : Int) + k))) [.int .u64 (Int.ofNat ((Int.toNat (intAt (zs.map (Value.int .u64)) (0 + Int.toNat (IntKind.i64.wrap ((i : Int) + k)))) + Int.toNat ((P % 18446744073709551616 + c) % 18446744073709551616) + 0) % Extern.MathBitsCarry.m64))]⟩], min lo (j + 1)⟩ := by
    intro j hj
    rcases Hp with _ | ⟨p, _ | ⟨q, _ | ⟨r, Hp⟩⟩⟩
    case cons.cons.cons => simp at hHp
    all_goals
      subst hj
      refine WP.run (P := Try.prog) (X := ext) (pre := sqPre) (C := sqC) (L := inN B (P / 18446744073709551616) (P % 18446744073709551616) ((P % 18446744073709551616 + c) % 18446744073709551616) ((P % 18446744073709551616 + c) / 18446744073709551616) (P / 18446744073709551616 + (P % 18446744073709551616 + c) / 18446744073709551616) ((O + (P % 18446744073709551616 + c) % 18446744073709551616) / 18446744073709551616)) (N := 300) (nt := 77) progOk extSound sqC_sound codeOk116 (LoopsOk.names rfl) (os := [(0, true), (0, true), (0, true), (0, true), (0, true), (0, true), (0, true), (1, true), (0, true)]) [0, 3, 4, 5, 6, 16, 17, 18, 23, 24, 25]
        (ob := [(decide (Int.ofNat ((Int.toNat (intAt (zs.map (Value.int .u64)) (0 + Int.toNat (IntKind.i64.wrap ((i : Int) + k)))) + Int.toNat ((P % 18446744073709551616 + c) % 18446744073709551616) + 0) / Extern.MathBitsCarry.m64) = (O + (P % 18446744073709551616 + c) % 18446744073709551616) / 18446744073709551616), true),
          (true && decide (0 + Int.toNat (IntKind.i64.wrap ((i : Int) + k)) + 1 ≤ (zs.map (Value.int .u64)).length), true),
          (decide (0 ≤ IntKind.i64.wrap ((i : Int) + k) ∧ IntKind.i64.wrap ((i : Int) + k) < ((2 * m : Nat) : Int)), true),
          (isIntAt .u64 (zs.map (Value.int .u64)) (0 + Int.toNat (IntKind.i64.wrap ((i : Int) + k))), true),
          (decide (0 ≤ IntKind.i64.wrap ((i : Int) + k) ∧ IntKind.i64.wrap ((i : Int) + k) < ((2 * m : Nat) : Int)), true),
          (decide (IntKind.u64.wrap (P / 18446744073709551616 + (P % 18446744073709551616 + c) / 18446744073709551616) = P / 18446744073709551616 + (P % 18446744073709551616 + c) / 18446744073709551616), true),
          (decide (Int.ofNat ((Int.toNat (P % 18446744073709551616) + Int.toNat c + 0) / Extern.MathBitsCarry.m64) = (P % 18446744073709551616 + c) / 18446744073709551616), true),
          (decide (Int.ofNat ((Int.toNat (P % 18446744073709551616) + Int.toNat c + 0) % Extern.MathBitsCarry.m64) = (P % 18446744073709551616 + c) % 18446744073709551616), true),
          (sqPre 138 [Value.int IntKind.u64 (P % 18446744073709551616), Value.int IntKind.u64 c, Value.int IntKind.u64 0] [], true),
          (decide (a * B % 18446744073709551616 = P % 18446744073709551616), true), (decide (a * B / 18446744073709551616 = P / 18446744073709551616), true),
          (sqPre 137 [Value.int IntKind.u64 a, Value.int IntKind.u64 B] [], true),
          (decide (intAt (xs.map (Value.int .u64)) (0 + Int.toNat (k : Int)) = B), true),
          (isIntAt .u64 (xs.map (Value.int .u64)) (0 + Int.toNat (k : Int)), true),
          (decide (0 ≤ (k : Int) ∧ (k : Int) < m), true), (decide ((k : Int) < m), true)]) (by kernel_rfl) ?_
      rw [wi, g1, g2, g3, g4, f1, f2, f3, f4, hP]
      simp [Holds, sqPre, ha, iB]
      omega
  have h := key _ rfl
  rw [wi, wk, g3, f5, f6, Nat.zero_add, Int.toNat_natCast, splice_map _ _ _ _ (by omega), Nat.min_eq_left hlo] at h
  exact h

end Go.Proofs.Ytfbjpenbpbpcaaa
