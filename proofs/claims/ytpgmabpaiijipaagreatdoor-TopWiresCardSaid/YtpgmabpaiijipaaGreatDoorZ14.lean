/- Parts of the proof, joined: Ck0, Ck1, Wr0, Wr1. -/
import Derived.Test.YtpgmabpaiijipaaGreatDoorZ13
namespace Go.Proofs.YtpgmabpaiijipaaGreatDoor
open Go Den
set_option maxRecDepth 100000
set_option linter.unusedSimpArgs false
set_option linter.unusedVariables false
def msB (k g f t i e a b : Int) (s : ByteArray) (D : Value) : Blk := ⟨true, none, [.int .i64 k, .int .i64 g, .int .i64 f, .int .i64 t, .int .i64 i, .int .i64 e, .int .i64 a, .int .i64 b, .string s, D]⟩
def msA (k g f t i e a b : Int) (s : ByteArray) (D : Value) : Value := .agg #[.int .i64 k, .int .i64 g, .int .i64 f, .int .i64 t, .int .i64 i, .int .i64 e, .int .i64 a, .int .i64 b, .string s, D]
def fpV (m i : Nat) : Value := .pointer (some ⟨m, i, none⟩)
def nusV (m : Nat) : Value := .agg #[fpV m 1, fpV m 2, fpV m 3, fpV m 4, fpV m 5, fpV m 6, fpV m 7]
def nusB (m : Nat) : Blk := ⟨true, none, [fpV m 1, fpV m 2, fpV m 3, fpV m 4, fpV m 5, fpV m 6, fpV m 7]⟩
def ckF (m : Nat) (ok : Bool) : Slots := [(1, .pointer (some ⟨m, 0, none⟩)), (2, .int .i64 0), (3, .bool ok)]
def ckL (m : Nat) (ok : Bool) (i : Int) : Slots := [(1, .pointer (some ⟨m, 0, none⟩)), (2, .int .i64 0), (3, .bool ok), (30, nusV m), (31, .int .i64 i)]
def ckT (m : Nat) (u : Bool) : Tale := fun f _ H => match f with
  | 45 => some (nusV m, H ++ [nusB m], H.length)
  | 88 => some (.bool u, H, H.length)
  | _ => none
theorem ck_r0_0 (k g f t i e a b : Int) (s : ByteArray) (p : Option Addr) (n c : Nat) (X : Blk) : evL Tryz.prog ext (nmPre (noPre)) (nbC [] [] (noC)) (noLoops) 300 (ntOf Tryz.prog 41 1) (hdC (bodyOf Tryz.prog 41)) (Den.start 0 [msA k g f t i e a b s (.slice p n c)]) ([]) 0 [] [1, 2] =
  some (.normal, [(1, .pointer (some ⟨0, 0, none⟩)), (2, .int .i64 0)], [msB k g f t i e a b s (.slice p n c)], 0, []) := by kernel_rfl
theorem ck_r1a_0 (k g f t i e a b : Int) (s : ByteArray) (p : Option Addr) (n c : Nat) (X : Blk) : evL Tryz.prog ext (nmPre (noPre)) (nbC [] [(8, false)] (noC)) (noLoops) 300 (ntOf Tryz.prog 41 1) (hdC (tlC (bodyOf Tryz.prog 41))) ([(1, .pointer (some ⟨0, 0, none⟩)), (2, .int .i64 0)]) ([msB k g f t i e a b s (.slice p n c)]) 0 [] [1, 2, 3] =
  some (.normal, ckF 0 false, [msB k g f t i e a b s (.slice p n c)], 0, [(decide (k ≥ 1), false)]) := by kernel_rfl
theorem ck_r1b_0 (k g f t i e a b : Int) (s : ByteArray) (p : Option Addr) (n c : Nat) (X : Blk) : evL Tryz.prog ext (nmPre (noPre)) (nbC [] [(8, true), (12, false)] (noC)) (noLoops) 300 (ntOf Tryz.prog 41 1) (hdC (tlC (bodyOf Tryz.prog 41))) ([(1, .pointer (some ⟨0, 0, none⟩)), (2, .int .i64 0)]) ([msB k g f t i e a b s (.slice p n c)]) 0 [] [1, 2, 3] =
  some (.normal, ckF 0 false, [msB k g f t i e a b s (.slice p n c)], 0, [(decide (k ≤ 15), false), (decide (k ≥ 1), true)]) := by kernel_rfl
theorem ck_r1c_0 (k g f t i e a b : Int) (s : ByteArray) (p : Option Addr) (n c : Nat) (X : Blk) : evL Tryz.prog ext (nmPre (noPre)) (nbC [] [(8, true), (12, true), (18, false)] (noC)) (noLoops) 300 (ntOf Tryz.prog 41 1) (hdC (tlC (bodyOf Tryz.prog 41))) ([(1, .pointer (some ⟨0, 0, none⟩)), (2, .int .i64 0)]) ([msB k g f t i e a b s (.slice p n c)]) 0 [] [1, 2, 3] =
  some (.normal, ckF 0 false, [msB k g f t i e a b s (.slice p n c)], 0, [(decide ((n : Int) ≤ 64), false), (decide (k ≤ 15), true), (decide (k ≥ 1), true)]) := by kernel_rfl
theorem ck_r1d_0 (k g f t i e a b : Int) (s : ByteArray) (p : Option Addr) (n c : Nat) (X : Blk) (u v : Bool) : evL Tryz.prog ext (nmPre (noPre)) (nbC [] [(8, true), (12, true), (18, true), (23, u), (27, v)] (noC)) (noLoops) 300 (ntOf Tryz.prog 41 1) (hdC (tlC (bodyOf Tryz.prog 41))) ([(1, .pointer (some ⟨0, 0, none⟩)), (2, .int .i64 0)]) ([msB k g f t i e a b s (.slice p n c)]) 0 [] [1, 2, 3] =
  some (.normal, ckF 0 (u == v), [msB k g f t i e a b s (.slice p n c)], 0, [(decide ((n : Int) > 0), v), (k == 13, u), (decide ((n : Int) ≤ 64), true), (decide (k ≤ 15), true), (decide (k ≥ 1), true)]) := by kernel_rfl
theorem ck_l0f_0 (k g f t i e a b : Int) (s : ByteArray) (D : Value) (X : Blk) : evL Tryz.prog ext (nmPre (noPre)) (nbC [] [] (noC)) (noLoops) 300 (ntOf Tryz.prog 41 1) (loopAt Tryz.prog 41 0) (ckL 0 false 0) ([msB k g f t i e a b s D, nusB 0]) 0 [] [1, 2, 3, 30, 31] =
  some (.normal, ckL 0 false 1, [msB k g f t i e a b s D, nusB 0], 0, []) := by kernel_rfl
theorem ck_l0n_0 (k g f t i e a b : Int) (s : ByteArray) (D : Value) (X : Blk) : evL Tryz.prog ext (nmPre (noPre)) (nbC [] [(39, false)] (noC)) (noLoops) 300 (ntOf Tryz.prog 41 1) (loopAt Tryz.prog 41 0) (ckL 0 true 0) ([msB k g f t i e a b s D, nusB 0]) 0 [] [1, 2, 3, 30, 31] =
  some (.normal, ckL 0 false 1, [msB k g f t i e a b s D, nusB 0], 0, [(decide (g ≥ 0), false)]) := by kernel_rfl
theorem ck_l0y_0 (k g f t i e a b : Int) (s : ByteArray) (D : Value) (X : Blk) (u : Bool) : evL Tryz.prog ext (nmPre (noPre)) (nbC [] [(39, true), (45, u)] (noC)) (noLoops) 300 (ntOf Tryz.prog 41 1) (loopAt Tryz.prog 41 0) (ckL 0 true 0) ([msB k g f t i e a b s D, nusB 0]) 0 [] [1, 2, 3, 30, 31] =
  some (.normal, ckL 0 u 1, [msB k g f t i e a b s D, nusB 0], 0, [(decide (g ≤ 1073741824), u), (decide (g ≥ 0), true)]) := by kernel_rfl
theorem ck_l1f_0 (k g f t i e a b : Int) (s : ByteArray) (D : Value) (X : Blk) : evL Tryz.prog ext (nmPre (noPre)) (nbC [] [] (noC)) (noLoops) 300 (ntOf Tryz.prog 41 1) (loopAt Tryz.prog 41 0) (ckL 0 false 1) ([msB k g f t i e a b s D, nusB 0]) 0 [] [1, 2, 3, 30, 31] =
  some (.normal, ckL 0 false 2, [msB k g f t i e a b s D, nusB 0], 0, []) := by kernel_rfl
theorem ck_l1n_0 (k g f t i e a b : Int) (s : ByteArray) (D : Value) (X : Blk) : evL Tryz.prog ext (nmPre (noPre)) (nbC [] [(39, false)] (noC)) (noLoops) 300 (ntOf Tryz.prog 41 1) (loopAt Tryz.prog 41 0) (ckL 0 true 1) ([msB k g f t i e a b s D, nusB 0]) 0 [] [1, 2, 3, 30, 31] =
  some (.normal, ckL 0 false 2, [msB k g f t i e a b s D, nusB 0], 0, [(decide (f ≥ 0), false)]) := by kernel_rfl
theorem ck_l1y_0 (k g f t i e a b : Int) (s : ByteArray) (D : Value) (X : Blk) (u : Bool) : evL Tryz.prog ext (nmPre (noPre)) (nbC [] [(39, true), (45, u)] (noC)) (noLoops) 300 (ntOf Tryz.prog 41 1) (loopAt Tryz.prog 41 0) (ckL 0 true 1) ([msB k g f t i e a b s D, nusB 0]) 0 [] [1, 2, 3, 30, 31] =
  some (.normal, ckL 0 u 2, [msB k g f t i e a b s D, nusB 0], 0, [(decide (f ≤ 1073741824), u), (decide (f ≥ 0), true)]) := by kernel_rfl
theorem ck_l2f_0 (k g f t i e a b : Int) (s : ByteArray) (D : Value) (X : Blk) : evL Tryz.prog ext (nmPre (noPre)) (nbC [] [] (noC)) (noLoops) 300 (ntOf Tryz.prog 41 1) (loopAt Tryz.prog 41 0) (ckL 0 false 2) ([msB k g f t i e a b s D, nusB 0]) 0 [] [1, 2, 3, 30, 31] =
  some (.normal, ckL 0 false 3, [msB k g f t i e a b s D, nusB 0], 0, []) := by kernel_rfl
theorem ck_l2n_0 (k g f t i e a b : Int) (s : ByteArray) (D : Value) (X : Blk) : evL Tryz.prog ext (nmPre (noPre)) (nbC [] [(39, false)] (noC)) (noLoops) 300 (ntOf Tryz.prog 41 1) (loopAt Tryz.prog 41 0) (ckL 0 true 2) ([msB k g f t i e a b s D, nusB 0]) 0 [] [1, 2, 3, 30, 31] =
  some (.normal, ckL 0 false 3, [msB k g f t i e a b s D, nusB 0], 0, [(decide (t ≥ 0), false)]) := by kernel_rfl
theorem ck_l2y_0 (k g f t i e a b : Int) (s : ByteArray) (D : Value) (X : Blk) (u : Bool) : evL Tryz.prog ext (nmPre (noPre)) (nbC [] [(39, true), (45, u)] (noC)) (noLoops) 300 (ntOf Tryz.prog 41 1) (loopAt Tryz.prog 41 0) (ckL 0 true 2) ([msB k g f t i e a b s D, nusB 0]) 0 [] [1, 2, 3, 30, 31] =
  some (.normal, ckL 0 u 3, [msB k g f t i e a b s D, nusB 0], 0, [(decide (t ≤ 1073741824), u), (decide (t ≥ 0), true)]) := by kernel_rfl
theorem ck_l3f_0 (k g f t i e a b : Int) (s : ByteArray) (D : Value) (X : Blk) : evL Tryz.prog ext (nmPre (noPre)) (nbC [] [] (noC)) (noLoops) 300 (ntOf Tryz.prog 41 1) (loopAt Tryz.prog 41 0) (ckL 0 false 3) ([msB k g f t i e a b s D, nusB 0]) 0 [] [1, 2, 3, 30, 31] =
  some (.normal, ckL 0 false 4, [msB k g f t i e a b s D, nusB 0], 0, []) := by kernel_rfl
theorem ck_l3n_0 (k g f t i e a b : Int) (s : ByteArray) (D : Value) (X : Blk) : evL Tryz.prog ext (nmPre (noPre)) (nbC [] [(39, false)] (noC)) (noLoops) 300 (ntOf Tryz.prog 41 1) (loopAt Tryz.prog 41 0) (ckL 0 true 3) ([msB k g f t i e a b s D, nusB 0]) 0 [] [1, 2, 3, 30, 31] =
  some (.normal, ckL 0 false 4, [msB k g f t i e a b s D, nusB 0], 0, [(decide (i ≥ 0), false)]) := by kernel_rfl
theorem ck_l3y_0 (k g f t i e a b : Int) (s : ByteArray) (D : Value) (X : Blk) (u : Bool) : evL Tryz.prog ext (nmPre (noPre)) (nbC [] [(39, true), (45, u)] (noC)) (noLoops) 300 (ntOf Tryz.prog 41 1) (loopAt Tryz.prog 41 0) (ckL 0 true 3) ([msB k g f t i e a b s D, nusB 0]) 0 [] [1, 2, 3, 30, 31] =
  some (.normal, ckL 0 u 4, [msB k g f t i e a b s D, nusB 0], 0, [(decide (i ≤ 1073741824), u), (decide (i ≥ 0), true)]) := by kernel_rfl
theorem ck_l4f_0 (k g f t i e a b : Int) (s : ByteArray) (D : Value) (X : Blk) : evL Tryz.prog ext (nmPre (noPre)) (nbC [] [] (noC)) (noLoops) 300 (ntOf Tryz.prog 41 1) (loopAt Tryz.prog 41 0) (ckL 0 false 4) ([msB k g f t i e a b s D, nusB 0]) 0 [] [1, 2, 3, 30, 31] =
  some (.normal, ckL 0 false 5, [msB k g f t i e a b s D, nusB 0], 0, []) := by kernel_rfl
theorem ck_l4n_0 (k g f t i e a b : Int) (s : ByteArray) (D : Value) (X : Blk) : evL Tryz.prog ext (nmPre (noPre)) (nbC [] [(39, false)] (noC)) (noLoops) 300 (ntOf Tryz.prog 41 1) (loopAt Tryz.prog 41 0) (ckL 0 true 4) ([msB k g f t i e a b s D, nusB 0]) 0 [] [1, 2, 3, 30, 31] =
  some (.normal, ckL 0 false 5, [msB k g f t i e a b s D, nusB 0], 0, [(decide (e ≥ 0), false)]) := by kernel_rfl
theorem ck_l4y_0 (k g f t i e a b : Int) (s : ByteArray) (D : Value) (X : Blk) (u : Bool) : evL Tryz.prog ext (nmPre (noPre)) (nbC [] [(39, true), (45, u)] (noC)) (noLoops) 300 (ntOf Tryz.prog 41 1) (loopAt Tryz.prog 41 0) (ckL 0 true 4) ([msB k g f t i e a b s D, nusB 0]) 0 [] [1, 2, 3, 30, 31] =
  some (.normal, ckL 0 u 5, [msB k g f t i e a b s D, nusB 0], 0, [(decide (e ≤ 1073741824), u), (decide (e ≥ 0), true)]) := by kernel_rfl
theorem ck_l5f_0 (k g f t i e a b : Int) (s : ByteArray) (D : Value) (X : Blk) : evL Tryz.prog ext (nmPre (noPre)) (nbC [] [] (noC)) (noLoops) 300 (ntOf Tryz.prog 41 1) (loopAt Tryz.prog 41 0) (ckL 0 false 5) ([msB k g f t i e a b s D, nusB 0]) 0 [] [1, 2, 3, 30, 31] =
  some (.normal, ckL 0 false 6, [msB k g f t i e a b s D, nusB 0], 0, []) := by kernel_rfl
theorem ck_l5n_0 (k g f t i e a b : Int) (s : ByteArray) (D : Value) (X : Blk) : evL Tryz.prog ext (nmPre (noPre)) (nbC [] [(39, false)] (noC)) (noLoops) 300 (ntOf Tryz.prog 41 1) (loopAt Tryz.prog 41 0) (ckL 0 true 5) ([msB k g f t i e a b s D, nusB 0]) 0 [] [1, 2, 3, 30, 31] =
  some (.normal, ckL 0 false 6, [msB k g f t i e a b s D, nusB 0], 0, [(decide (a ≥ 0), false)]) := by kernel_rfl
theorem ck_l5y_0 (k g f t i e a b : Int) (s : ByteArray) (D : Value) (X : Blk) (u : Bool) : evL Tryz.prog ext (nmPre (noPre)) (nbC [] [(39, true), (45, u)] (noC)) (noLoops) 300 (ntOf Tryz.prog 41 1) (loopAt Tryz.prog 41 0) (ckL 0 true 5) ([msB k g f t i e a b s D, nusB 0]) 0 [] [1, 2, 3, 30, 31] =
  some (.normal, ckL 0 u 6, [msB k g f t i e a b s D, nusB 0], 0, [(decide (a ≤ 1073741824), u), (decide (a ≥ 0), true)]) := by kernel_rfl
theorem ck_l6f_0 (k g f t i e a b : Int) (s : ByteArray) (D : Value) (X : Blk) : evL Tryz.prog ext (nmPre (noPre)) (nbC [] [] (noC)) (noLoops) 300 (ntOf Tryz.prog 41 1) (loopAt Tryz.prog 41 0) (ckL 0 false 6) ([msB k g f t i e a b s D, nusB 0]) 0 [] [1, 2, 3, 30, 31] =
  some (.normal, ckL 0 false 7, [msB k g f t i e a b s D, nusB 0], 0, []) := by kernel_rfl
theorem ck_l6n_0 (k g f t i e a b : Int) (s : ByteArray) (D : Value) (X : Blk) : evL Tryz.prog ext (nmPre (noPre)) (nbC [] [(39, false)] (noC)) (noLoops) 300 (ntOf Tryz.prog 41 1) (loopAt Tryz.prog 41 0) (ckL 0 true 6) ([msB k g f t i e a b s D, nusB 0]) 0 [] [1, 2, 3, 30, 31] =
  some (.normal, ckL 0 false 7, [msB k g f t i e a b s D, nusB 0], 0, [(decide (b ≥ 0), false)]) := by kernel_rfl
theorem ck_l6y_0 (k g f t i e a b : Int) (s : ByteArray) (D : Value) (X : Blk) (u : Bool) : evL Tryz.prog ext (nmPre (noPre)) (nbC [] [(39, true), (45, u)] (noC)) (noLoops) 300 (ntOf Tryz.prog 41 1) (loopAt Tryz.prog 41 0) (ckL 0 true 6) ([msB k g f t i e a b s D, nusB 0]) 0 [] [1, 2, 3, 30, 31] =
  some (.normal, ckL 0 u 7, [msB k g f t i e a b s D, nusB 0], 0, [(decide (b ≤ 1073741824), u), (decide (b ≥ 0), true)]) := by kernel_rfl
theorem ck_out_0 (k g f t i e a b : Int) (s : ByteArray) (D : Value) (X : Blk) (ok : Bool) : evL Tryz.prog ext (nmPre (noPre)) (nbC [] [] (noC)) (noLoops) 300 (ntOf Tryz.prog 41 1) (loopAt Tryz.prog 41 0) (ckL 0 ok 7) ([msB k g f t i e a b s D, nusB 0]) 0 [] [1, 2, 3] =
  some (.exit 0, ckF 0 ok, [msB k g f t i e a b s D, nusB 0], 0, []) := by kernel_rfl
theorem ck_r0_1 (k g f t i e a b : Int) (s : ByteArray) (p : Option Addr) (n c : Nat) (X : Blk) : evL Tryz.prog ext (nmPre (noPre)) (nbC [] [] (noC)) (noLoops) 300 (ntOf Tryz.prog 41 1) (hdC (bodyOf Tryz.prog 41)) (Den.start 0 [msA k g f t i e a b s (.slice p n c)]) ([X]) 1 [] [1, 2] =
  some (.normal, [(1, .pointer (some ⟨1, 0, none⟩)), (2, .int .i64 0)], [X, msB k g f t i e a b s (.slice p n c)], 1, []) := by kernel_rfl
theorem ck_r1a_1 (k g f t i e a b : Int) (s : ByteArray) (p : Option Addr) (n c : Nat) (X : Blk) : evL Tryz.prog ext (nmPre (noPre)) (nbC [] [(8, false)] (noC)) (noLoops) 300 (ntOf Tryz.prog 41 1) (hdC (tlC (bodyOf Tryz.prog 41))) ([(1, .pointer (some ⟨1, 0, none⟩)), (2, .int .i64 0)]) ([X, msB k g f t i e a b s (.slice p n c)]) 1 [] [1, 2, 3] =
  some (.normal, ckF 1 false, [X, msB k g f t i e a b s (.slice p n c)], 1, [(decide (k ≥ 1), false)]) := by kernel_rfl
theorem ck_r1b_1 (k g f t i e a b : Int) (s : ByteArray) (p : Option Addr) (n c : Nat) (X : Blk) : evL Tryz.prog ext (nmPre (noPre)) (nbC [] [(8, true), (12, false)] (noC)) (noLoops) 300 (ntOf Tryz.prog 41 1) (hdC (tlC (bodyOf Tryz.prog 41))) ([(1, .pointer (some ⟨1, 0, none⟩)), (2, .int .i64 0)]) ([X, msB k g f t i e a b s (.slice p n c)]) 1 [] [1, 2, 3] =
  some (.normal, ckF 1 false, [X, msB k g f t i e a b s (.slice p n c)], 1, [(decide (k ≤ 15), false), (decide (k ≥ 1), true)]) := by kernel_rfl
theorem ck_r1c_1 (k g f t i e a b : Int) (s : ByteArray) (p : Option Addr) (n c : Nat) (X : Blk) : evL Tryz.prog ext (nmPre (noPre)) (nbC [] [(8, true), (12, true), (18, false)] (noC)) (noLoops) 300 (ntOf Tryz.prog 41 1) (hdC (tlC (bodyOf Tryz.prog 41))) ([(1, .pointer (some ⟨1, 0, none⟩)), (2, .int .i64 0)]) ([X, msB k g f t i e a b s (.slice p n c)]) 1 [] [1, 2, 3] =
  some (.normal, ckF 1 false, [X, msB k g f t i e a b s (.slice p n c)], 1, [(decide ((n : Int) ≤ 64), false), (decide (k ≤ 15), true), (decide (k ≥ 1), true)]) := by kernel_rfl
theorem ck_r1d_1 (k g f t i e a b : Int) (s : ByteArray) (p : Option Addr) (n c : Nat) (X : Blk) (u v : Bool) : evL Tryz.prog ext (nmPre (noPre)) (nbC [] [(8, true), (12, true), (18, true), (23, u), (27, v)] (noC)) (noLoops) 300 (ntOf Tryz.prog 41 1) (hdC (tlC (bodyOf Tryz.prog 41))) ([(1, .pointer (some ⟨1, 0, none⟩)), (2, .int .i64 0)]) ([X, msB k g f t i e a b s (.slice p n c)]) 1 [] [1, 2, 3] =
  some (.normal, ckF 1 (u == v), [X, msB k g f t i e a b s (.slice p n c)], 1, [(decide ((n : Int) > 0), v), (k == 13, u), (decide ((n : Int) ≤ 64), true), (decide (k ≤ 15), true), (decide (k ≥ 1), true)]) := by kernel_rfl
theorem ck_l0f_1 (k g f t i e a b : Int) (s : ByteArray) (D : Value) (X : Blk) : evL Tryz.prog ext (nmPre (noPre)) (nbC [] [] (noC)) (noLoops) 300 (ntOf Tryz.prog 41 1) (loopAt Tryz.prog 41 0) (ckL 1 false 0) ([X, msB k g f t i e a b s D, nusB 1]) 1 [] [1, 2, 3, 30, 31] =
  some (.normal, ckL 1 false 1, [X, msB k g f t i e a b s D, nusB 1], 1, []) := by kernel_rfl
theorem ck_l0n_1 (k g f t i e a b : Int) (s : ByteArray) (D : Value) (X : Blk) : evL Tryz.prog ext (nmPre (noPre)) (nbC [] [(39, false)] (noC)) (noLoops) 300 (ntOf Tryz.prog 41 1) (loopAt Tryz.prog 41 0) (ckL 1 true 0) ([X, msB k g f t i e a b s D, nusB 1]) 1 [] [1, 2, 3, 30, 31] =
  some (.normal, ckL 1 false 1, [X, msB k g f t i e a b s D, nusB 1], 1, [(decide (g ≥ 0), false)]) := by kernel_rfl
theorem ck_l0y_1 (k g f t i e a b : Int) (s : ByteArray) (D : Value) (X : Blk) (u : Bool) : evL Tryz.prog ext (nmPre (noPre)) (nbC [] [(39, true), (45, u)] (noC)) (noLoops) 300 (ntOf Tryz.prog 41 1) (loopAt Tryz.prog 41 0) (ckL 1 true 0) ([X, msB k g f t i e a b s D, nusB 1]) 1 [] [1, 2, 3, 30, 31] =
  some (.normal, ckL 1 u 1, [X, msB k g f t i e a b s D, nusB 1], 1, [(decide (g ≤ 1073741824), u), (decide (g ≥ 0), true)]) := by kernel_rfl
theorem ck_l1f_1 (k g f t i e a b : Int) (s : ByteArray) (D : Value) (X : Blk) : evL Tryz.prog ext (nmPre (noPre)) (nbC [] [] (noC)) (noLoops) 300 (ntOf Tryz.prog 41 1) (loopAt Tryz.prog 41 0) (ckL 1 false 1) ([X, msB k g f t i e a b s D, nusB 1]) 1 [] [1, 2, 3, 30, 31] =
  some (.normal, ckL 1 false 2, [X, msB k g f t i e a b s D, nusB 1], 1, []) := by kernel_rfl
theorem ck_l1n_1 (k g f t i e a b : Int) (s : ByteArray) (D : Value) (X : Blk) : evL Tryz.prog ext (nmPre (noPre)) (nbC [] [(39, false)] (noC)) (noLoops) 300 (ntOf Tryz.prog 41 1) (loopAt Tryz.prog 41 0) (ckL 1 true 1) ([X, msB k g f t i e a b s D, nusB 1]) 1 [] [1, 2, 3, 30, 31] =
  some (.normal, ckL 1 false 2, [X, msB k g f t i e a b s D, nusB 1], 1, [(decide (f ≥ 0), false)]) := by kernel_rfl
theorem ck_l1y_1 (k g f t i e a b : Int) (s : ByteArray) (D : Value) (X : Blk) (u : Bool) : evL Tryz.prog ext (nmPre (noPre)) (nbC [] [(39, true), (45, u)] (noC)) (noLoops) 300 (ntOf Tryz.prog 41 1) (loopAt Tryz.prog 41 0) (ckL 1 true 1) ([X, msB k g f t i e a b s D, nusB 1]) 1 [] [1, 2, 3, 30, 31] =
  some (.normal, ckL 1 u 2, [X, msB k g f t i e a b s D, nusB 1], 1, [(decide (f ≤ 1073741824), u), (decide (f ≥ 0), true)]) := by kernel_rfl
theorem ck_l2f_1 (k g f t i e a b : Int) (s : ByteArray) (D : Value) (X : Blk) : evL Tryz.prog ext (nmPre (noPre)) (nbC [] [] (noC)) (noLoops) 300 (ntOf Tryz.prog 41 1) (loopAt Tryz.prog 41 0) (ckL 1 false 2) ([X, msB k g f t i e a b s D, nusB 1]) 1 [] [1, 2, 3, 30, 31] =
  some (.normal, ckL 1 false 3, [X, msB k g f t i e a b s D, nusB 1], 1, []) := by kernel_rfl
theorem ck_l2n_1 (k g f t i e a b : Int) (s : ByteArray) (D : Value) (X : Blk) : evL Tryz.prog ext (nmPre (noPre)) (nbC [] [(39, false)] (noC)) (noLoops) 300 (ntOf Tryz.prog 41 1) (loopAt Tryz.prog 41 0) (ckL 1 true 2) ([X, msB k g f t i e a b s D, nusB 1]) 1 [] [1, 2, 3, 30, 31] =
  some (.normal, ckL 1 false 3, [X, msB k g f t i e a b s D, nusB 1], 1, [(decide (t ≥ 0), false)]) := by kernel_rfl
theorem ck_l2y_1 (k g f t i e a b : Int) (s : ByteArray) (D : Value) (X : Blk) (u : Bool) : evL Tryz.prog ext (nmPre (noPre)) (nbC [] [(39, true), (45, u)] (noC)) (noLoops) 300 (ntOf Tryz.prog 41 1) (loopAt Tryz.prog 41 0) (ckL 1 true 2) ([X, msB k g f t i e a b s D, nusB 1]) 1 [] [1, 2, 3, 30, 31] =
  some (.normal, ckL 1 u 3, [X, msB k g f t i e a b s D, nusB 1], 1, [(decide (t ≤ 1073741824), u), (decide (t ≥ 0), true)]) := by kernel_rfl
theorem ck_l3f_1 (k g f t i e a b : Int) (s : ByteArray) (D : Value) (X : Blk) : evL Tryz.prog ext (nmPre (noPre)) (nbC [] [] (noC)) (noLoops) 300 (ntOf Tryz.prog 41 1) (loopAt Tryz.prog 41 0) (ckL 1 false 3) ([X, msB k g f t i e a b s D, nusB 1]) 1 [] [1, 2, 3, 30, 31] =
  some (.normal, ckL 1 false 4, [X, msB k g f t i e a b s D, nusB 1], 1, []) := by kernel_rfl
theorem ck_l3n_1 (k g f t i e a b : Int) (s : ByteArray) (D : Value) (X : Blk) : evL Tryz.prog ext (nmPre (noPre)) (nbC [] [(39, false)] (noC)) (noLoops) 300 (ntOf Tryz.prog 41 1) (loopAt Tryz.prog 41 0) (ckL 1 true 3) ([X, msB k g f t i e a b s D, nusB 1]) 1 [] [1, 2, 3, 30, 31] =
  some (.normal, ckL 1 false 4, [X, msB k g f t i e a b s D, nusB 1], 1, [(decide (i ≥ 0), false)]) := by kernel_rfl
theorem ck_l3y_1 (k g f t i e a b : Int) (s : ByteArray) (D : Value) (X : Blk) (u : Bool) : evL Tryz.prog ext (nmPre (noPre)) (nbC [] [(39, true), (45, u)] (noC)) (noLoops) 300 (ntOf Tryz.prog 41 1) (loopAt Tryz.prog 41 0) (ckL 1 true 3) ([X, msB k g f t i e a b s D, nusB 1]) 1 [] [1, 2, 3, 30, 31] =
  some (.normal, ckL 1 u 4, [X, msB k g f t i e a b s D, nusB 1], 1, [(decide (i ≤ 1073741824), u), (decide (i ≥ 0), true)]) := by kernel_rfl
theorem ck_l4f_1 (k g f t i e a b : Int) (s : ByteArray) (D : Value) (X : Blk) : evL Tryz.prog ext (nmPre (noPre)) (nbC [] [] (noC)) (noLoops) 300 (ntOf Tryz.prog 41 1) (loopAt Tryz.prog 41 0) (ckL 1 false 4) ([X, msB k g f t i e a b s D, nusB 1]) 1 [] [1, 2, 3, 30, 31] =
  some (.normal, ckL 1 false 5, [X, msB k g f t i e a b s D, nusB 1], 1, []) := by kernel_rfl
theorem ck_l4n_1 (k g f t i e a b : Int) (s : ByteArray) (D : Value) (X : Blk) : evL Tryz.prog ext (nmPre (noPre)) (nbC [] [(39, false)] (noC)) (noLoops) 300 (ntOf Tryz.prog 41 1) (loopAt Tryz.prog 41 0) (ckL 1 true 4) ([X, msB k g f t i e a b s D, nusB 1]) 1 [] [1, 2, 3, 30, 31] =
  some (.normal, ckL 1 false 5, [X, msB k g f t i e a b s D, nusB 1], 1, [(decide (e ≥ 0), false)]) := by kernel_rfl
theorem ck_l4y_1 (k g f t i e a b : Int) (s : ByteArray) (D : Value) (X : Blk) (u : Bool) : evL Tryz.prog ext (nmPre (noPre)) (nbC [] [(39, true), (45, u)] (noC)) (noLoops) 300 (ntOf Tryz.prog 41 1) (loopAt Tryz.prog 41 0) (ckL 1 true 4) ([X, msB k g f t i e a b s D, nusB 1]) 1 [] [1, 2, 3, 30, 31] =
  some (.normal, ckL 1 u 5, [X, msB k g f t i e a b s D, nusB 1], 1, [(decide (e ≤ 1073741824), u), (decide (e ≥ 0), true)]) := by kernel_rfl
theorem ck_l5f_1 (k g f t i e a b : Int) (s : ByteArray) (D : Value) (X : Blk) : evL Tryz.prog ext (nmPre (noPre)) (nbC [] [] (noC)) (noLoops) 300 (ntOf Tryz.prog 41 1) (loopAt Tryz.prog 41 0) (ckL 1 false 5) ([X, msB k g f t i e a b s D, nusB 1]) 1 [] [1, 2, 3, 30, 31] =
  some (.normal, ckL 1 false 6, [X, msB k g f t i e a b s D, nusB 1], 1, []) := by kernel_rfl
theorem ck_l5n_1 (k g f t i e a b : Int) (s : ByteArray) (D : Value) (X : Blk) : evL Tryz.prog ext (nmPre (noPre)) (nbC [] [(39, false)] (noC)) (noLoops) 300 (ntOf Tryz.prog 41 1) (loopAt Tryz.prog 41 0) (ckL 1 true 5) ([X, msB k g f t i e a b s D, nusB 1]) 1 [] [1, 2, 3, 30, 31] =
  some (.normal, ckL 1 false 6, [X, msB k g f t i e a b s D, nusB 1], 1, [(decide (a ≥ 0), false)]) := by kernel_rfl
theorem ck_l5y_1 (k g f t i e a b : Int) (s : ByteArray) (D : Value) (X : Blk) (u : Bool) : evL Tryz.prog ext (nmPre (noPre)) (nbC [] [(39, true), (45, u)] (noC)) (noLoops) 300 (ntOf Tryz.prog 41 1) (loopAt Tryz.prog 41 0) (ckL 1 true 5) ([X, msB k g f t i e a b s D, nusB 1]) 1 [] [1, 2, 3, 30, 31] =
  some (.normal, ckL 1 u 6, [X, msB k g f t i e a b s D, nusB 1], 1, [(decide (a ≤ 1073741824), u), (decide (a ≥ 0), true)]) := by kernel_rfl
theorem ck_l6f_1 (k g f t i e a b : Int) (s : ByteArray) (D : Value) (X : Blk) : evL Tryz.prog ext (nmPre (noPre)) (nbC [] [] (noC)) (noLoops) 300 (ntOf Tryz.prog 41 1) (loopAt Tryz.prog 41 0) (ckL 1 false 6) ([X, msB k g f t i e a b s D, nusB 1]) 1 [] [1, 2, 3, 30, 31] =
  some (.normal, ckL 1 false 7, [X, msB k g f t i e a b s D, nusB 1], 1, []) := by kernel_rfl
theorem ck_l6n_1 (k g f t i e a b : Int) (s : ByteArray) (D : Value) (X : Blk) : evL Tryz.prog ext (nmPre (noPre)) (nbC [] [(39, false)] (noC)) (noLoops) 300 (ntOf Tryz.prog 41 1) (loopAt Tryz.prog 41 0) (ckL 1 true 6) ([X, msB k g f t i e a b s D, nusB 1]) 1 [] [1, 2, 3, 30, 31] =
  some (.normal, ckL 1 false 7, [X, msB k g f t i e a b s D, nusB 1], 1, [(decide (b ≥ 0), false)]) := by kernel_rfl
theorem ck_l6y_1 (k g f t i e a b : Int) (s : ByteArray) (D : Value) (X : Blk) (u : Bool) : evL Tryz.prog ext (nmPre (noPre)) (nbC [] [(39, true), (45, u)] (noC)) (noLoops) 300 (ntOf Tryz.prog 41 1) (loopAt Tryz.prog 41 0) (ckL 1 true 6) ([X, msB k g f t i e a b s D, nusB 1]) 1 [] [1, 2, 3, 30, 31] =
  some (.normal, ckL 1 u 7, [X, msB k g f t i e a b s D, nusB 1], 1, [(decide (b ≤ 1073741824), u), (decide (b ≥ 0), true)]) := by kernel_rfl
theorem ck_out_1 (k g f t i e a b : Int) (s : ByteArray) (D : Value) (X : Blk) (ok : Bool) : evL Tryz.prog ext (nmPre (noPre)) (nbC [] [] (noC)) (noLoops) 300 (ntOf Tryz.prog 41 1) (loopAt Tryz.prog 41 0) (ckL 1 ok 7) ([X, msB k g f t i e a b s D, nusB 1]) 1 [] [1, 2, 3] =
  some (.exit 0, ckF 1 ok, [X, msB k g f t i e a b s D, nusB 1], 1, []) := by kernel_rfl
theorem ck_r2_0 (k g f t i e a b : Int) (s : ByteArray) (D : Value) (X : Blk) (ok ok2 : Bool) : evL Tryz.prog ext (nmPre (toldPre (ckT 0 false))) (nbC [] [] (ckT 0 false)) ({ loop := sumL 3 ⟨ckL 0 ok 0, [msB k g f t i e a b s D, nusB 0], 0⟩ (.exit 0) ⟨ckF 0 ok2, [msB k g f t i e a b s D, nusB 0], 0⟩ }) 300 (ntOf Tryz.prog 41 1) (hdC (tlC (tlC (bodyOf Tryz.prog 41)))) (ckF 0 ok) ([msB k g f t i e a b s D]) 0 [(0, true)] [1, 2, 3] =
  some (.normal, ckF 0 ok2, [msB k g f t i e a b s D, nusB 0], 0, [(cdec (ckL 0 ok 0 = ckL 0 ok 0), true), (cdec ([msB k g f t i e a b s D, nusB 0] = [msB k g f t i e a b s D, nusB 0]), true), (cdec ((0 : Nat) = 0), true), (toldPre (ckT 0 false) 45 [.pointer (some ⟨0, 0, none⟩)] [msB k g f t i e a b s D], true)]) := by kernel_rfl
theorem ck_k1f_0 (k g f t i e a b : Int) (s : ByteArray) (D : Value) (X : Blk) : evL Tryz.prog ext (nmPre (toldPre (ckT 0 false))) (nbC [] [(57, true)] (ckT 0 false)) (noLoops) 300 (ntOf Tryz.prog 41 1) (hdC (tlC (tlC (tlC (bodyOf Tryz.prog 41))))) (ckF 0 false) ([msB k g f t i e a b s D, nusB 0]) 0 [] [1, 2, 3] =
  some (.normal, ckF 0 false, [msB k g f t i e a b s D, nusB 0], 0, [(k == 1, true)]) := by kernel_rfl
theorem ck_k1t_0 (k g f t i e a b : Int) (s : ByteArray) (D : Value) (X : Blk) (u : Bool) : evL Tryz.prog ext (nmPre (toldPre (ckT 0 u))) (nbC [] [(57, true)] (ckT 0 u)) (noLoops) 300 (ntOf Tryz.prog 41 1) (hdC (tlC (tlC (tlC (bodyOf Tryz.prog 41))))) (ckF 0 true) ([msB k g f t i e a b s D, nusB 0]) 0 [(5, true)] [1, 2, 3] =
  some (.normal, ckF 0 u, [msB k g f t i e a b s D, nusB 0], 0, [(toldPre (ckT 0 u) 88 [.string s] [], true), (k == 1, true)]) := by kernel_rfl
theorem ck_k9f_0 (k g f t i e a b : Int) (s : ByteArray) (D : Value) (X : Blk) : evL Tryz.prog ext (nmPre (toldPre (ckT 0 false))) (nbC [] [(57, false), (58, true)] (ckT 0 false)) (noLoops) 300 (ntOf Tryz.prog 41 1) (hdC (tlC (tlC (tlC (bodyOf Tryz.prog 41))))) (ckF 0 false) ([msB k g f t i e a b s D, nusB 0]) 0 [] [1, 2, 3] =
  some (.normal, ckF 0 false, [msB k g f t i e a b s D, nusB 0], 0, [(k == 9, true), (k == 1, false)]) := by kernel_rfl
theorem ck_k9t_0 (k g f t i e a b : Int) (s : ByteArray) (D : Value) (X : Blk) (u : Bool) : evL Tryz.prog ext (nmPre (toldPre (ckT 0 u))) (nbC [] [(57, false), (58, true)] (ckT 0 u)) (noLoops) 300 (ntOf Tryz.prog 41 1) (hdC (tlC (tlC (tlC (bodyOf Tryz.prog 41))))) (ckF 0 true) ([msB k g f t i e a b s D, nusB 0]) 0 [(6, true)] [1, 2, 3] =
  some (.normal, ckF 0 u, [msB k g f t i e a b s D, nusB 0], 0, [(toldPre (ckT 0 u) 88 [.string s] [], true), (k == 9, true), (k == 1, false)]) := by kernel_rfl
theorem ck_k5f_0 (k g f t i e a b : Int) (s : ByteArray) (D : Value) (X : Blk) : evL Tryz.prog ext (nmPre (toldPre (ckT 0 false))) (nbC [] [(57, false), (58, false), (59, true)] (ckT 0 false)) (noLoops) 300 (ntOf Tryz.prog 41 1) (hdC (tlC (tlC (tlC (bodyOf Tryz.prog 41))))) (ckF 0 false) ([msB k g f t i e a b s D, nusB 0]) 0 [] [1, 2, 3] =
  some (.normal, ckF 0 false, [msB k g f t i e a b s D, nusB 0], 0, [(k == 5, true), (k == 9, false), (k == 1, false)]) := by kernel_rfl
theorem ck_k5t_0 (k g f t i e a b : Int) (s : ByteArray) (D : Value) (X : Blk) (u : Bool) : evL Tryz.prog ext (nmPre (toldPre (ckT 0 u))) (nbC [] [(57, false), (58, false), (59, true)] (ckT 0 u)) (noLoops) 300 (ntOf Tryz.prog 41 1) (hdC (tlC (tlC (tlC (bodyOf Tryz.prog 41))))) (ckF 0 true) ([msB k g f t i e a b s D, nusB 0]) 0 [(6, true)] [1, 2, 3] =
  some (.normal, ckF 0 u, [msB k g f t i e a b s D, nusB 0], 0, [(toldPre (ckT 0 u) 88 [.string s] [], true), (k == 5, true), (k == 9, false), (k == 1, false)]) := by kernel_rfl
theorem ck_k0f_0 (k g f t i e a b : Int) (s : ByteArray) (D : Value) (X : Blk) : evL Tryz.prog ext (nmPre (toldPre (ckT 0 false))) (nbC [] [(57, false), (58, false), (59, false)] (ckT 0 false)) (noLoops) 300 (ntOf Tryz.prog 41 1) (hdC (tlC (tlC (tlC (bodyOf Tryz.prog 41))))) (ckF 0 false) ([msB k g f t i e a b s D, nusB 0]) 0 [] [1, 2, 3] =
  some (.normal, ckF 0 false, [msB k g f t i e a b s D, nusB 0], 0, [(k == 5, false), (k == 9, false), (k == 1, false)]) := by kernel_rfl
theorem ck_k0t_0 (k g f t i e a b : Int) (s : ByteArray) (D : Value) (X : Blk) (u : Bool) : evL Tryz.prog ext (nmPre (toldPre (ckT 0 u))) (nbC [] [(57, false), (58, false), (59, false), (54, u)] (ckT 0 u)) (noLoops) 300 (ntOf Tryz.prog 41 1) (hdC (tlC (tlC (tlC (bodyOf Tryz.prog 41))))) (ckF 0 true) ([msB k g f t i e a b s D, nusB 0]) 0 [] [1, 2, 3] =
  some (.normal, ckF 0 u, [msB k g f t i e a b s D, nusB 0], 0, [(s.toList == (ByteArray.mk #[]).toList, u), (k == 5, false), (k == 9, false), (k == 1, false)]) := by kernel_rfl
theorem ck_no_0 (k g f t i e a b : Int) (s : ByteArray) (D : Value) (X : Blk) : evL Tryz.prog ext (nmPre (noPre)) (nbC [] [] (noC)) (noLoops) 300 (ntOf Tryz.prog 41 1) (hdC (tlC (tlC (tlC (tlC (bodyOf Tryz.prog 41)))))) (ckF 0 false) ([msB k g f t i e a b s D, nusB 0]) 0 [] [2] =
  some (.ret, [(2, .int .i64 1)], [msB k g f t i e a b s D, nusB 0], 0, []) := by kernel_rfl
theorem ck_ok_0 (k g f t i e a b : Int) (s : ByteArray) (D : Value) (X : Blk) : evL Tryz.prog ext (nmPre (noPre)) (nbC [] [] (noC)) (noLoops) 300 (ntOf Tryz.prog 41 1) (hdC (tlC (tlC (tlC (tlC (bodyOf Tryz.prog 41)))))) (ckF 0 true) ([msB k g f t i e a b s D, nusB 0]) 0 [] [2] =
  some (.normal, [(2, .int .i64 0)], [msB k g f t i e a b s D, nusB 0], 0, []) := by kernel_rfl
theorem ck_end_0 (k g f t i e a b : Int) (s : ByteArray) (D : Value) (X : Blk) : evL Tryz.prog ext (nmPre (noPre)) (nbC [] [] (noC)) (noLoops) 300 (ntOf Tryz.prog 41 1) (tlC (tlC (tlC (tlC (tlC (bodyOf Tryz.prog 41)))))) ([(2, .int .i64 0)]) ([msB k g f t i e a b s D, nusB 0]) 0 [] [2] =
  some (.ret, [(2, .int .i64 0)], [msB k g f t i e a b s D, nusB 0], 0, []) := by kernel_rfl
theorem ck_r2_1 (k g f t i e a b : Int) (s : ByteArray) (D : Value) (X : Blk) (ok ok2 : Bool) : evL Tryz.prog ext (nmPre (toldPre (ckT 1 false))) (nbC [] [] (ckT 1 false)) ({ loop := sumL 3 ⟨ckL 1 ok 0, [X, msB k g f t i e a b s D, nusB 1], 1⟩ (.exit 0) ⟨ckF 1 ok2, [X, msB k g f t i e a b s D, nusB 1], 1⟩ }) 300 (ntOf Tryz.prog 41 1) (hdC (tlC (tlC (bodyOf Tryz.prog 41)))) (ckF 1 ok) ([X, msB k g f t i e a b s D]) 1 [(0, true)] [1, 2, 3] =
  some (.normal, ckF 1 ok2, [X, msB k g f t i e a b s D, nusB 1], 1, [(cdec (ckL 1 ok 0 = ckL 1 ok 0), true), (cdec ([X, msB k g f t i e a b s D, nusB 1] = [X, msB k g f t i e a b s D, nusB 1]), true), (cdec ((1 : Nat) = 1), true), (toldPre (ckT 1 false) 45 [.pointer (some ⟨1, 0, none⟩)] [X, msB k g f t i e a b s D], true)]) := by kernel_rfl
theorem ck_k1f_1 (k g f t i e a b : Int) (s : ByteArray) (D : Value) (X : Blk) : evL Tryz.prog ext (nmPre (toldPre (ckT 1 false))) (nbC [] [(57, true)] (ckT 1 false)) (noLoops) 300 (ntOf Tryz.prog 41 1) (hdC (tlC (tlC (tlC (bodyOf Tryz.prog 41))))) (ckF 1 false) ([X, msB k g f t i e a b s D, nusB 1]) 1 [] [1, 2, 3] =
  some (.normal, ckF 1 false, [X, msB k g f t i e a b s D, nusB 1], 1, [(k == 1, true)]) := by kernel_rfl
theorem ck_k1t_1 (k g f t i e a b : Int) (s : ByteArray) (D : Value) (X : Blk) (u : Bool) : evL Tryz.prog ext (nmPre (toldPre (ckT 1 u))) (nbC [] [(57, true)] (ckT 1 u)) (noLoops) 300 (ntOf Tryz.prog 41 1) (hdC (tlC (tlC (tlC (bodyOf Tryz.prog 41))))) (ckF 1 true) ([X, msB k g f t i e a b s D, nusB 1]) 1 [(5, true)] [1, 2, 3] =
  some (.normal, ckF 1 u, [X, msB k g f t i e a b s D, nusB 1], 1, [(toldPre (ckT 1 u) 88 [.string s] [], true), (k == 1, true)]) := by kernel_rfl
theorem ck_k9f_1 (k g f t i e a b : Int) (s : ByteArray) (D : Value) (X : Blk) : evL Tryz.prog ext (nmPre (toldPre (ckT 1 false))) (nbC [] [(57, false), (58, true)] (ckT 1 false)) (noLoops) 300 (ntOf Tryz.prog 41 1) (hdC (tlC (tlC (tlC (bodyOf Tryz.prog 41))))) (ckF 1 false) ([X, msB k g f t i e a b s D, nusB 1]) 1 [] [1, 2, 3] =
  some (.normal, ckF 1 false, [X, msB k g f t i e a b s D, nusB 1], 1, [(k == 9, true), (k == 1, false)]) := by kernel_rfl
theorem ck_k9t_1 (k g f t i e a b : Int) (s : ByteArray) (D : Value) (X : Blk) (u : Bool) : evL Tryz.prog ext (nmPre (toldPre (ckT 1 u))) (nbC [] [(57, false), (58, true)] (ckT 1 u)) (noLoops) 300 (ntOf Tryz.prog 41 1) (hdC (tlC (tlC (tlC (bodyOf Tryz.prog 41))))) (ckF 1 true) ([X, msB k g f t i e a b s D, nusB 1]) 1 [(6, true)] [1, 2, 3] =
  some (.normal, ckF 1 u, [X, msB k g f t i e a b s D, nusB 1], 1, [(toldPre (ckT 1 u) 88 [.string s] [], true), (k == 9, true), (k == 1, false)]) := by kernel_rfl
theorem ck_k5f_1 (k g f t i e a b : Int) (s : ByteArray) (D : Value) (X : Blk) : evL Tryz.prog ext (nmPre (toldPre (ckT 1 false))) (nbC [] [(57, false), (58, false), (59, true)] (ckT 1 false)) (noLoops) 300 (ntOf Tryz.prog 41 1) (hdC (tlC (tlC (tlC (bodyOf Tryz.prog 41))))) (ckF 1 false) ([X, msB k g f t i e a b s D, nusB 1]) 1 [] [1, 2, 3] =
  some (.normal, ckF 1 false, [X, msB k g f t i e a b s D, nusB 1], 1, [(k == 5, true), (k == 9, false), (k == 1, false)]) := by kernel_rfl
theorem ck_k5t_1 (k g f t i e a b : Int) (s : ByteArray) (D : Value) (X : Blk) (u : Bool) : evL Tryz.prog ext (nmPre (toldPre (ckT 1 u))) (nbC [] [(57, false), (58, false), (59, true)] (ckT 1 u)) (noLoops) 300 (ntOf Tryz.prog 41 1) (hdC (tlC (tlC (tlC (bodyOf Tryz.prog 41))))) (ckF 1 true) ([X, msB k g f t i e a b s D, nusB 1]) 1 [(6, true)] [1, 2, 3] =
  some (.normal, ckF 1 u, [X, msB k g f t i e a b s D, nusB 1], 1, [(toldPre (ckT 1 u) 88 [.string s] [], true), (k == 5, true), (k == 9, false), (k == 1, false)]) := by kernel_rfl
theorem ck_k0f_1 (k g f t i e a b : Int) (s : ByteArray) (D : Value) (X : Blk) : evL Tryz.prog ext (nmPre (toldPre (ckT 1 false))) (nbC [] [(57, false), (58, false), (59, false)] (ckT 1 false)) (noLoops) 300 (ntOf Tryz.prog 41 1) (hdC (tlC (tlC (tlC (bodyOf Tryz.prog 41))))) (ckF 1 false) ([X, msB k g f t i e a b s D, nusB 1]) 1 [] [1, 2, 3] =
  some (.normal, ckF 1 false, [X, msB k g f t i e a b s D, nusB 1], 1, [(k == 5, false), (k == 9, false), (k == 1, false)]) := by kernel_rfl
theorem ck_k0t_1 (k g f t i e a b : Int) (s : ByteArray) (D : Value) (X : Blk) (u : Bool) : evL Tryz.prog ext (nmPre (toldPre (ckT 1 u))) (nbC [] [(57, false), (58, false), (59, false), (54, u)] (ckT 1 u)) (noLoops) 300 (ntOf Tryz.prog 41 1) (hdC (tlC (tlC (tlC (bodyOf Tryz.prog 41))))) (ckF 1 true) ([X, msB k g f t i e a b s D, nusB 1]) 1 [] [1, 2, 3] =
  some (.normal, ckF 1 u, [X, msB k g f t i e a b s D, nusB 1], 1, [(s.toList == (ByteArray.mk #[]).toList, u), (k == 5, false), (k == 9, false), (k == 1, false)]) := by kernel_rfl
theorem ck_no_1 (k g f t i e a b : Int) (s : ByteArray) (D : Value) (X : Blk) : evL Tryz.prog ext (nmPre (noPre)) (nbC [] [] (noC)) (noLoops) 300 (ntOf Tryz.prog 41 1) (hdC (tlC (tlC (tlC (tlC (bodyOf Tryz.prog 41)))))) (ckF 1 false) ([X, msB k g f t i e a b s D, nusB 1]) 1 [] [2] =
  some (.ret, [(2, .int .i64 1)], [X, msB k g f t i e a b s D, nusB 1], 1, []) := by kernel_rfl
theorem ck_ok_1 (k g f t i e a b : Int) (s : ByteArray) (D : Value) (X : Blk) : evL Tryz.prog ext (nmPre (noPre)) (nbC [] [] (noC)) (noLoops) 300 (ntOf Tryz.prog 41 1) (hdC (tlC (tlC (tlC (tlC (bodyOf Tryz.prog 41)))))) (ckF 1 true) ([X, msB k g f t i e a b s D, nusB 1]) 1 [] [2] =
  some (.normal, [(2, .int .i64 0)], [X, msB k g f t i e a b s D, nusB 1], 1, []) := by kernel_rfl
theorem ck_end_1 (k g f t i e a b : Int) (s : ByteArray) (D : Value) (X : Blk) : evL Tryz.prog ext (nmPre (noPre)) (nbC [] [] (noC)) (noLoops) 300 (ntOf Tryz.prog 41 1) (tlC (tlC (tlC (tlC (tlC (bodyOf Tryz.prog 41)))))) ([(2, .int .i64 0)]) ([X, msB k g f t i e a b s D, nusB 1]) 1 [] [2] =
  some (.ret, [(2, .int .i64 0)], [X, msB k g f t i e a b s D, nusB 1], 1, []) := by kernel_rfl
end Go.Proofs.YtpgmabpaiijipaaGreatDoor
namespace Go.Proofs.YtpgmabpaiijipaaGreatDoor
open Go Den
set_option maxRecDepth 100000
set_option linter.unusedSimpArgs false
set_option linter.unusedVariables false
def inR (q : Int) : Bool := decide (q ≥ 0) && decide (q ≤ 1073741824)
def okA (k : Int) (n : Nat) : Bool := decide (k ≥ 1) && (decide (k ≤ 15) && (decide ((n : Int) ≤ 64) && ((k == 13) == decide ((n : Int) > 0))))
def numL (g f t i e a b : Int) : Nat → Int
  | 0 => g | 1 => f | 2 => t | 3 => i | 4 => e | 5 => a | 6 => b | _ => 0
def okS (g f t i e a b : Int) (ok : Bool) : Nat → Bool
  | 0 => ok
  | j + 1 => okS g f t i e a b ok j && inR (numL g f t i e a b j)
noncomputable def okK (k : Int) (s : ByteArray) : Bool := bif (k == 1) || ((k == 9) || (k == 5)) then nmB s else s.toList == (ByteArray.mk #[]).toList
noncomputable def chkB (k g f t i e a b : Int) (s : ByteArray) (n : Nat) : Bool := okS g f t i e a b (okA k n) 7 && okK k s
theorem ck_name {u : Bool} {s : ByteArray} (m : Nat) (hs : s.size ≤ 9223372036854770000) (hu : nmB s = u) : toldPre (ckT m u) 88 [.string s] [] = true := by
  unfold toldPre
  simp only [ckT]
  exact cdec_iff.2 (hu ▸ name_ok0 hs)
theorem ck_nums_0 (k g f t i e a b : Int) (s : ByteArray) (D : Value) (X : Blk) : evFnL Tryz.prog ext 300 noPre noC noLoops [] 45 [.pointer (some ⟨0, 0, none⟩)] [msB k g f t i e a b s D] =
  some ((nusV 0, [msB k g f t i e a b s D] ++ [nusB 0], 1), []) := by kernel_rfl
theorem nums_ok_0 {k g f t i e a b : Int} {s : ByteArray} {D : Value} {X : Blk} : CallOk Tryz.prog 45 [.pointer (some ⟨0, 0, none⟩)] [msB k g f t i e a b s D] (nusV 0) ([msB k g f t i e a b s D] ++ [nusB 0]) 1 :=
  fnL_ok progOk extSound noC_sound noLoops_ok (ck_nums_0 k g f t i e a b s D X) (by simp [Holds])
theorem r1_ok_0 {k g f t i e a b : Int} {s : ByteArray} {p : Option Addr} {n c : Nat} {X : Blk} : WP Tryz.prog (ntOf Tryz.prog 41 1) (hdC (tlC (bodyOf Tryz.prog 41))) ⟨[(1, .pointer (some ⟨0, 0, none⟩)), (2, .int .i64 0)], [msB k g f t i e a b s (.slice p n c)], 0⟩ .normal ⟨ckF 0 (okA k n), [msB k g f t i e a b s (.slice p n c)], 0⟩ := by
  by_cases h1 : k ≥ 1
  · by_cases h2 : k ≤ 15
    · by_cases h3 : (n : Int) ≤ 64
      · have e0 : okA k n = ((k == 13) == decide ((n : Int) > 0)) := by simp only [okA, h1, h2, h3, decide_true, Bool.true_and]
        rw [e0]
        exact WP.run progOk extSound (nb_sound _ _ noC_sound) (by kernel_rfl) (LoopsOk.none (by kernel_rfl)) [1, 2, 3] (ck_r1d_0 k g f t i e a b s p n c X (k == 13) (decide ((n : Int) > 0))) (by simp [Holds, h1, h2]; omega)
      · have e0 : okA k n = false := by simp only [okA, h3, decide_false, Bool.false_and, Bool.and_false]
        rw [e0]
        exact WP.run progOk extSound (nb_sound _ _ noC_sound) (by kernel_rfl) (LoopsOk.none (by kernel_rfl)) [1, 2, 3] (ck_r1c_0 k g f t i e a b s p n c X) (by simp [Holds]; omega)
    · have e0 : okA k n = false := by simp only [okA, h2, decide_false, Bool.false_and, Bool.and_false]
      rw [e0]
      exact WP.run progOk extSound (nb_sound _ _ noC_sound) (by kernel_rfl) (LoopsOk.none (by kernel_rfl)) [1, 2, 3] (ck_r1b_0 k g f t i e a b s p n c X) (by simp [Holds]; omega)
  · have e0 : okA k n = false := by simp only [okA, h1, decide_false, Bool.false_and, Bool.and_false]
    rw [e0]
    exact WP.run progOk extSound (nb_sound _ _ noC_sound) (by kernel_rfl) (LoopsOk.none (by kernel_rfl)) [1, 2, 3] (ck_r1a_0 k g f t i e a b s p n c X) (by simp [Holds]; omega)
theorem l0_ok_0 {k g f t i e a b : Int} {s : ByteArray} {D : Value} {X : Blk} (ok : Bool) : WP Tryz.prog (ntOf Tryz.prog 41 1) (loopAt Tryz.prog 41 0) ⟨ckL 0 ok 0, [msB k g f t i e a b s D, nusB 0], 0⟩ .normal ⟨ckL 0 (ok && inR g) 1, [msB k g f t i e a b s D, nusB 0], 0⟩ := by
  cases ok with
  | false => exact WP.run progOk extSound (nb_sound _ _ noC_sound) (by kernel_rfl) (LoopsOk.none (by kernel_rfl)) [1, 2, 3, 30, 31] (ck_l0f_0 k g f t i e a b s D X) (by simp [Holds])
  | true =>
    by_cases h : g ≥ 0
    · have e0 : (true && inR g) = decide (g ≤ 1073741824) := by simp [inR, h]
      rw [e0]
      exact WP.run progOk extSound (nb_sound _ _ noC_sound) (by kernel_rfl) (LoopsOk.none (by kernel_rfl)) [1, 2, 3, 30, 31] (ck_l0y_0 k g f t i e a b s D X (decide (g ≤ 1073741824))) (by simp [Holds, h])
    · have e0 : (true && inR g) = false := by simp [inR, h]
      rw [e0]
      exact WP.run progOk extSound (nb_sound _ _ noC_sound) (by kernel_rfl) (LoopsOk.none (by kernel_rfl)) [1, 2, 3, 30, 31] (ck_l0n_0 k g f t i e a b s D X) (by simp [Holds]; omega)
theorem l1_ok_0 {k g f t i e a b : Int} {s : ByteArray} {D : Value} {X : Blk} (ok : Bool) : WP Tryz.prog (ntOf Tryz.prog 41 1) (loopAt Tryz.prog 41 0) ⟨ckL 0 ok 1, [msB k g f t i e a b s D, nusB 0], 0⟩ .normal ⟨ckL 0 (ok && inR f) 2, [msB k g f t i e a b s D, nusB 0], 0⟩ := by
  cases ok with
  | false => exact WP.run progOk extSound (nb_sound _ _ noC_sound) (by kernel_rfl) (LoopsOk.none (by kernel_rfl)) [1, 2, 3, 30, 31] (ck_l1f_0 k g f t i e a b s D X) (by simp [Holds])
  | true =>
    by_cases h : f ≥ 0
    · have e0 : (true && inR f) = decide (f ≤ 1073741824) := by simp [inR, h]
      rw [e0]
      exact WP.run progOk extSound (nb_sound _ _ noC_sound) (by kernel_rfl) (LoopsOk.none (by kernel_rfl)) [1, 2, 3, 30, 31] (ck_l1y_0 k g f t i e a b s D X (decide (f ≤ 1073741824))) (by simp [Holds, h])
    · have e0 : (true && inR f) = false := by simp [inR, h]
      rw [e0]
      exact WP.run progOk extSound (nb_sound _ _ noC_sound) (by kernel_rfl) (LoopsOk.none (by kernel_rfl)) [1, 2, 3, 30, 31] (ck_l1n_0 k g f t i e a b s D X) (by simp [Holds]; omega)
theorem l2_ok_0 {k g f t i e a b : Int} {s : ByteArray} {D : Value} {X : Blk} (ok : Bool) : WP Tryz.prog (ntOf Tryz.prog 41 1) (loopAt Tryz.prog 41 0) ⟨ckL 0 ok 2, [msB k g f t i e a b s D, nusB 0], 0⟩ .normal ⟨ckL 0 (ok && inR t) 3, [msB k g f t i e a b s D, nusB 0], 0⟩ := by
  cases ok with
  | false => exact WP.run progOk extSound (nb_sound _ _ noC_sound) (by kernel_rfl) (LoopsOk.none (by kernel_rfl)) [1, 2, 3, 30, 31] (ck_l2f_0 k g f t i e a b s D X) (by simp [Holds])
  | true =>
    by_cases h : t ≥ 0
    · have e0 : (true && inR t) = decide (t ≤ 1073741824) := by simp [inR, h]
      rw [e0]
      exact WP.run progOk extSound (nb_sound _ _ noC_sound) (by kernel_rfl) (LoopsOk.none (by kernel_rfl)) [1, 2, 3, 30, 31] (ck_l2y_0 k g f t i e a b s D X (decide (t ≤ 1073741824))) (by simp [Holds, h])
    · have e0 : (true && inR t) = false := by simp [inR, h]
      rw [e0]
      exact WP.run progOk extSound (nb_sound _ _ noC_sound) (by kernel_rfl) (LoopsOk.none (by kernel_rfl)) [1, 2, 3, 30, 31] (ck_l2n_0 k g f t i e a b s D X) (by simp [Holds]; omega)
theorem l3_ok_0 {k g f t i e a b : Int} {s : ByteArray} {D : Value} {X : Blk} (ok : Bool) : WP Tryz.prog (ntOf Tryz.prog 41 1) (loopAt Tryz.prog 41 0) ⟨ckL 0 ok 3, [msB k g f t i e a b s D, nusB 0], 0⟩ .normal ⟨ckL 0 (ok && inR i) 4, [msB k g f t i e a b s D, nusB 0], 0⟩ := by
  cases ok with
  | false => exact WP.run progOk extSound (nb_sound _ _ noC_sound) (by kernel_rfl) (LoopsOk.none (by kernel_rfl)) [1, 2, 3, 30, 31] (ck_l3f_0 k g f t i e a b s D X) (by simp [Holds])
  | true =>
    by_cases h : i ≥ 0
    · have e0 : (true && inR i) = decide (i ≤ 1073741824) := by simp [inR, h]
      rw [e0]
      exact WP.run progOk extSound (nb_sound _ _ noC_sound) (by kernel_rfl) (LoopsOk.none (by kernel_rfl)) [1, 2, 3, 30, 31] (ck_l3y_0 k g f t i e a b s D X (decide (i ≤ 1073741824))) (by simp [Holds, h])
    · have e0 : (true && inR i) = false := by simp [inR, h]
      rw [e0]
      exact WP.run progOk extSound (nb_sound _ _ noC_sound) (by kernel_rfl) (LoopsOk.none (by kernel_rfl)) [1, 2, 3, 30, 31] (ck_l3n_0 k g f t i e a b s D X) (by simp [Holds]; omega)
theorem l4_ok_0 {k g f t i e a b : Int} {s : ByteArray} {D : Value} {X : Blk} (ok : Bool) : WP Tryz.prog (ntOf Tryz.prog 41 1) (loopAt Tryz.prog 41 0) ⟨ckL 0 ok 4, [msB k g f t i e a b s D, nusB 0], 0⟩ .normal ⟨ckL 0 (ok && inR e) 5, [msB k g f t i e a b s D, nusB 0], 0⟩ := by
  cases ok with
  | false => exact WP.run progOk extSound (nb_sound _ _ noC_sound) (by kernel_rfl) (LoopsOk.none (by kernel_rfl)) [1, 2, 3, 30, 31] (ck_l4f_0 k g f t i e a b s D X) (by simp [Holds])
  | true =>
    by_cases h : e ≥ 0
    · have e0 : (true && inR e) = decide (e ≤ 1073741824) := by simp [inR, h]
      rw [e0]
      exact WP.run progOk extSound (nb_sound _ _ noC_sound) (by kernel_rfl) (LoopsOk.none (by kernel_rfl)) [1, 2, 3, 30, 31] (ck_l4y_0 k g f t i e a b s D X (decide (e ≤ 1073741824))) (by simp [Holds, h])
    · have e0 : (true && inR e) = false := by simp [inR, h]
      rw [e0]
      exact WP.run progOk extSound (nb_sound _ _ noC_sound) (by kernel_rfl) (LoopsOk.none (by kernel_rfl)) [1, 2, 3, 30, 31] (ck_l4n_0 k g f t i e a b s D X) (by simp [Holds]; omega)
theorem l5_ok_0 {k g f t i e a b : Int} {s : ByteArray} {D : Value} {X : Blk} (ok : Bool) : WP Tryz.prog (ntOf Tryz.prog 41 1) (loopAt Tryz.prog 41 0) ⟨ckL 0 ok 5, [msB k g f t i e a b s D, nusB 0], 0⟩ .normal ⟨ckL 0 (ok && inR a) 6, [msB k g f t i e a b s D, nusB 0], 0⟩ := by
  cases ok with
  | false => exact WP.run progOk extSound (nb_sound _ _ noC_sound) (by kernel_rfl) (LoopsOk.none (by kernel_rfl)) [1, 2, 3, 30, 31] (ck_l5f_0 k g f t i e a b s D X) (by simp [Holds])
  | true =>
    by_cases h : a ≥ 0
    · have e0 : (true && inR a) = decide (a ≤ 1073741824) := by simp [inR, h]
      rw [e0]
      exact WP.run progOk extSound (nb_sound _ _ noC_sound) (by kernel_rfl) (LoopsOk.none (by kernel_rfl)) [1, 2, 3, 30, 31] (ck_l5y_0 k g f t i e a b s D X (decide (a ≤ 1073741824))) (by simp [Holds, h])
    · have e0 : (true && inR a) = false := by simp [inR, h]
      rw [e0]
      exact WP.run progOk extSound (nb_sound _ _ noC_sound) (by kernel_rfl) (LoopsOk.none (by kernel_rfl)) [1, 2, 3, 30, 31] (ck_l5n_0 k g f t i e a b s D X) (by simp [Holds]; omega)
theorem l6_ok_0 {k g f t i e a b : Int} {s : ByteArray} {D : Value} {X : Blk} (ok : Bool) : WP Tryz.prog (ntOf Tryz.prog 41 1) (loopAt Tryz.prog 41 0) ⟨ckL 0 ok 6, [msB k g f t i e a b s D, nusB 0], 0⟩ .normal ⟨ckL 0 (ok && inR b) 7, [msB k g f t i e a b s D, nusB 0], 0⟩ := by
  cases ok with
  | false => exact WP.run progOk extSound (nb_sound _ _ noC_sound) (by kernel_rfl) (LoopsOk.none (by kernel_rfl)) [1, 2, 3, 30, 31] (ck_l6f_0 k g f t i e a b s D X) (by simp [Holds])
  | true =>
    by_cases h : b ≥ 0
    · have e0 : (true && inR b) = decide (b ≤ 1073741824) := by simp [inR, h]
      rw [e0]
      exact WP.run progOk extSound (nb_sound _ _ noC_sound) (by kernel_rfl) (LoopsOk.none (by kernel_rfl)) [1, 2, 3, 30, 31] (ck_l6y_0 k g f t i e a b s D X (decide (b ≤ 1073741824))) (by simp [Holds, h])
    · have e0 : (true && inR b) = false := by simp [inR, h]
      rw [e0]
      exact WP.run progOk extSound (nb_sound _ _ noC_sound) (by kernel_rfl) (LoopsOk.none (by kernel_rfl)) [1, 2, 3, 30, 31] (ck_l6n_0 k g f t i e a b s D X) (by simp [Holds]; omega)
theorem lp_ok_0 {k g f t i e a b : Int} {s : ByteArray} {D : Value} {X : Blk} (ok : Bool) : WP Tryz.prog (ntOf Tryz.prog 41 1) (.loop (loopAt Tryz.prog 41 0)) ⟨ckL 0 ok 0, [msB k g f t i e a b s D, nusB 0], 0⟩ (.exit 0) ⟨ckF 0 (okS g f t i e a b ok 7), [msB k g f t i e a b s D, nusB 0], 0⟩ := by
  refine WP.loop (P := Tryz.prog) (nt := (ntOf Tryz.prog 41 1)) (b := (loopAt Tryz.prog 41 0)) (fun j => ⟨ckL 0 (okS g f t i e a b ok j) (j : Nat), [msB k g f t i e a b s D, nusB 0], 0⟩) 7 (x := .exit 0) (by simp) ?_ (WP.run progOk extSound (nb_sound _ _ noC_sound) (by kernel_rfl) (LoopsOk.none (by kernel_rfl)) [1, 2, 3] (ck_out_0 k g f t i e a b s D X _) (by simp [Holds]))
  intro j hj
  match j, hj with
  | 0, _ => exact l0_ok_0 (X := X) _
  | 1, _ => exact l1_ok_0 (X := X) _
  | 2, _ => exact l2_ok_0 (X := X) _
  | 3, _ => exact l3_ok_0 (X := X) _
  | 4, _ => exact l4_ok_0 (X := X) _
  | 5, _ => exact l5_ok_0 (X := X) _
  | 6, _ => exact l6_ok_0 (X := X) _
  | n + 7, h => omega
theorem r2_ok_0 {k g f t i e a b : Int} {s : ByteArray} {D : Value} {X : Blk} (ok : Bool) : WP Tryz.prog (ntOf Tryz.prog 41 1) (hdC (tlC (tlC (bodyOf Tryz.prog 41)))) ⟨ckF 0 ok, [msB k g f t i e a b s D], 0⟩ .normal ⟨ckF 0 (okS g f t i e a b ok 7), [msB k g f t i e a b s D, nusB 0], 0⟩ := by
  refine WP.run progOk extSound (nb_sound _ _ (toldPre_sound _)) (by kernel_rfl) (LoopsOk.sum (hL := rfl) ?_) [1, 2, 3] (ck_r2_0 k g f t i e a b s D X ok (okS g f t i e a b ok 7)) ?_
  · intro b' hb' _
    have hl : loopsOf (hdC (tlC (tlC (bodyOf Tryz.prog 41)))) = [loopAt Tryz.prog 41 0] := by kernel_rfl
    rw [hl] at hb'
    simp only [List.mem_singleton] at hb'
    subst hb'
    exact lp_ok_0 (X := X) ok
  · intro q hq
    simp only [List.mem_cons, List.not_mem_nil, or_false] at hq
    rcases hq with rfl | rfl | rfl | rfl
    · simp [cdec]
    · simp [cdec]
    · simp [cdec]
    · refine tok ?_
      unfold toldPre
      exact cdec_iff.2 (nums_ok_0 (X := X))
theorem rk_ok_0 {k g f t i e a b : Int} {s : ByteArray} {D : Value} {X : Blk} (hs : s.size ≤ 9223372036854770000) (ok : Bool) : WP Tryz.prog (ntOf Tryz.prog 41 1) (hdC (tlC (tlC (tlC (bodyOf Tryz.prog 41))))) ⟨ckF 0 ok, [msB k g f t i e a b s D, nusB 0], 0⟩ .normal ⟨ckF 0 (ok && okK k s), [msB k g f t i e a b s D, nusB 0], 0⟩ := by
  by_cases h1 : k = 1
  · have b1 : (k == 1) = true := by simp [h1]
    cases ok with
    | false => exact WP.run progOk extSound (nb_sound _ _ (toldPre_sound _)) (by kernel_rfl) (LoopsOk.none (by kernel_rfl)) [1, 2, 3] (ck_k1f_0 k g f t i e a b s D X) (by simp [Holds, b1])
    | true =>
      have e0 : (true && okK k s) = nmB s := by simp [okK, b1]
      rw [e0]
      refine WP.run progOk extSound (nb_sound _ _ (toldPre_sound _)) (by kernel_rfl) (LoopsOk.none (by kernel_rfl)) [1, 2, 3] (ck_k1t_0 k g f t i e a b s D X (nmB s)) ?_
      intro q hq
      simp only [List.mem_cons, List.not_mem_nil, or_false] at hq
      rcases hq with rfl | rfl
      · exact tok (ck_name _ hs rfl)
      · simp [b1]
  · have b1 : (k == 1) = false := by simpa using h1
    by_cases h9 : k = 9
    · have b9 : (k == 9) = true := by simp [h9]
      cases ok with
      | false => exact WP.run progOk extSound (nb_sound _ _ (toldPre_sound _)) (by kernel_rfl) (LoopsOk.none (by kernel_rfl)) [1, 2, 3] (ck_k9f_0 k g f t i e a b s D X) (by simp [Holds, b1, b9])
      | true =>
        have e0 : (true && okK k s) = nmB s := by simp [okK, b1, b9]
        rw [e0]
        refine WP.run progOk extSound (nb_sound _ _ (toldPre_sound _)) (by kernel_rfl) (LoopsOk.none (by kernel_rfl)) [1, 2, 3] (ck_k9t_0 k g f t i e a b s D X (nmB s)) ?_
        intro q hq
        simp only [List.mem_cons, List.not_mem_nil, or_false] at hq
        rcases hq with rfl | rfl | rfl
        · exact tok (ck_name _ hs rfl)
        · simp [b1, b9]
        · simp [b1, b9]
    · have b9 : (k == 9) = false := by simpa using h9
      by_cases h5 : k = 5
      · have b5 : (k == 5) = true := by simp [h5]
        cases ok with
        | false => exact WP.run progOk extSound (nb_sound _ _ (toldPre_sound _)) (by kernel_rfl) (LoopsOk.none (by kernel_rfl)) [1, 2, 3] (ck_k5f_0 k g f t i e a b s D X) (by simp [Holds, b1, b9, b5])
        | true =>
          have e0 : (true && okK k s) = nmB s := by simp [okK, b1, b9, b5]
          rw [e0]
          refine WP.run progOk extSound (nb_sound _ _ (toldPre_sound _)) (by kernel_rfl) (LoopsOk.none (by kernel_rfl)) [1, 2, 3] (ck_k5t_0 k g f t i e a b s D X (nmB s)) ?_
          intro q hq
          simp only [List.mem_cons, List.not_mem_nil, or_false] at hq
          rcases hq with rfl | rfl | rfl | rfl
          · exact tok (ck_name _ hs rfl)
          · simp [b1, b9, b5]
          · simp [b1, b9, b5]
          · simp [b1, b9, b5]
      · have b5 : (k == 5) = false := by simpa using h5
        cases ok with
        | false => exact WP.run progOk extSound (nb_sound _ _ (toldPre_sound _)) (by kernel_rfl) (LoopsOk.none (by kernel_rfl)) [1, 2, 3] (ck_k0f_0 k g f t i e a b s D X) (by simp [Holds, b1, b9, b5])
        | true =>
          have e0 : (true && okK k s) = (s.toList == (ByteArray.mk #[]).toList) := by simp [okK, b1, b9, b5]
          rw [e0]
          exact WP.run progOk extSound (nb_sound _ _ (toldPre_sound _)) (by kernel_rfl) (LoopsOk.none (by kernel_rfl)) [1, 2, 3] (ck_k0t_0 k g f t i e a b s D X _) (by simp [Holds, b1, b9, b5])
theorem check_msg_0 {k g f t i e a b : Int} {s : ByteArray} {p : Option Addr} {n c : Nat} {X : Blk} (hs : s.size ≤ 9223372036854770000) : CallOk Tryz.prog 41 [msA k g f t i e a b s (.slice p n c)] [] (.int .i64 (bif chkB k g f t i e a b s n then 0 else 1)) [msB k g f t i e a b s (.slice p n c), nusB 0] 0 := by
  have hk := rk_ok_0 (k := k) (g := g) (f := f) (t := t) (i := i) (e := e) (a := a) (b := b) (D := .slice p n c) (X := X) hs (okS g f t i e a b (okA k n) 7)
  have hr := r2_ok_0 (k := k) (g := g) (f := f) (t := t) (i := i) (e := e) (a := a) (b := b) (s := s) (D := .slice p n c) (X := X) (okA k n)
  have h1 := r1_ok_0 (k := k) (g := g) (f := f) (t := t) (i := i) (e := e) (a := a) (b := b) (s := s) (p := p) (n := n) (c := c) (X := X)
  have h0 : WP Tryz.prog (ntOf Tryz.prog 41 1) (hdC (bodyOf Tryz.prog 41)) ⟨Den.start 0 [msA k g f t i e a b s (.slice p n c)], [], 0⟩ .normal ⟨[(1, .pointer (some ⟨0, 0, none⟩)), (2, .int .i64 0)], [msB k g f t i e a b s (.slice p n c)], 0⟩ := WP.run progOk extSound (nb_sound _ _ noC_sound) (by kernel_rfl) (LoopsOk.none (by kernel_rfl)) [1, 2] (ck_r0_0 k g f t i e a b s p n c X) (by simp [Holds])
  change WP _ _ _ _ _ ⟨ckF 0 (chkB k g f t i e a b s n), _, _⟩ at hk
  revert hk
  generalize chkB k g f t i e a b s n = u
  intro hk
  cases u with
  | true => exact CallOk.walk (f := 41) (n := 1) (by kernel_rfl) rfl (WP.cut (by kernel_rfl) h0 (WP.cut (by kernel_rfl) h1 (WP.cut (by kernel_rfl) hr (WP.cut (by kernel_rfl) hk (WP.cut (by kernel_rfl) (WP.run progOk extSound (nb_sound _ _ noC_sound) (by kernel_rfl) (LoopsOk.none (by kernel_rfl)) [2] (ck_ok_0 k g f t i e a b s (.slice p n c) X) (by simp [Holds])) (WP.run progOk extSound (nb_sound _ _ noC_sound) (by kernel_rfl) (LoopsOk.none (by kernel_rfl)) [2] (ck_end_0 k g f t i e a b s (.slice p n c) X) (by simp [Holds]))))))) (.inr rfl) (by kernel_rfl)
  | false => exact CallOk.walk (f := 41) (n := 1) (by kernel_rfl) rfl (WP.cut (by kernel_rfl) h0 (WP.cut (by kernel_rfl) h1 (WP.cut (by kernel_rfl) hr (WP.cut (by kernel_rfl) hk (WP.cut_out (by kernel_rfl) (by simp) (WP.run progOk extSound (nb_sound _ _ noC_sound) (by kernel_rfl) (LoopsOk.none (by kernel_rfl)) [2] (ck_no_0 k g f t i e a b s (.slice p n c) X) (by simp [Holds]))))))) (.inr rfl) (by kernel_rfl)
theorem ck_nums_1 (k g f t i e a b : Int) (s : ByteArray) (D : Value) (X : Blk) : evFnL Tryz.prog ext 300 noPre noC noLoops [] 45 [.pointer (some ⟨1, 0, none⟩)] [X, msB k g f t i e a b s D] =
  some ((nusV 1, [X, msB k g f t i e a b s D] ++ [nusB 1], 2), []) := by kernel_rfl
theorem nums_ok_1 {k g f t i e a b : Int} {s : ByteArray} {D : Value} {X : Blk} : CallOk Tryz.prog 45 [.pointer (some ⟨1, 0, none⟩)] [X, msB k g f t i e a b s D] (nusV 1) ([X, msB k g f t i e a b s D] ++ [nusB 1]) 2 :=
  fnL_ok progOk extSound noC_sound noLoops_ok (ck_nums_1 k g f t i e a b s D X) (by simp [Holds])
theorem r1_ok_1 {k g f t i e a b : Int} {s : ByteArray} {p : Option Addr} {n c : Nat} {X : Blk} : WP Tryz.prog (ntOf Tryz.prog 41 1) (hdC (tlC (bodyOf Tryz.prog 41))) ⟨[(1, .pointer (some ⟨1, 0, none⟩)), (2, .int .i64 0)], [X, msB k g f t i e a b s (.slice p n c)], 1⟩ .normal ⟨ckF 1 (okA k n), [X, msB k g f t i e a b s (.slice p n c)], 1⟩ := by
  by_cases h1 : k ≥ 1
  · by_cases h2 : k ≤ 15
    · by_cases h3 : (n : Int) ≤ 64
      · have e0 : okA k n = ((k == 13) == decide ((n : Int) > 0)) := by simp only [okA, h1, h2, h3, decide_true, Bool.true_and]
        rw [e0]
        exact WP.run progOk extSound (nb_sound _ _ noC_sound) (by kernel_rfl) (LoopsOk.none (by kernel_rfl)) [1, 2, 3] (ck_r1d_1 k g f t i e a b s p n c X (k == 13) (decide ((n : Int) > 0))) (by simp [Holds, h1, h2]; omega)
      · have e0 : okA k n = false := by simp only [okA, h3, decide_false, Bool.false_and, Bool.and_false]
        rw [e0]
        exact WP.run progOk extSound (nb_sound _ _ noC_sound) (by kernel_rfl) (LoopsOk.none (by kernel_rfl)) [1, 2, 3] (ck_r1c_1 k g f t i e a b s p n c X) (by simp [Holds]; omega)
    · have e0 : okA k n = false := by simp only [okA, h2, decide_false, Bool.false_and, Bool.and_false]
      rw [e0]
      exact WP.run progOk extSound (nb_sound _ _ noC_sound) (by kernel_rfl) (LoopsOk.none (by kernel_rfl)) [1, 2, 3] (ck_r1b_1 k g f t i e a b s p n c X) (by simp [Holds]; omega)
  · have e0 : okA k n = false := by simp only [okA, h1, decide_false, Bool.false_and, Bool.and_false]
    rw [e0]
    exact WP.run progOk extSound (nb_sound _ _ noC_sound) (by kernel_rfl) (LoopsOk.none (by kernel_rfl)) [1, 2, 3] (ck_r1a_1 k g f t i e a b s p n c X) (by simp [Holds]; omega)
theorem l0_ok_1 {k g f t i e a b : Int} {s : ByteArray} {D : Value} {X : Blk} (ok : Bool) : WP Tryz.prog (ntOf Tryz.prog 41 1) (loopAt Tryz.prog 41 0) ⟨ckL 1 ok 0, [X, msB k g f t i e a b s D, nusB 1], 1⟩ .normal ⟨ckL 1 (ok && inR g) 1, [X, msB k g f t i e a b s D, nusB 1], 1⟩ := by
  cases ok with
  | false => exact WP.run progOk extSound (nb_sound _ _ noC_sound) (by kernel_rfl) (LoopsOk.none (by kernel_rfl)) [1, 2, 3, 30, 31] (ck_l0f_1 k g f t i e a b s D X) (by simp [Holds])
  | true =>
    by_cases h : g ≥ 0
    · have e0 : (true && inR g) = decide (g ≤ 1073741824) := by simp [inR, h]
      rw [e0]
      exact WP.run progOk extSound (nb_sound _ _ noC_sound) (by kernel_rfl) (LoopsOk.none (by kernel_rfl)) [1, 2, 3, 30, 31] (ck_l0y_1 k g f t i e a b s D X (decide (g ≤ 1073741824))) (by simp [Holds, h])
    · have e0 : (true && inR g) = false := by simp [inR, h]
      rw [e0]
      exact WP.run progOk extSound (nb_sound _ _ noC_sound) (by kernel_rfl) (LoopsOk.none (by kernel_rfl)) [1, 2, 3, 30, 31] (ck_l0n_1 k g f t i e a b s D X) (by simp [Holds]; omega)
theorem l1_ok_1 {k g f t i e a b : Int} {s : ByteArray} {D : Value} {X : Blk} (ok : Bool) : WP Tryz.prog (ntOf Tryz.prog 41 1) (loopAt Tryz.prog 41 0) ⟨ckL 1 ok 1, [X, msB k g f t i e a b s D, nusB 1], 1⟩ .normal ⟨ckL 1 (ok && inR f) 2, [X, msB k g f t i e a b s D, nusB 1], 1⟩ := by
  cases ok with
  | false => exact WP.run progOk extSound (nb_sound _ _ noC_sound) (by kernel_rfl) (LoopsOk.none (by kernel_rfl)) [1, 2, 3, 30, 31] (ck_l1f_1 k g f t i e a b s D X) (by simp [Holds])
  | true =>
    by_cases h : f ≥ 0
    · have e0 : (true && inR f) = decide (f ≤ 1073741824) := by simp [inR, h]
      rw [e0]
      exact WP.run progOk extSound (nb_sound _ _ noC_sound) (by kernel_rfl) (LoopsOk.none (by kernel_rfl)) [1, 2, 3, 30, 31] (ck_l1y_1 k g f t i e a b s D X (decide (f ≤ 1073741824))) (by simp [Holds, h])
    · have e0 : (true && inR f) = false := by simp [inR, h]
      rw [e0]
      exact WP.run progOk extSound (nb_sound _ _ noC_sound) (by kernel_rfl) (LoopsOk.none (by kernel_rfl)) [1, 2, 3, 30, 31] (ck_l1n_1 k g f t i e a b s D X) (by simp [Holds]; omega)
theorem l2_ok_1 {k g f t i e a b : Int} {s : ByteArray} {D : Value} {X : Blk} (ok : Bool) : WP Tryz.prog (ntOf Tryz.prog 41 1) (loopAt Tryz.prog 41 0) ⟨ckL 1 ok 2, [X, msB k g f t i e a b s D, nusB 1], 1⟩ .normal ⟨ckL 1 (ok && inR t) 3, [X, msB k g f t i e a b s D, nusB 1], 1⟩ := by
  cases ok with
  | false => exact WP.run progOk extSound (nb_sound _ _ noC_sound) (by kernel_rfl) (LoopsOk.none (by kernel_rfl)) [1, 2, 3, 30, 31] (ck_l2f_1 k g f t i e a b s D X) (by simp [Holds])
  | true =>
    by_cases h : t ≥ 0
    · have e0 : (true && inR t) = decide (t ≤ 1073741824) := by simp [inR, h]
      rw [e0]
      exact WP.run progOk extSound (nb_sound _ _ noC_sound) (by kernel_rfl) (LoopsOk.none (by kernel_rfl)) [1, 2, 3, 30, 31] (ck_l2y_1 k g f t i e a b s D X (decide (t ≤ 1073741824))) (by simp [Holds, h])
    · have e0 : (true && inR t) = false := by simp [inR, h]
      rw [e0]
      exact WP.run progOk extSound (nb_sound _ _ noC_sound) (by kernel_rfl) (LoopsOk.none (by kernel_rfl)) [1, 2, 3, 30, 31] (ck_l2n_1 k g f t i e a b s D X) (by simp [Holds]; omega)
theorem l3_ok_1 {k g f t i e a b : Int} {s : ByteArray} {D : Value} {X : Blk} (ok : Bool) : WP Tryz.prog (ntOf Tryz.prog 41 1) (loopAt Tryz.prog 41 0) ⟨ckL 1 ok 3, [X, msB k g f t i e a b s D, nusB 1], 1⟩ .normal ⟨ckL 1 (ok && inR i) 4, [X, msB k g f t i e a b s D, nusB 1], 1⟩ := by
  cases ok with
  | false => exact WP.run progOk extSound (nb_sound _ _ noC_sound) (by kernel_rfl) (LoopsOk.none (by kernel_rfl)) [1, 2, 3, 30, 31] (ck_l3f_1 k g f t i e a b s D X) (by simp [Holds])
  | true =>
    by_cases h : i ≥ 0
    · have e0 : (true && inR i) = decide (i ≤ 1073741824) := by simp [inR, h]
      rw [e0]
      exact WP.run progOk extSound (nb_sound _ _ noC_sound) (by kernel_rfl) (LoopsOk.none (by kernel_rfl)) [1, 2, 3, 30, 31] (ck_l3y_1 k g f t i e a b s D X (decide (i ≤ 1073741824))) (by simp [Holds, h])
    · have e0 : (true && inR i) = false := by simp [inR, h]
      rw [e0]
      exact WP.run progOk extSound (nb_sound _ _ noC_sound) (by kernel_rfl) (LoopsOk.none (by kernel_rfl)) [1, 2, 3, 30, 31] (ck_l3n_1 k g f t i e a b s D X) (by simp [Holds]; omega)
theorem l4_ok_1 {k g f t i e a b : Int} {s : ByteArray} {D : Value} {X : Blk} (ok : Bool) : WP Tryz.prog (ntOf Tryz.prog 41 1) (loopAt Tryz.prog 41 0) ⟨ckL 1 ok 4, [X, msB k g f t i e a b s D, nusB 1], 1⟩ .normal ⟨ckL 1 (ok && inR e) 5, [X, msB k g f t i e a b s D, nusB 1], 1⟩ := by
  cases ok with
  | false => exact WP.run progOk extSound (nb_sound _ _ noC_sound) (by kernel_rfl) (LoopsOk.none (by kernel_rfl)) [1, 2, 3, 30, 31] (ck_l4f_1 k g f t i e a b s D X) (by simp [Holds])
  | true =>
    by_cases h : e ≥ 0
    · have e0 : (true && inR e) = decide (e ≤ 1073741824) := by simp [inR, h]
      rw [e0]
      exact WP.run progOk extSound (nb_sound _ _ noC_sound) (by kernel_rfl) (LoopsOk.none (by kernel_rfl)) [1, 2, 3, 30, 31] (ck_l4y_1 k g f t i e a b s D X (decide (e ≤ 1073741824))) (by simp [Holds, h])
    · have e0 : (true && inR e) = false := by simp [inR, h]
      rw [e0]
      exact WP.run progOk extSound (nb_sound _ _ noC_sound) (by kernel_rfl) (LoopsOk.none (by kernel_rfl)) [1, 2, 3, 30, 31] (ck_l4n_1 k g f t i e a b s D X) (by simp [Holds]; omega)
theorem l5_ok_1 {k g f t i e a b : Int} {s : ByteArray} {D : Value} {X : Blk} (ok : Bool) : WP Tryz.prog (ntOf Tryz.prog 41 1) (loopAt Tryz.prog 41 0) ⟨ckL 1 ok 5, [X, msB k g f t i e a b s D, nusB 1], 1⟩ .normal ⟨ckL 1 (ok && inR a) 6, [X, msB k g f t i e a b s D, nusB 1], 1⟩ := by
  cases ok with
  | false => exact WP.run progOk extSound (nb_sound _ _ noC_sound) (by kernel_rfl) (LoopsOk.none (by kernel_rfl)) [1, 2, 3, 30, 31] (ck_l5f_1 k g f t i e a b s D X) (by simp [Holds])
  | true =>
    by_cases h : a ≥ 0
    · have e0 : (true && inR a) = decide (a ≤ 1073741824) := by simp [inR, h]
      rw [e0]
      exact WP.run progOk extSound (nb_sound _ _ noC_sound) (by kernel_rfl) (LoopsOk.none (by kernel_rfl)) [1, 2, 3, 30, 31] (ck_l5y_1 k g f t i e a b s D X (decide (a ≤ 1073741824))) (by simp [Holds, h])
    · have e0 : (true && inR a) = false := by simp [inR, h]
      rw [e0]
      exact WP.run progOk extSound (nb_sound _ _ noC_sound) (by kernel_rfl) (LoopsOk.none (by kernel_rfl)) [1, 2, 3, 30, 31] (ck_l5n_1 k g f t i e a b s D X) (by simp [Holds]; omega)
theorem l6_ok_1 {k g f t i e a b : Int} {s : ByteArray} {D : Value} {X : Blk} (ok : Bool) : WP Tryz.prog (ntOf Tryz.prog 41 1) (loopAt Tryz.prog 41 0) ⟨ckL 1 ok 6, [X, msB k g f t i e a b s D, nusB 1], 1⟩ .normal ⟨ckL 1 (ok && inR b) 7, [X, msB k g f t i e a b s D, nusB 1], 1⟩ := by
  cases ok with
  | false => exact WP.run progOk extSound (nb_sound _ _ noC_sound) (by kernel_rfl) (LoopsOk.none (by kernel_rfl)) [1, 2, 3, 30, 31] (ck_l6f_1 k g f t i e a b s D X) (by simp [Holds])
  | true =>
    by_cases h : b ≥ 0
    · have e0 : (true && inR b) = decide (b ≤ 1073741824) := by simp [inR, h]
      rw [e0]
      exact WP.run progOk extSound (nb_sound _ _ noC_sound) (by kernel_rfl) (LoopsOk.none (by kernel_rfl)) [1, 2, 3, 30, 31] (ck_l6y_1 k g f t i e a b s D X (decide (b ≤ 1073741824))) (by simp [Holds, h])
    · have e0 : (true && inR b) = false := by simp [inR, h]
      rw [e0]
      exact WP.run progOk extSound (nb_sound _ _ noC_sound) (by kernel_rfl) (LoopsOk.none (by kernel_rfl)) [1, 2, 3, 30, 31] (ck_l6n_1 k g f t i e a b s D X) (by simp [Holds]; omega)
theorem lp_ok_1 {k g f t i e a b : Int} {s : ByteArray} {D : Value} {X : Blk} (ok : Bool) : WP Tryz.prog (ntOf Tryz.prog 41 1) (.loop (loopAt Tryz.prog 41 0)) ⟨ckL 1 ok 0, [X, msB k g f t i e a b s D, nusB 1], 1⟩ (.exit 0) ⟨ckF 1 (okS g f t i e a b ok 7), [X, msB k g f t i e a b s D, nusB 1], 1⟩ := by
  refine WP.loop (P := Tryz.prog) (nt := (ntOf Tryz.prog 41 1)) (b := (loopAt Tryz.prog 41 0)) (fun j => ⟨ckL 1 (okS g f t i e a b ok j) (j : Nat), [X, msB k g f t i e a b s D, nusB 1], 1⟩) 7 (x := .exit 0) (by simp) ?_ (WP.run progOk extSound (nb_sound _ _ noC_sound) (by kernel_rfl) (LoopsOk.none (by kernel_rfl)) [1, 2, 3] (ck_out_1 k g f t i e a b s D X _) (by simp [Holds]))
  intro j hj
  match j, hj with
  | 0, _ => exact l0_ok_1 (X := X) _
  | 1, _ => exact l1_ok_1 (X := X) _
  | 2, _ => exact l2_ok_1 (X := X) _
  | 3, _ => exact l3_ok_1 (X := X) _
  | 4, _ => exact l4_ok_1 (X := X) _
  | 5, _ => exact l5_ok_1 (X := X) _
  | 6, _ => exact l6_ok_1 (X := X) _
  | n + 7, h => omega
theorem r2_ok_1 {k g f t i e a b : Int} {s : ByteArray} {D : Value} {X : Blk} (ok : Bool) : WP Tryz.prog (ntOf Tryz.prog 41 1) (hdC (tlC (tlC (bodyOf Tryz.prog 41)))) ⟨ckF 1 ok, [X, msB k g f t i e a b s D], 1⟩ .normal ⟨ckF 1 (okS g f t i e a b ok 7), [X, msB k g f t i e a b s D, nusB 1], 1⟩ := by
  refine WP.run progOk extSound (nb_sound _ _ (toldPre_sound _)) (by kernel_rfl) (LoopsOk.sum (hL := rfl) ?_) [1, 2, 3] (ck_r2_1 k g f t i e a b s D X ok (okS g f t i e a b ok 7)) ?_
  · intro b' hb' _
    have hl : loopsOf (hdC (tlC (tlC (bodyOf Tryz.prog 41)))) = [loopAt Tryz.prog 41 0] := by kernel_rfl
    rw [hl] at hb'
    simp only [List.mem_singleton] at hb'
    subst hb'
    exact lp_ok_1 (X := X) ok
  · intro q hq
    simp only [List.mem_cons, List.not_mem_nil, or_false] at hq
    rcases hq with rfl | rfl | rfl | rfl
    · simp [cdec]
    · simp [cdec]
    · simp [cdec]
    · refine tok ?_
      unfold toldPre
      exact cdec_iff.2 (nums_ok_1 (X := X))
theorem rk_ok_1 {k g f t i e a b : Int} {s : ByteArray} {D : Value} {X : Blk} (hs : s.size ≤ 9223372036854770000) (ok : Bool) : WP Tryz.prog (ntOf Tryz.prog 41 1) (hdC (tlC (tlC (tlC (bodyOf Tryz.prog 41))))) ⟨ckF 1 ok, [X, msB k g f t i e a b s D, nusB 1], 1⟩ .normal ⟨ckF 1 (ok && okK k s), [X, msB k g f t i e a b s D, nusB 1], 1⟩ := by
  by_cases h1 : k = 1
  · have b1 : (k == 1) = true := by simp [h1]
    cases ok with
    | false => exact WP.run progOk extSound (nb_sound _ _ (toldPre_sound _)) (by kernel_rfl) (LoopsOk.none (by kernel_rfl)) [1, 2, 3] (ck_k1f_1 k g f t i e a b s D X) (by simp [Holds, b1])
    | true =>
      have e0 : (true && okK k s) = nmB s := by simp [okK, b1]
      rw [e0]
      refine WP.run progOk extSound (nb_sound _ _ (toldPre_sound _)) (by kernel_rfl) (LoopsOk.none (by kernel_rfl)) [1, 2, 3] (ck_k1t_1 k g f t i e a b s D X (nmB s)) ?_
      intro q hq
      simp only [List.mem_cons, List.not_mem_nil, or_false] at hq
      rcases hq with rfl | rfl
      · exact tok (ck_name _ hs rfl)
      · simp [b1]
  · have b1 : (k == 1) = false := by simpa using h1
    by_cases h9 : k = 9
    · have b9 : (k == 9) = true := by simp [h9]
      cases ok with
      | false => exact WP.run progOk extSound (nb_sound _ _ (toldPre_sound _)) (by kernel_rfl) (LoopsOk.none (by kernel_rfl)) [1, 2, 3] (ck_k9f_1 k g f t i e a b s D X) (by simp [Holds, b1, b9])
      | true =>
        have e0 : (true && okK k s) = nmB s := by simp [okK, b1, b9]
        rw [e0]
        refine WP.run progOk extSound (nb_sound _ _ (toldPre_sound _)) (by kernel_rfl) (LoopsOk.none (by kernel_rfl)) [1, 2, 3] (ck_k9t_1 k g f t i e a b s D X (nmB s)) ?_
        intro q hq
        simp only [List.mem_cons, List.not_mem_nil, or_false] at hq
        rcases hq with rfl | rfl | rfl
        · exact tok (ck_name _ hs rfl)
        · simp [b1, b9]
        · simp [b1, b9]
    · have b9 : (k == 9) = false := by simpa using h9
      by_cases h5 : k = 5
      · have b5 : (k == 5) = true := by simp [h5]
        cases ok with
        | false => exact WP.run progOk extSound (nb_sound _ _ (toldPre_sound _)) (by kernel_rfl) (LoopsOk.none (by kernel_rfl)) [1, 2, 3] (ck_k5f_1 k g f t i e a b s D X) (by simp [Holds, b1, b9, b5])
        | true =>
          have e0 : (true && okK k s) = nmB s := by simp [okK, b1, b9, b5]
          rw [e0]
          refine WP.run progOk extSound (nb_sound _ _ (toldPre_sound _)) (by kernel_rfl) (LoopsOk.none (by kernel_rfl)) [1, 2, 3] (ck_k5t_1 k g f t i e a b s D X (nmB s)) ?_
          intro q hq
          simp only [List.mem_cons, List.not_mem_nil, or_false] at hq
          rcases hq with rfl | rfl | rfl | rfl
          · exact tok (ck_name _ hs rfl)
          · simp [b1, b9, b5]
          · simp [b1, b9, b5]
          · simp [b1, b9, b5]
      · have b5 : (k == 5) = false := by simpa using h5
        cases ok with
        | false => exact WP.run progOk extSound (nb_sound _ _ (toldPre_sound _)) (by kernel_rfl) (LoopsOk.none (by kernel_rfl)) [1, 2, 3] (ck_k0f_1 k g f t i e a b s D X) (by simp [Holds, b1, b9, b5])
        | true =>
          have e0 : (true && okK k s) = (s.toList == (ByteArray.mk #[]).toList) := by simp [okK, b1, b9, b5]
          rw [e0]
          exact WP.run progOk extSound (nb_sound _ _ (toldPre_sound _)) (by kernel_rfl) (LoopsOk.none (by kernel_rfl)) [1, 2, 3] (ck_k0t_1 k g f t i e a b s D X _) (by simp [Holds, b1, b9, b5])
theorem check_msg_1 {k g f t i e a b : Int} {s : ByteArray} {p : Option Addr} {n c : Nat} {X : Blk} (hs : s.size ≤ 9223372036854770000) : CallOk Tryz.prog 41 [msA k g f t i e a b s (.slice p n c)] [X] (.int .i64 (bif chkB k g f t i e a b s n then 0 else 1)) [X, msB k g f t i e a b s (.slice p n c), nusB 1] 1 := by
  have hk := rk_ok_1 (k := k) (g := g) (f := f) (t := t) (i := i) (e := e) (a := a) (b := b) (D := .slice p n c) (X := X) hs (okS g f t i e a b (okA k n) 7)
  have hr := r2_ok_1 (k := k) (g := g) (f := f) (t := t) (i := i) (e := e) (a := a) (b := b) (s := s) (D := .slice p n c) (X := X) (okA k n)
  have h1 := r1_ok_1 (k := k) (g := g) (f := f) (t := t) (i := i) (e := e) (a := a) (b := b) (s := s) (p := p) (n := n) (c := c) (X := X)
  have h0 : WP Tryz.prog (ntOf Tryz.prog 41 1) (hdC (bodyOf Tryz.prog 41)) ⟨Den.start 0 [msA k g f t i e a b s (.slice p n c)], [X], 1⟩ .normal ⟨[(1, .pointer (some ⟨1, 0, none⟩)), (2, .int .i64 0)], [X, msB k g f t i e a b s (.slice p n c)], 1⟩ := WP.run progOk extSound (nb_sound _ _ noC_sound) (by kernel_rfl) (LoopsOk.none (by kernel_rfl)) [1, 2] (ck_r0_1 k g f t i e a b s p n c X) (by simp [Holds])
  change WP _ _ _ _ _ ⟨ckF 1 (chkB k g f t i e a b s n), _, _⟩ at hk
  revert hk
  generalize chkB k g f t i e a b s n = u
  intro hk
  cases u with
  | true => exact CallOk.walk (f := 41) (n := 1) (by kernel_rfl) rfl (WP.cut (by kernel_rfl) h0 (WP.cut (by kernel_rfl) h1 (WP.cut (by kernel_rfl) hr (WP.cut (by kernel_rfl) hk (WP.cut (by kernel_rfl) (WP.run progOk extSound (nb_sound _ _ noC_sound) (by kernel_rfl) (LoopsOk.none (by kernel_rfl)) [2] (ck_ok_1 k g f t i e a b s (.slice p n c) X) (by simp [Holds])) (WP.run progOk extSound (nb_sound _ _ noC_sound) (by kernel_rfl) (LoopsOk.none (by kernel_rfl)) [2] (ck_end_1 k g f t i e a b s (.slice p n c) X) (by simp [Holds]))))))) (.inr rfl) (by kernel_rfl)
  | false => exact CallOk.walk (f := 41) (n := 1) (by kernel_rfl) rfl (WP.cut (by kernel_rfl) h0 (WP.cut (by kernel_rfl) h1 (WP.cut (by kernel_rfl) hr (WP.cut (by kernel_rfl) hk (WP.cut_out (by kernel_rfl) (by simp) (WP.run progOk extSound (nb_sound _ _ noC_sound) (by kernel_rfl) (LoopsOk.none (by kernel_rfl)) [2] (ck_no_1 k g f t i e a b s (.slice p n c) X) (by simp [Holds]))))))) (.inr rfl) (by kernel_rfl)
end Go.Proofs.YtpgmabpaiijipaaGreatDoor

namespace Go.Proofs.YtpgmabpaiijipaaGreatDoor
open Go Den
set_option maxRecDepth 100000
set_option linter.unusedSimpArgs false
set_option linter.unusedVariables false
def pen0 : Blk := ⟨true, none, [.slice none 0 0, .int .i64 0, .int .i64 0]⟩
def puT (l : List Bool) : Nat → Tale := fun _ f _ _ => match f with
  | 44 => some (.tuple #[pv 2 l, .int .i64 0], [resB, bitsB 2 (pn l) (List.length l : Nat), pk l], 0)
  | _ => none
def puH (B : Blk) (R : Heap) (N : Nat) (l : List Bool) : Heap := B :: (R ++ [resB, bitsB N (pn l) (List.length l : Nat), pk l])
def puS (B : Blk) (N : Nat) (l : List Bool) : Tale := fun f _ _ => match f with
  | 43 => some (.tuple #[pv N l, .int .i64 0], [B, resB, bitsB N (pn l) (List.length l : Nat), pk l], 1)
  | _ => none
def puX (B X : Blk) (N : Nat) (l : List Bool) : Tale := fun f _ _ => match f with
  | 43 => some (.tuple #[pv N l, .int .i64 0], [B, X, resB, bitsB N (pn l) (List.length l : Nat), pk l], 2)
  | _ => none
def coW (l l' : List Bool) (n : Int) : Nat → Tale := fun _ f _ _ => match f with
  | 46 => some (.tuple #[], [penB 3 l', pk l, nbB n, pk l'], 0)
  | _ => none
def wrF (m p : Nat) (j : Int) : Slots := [(1, .pointer (some ⟨m, 0, none⟩)), (5, .pointer (some ⟨p, 0, none⟩)), (18, nusV m), (19, .int .i64 j)]
def numN (g f t i e a b : Nat) : Nat → Nat
  | 0 => g | 1 => f | 2 => t | 3 => i | 4 => e | 5 => a | 6 => b | _ => 0
def wrL (kk g f t i e a b : Nat) : Nat → List Bool
  | 0 => Bt.be 4 kk
  | j + 1 => wrL kk g f t i e a b j ++ Bt.codeB (numN g f t i e a b j)
theorem wrL_ne (kk g f t i e a b j : Nat) : wrL kk g f t i e a b j ≠ [] := by
  cases j with
  | zero => exact be_ne (by omega)
  | succ j => exact code_ne _ _
theorem numN_le {g f t i e a b : Nat} (hb : g ≤ 1073741824 ∧ f ≤ 1073741824 ∧ t ≤ 1073741824 ∧ i ≤ 1073741824 ∧ e ≤ 1073741824 ∧ a ≤ 1073741824 ∧ b ≤ 1073741824) (j : Nat) : numN g f t i e a b j ≤ 1073741824 := by
  obtain ⟨h1, h2, h3, h4, h5, h6, h7⟩ := hb
  unfold numN
  split <;> omega
theorem wrL_len {kk g f t i e a b : Nat} (hb : g ≤ 1073741824 ∧ f ≤ 1073741824 ∧ t ≤ 1073741824 ∧ i ≤ 1073741824 ∧ e ≤ 1073741824 ∧ a ≤ 1073741824 ∧ b ≤ 1073741824) (j : Nat) : (wrL kk g f t i e a b j).length ≤ 4 + 62 * j := by
  induction j with
  | zero => simp [wrL]
  | succ j ih =>
    have h1 := numN_le hb j
    have h2 : Bt.cz (numN g f t i e a b j) < 31 := Bt.cz_le (by omega)
    simp only [wrL, List.length_append, Bt.codeB_length]
    omega
theorem wr_pk_runO (k g f t i e a b : Int) (s : ByteArray) (l : List Bool) (k2 : Int) (x : List Nat) (c : Nat) : evFnL Tryz.prog ext 300 (nmPre (frameTPre (puT l))) (nbC [(8, k2)] [] (frameT (puT l))) noLoops [(0,true)] 43 [bitsV0, .pointer (some ⟨0, 0, none⟩)] [msB k g f t i e a b s (.slice (some ⟨1, 0, none⟩) x.length c), ⟨false, none, byteV x⟩] =
  some ((.tuple #[pv 4 l, .int .i64 0], [(msB k g f t i e a b s (.slice (some ⟨1, 0, none⟩) (List.length x) c)), ⟨false, none, byteV x⟩, resB, bitsB 4 (pn l) (List.length l : Nat), pk l], 2), [(frameTPre (puT l) 44 [.agg #[.slice none 0 0, .int .i64 0], .int .u64 k2, .int .i64 4] [(msB k g f t i e a b s (.slice (some ⟨1, 0, none⟩) (List.length x) c)), ⟨false, none, byteV x⟩, resB, resB], true), (decide (IntKind.wrap .u64 k = k2), true)]) := by kernel_rfl
theorem wr_pk_okO {kk g f t i e a b : Nat} {s : ByteArray} {x : List Nat} {c : Nat} (h : kk < 16) (hne : x ≠ []):
    CallOk Tryz.prog 43 [bitsV0, .pointer (some ⟨0, 0, none⟩)] [(msB kk g f t i e a b s (.slice (some ⟨1, 0, none⟩) x.length c)), ⟨false, none, byteV x⟩] (.tuple #[pv 4 (Bt.be 4 kk), .int .i64 0]) [(msB kk g f t i e a b s (.slice (some ⟨1, 0, none⟩) x.length c)), ⟨false, none, byteV x⟩, resB, bitsB 4 (pn (Bt.be 4 kk)) (List.length (Bt.be 4 kk) : Nat), pk (Bt.be 4 kk)] 2 := by
  refine fnL_ok progOk extSound (nb_sound _ _ (frameT_sound _)) noLoops_ok (wr_pk_runO kk g f t i e a b s (Bt.be 4 kk) (kk : Nat) x c) ?_
  intro q hq
  simp only [List.mem_cons, List.not_mem_nil, or_false] at hq
  rcases hq with rfl | rfl
  · exact tok (frameT_ok [] (put_ok h) (by exact ro_in rfl (ro_row hne (ro_in rfl (ro_in rfl (ro_nil))))) (by exact rf_in rfl (rf_in rfl (rf_pk (rf_nil)))))
  · simp only [decide_eq_true_eq]; exact wrap_u64 (by omega)
theorem wr_d43_runO (k g f t i e a b : Int) (s : ByteArray) (l : List Bool) (x : List Nat) (c : Nat) : evFnL Tryz.prog ext 300 (nmPre (frameTPre (fun _ => puX (msB k g f t i e a b s (.slice (some ⟨1, 0, none⟩) x.length c)) (⟨false, none, byteV x⟩) 4 l))) (nbC [] [] (frameT (fun _ => puX (msB k g f t i e a b s (.slice (some ⟨1, 0, none⟩) x.length c)) (⟨false, none, byteV x⟩) 4 l))) noLoops [(1,true)] 42 [.pointer (some ⟨0, 0, none⟩), .func (.func 43) #[] #[.pointer (some ⟨1, 0, none⟩)]] [pen0, msB k g f t i e a b s (.slice (some ⟨2, 0, none⟩) x.length c), ⟨false, none, byteV x⟩] =
  some ((.tuple #[], [⟨true, none, [.slice (some ⟨3, 0, none⟩) (pn l) 0, .int .i64 ((List.length l : Nat) : Int), .int .i64 0]⟩, (msB k g f t i e a b s (.slice (some ⟨2, 0, none⟩) (List.length x) c)), ⟨false, none, byteV x⟩, pk l], 0), [(frameTPre (fun x_1 => puX (msB k g f t i e a b s (.slice (some ⟨1, 0, none⟩) (List.length x) c)) ⟨false, none, byteV x⟩ 4 l) 43 [.agg #[.slice none 0 0, .int .i64 0], .pointer (some ⟨1, 0, none⟩)] [⟨true, none, [.slice none 0 0, .int .i64 0, .int .i64 0]⟩, (msB k g f t i e a b s (.slice (some ⟨2, 0, none⟩) (List.length x) c)), ⟨false, none, byteV x⟩], true)]) := by kernel_rfl
theorem wr_d43_okO {kk g f t i e a b : Nat} {s : ByteArray} {x : List Nat} {c : Nat} (h : kk < 16) (hne : x ≠ []):
    CallOk Tryz.prog 42 [.pointer (some ⟨0, 0, none⟩), .func (.func 43) #[] #[.pointer (some ⟨1, 0, none⟩)]] [pen0, (msB kk g f t i e a b s (.slice (some ⟨2, 0, none⟩) x.length c)), ⟨false, none, byteV x⟩] (.tuple #[]) [penB 3 (Bt.be 4 kk), (msB kk g f t i e a b s (.slice (some ⟨2, 0, none⟩) x.length c)), ⟨false, none, byteV x⟩, pk (Bt.be 4 kk)] 0 := by
  refine fnL_ok progOk extSound (nb_sound _ _ (frameT_sound _)) noLoops_ok (wr_d43_runO kk g f t i e a b s (Bt.be 4 kk) x c) ?_
  intro q hq
  simp only [List.mem_cons, List.not_mem_nil, or_false] at hq
  rcases hq with rfl
  · exact tok (frameT_ok [1, 2] (wr_pk_okO (g := g) (f := f) (t := t) (i := i) (e := e) (a := a) (b := b) (s := s) (c := c) h hne) (by exact ro_in rfl (ro_in rfl (ro_row hne (ro_nil)))) (by exact rf_in rfl (rf_row (rf_in rfl (rf_in rfl (rf_pk (rf_nil)))))))
theorem wr_pk_runR (k g f t i e a b : Int) (s : ByteArray) (l : List Bool) (k2 : Int) (x : List Nat) : evFnL Tryz.prog ext 300 (nmPre (frameTPre (puT l))) (nbC [(8, k2)] [] (frameT (puT l))) noLoops [(0,true)] 43 [bitsV0, .pointer (some ⟨0, 0, none⟩)] [msB k g f t i e a b s (.slice (some ⟨1, 0, none⟩) x.length 0), rowB (byteV x)] =
  some ((.tuple #[pv 4 l, .int .i64 0], [(msB k g f t i e a b s (.slice (some ⟨1, 0, none⟩) (List.length x) 0)), ⟨true, some 1, byteV x⟩, resB, bitsB 4 (pn l) (List.length l : Nat), pk l], 2), [(frameTPre (puT l) 44 [.agg #[.slice none 0 0, .int .i64 0], .int .u64 k2, .int .i64 4] [(msB k g f t i e a b s (.slice (some ⟨1, 0, none⟩) (List.length x) 0)), ⟨true, some 1, byteV x⟩, resB, resB], true), (decide (IntKind.wrap .u64 k = k2), true)]) := by kernel_rfl
theorem wr_pk_okR {kk g f t i e a b : Nat} {s : ByteArray} {x : List Nat} (h : kk < 16) (hne : x ≠ []):
    CallOk Tryz.prog 43 [bitsV0, .pointer (some ⟨0, 0, none⟩)] [(msB kk g f t i e a b s (.slice (some ⟨1, 0, none⟩) x.length 0)), rowB (byteV x)] (.tuple #[pv 4 (Bt.be 4 kk), .int .i64 0]) [(msB kk g f t i e a b s (.slice (some ⟨1, 0, none⟩) x.length 0)), rowB (byteV x), resB, bitsB 4 (pn (Bt.be 4 kk)) (List.length (Bt.be 4 kk) : Nat), pk (Bt.be 4 kk)] 2 := by
  refine fnL_ok progOk extSound (nb_sound _ _ (frameT_sound _)) noLoops_ok (wr_pk_runR kk g f t i e a b s (Bt.be 4 kk) (kk : Nat) x) ?_
  intro q hq
  simp only [List.mem_cons, List.not_mem_nil, or_false] at hq
  rcases hq with rfl | rfl
  · exact tok (frameT_ok [] (put_ok h) (by exact ro_in rfl (ro_row hne (ro_in rfl (ro_in rfl (ro_nil))))) (by exact rf_in rfl (rf_in rfl (rf_pk (rf_nil)))))
  · simp only [decide_eq_true_eq]; exact wrap_u64 (by omega)
theorem wr_d43_runR (k g f t i e a b : Int) (s : ByteArray) (l : List Bool) (x : List Nat) : evFnL Tryz.prog ext 300 (nmPre (frameTPre (fun _ => puX (msB k g f t i e a b s (.slice (some ⟨1, 0, none⟩) x.length 0)) (rowB (byteV x)) 4 l))) (nbC [] [] (frameT (fun _ => puX (msB k g f t i e a b s (.slice (some ⟨1, 0, none⟩) x.length 0)) (rowB (byteV x)) 4 l))) noLoops [(1,true)] 42 [.pointer (some ⟨0, 0, none⟩), .func (.func 43) #[] #[.pointer (some ⟨1, 0, none⟩)]] [pen0, msB k g f t i e a b s (.slice (some ⟨2, 0, none⟩) x.length 0), rowB (byteV x)] =
  some ((.tuple #[], [⟨true, none, [.slice (some ⟨3, 0, none⟩) (pn l) 0, .int .i64 ((List.length l : Nat) : Int), .int .i64 0]⟩, (msB k g f t i e a b s (.slice (some ⟨2, 0, none⟩) (List.length x) 0)), ⟨true, some 1, byteV x⟩, pk l], 0), [(frameTPre (fun x_1 => puX (msB k g f t i e a b s (.slice (some ⟨1, 0, none⟩) (List.length x) 0)) (rowB (byteV x)) 4 l) 43 [.agg #[.slice none 0 0, .int .i64 0], .pointer (some ⟨1, 0, none⟩)] [⟨true, none, [.slice none 0 0, .int .i64 0, .int .i64 0]⟩, (msB k g f t i e a b s (.slice (some ⟨2, 0, none⟩) (List.length x) 0)), ⟨true, some 1, byteV x⟩], true)]) := by kernel_rfl
theorem wr_d43_okR {kk g f t i e a b : Nat} {s : ByteArray} {x : List Nat} (h : kk < 16) (hne : x ≠ []):
    CallOk Tryz.prog 42 [.pointer (some ⟨0, 0, none⟩), .func (.func 43) #[] #[.pointer (some ⟨1, 0, none⟩)]] [pen0, (msB kk g f t i e a b s (.slice (some ⟨2, 0, none⟩) x.length 0)), rowB (byteV x)] (.tuple #[]) [penB 3 (Bt.be 4 kk), (msB kk g f t i e a b s (.slice (some ⟨2, 0, none⟩) x.length 0)), rowB (byteV x), pk (Bt.be 4 kk)] 0 := by
  refine fnL_ok progOk extSound (nb_sound _ _ (frameT_sound _)) noLoops_ok (wr_d43_runR kk g f t i e a b s (Bt.be 4 kk) x) ?_
  intro q hq
  simp only [List.mem_cons, List.not_mem_nil, or_false] at hq
  rcases hq with rfl
  · exact tok (frameT_ok [1, 2] (wr_pk_okR (g := g) (f := f) (t := t) (i := i) (e := e) (a := a) (b := b) (s := s) h hne) (by exact ro_in rfl (ro_in rfl (ro_row hne (ro_nil)))) (by exact rf_in rfl (rf_row (rf_in rfl (rf_in rfl (rf_pk (rf_nil)))))))
theorem wr_pk_runN (k g f t i e a b : Int) (s : ByteArray) (l : List Bool) (k2 : Int) : evFnL Tryz.prog ext 300 (nmPre (frameTPre (puT l))) (nbC [(8, k2)] [] (frameT (puT l))) noLoops [(0,true)] 43 [bitsV0, .pointer (some ⟨0, 0, none⟩)] [msB k g f t i e a b s (.slice none 0 0)] =
  some ((.tuple #[pv 3 l, .int .i64 0], [(msB k g f t i e a b s (.slice none 0 0)), resB, bitsB 3 (pn l) (List.length l : Nat), pk l], 1), [(frameTPre (puT l) 44 [.agg #[.slice none 0 0, .int .i64 0], .int .u64 k2, .int .i64 4] [(msB k g f t i e a b s (.slice none 0 0)), resB, resB], true), (decide (IntKind.wrap .u64 k = k2), true)]) := by kernel_rfl
theorem wr_pk_okN {kk g f t i e a b : Nat} {s : ByteArray} (h : kk < 16):
    CallOk Tryz.prog 43 [bitsV0, .pointer (some ⟨0, 0, none⟩)] [(msB kk g f t i e a b s (.slice none 0 0))] (.tuple #[pv 3 (Bt.be 4 kk), .int .i64 0]) [(msB kk g f t i e a b s (.slice none 0 0)), resB, bitsB 3 (pn (Bt.be 4 kk)) (List.length (Bt.be 4 kk) : Nat), pk (Bt.be 4 kk)] 1 := by
  refine fnL_ok progOk extSound (nb_sound _ _ (frameT_sound _)) noLoops_ok (wr_pk_runN kk g f t i e a b s (Bt.be 4 kk) (kk : Nat)) ?_
  intro q hq
  simp only [List.mem_cons, List.not_mem_nil, or_false] at hq
  rcases hq with rfl | rfl
  · exact tok (frameT_ok [] (put_ok h) (by exact ro_in rfl (ro_in rfl (ro_in rfl (ro_nil)))) (by exact rf_in rfl (rf_in rfl (rf_pk (rf_nil)))))
  · simp only [decide_eq_true_eq]; exact wrap_u64 (by omega)
theorem wr_d43_runN (k g f t i e a b : Int) (s : ByteArray) (l : List Bool) : evFnL Tryz.prog ext 300 (nmPre (frameTPre (fun _ => puS (msB k g f t i e a b s (.slice none 0 0)) 3 l))) (nbC [] [] (frameT (fun _ => puS (msB k g f t i e a b s (.slice none 0 0)) 3 l))) noLoops [(1,true)] 42 [.pointer (some ⟨0, 0, none⟩), .func (.func 43) #[] #[.pointer (some ⟨1, 0, none⟩)]] [pen0, msB k g f t i e a b s (.slice none 0 0)] =
  some ((.tuple #[], [⟨true, none, [.slice (some ⟨2, 0, none⟩) (pn l) 0, .int .i64 ((List.length l : Nat) : Int), .int .i64 0]⟩, (msB k g f t i e a b s (.slice none 0 0)), pk l], 0), [(frameTPre (fun x => puS (msB k g f t i e a b s (.slice none 0 0)) 3 l) 43 [.agg #[.slice none 0 0, .int .i64 0], .pointer (some ⟨1, 0, none⟩)] [⟨true, none, [.slice none 0 0, .int .i64 0, .int .i64 0]⟩, (msB k g f t i e a b s (.slice none 0 0))], true)]) := by kernel_rfl
theorem wr_d43_okN {kk g f t i e a b : Nat} {s : ByteArray} (h : kk < 16):
    CallOk Tryz.prog 42 [.pointer (some ⟨0, 0, none⟩), .func (.func 43) #[] #[.pointer (some ⟨1, 0, none⟩)]] [pen0, (msB kk g f t i e a b s (.slice none 0 0))] (.tuple #[]) [penB 2 (Bt.be 4 kk), (msB kk g f t i e a b s (.slice none 0 0)), pk (Bt.be 4 kk)] 0 := by
  refine fnL_ok progOk extSound (nb_sound _ _ (frameT_sound _)) noLoops_ok (wr_d43_runN kk g f t i e a b s (Bt.be 4 kk)) ?_
  intro q hq
  simp only [List.mem_cons, List.not_mem_nil, or_false] at hq
  rcases hq with rfl
  · exact tok (frameT_ok [1] (wr_pk_okN (g := g) (f := f) (t := t) (i := i) (e := e) (a := a) (b := b) (s := s) h) (by exact ro_in rfl (ro_in rfl (ro_nil))) (by exact rf_in rfl (rf_in rfl (rf_in rfl (rf_pk (rf_nil))))))
theorem wr_pk_runG (k g f t i e a b : Int) (s : ByteArray) (l : List Bool) (k2 : Int) : evFnL Tryz.prog ext 300 (nmPre (frameTPre (puT l))) (nbC [(8, k2)] [] (frameT (puT l))) noLoops [(0,true)] 43 [bitsV0, .pointer (some ⟨0, 0, none⟩)] [msB k g f t i e a b s goneV] =
  some ((.tuple #[pv 3 l, .int .i64 0], [(msB k g f t i e a b s (.slice (some { block := 0, off := 0, spot := some 1 }) 0 0)), resB, bitsB 3 (pn l) (List.length l : Nat), pk l], 1), [(frameTPre (puT l) 44 [.agg #[.slice none 0 0, .int .i64 0], .int .u64 k2, .int .i64 4] [(msB k g f t i e a b s (.slice (some { block := 0, off := 0, spot := some 1 }) 0 0)), resB, resB], true), (decide (IntKind.wrap .u64 k = k2), true)]) := by kernel_rfl
theorem wr_pk_okG {kk g f t i e a b : Nat} {s : ByteArray} (h : kk < 16):
    CallOk Tryz.prog 43 [bitsV0, .pointer (some ⟨0, 0, none⟩)] [(msB kk g f t i e a b s goneV)] (.tuple #[pv 3 (Bt.be 4 kk), .int .i64 0]) [(msB kk g f t i e a b s goneV), resB, bitsB 3 (pn (Bt.be 4 kk)) (List.length (Bt.be 4 kk) : Nat), pk (Bt.be 4 kk)] 1 := by
  refine fnL_ok progOk extSound (nb_sound _ _ (frameT_sound _)) noLoops_ok (wr_pk_runG kk g f t i e a b s (Bt.be 4 kk) (kk : Nat)) ?_
  intro q hq
  simp only [List.mem_cons, List.not_mem_nil, or_false] at hq
  rcases hq with rfl | rfl
  · exact tok (frameT_ok [] (put_ok h) (by exact ro_in rfl (ro_in rfl (ro_in rfl (ro_nil)))) (by exact rf_in rfl (rf_in rfl (rf_pk (rf_nil)))))
  · simp only [decide_eq_true_eq]; exact wrap_u64 (by omega)
theorem wr_d43_runG (k g f t i e a b : Int) (s : ByteArray) (l : List Bool) : evFnL Tryz.prog ext 300 (nmPre (frameTPre (fun _ => puS (msB k g f t i e a b s goneV) 3 l))) (nbC [] [] (frameT (fun _ => puS (msB k g f t i e a b s goneV) 3 l))) noLoops [(1,true)] 42 [.pointer (some ⟨0, 0, none⟩), .func (.func 43) #[] #[.pointer (some ⟨1, 0, none⟩)]] [pen0, msB k g f t i e a b s goneV] =
  some ((.tuple #[], [⟨true, none, [.slice (some ⟨2, 0, none⟩) (pn l) 0, .int .i64 ((List.length l : Nat) : Int), .int .i64 0]⟩, (msB k g f t i e a b s (.slice (some { block := 0, off := 0, spot := some 1 }) 0 0)), pk l], 0), [(frameTPre (fun x => puS (msB k g f t i e a b s goneV) 3 l) 43 [.agg #[.slice none 0 0, .int .i64 0], .pointer (some ⟨1, 0, none⟩)] [⟨true, none, [.slice none 0 0, .int .i64 0, .int .i64 0]⟩, (msB k g f t i e a b s (.slice (some { block := 0, off := 0, spot := some 1 }) 0 0))], true)]) := by kernel_rfl
theorem wr_d43_okG {kk g f t i e a b : Nat} {s : ByteArray} (h : kk < 16):
    CallOk Tryz.prog 42 [.pointer (some ⟨0, 0, none⟩), .func (.func 43) #[] #[.pointer (some ⟨1, 0, none⟩)]] [pen0, (msB kk g f t i e a b s goneV)] (.tuple #[]) [penB 2 (Bt.be 4 kk), (msB kk g f t i e a b s goneV), pk (Bt.be 4 kk)] 0 := by
  refine fnL_ok progOk extSound (nb_sound _ _ (frameT_sound _)) noLoops_ok (wr_d43_runG kk g f t i e a b s (Bt.be 4 kk)) ?_
  intro q hq
  simp only [List.mem_cons, List.not_mem_nil, or_false] at hq
  rcases hq with rfl
  · exact tok (frameT_ok [1] (wr_pk_okG (g := g) (f := f) (t := t) (i := i) (e := e) (a := a) (b := b) (s := s) h) (by exact ro_in rfl (ro_in rfl (ro_nil))) (by exact rf_in rfl (rf_in rfl (rf_in rfl (rf_pk (rf_nil))))))
theorem wl0_runO (k g f t i e a b : Int) (s : ByteArray) (l0 l1 : List Bool) (x : List Nat) (c : Nat) : evL Tryz.prog ext (nmPre (frameTPre (coW l0 l1 g))) (nbC [] [] (frameT (coW l0 l1 g))) noLoops 300 (ntOf Tryz.prog 14 1) (loopAt Tryz.prog 14 0) (wrF 1 2 0) [⟨false, none, byteV x⟩, msB k g f t i e a b s (.slice (some ⟨0, 0, none⟩) x.length c), penB 3 l0, pk l0] 0 [(1,true)] [1, 5, 18, 19] =
  some (.normal, wrF 1 2 1, [⟨false, none, byteV x⟩, msB k g f t i e a b s (.slice (some ⟨0, 0, none⟩) x.length c), penB 4 l1, pk l0, pk l1], 0, [(frameTPre (coW l0 l1 g) 46 [.pointer (some ⟨2, 0, none⟩), .int .i64 g] [⟨false, none, byteV x⟩, msB k g f t i e a b s (.slice (some ⟨0, 0, none⟩) x.length c), penB 3 l0, pk l0], true)]) := by kernel_rfl
theorem wl0_okO {kk g f t i e a b : Nat} {s : ByteArray} {x : List Nat} {c : Nat} {l0 : List Bool} (hne : x ≠ []) (h0 : l0 ≠ []) (hq : g ≤ 1073741824) (hl : l0.length + 100 ≤ 65536) :
    WP Tryz.prog (ntOf Tryz.prog 14 1) (loopAt Tryz.prog 14 0) ⟨wrF 1 2 0, [⟨false, none, byteV x⟩, msB kk g f t i e a b s (.slice (some ⟨0, 0, none⟩) x.length c), penB 3 l0, pk l0], 0⟩ .normal ⟨wrF 1 2 1, [⟨false, none, byteV x⟩, msB kk g f t i e a b s (.slice (some ⟨0, 0, none⟩) x.length c), penB 4 (l0 ++ Bt.codeB g), pk l0, pk (l0 ++ Bt.codeB g)], 0⟩ := by
  refine WP.run progOk extSound (nb_sound _ _ (frameT_sound _)) (by kernel_rfl) (LoopsOk.none (by kernel_rfl)) [1, 5, 18, 19] (wl0_runO kk g f t i e a b s l0 (l0 ++ Bt.codeB g) x c) ?_
  intro q hq
  simp only [List.mem_cons, List.not_mem_nil, or_false] at hq
  rcases hq with rfl
  · exact tok (frameT_ok [2, 3] (code_ok (l := l0) (n := g) h0 (by assumption) hl) (by exact ro_row hne (ro_in rfl (ro_in rfl (ro_pk h0 (ro_nil))))) (by exact rf_in rfl (rf_pk (rf_in rfl (rf_pk (rf_nil))))))
theorem wl1_runO (k g f t i e a b : Int) (s : ByteArray) (l0 l1 l2 : List Bool) (x : List Nat) (c : Nat) : evL Tryz.prog ext (nmPre (frameTPre (coW l1 l2 f))) (nbC [] [] (frameT (coW l1 l2 f))) noLoops 300 (ntOf Tryz.prog 14 1) (loopAt Tryz.prog 14 0) (wrF 1 2 1) [⟨false, none, byteV x⟩, msB k g f t i e a b s (.slice (some ⟨0, 0, none⟩) x.length c), penB 4 l1, pk l0, pk l1] 0 [(1,true)] [1, 5, 18, 19] =
  some (.normal, wrF 1 2 2, [⟨false, none, byteV x⟩, msB k g f t i e a b s (.slice (some ⟨0, 0, none⟩) x.length c), penB 5 l2, pk l0, pk l1, pk l2], 0, [(frameTPre (coW l1 l2 f) 46 [.pointer (some ⟨2, 0, none⟩), .int .i64 f] [⟨false, none, byteV x⟩, msB k g f t i e a b s (.slice (some ⟨0, 0, none⟩) x.length c), penB 4 l1, pk l0, pk l1], true)]) := by kernel_rfl
theorem wl1_okO {kk g f t i e a b : Nat} {s : ByteArray} {x : List Nat} {c : Nat} {l0 l1 : List Bool} (hne : x ≠ []) (h0 : l0 ≠ []) (h1 : l1 ≠ []) (hq : f ≤ 1073741824) (hl : l1.length + 100 ≤ 65536) :
    WP Tryz.prog (ntOf Tryz.prog 14 1) (loopAt Tryz.prog 14 0) ⟨wrF 1 2 1, [⟨false, none, byteV x⟩, msB kk g f t i e a b s (.slice (some ⟨0, 0, none⟩) x.length c), penB 4 l1, pk l0, pk l1], 0⟩ .normal ⟨wrF 1 2 2, [⟨false, none, byteV x⟩, msB kk g f t i e a b s (.slice (some ⟨0, 0, none⟩) x.length c), penB 5 (l1 ++ Bt.codeB f), pk l0, pk l1, pk (l1 ++ Bt.codeB f)], 0⟩ := by
  refine WP.run progOk extSound (nb_sound _ _ (frameT_sound _)) (by kernel_rfl) (LoopsOk.none (by kernel_rfl)) [1, 5, 18, 19] (wl1_runO kk g f t i e a b s l0 l1 (l1 ++ Bt.codeB f) x c) ?_
  intro q hq
  simp only [List.mem_cons, List.not_mem_nil, or_false] at hq
  rcases hq with rfl
  · exact tok (frameT_ok [2, 4] (code_ok (l := l1) (n := f) h1 (by assumption) hl) (by exact ro_row hne (ro_in rfl (ro_in rfl (ro_pk h0 (ro_pk h1 (ro_nil)))))) (by exact rf_in rfl (rf_pk (rf_in rfl (rf_pk (rf_nil))))))
theorem wl2_runO (k g f t i e a b : Int) (s : ByteArray) (l0 l1 l2 l3 : List Bool) (x : List Nat) (c : Nat) : evL Tryz.prog ext (nmPre (frameTPre (coW l2 l3 t))) (nbC [] [] (frameT (coW l2 l3 t))) noLoops 300 (ntOf Tryz.prog 14 1) (loopAt Tryz.prog 14 0) (wrF 1 2 2) [⟨false, none, byteV x⟩, msB k g f t i e a b s (.slice (some ⟨0, 0, none⟩) x.length c), penB 5 l2, pk l0, pk l1, pk l2] 0 [(1,true)] [1, 5, 18, 19] =
  some (.normal, wrF 1 2 3, [⟨false, none, byteV x⟩, msB k g f t i e a b s (.slice (some ⟨0, 0, none⟩) x.length c), penB 6 l3, pk l0, pk l1, pk l2, pk l3], 0, [(frameTPre (coW l2 l3 t) 46 [.pointer (some ⟨2, 0, none⟩), .int .i64 t] [⟨false, none, byteV x⟩, msB k g f t i e a b s (.slice (some ⟨0, 0, none⟩) x.length c), penB 5 l2, pk l0, pk l1, pk l2], true)]) := by kernel_rfl
theorem wl2_okO {kk g f t i e a b : Nat} {s : ByteArray} {x : List Nat} {c : Nat} {l0 l1 l2 : List Bool} (hne : x ≠ []) (h0 : l0 ≠ []) (h1 : l1 ≠ []) (h2 : l2 ≠ []) (hq : t ≤ 1073741824) (hl : l2.length + 100 ≤ 65536) :
    WP Tryz.prog (ntOf Tryz.prog 14 1) (loopAt Tryz.prog 14 0) ⟨wrF 1 2 2, [⟨false, none, byteV x⟩, msB kk g f t i e a b s (.slice (some ⟨0, 0, none⟩) x.length c), penB 5 l2, pk l0, pk l1, pk l2], 0⟩ .normal ⟨wrF 1 2 3, [⟨false, none, byteV x⟩, msB kk g f t i e a b s (.slice (some ⟨0, 0, none⟩) x.length c), penB 6 (l2 ++ Bt.codeB t), pk l0, pk l1, pk l2, pk (l2 ++ Bt.codeB t)], 0⟩ := by
  refine WP.run progOk extSound (nb_sound _ _ (frameT_sound _)) (by kernel_rfl) (LoopsOk.none (by kernel_rfl)) [1, 5, 18, 19] (wl2_runO kk g f t i e a b s l0 l1 l2 (l2 ++ Bt.codeB t) x c) ?_
  intro q hq
  simp only [List.mem_cons, List.not_mem_nil, or_false] at hq
  rcases hq with rfl
  · exact tok (frameT_ok [2, 5] (code_ok (l := l2) (n := t) h2 (by assumption) hl) (by exact ro_row hne (ro_in rfl (ro_in rfl (ro_pk h0 (ro_pk h1 (ro_pk h2 (ro_nil))))))) (by exact rf_in rfl (rf_pk (rf_in rfl (rf_pk (rf_nil))))))
theorem wl3_runO (k g f t i e a b : Int) (s : ByteArray) (l0 l1 l2 l3 l4 : List Bool) (x : List Nat) (c : Nat) : evL Tryz.prog ext (nmPre (frameTPre (coW l3 l4 i))) (nbC [] [] (frameT (coW l3 l4 i))) noLoops 300 (ntOf Tryz.prog 14 1) (loopAt Tryz.prog 14 0) (wrF 1 2 3) [⟨false, none, byteV x⟩, msB k g f t i e a b s (.slice (some ⟨0, 0, none⟩) x.length c), penB 6 l3, pk l0, pk l1, pk l2, pk l3] 0 [(1,true)] [1, 5, 18, 19] =
  some (.normal, wrF 1 2 4, [⟨false, none, byteV x⟩, msB k g f t i e a b s (.slice (some ⟨0, 0, none⟩) x.length c), penB 7 l4, pk l0, pk l1, pk l2, pk l3, pk l4], 0, [(frameTPre (coW l3 l4 i) 46 [.pointer (some ⟨2, 0, none⟩), .int .i64 i] [⟨false, none, byteV x⟩, msB k g f t i e a b s (.slice (some ⟨0, 0, none⟩) x.length c), penB 6 l3, pk l0, pk l1, pk l2, pk l3], true)]) := by kernel_rfl
theorem wl3_okO {kk g f t i e a b : Nat} {s : ByteArray} {x : List Nat} {c : Nat} {l0 l1 l2 l3 : List Bool} (hne : x ≠ []) (h0 : l0 ≠ []) (h1 : l1 ≠ []) (h2 : l2 ≠ []) (h3 : l3 ≠ []) (hq : i ≤ 1073741824) (hl : l3.length + 100 ≤ 65536) :
    WP Tryz.prog (ntOf Tryz.prog 14 1) (loopAt Tryz.prog 14 0) ⟨wrF 1 2 3, [⟨false, none, byteV x⟩, msB kk g f t i e a b s (.slice (some ⟨0, 0, none⟩) x.length c), penB 6 l3, pk l0, pk l1, pk l2, pk l3], 0⟩ .normal ⟨wrF 1 2 4, [⟨false, none, byteV x⟩, msB kk g f t i e a b s (.slice (some ⟨0, 0, none⟩) x.length c), penB 7 (l3 ++ Bt.codeB i), pk l0, pk l1, pk l2, pk l3, pk (l3 ++ Bt.codeB i)], 0⟩ := by
  refine WP.run progOk extSound (nb_sound _ _ (frameT_sound _)) (by kernel_rfl) (LoopsOk.none (by kernel_rfl)) [1, 5, 18, 19] (wl3_runO kk g f t i e a b s l0 l1 l2 l3 (l3 ++ Bt.codeB i) x c) ?_
  intro q hq
  simp only [List.mem_cons, List.not_mem_nil, or_false] at hq
  rcases hq with rfl
  · exact tok (frameT_ok [2, 6] (code_ok (l := l3) (n := i) h3 (by assumption) hl) (by exact ro_row hne (ro_in rfl (ro_in rfl (ro_pk h0 (ro_pk h1 (ro_pk h2 (ro_pk h3 (ro_nil)))))))) (by exact rf_in rfl (rf_pk (rf_in rfl (rf_pk (rf_nil))))))
theorem wl4_runO (k g f t i e a b : Int) (s : ByteArray) (l0 l1 l2 l3 l4 l5 : List Bool) (x : List Nat) (c : Nat) : evL Tryz.prog ext (nmPre (frameTPre (coW l4 l5 e))) (nbC [] [] (frameT (coW l4 l5 e))) noLoops 300 (ntOf Tryz.prog 14 1) (loopAt Tryz.prog 14 0) (wrF 1 2 4) [⟨false, none, byteV x⟩, msB k g f t i e a b s (.slice (some ⟨0, 0, none⟩) x.length c), penB 7 l4, pk l0, pk l1, pk l2, pk l3, pk l4] 0 [(1,true)] [1, 5, 18, 19] =
  some (.normal, wrF 1 2 5, [⟨false, none, byteV x⟩, msB k g f t i e a b s (.slice (some ⟨0, 0, none⟩) x.length c), penB 8 l5, pk l0, pk l1, pk l2, pk l3, pk l4, pk l5], 0, [(frameTPre (coW l4 l5 e) 46 [.pointer (some ⟨2, 0, none⟩), .int .i64 e] [⟨false, none, byteV x⟩, msB k g f t i e a b s (.slice (some ⟨0, 0, none⟩) x.length c), penB 7 l4, pk l0, pk l1, pk l2, pk l3, pk l4], true)]) := by kernel_rfl
theorem wl4_okO {kk g f t i e a b : Nat} {s : ByteArray} {x : List Nat} {c : Nat} {l0 l1 l2 l3 l4 : List Bool} (hne : x ≠ []) (h0 : l0 ≠ []) (h1 : l1 ≠ []) (h2 : l2 ≠ []) (h3 : l3 ≠ []) (h4 : l4 ≠ []) (hq : e ≤ 1073741824) (hl : l4.length + 100 ≤ 65536) :
    WP Tryz.prog (ntOf Tryz.prog 14 1) (loopAt Tryz.prog 14 0) ⟨wrF 1 2 4, [⟨false, none, byteV x⟩, msB kk g f t i e a b s (.slice (some ⟨0, 0, none⟩) x.length c), penB 7 l4, pk l0, pk l1, pk l2, pk l3, pk l4], 0⟩ .normal ⟨wrF 1 2 5, [⟨false, none, byteV x⟩, msB kk g f t i e a b s (.slice (some ⟨0, 0, none⟩) x.length c), penB 8 (l4 ++ Bt.codeB e), pk l0, pk l1, pk l2, pk l3, pk l4, pk (l4 ++ Bt.codeB e)], 0⟩ := by
  refine WP.run progOk extSound (nb_sound _ _ (frameT_sound _)) (by kernel_rfl) (LoopsOk.none (by kernel_rfl)) [1, 5, 18, 19] (wl4_runO kk g f t i e a b s l0 l1 l2 l3 l4 (l4 ++ Bt.codeB e) x c) ?_
  intro q hq
  simp only [List.mem_cons, List.not_mem_nil, or_false] at hq
  rcases hq with rfl
  · exact tok (frameT_ok [2, 7] (code_ok (l := l4) (n := e) h4 (by assumption) hl) (by exact ro_row hne (ro_in rfl (ro_in rfl (ro_pk h0 (ro_pk h1 (ro_pk h2 (ro_pk h3 (ro_pk h4 (ro_nil))))))))) (by exact rf_in rfl (rf_pk (rf_in rfl (rf_pk (rf_nil))))))
theorem wl5_runO (k g f t i e a b : Int) (s : ByteArray) (l0 l1 l2 l3 l4 l5 l6 : List Bool) (x : List Nat) (c : Nat) : evL Tryz.prog ext (nmPre (frameTPre (coW l5 l6 a))) (nbC [] [] (frameT (coW l5 l6 a))) noLoops 300 (ntOf Tryz.prog 14 1) (loopAt Tryz.prog 14 0) (wrF 1 2 5) [⟨false, none, byteV x⟩, msB k g f t i e a b s (.slice (some ⟨0, 0, none⟩) x.length c), penB 8 l5, pk l0, pk l1, pk l2, pk l3, pk l4, pk l5] 0 [(1,true)] [1, 5, 18, 19] =
  some (.normal, wrF 1 2 6, [⟨false, none, byteV x⟩, msB k g f t i e a b s (.slice (some ⟨0, 0, none⟩) x.length c), penB 9 l6, pk l0, pk l1, pk l2, pk l3, pk l4, pk l5, pk l6], 0, [(frameTPre (coW l5 l6 a) 46 [.pointer (some ⟨2, 0, none⟩), .int .i64 a] [⟨false, none, byteV x⟩, msB k g f t i e a b s (.slice (some ⟨0, 0, none⟩) x.length c), penB 8 l5, pk l0, pk l1, pk l2, pk l3, pk l4, pk l5], true)]) := by kernel_rfl
theorem wl5_okO {kk g f t i e a b : Nat} {s : ByteArray} {x : List Nat} {c : Nat} {l0 l1 l2 l3 l4 l5 : List Bool} (hne : x ≠ []) (h0 : l0 ≠ []) (h1 : l1 ≠ []) (h2 : l2 ≠ []) (h3 : l3 ≠ []) (h4 : l4 ≠ []) (h5 : l5 ≠ []) (hq : a ≤ 1073741824) (hl : l5.length + 100 ≤ 65536) :
    WP Tryz.prog (ntOf Tryz.prog 14 1) (loopAt Tryz.prog 14 0) ⟨wrF 1 2 5, [⟨false, none, byteV x⟩, msB kk g f t i e a b s (.slice (some ⟨0, 0, none⟩) x.length c), penB 8 l5, pk l0, pk l1, pk l2, pk l3, pk l4, pk l5], 0⟩ .normal ⟨wrF 1 2 6, [⟨false, none, byteV x⟩, msB kk g f t i e a b s (.slice (some ⟨0, 0, none⟩) x.length c), penB 9 (l5 ++ Bt.codeB a), pk l0, pk l1, pk l2, pk l3, pk l4, pk l5, pk (l5 ++ Bt.codeB a)], 0⟩ := by
  refine WP.run progOk extSound (nb_sound _ _ (frameT_sound _)) (by kernel_rfl) (LoopsOk.none (by kernel_rfl)) [1, 5, 18, 19] (wl5_runO kk g f t i e a b s l0 l1 l2 l3 l4 l5 (l5 ++ Bt.codeB a) x c) ?_
  intro q hq
  simp only [List.mem_cons, List.not_mem_nil, or_false] at hq
  rcases hq with rfl
  · exact tok (frameT_ok [2, 8] (code_ok (l := l5) (n := a) h5 (by assumption) hl) (by exact ro_row hne (ro_in rfl (ro_in rfl (ro_pk h0 (ro_pk h1 (ro_pk h2 (ro_pk h3 (ro_pk h4 (ro_pk h5 (ro_nil)))))))))) (by exact rf_in rfl (rf_pk (rf_in rfl (rf_pk (rf_nil))))))
theorem wl6_runO (k g f t i e a b : Int) (s : ByteArray) (l0 l1 l2 l3 l4 l5 l6 l7 : List Bool) (x : List Nat) (c : Nat) : evL Tryz.prog ext (nmPre (frameTPre (coW l6 l7 b))) (nbC [] [] (frameT (coW l6 l7 b))) noLoops 300 (ntOf Tryz.prog 14 1) (loopAt Tryz.prog 14 0) (wrF 1 2 6) [⟨false, none, byteV x⟩, msB k g f t i e a b s (.slice (some ⟨0, 0, none⟩) x.length c), penB 9 l6, pk l0, pk l1, pk l2, pk l3, pk l4, pk l5, pk l6] 0 [(1,true)] [1, 5, 18, 19] =
  some (.normal, wrF 1 2 7, [⟨false, none, byteV x⟩, msB k g f t i e a b s (.slice (some ⟨0, 0, none⟩) x.length c), penB 10 l7, pk l0, pk l1, pk l2, pk l3, pk l4, pk l5, pk l6, pk l7], 0, [(frameTPre (coW l6 l7 b) 46 [.pointer (some ⟨2, 0, none⟩), .int .i64 b] [⟨false, none, byteV x⟩, msB k g f t i e a b s (.slice (some ⟨0, 0, none⟩) x.length c), penB 9 l6, pk l0, pk l1, pk l2, pk l3, pk l4, pk l5, pk l6], true)]) := by kernel_rfl
theorem wl6_okO {kk g f t i e a b : Nat} {s : ByteArray} {x : List Nat} {c : Nat} {l0 l1 l2 l3 l4 l5 l6 : List Bool} (hne : x ≠ []) (h0 : l0 ≠ []) (h1 : l1 ≠ []) (h2 : l2 ≠ []) (h3 : l3 ≠ []) (h4 : l4 ≠ []) (h5 : l5 ≠ []) (h6 : l6 ≠ []) (hq : b ≤ 1073741824) (hl : l6.length + 100 ≤ 65536) :
    WP Tryz.prog (ntOf Tryz.prog 14 1) (loopAt Tryz.prog 14 0) ⟨wrF 1 2 6, [⟨false, none, byteV x⟩, msB kk g f t i e a b s (.slice (some ⟨0, 0, none⟩) x.length c), penB 9 l6, pk l0, pk l1, pk l2, pk l3, pk l4, pk l5, pk l6], 0⟩ .normal ⟨wrF 1 2 7, [⟨false, none, byteV x⟩, msB kk g f t i e a b s (.slice (some ⟨0, 0, none⟩) x.length c), penB 10 (l6 ++ Bt.codeB b), pk l0, pk l1, pk l2, pk l3, pk l4, pk l5, pk l6, pk (l6 ++ Bt.codeB b)], 0⟩ := by
  refine WP.run progOk extSound (nb_sound _ _ (frameT_sound _)) (by kernel_rfl) (LoopsOk.none (by kernel_rfl)) [1, 5, 18, 19] (wl6_runO kk g f t i e a b s l0 l1 l2 l3 l4 l5 l6 (l6 ++ Bt.codeB b) x c) ?_
  intro q hq
  simp only [List.mem_cons, List.not_mem_nil, or_false] at hq
  rcases hq with rfl
  · exact tok (frameT_ok [2, 9] (code_ok (l := l6) (n := b) h6 (by assumption) hl) (by exact ro_row hne (ro_in rfl (ro_in rfl (ro_pk h0 (ro_pk h1 (ro_pk h2 (ro_pk h3 (ro_pk h4 (ro_pk h5 (ro_pk h6 (ro_nil))))))))))) (by exact rf_in rfl (rf_pk (rf_in rfl (rf_pk (rf_nil))))))
theorem wl_outO (k g f t i e a b : Int) (s : ByteArray) (l0 l1 l2 l3 l4 l5 l6 l7 : List Bool) (x : List Nat) (c : Nat) : evL Tryz.prog ext (nmPre noPre) (nbC [] [] noC) noLoops 300 (ntOf Tryz.prog 14 1) (loopAt Tryz.prog 14 0) (wrF 1 2 7) [⟨false, none, byteV x⟩, msB k g f t i e a b s (.slice (some ⟨0, 0, none⟩) x.length c), penB 10 l7, pk l0, pk l1, pk l2, pk l3, pk l4, pk l5, pk l6, pk l7] 0 [] [1, 5] =
  some (.exit 0, [(1, .pointer (some ⟨1, 0, none⟩)), (5, .pointer (some ⟨2, 0, none⟩))], [⟨false, none, byteV x⟩, msB k g f t i e a b s (.slice (some ⟨0, 0, none⟩) x.length c), penB 10 l7, pk l0, pk l1, pk l2, pk l3, pk l4, pk l5, pk l6, pk l7], 0, []) := by kernel_rfl
def wrHO (kk g f t i e a b : Nat) (s : ByteArray) (x : List Nat) (c : Nat) : Nat → Heap
  | 0 => [⟨false, none, byteV x⟩, msB kk g f t i e a b s (.slice (some ⟨0, 0, none⟩) x.length c), penB 3 (wrL kk g f t i e a b 0), pk (wrL kk g f t i e a b 0)]
  | 1 => [⟨false, none, byteV x⟩, msB kk g f t i e a b s (.slice (some ⟨0, 0, none⟩) x.length c), penB 4 (wrL kk g f t i e a b 1), pk (wrL kk g f t i e a b 0), pk (wrL kk g f t i e a b 1)]
  | 2 => [⟨false, none, byteV x⟩, msB kk g f t i e a b s (.slice (some ⟨0, 0, none⟩) x.length c), penB 5 (wrL kk g f t i e a b 2), pk (wrL kk g f t i e a b 0), pk (wrL kk g f t i e a b 1), pk (wrL kk g f t i e a b 2)]
  | 3 => [⟨false, none, byteV x⟩, msB kk g f t i e a b s (.slice (some ⟨0, 0, none⟩) x.length c), penB 6 (wrL kk g f t i e a b 3), pk (wrL kk g f t i e a b 0), pk (wrL kk g f t i e a b 1), pk (wrL kk g f t i e a b 2), pk (wrL kk g f t i e a b 3)]
  | 4 => [⟨false, none, byteV x⟩, msB kk g f t i e a b s (.slice (some ⟨0, 0, none⟩) x.length c), penB 7 (wrL kk g f t i e a b 4), pk (wrL kk g f t i e a b 0), pk (wrL kk g f t i e a b 1), pk (wrL kk g f t i e a b 2), pk (wrL kk g f t i e a b 3), pk (wrL kk g f t i e a b 4)]
  | 5 => [⟨false, none, byteV x⟩, msB kk g f t i e a b s (.slice (some ⟨0, 0, none⟩) x.length c), penB 8 (wrL kk g f t i e a b 5), pk (wrL kk g f t i e a b 0), pk (wrL kk g f t i e a b 1), pk (wrL kk g f t i e a b 2), pk (wrL kk g f t i e a b 3), pk (wrL kk g f t i e a b 4), pk (wrL kk g f t i e a b 5)]
  | 6 => [⟨false, none, byteV x⟩, msB kk g f t i e a b s (.slice (some ⟨0, 0, none⟩) x.length c), penB 9 (wrL kk g f t i e a b 6), pk (wrL kk g f t i e a b 0), pk (wrL kk g f t i e a b 1), pk (wrL kk g f t i e a b 2), pk (wrL kk g f t i e a b 3), pk (wrL kk g f t i e a b 4), pk (wrL kk g f t i e a b 5), pk (wrL kk g f t i e a b 6)]
  | _ => [⟨false, none, byteV x⟩, msB kk g f t i e a b s (.slice (some ⟨0, 0, none⟩) x.length c), penB 10 (wrL kk g f t i e a b 7), pk (wrL kk g f t i e a b 0), pk (wrL kk g f t i e a b 1), pk (wrL kk g f t i e a b 2), pk (wrL kk g f t i e a b 3), pk (wrL kk g f t i e a b 4), pk (wrL kk g f t i e a b 5), pk (wrL kk g f t i e a b 6), pk (wrL kk g f t i e a b 7)]
theorem wl_okO {kk g f t i e a b : Nat} {s : ByteArray} {x : List Nat} {c : Nat} (hne : x ≠ []) (hb : g ≤ 1073741824 ∧ f ≤ 1073741824 ∧ t ≤ 1073741824 ∧ i ≤ 1073741824 ∧ e ≤ 1073741824 ∧ a ≤ 1073741824 ∧ b ≤ 1073741824) :
    WP Tryz.prog (ntOf Tryz.prog 14 1) (.loop (loopAt Tryz.prog 14 0)) ⟨wrF 1 2 0, wrHO kk g f t i e a b s x c 0, 0⟩ (.exit 0) ⟨[(1, .pointer (some ⟨1, 0, none⟩)), (5, .pointer (some ⟨2, 0, none⟩))], wrHO kk g f t i e a b s x c 7, 0⟩ := by
  have hlen := fun j => wrL_len (kk := kk) hb j
  have hne' := fun j => wrL_ne kk g f t i e a b j
  obtain ⟨b0, b1, b2, b3, b4, b5, b6⟩ := hb
  refine WP.loop (P := Tryz.prog) (nt := ntOf Tryz.prog 14 1) (b := loopAt Tryz.prog 14 0) (fun j => ⟨wrF 1 2 (j : Nat), wrHO kk g f t i e a b s x c j, 0⟩) 7 (x := .exit 0) (by simp) ?_
    (WP.run progOk extSound (nb_sound _ _ noC_sound) (by kernel_rfl) (LoopsOk.none (by kernel_rfl)) [1, 5] (wl_outO kk g f t i e a b s (wrL kk g f t i e a b 0) (wrL kk g f t i e a b 1) (wrL kk g f t i e a b 2) (wrL kk g f t i e a b 3) (wrL kk g f t i e a b 4) (wrL kk g f t i e a b 5) (wrL kk g f t i e a b 6) (wrL kk g f t i e a b 7) x c) (by simp [Holds]))
  intro j hj
  match j, hj with
  | 0, _ => exact wl0_okO hne (hne' 0) b0 (by have := hlen 0; omega)
  | 1, _ => exact wl1_okO hne (hne' 0) (hne' 1) b1 (by have := hlen 1; omega)
  | 2, _ => exact wl2_okO hne (hne' 0) (hne' 1) (hne' 2) b2 (by have := hlen 2; omega)
  | 3, _ => exact wl3_okO hne (hne' 0) (hne' 1) (hne' 2) (hne' 3) b3 (by have := hlen 3; omega)
  | 4, _ => exact wl4_okO hne (hne' 0) (hne' 1) (hne' 2) (hne' 3) (hne' 4) b4 (by have := hlen 4; omega)
  | 5, _ => exact wl5_okO hne (hne' 0) (hne' 1) (hne' 2) (hne' 3) (hne' 4) (hne' 5) b5 (by have := hlen 5; omega)
  | 6, _ => exact wl6_okO hne (hne' 0) (hne' 1) (hne' 2) (hne' 3) (hne' 4) (hne' 5) (hne' 6) b6 (by have := hlen 6; omega)
  | n + 7, h => omega
theorem wl0_runR (k g f t i e a b : Int) (s : ByteArray) (l0 l1 : List Bool) (x : List Nat) : evL Tryz.prog ext (nmPre (frameTPre (coW l0 l1 g))) (nbC [] [] (frameT (coW l0 l1 g))) noLoops 300 (ntOf Tryz.prog 14 1) (loopAt Tryz.prog 14 0) (wrF 1 2 0) [rowB (byteV x), msB k g f t i e a b s (.slice (some ⟨0, 0, none⟩) x.length 0), penB 3 l0, pk l0] 0 [(1,true)] [1, 5, 18, 19] =
  some (.normal, wrF 1 2 1, [rowB (byteV x), msB k g f t i e a b s (.slice (some ⟨0, 0, none⟩) x.length 0), penB 4 l1, pk l0, pk l1], 0, [(frameTPre (coW l0 l1 g) 46 [.pointer (some ⟨2, 0, none⟩), .int .i64 g] [rowB (byteV x), msB k g f t i e a b s (.slice (some ⟨0, 0, none⟩) x.length 0), penB 3 l0, pk l0], true)]) := by kernel_rfl
theorem wl0_okR {kk g f t i e a b : Nat} {s : ByteArray} {x : List Nat} {l0 : List Bool} (hne : x ≠ []) (h0 : l0 ≠ []) (hq : g ≤ 1073741824) (hl : l0.length + 100 ≤ 65536) :
    WP Tryz.prog (ntOf Tryz.prog 14 1) (loopAt Tryz.prog 14 0) ⟨wrF 1 2 0, [rowB (byteV x), msB kk g f t i e a b s (.slice (some ⟨0, 0, none⟩) x.length 0), penB 3 l0, pk l0], 0⟩ .normal ⟨wrF 1 2 1, [rowB (byteV x), msB kk g f t i e a b s (.slice (some ⟨0, 0, none⟩) x.length 0), penB 4 (l0 ++ Bt.codeB g), pk l0, pk (l0 ++ Bt.codeB g)], 0⟩ := by
  refine WP.run progOk extSound (nb_sound _ _ (frameT_sound _)) (by kernel_rfl) (LoopsOk.none (by kernel_rfl)) [1, 5, 18, 19] (wl0_runR kk g f t i e a b s l0 (l0 ++ Bt.codeB g) x) ?_
  intro q hq
  simp only [List.mem_cons, List.not_mem_nil, or_false] at hq
  rcases hq with rfl
  · exact tok (frameT_ok [2, 3] (code_ok (l := l0) (n := g) h0 (by assumption) hl) (by exact ro_row hne (ro_in rfl (ro_in rfl (ro_pk h0 (ro_nil))))) (by exact rf_in rfl (rf_pk (rf_in rfl (rf_pk (rf_nil))))))
theorem wl1_runR (k g f t i e a b : Int) (s : ByteArray) (l0 l1 l2 : List Bool) (x : List Nat) : evL Tryz.prog ext (nmPre (frameTPre (coW l1 l2 f))) (nbC [] [] (frameT (coW l1 l2 f))) noLoops 300 (ntOf Tryz.prog 14 1) (loopAt Tryz.prog 14 0) (wrF 1 2 1) [rowB (byteV x), msB k g f t i e a b s (.slice (some ⟨0, 0, none⟩) x.length 0), penB 4 l1, pk l0, pk l1] 0 [(1,true)] [1, 5, 18, 19] =
  some (.normal, wrF 1 2 2, [rowB (byteV x), msB k g f t i e a b s (.slice (some ⟨0, 0, none⟩) x.length 0), penB 5 l2, pk l0, pk l1, pk l2], 0, [(frameTPre (coW l1 l2 f) 46 [.pointer (some ⟨2, 0, none⟩), .int .i64 f] [rowB (byteV x), msB k g f t i e a b s (.slice (some ⟨0, 0, none⟩) x.length 0), penB 4 l1, pk l0, pk l1], true)]) := by kernel_rfl
theorem wl1_okR {kk g f t i e a b : Nat} {s : ByteArray} {x : List Nat} {l0 l1 : List Bool} (hne : x ≠ []) (h0 : l0 ≠ []) (h1 : l1 ≠ []) (hq : f ≤ 1073741824) (hl : l1.length + 100 ≤ 65536) :
    WP Tryz.prog (ntOf Tryz.prog 14 1) (loopAt Tryz.prog 14 0) ⟨wrF 1 2 1, [rowB (byteV x), msB kk g f t i e a b s (.slice (some ⟨0, 0, none⟩) x.length 0), penB 4 l1, pk l0, pk l1], 0⟩ .normal ⟨wrF 1 2 2, [rowB (byteV x), msB kk g f t i e a b s (.slice (some ⟨0, 0, none⟩) x.length 0), penB 5 (l1 ++ Bt.codeB f), pk l0, pk l1, pk (l1 ++ Bt.codeB f)], 0⟩ := by
  refine WP.run progOk extSound (nb_sound _ _ (frameT_sound _)) (by kernel_rfl) (LoopsOk.none (by kernel_rfl)) [1, 5, 18, 19] (wl1_runR kk g f t i e a b s l0 l1 (l1 ++ Bt.codeB f) x) ?_
  intro q hq
  simp only [List.mem_cons, List.not_mem_nil, or_false] at hq
  rcases hq with rfl
  · exact tok (frameT_ok [2, 4] (code_ok (l := l1) (n := f) h1 (by assumption) hl) (by exact ro_row hne (ro_in rfl (ro_in rfl (ro_pk h0 (ro_pk h1 (ro_nil)))))) (by exact rf_in rfl (rf_pk (rf_in rfl (rf_pk (rf_nil))))))
theorem wl2_runR (k g f t i e a b : Int) (s : ByteArray) (l0 l1 l2 l3 : List Bool) (x : List Nat) : evL Tryz.prog ext (nmPre (frameTPre (coW l2 l3 t))) (nbC [] [] (frameT (coW l2 l3 t))) noLoops 300 (ntOf Tryz.prog 14 1) (loopAt Tryz.prog 14 0) (wrF 1 2 2) [rowB (byteV x), msB k g f t i e a b s (.slice (some ⟨0, 0, none⟩) x.length 0), penB 5 l2, pk l0, pk l1, pk l2] 0 [(1,true)] [1, 5, 18, 19] =
  some (.normal, wrF 1 2 3, [rowB (byteV x), msB k g f t i e a b s (.slice (some ⟨0, 0, none⟩) x.length 0), penB 6 l3, pk l0, pk l1, pk l2, pk l3], 0, [(frameTPre (coW l2 l3 t) 46 [.pointer (some ⟨2, 0, none⟩), .int .i64 t] [rowB (byteV x), msB k g f t i e a b s (.slice (some ⟨0, 0, none⟩) x.length 0), penB 5 l2, pk l0, pk l1, pk l2], true)]) := by kernel_rfl
theorem wl2_okR {kk g f t i e a b : Nat} {s : ByteArray} {x : List Nat} {l0 l1 l2 : List Bool} (hne : x ≠ []) (h0 : l0 ≠ []) (h1 : l1 ≠ []) (h2 : l2 ≠ []) (hq : t ≤ 1073741824) (hl : l2.length + 100 ≤ 65536) :
    WP Tryz.prog (ntOf Tryz.prog 14 1) (loopAt Tryz.prog 14 0) ⟨wrF 1 2 2, [rowB (byteV x), msB kk g f t i e a b s (.slice (some ⟨0, 0, none⟩) x.length 0), penB 5 l2, pk l0, pk l1, pk l2], 0⟩ .normal ⟨wrF 1 2 3, [rowB (byteV x), msB kk g f t i e a b s (.slice (some ⟨0, 0, none⟩) x.length 0), penB 6 (l2 ++ Bt.codeB t), pk l0, pk l1, pk l2, pk (l2 ++ Bt.codeB t)], 0⟩ := by
  refine WP.run progOk extSound (nb_sound _ _ (frameT_sound _)) (by kernel_rfl) (LoopsOk.none (by kernel_rfl)) [1, 5, 18, 19] (wl2_runR kk g f t i e a b s l0 l1 l2 (l2 ++ Bt.codeB t) x) ?_
  intro q hq
  simp only [List.mem_cons, List.not_mem_nil, or_false] at hq
  rcases hq with rfl
  · exact tok (frameT_ok [2, 5] (code_ok (l := l2) (n := t) h2 (by assumption) hl) (by exact ro_row hne (ro_in rfl (ro_in rfl (ro_pk h0 (ro_pk h1 (ro_pk h2 (ro_nil))))))) (by exact rf_in rfl (rf_pk (rf_in rfl (rf_pk (rf_nil))))))
theorem wl3_runR (k g f t i e a b : Int) (s : ByteArray) (l0 l1 l2 l3 l4 : List Bool) (x : List Nat) : evL Tryz.prog ext (nmPre (frameTPre (coW l3 l4 i))) (nbC [] [] (frameT (coW l3 l4 i))) noLoops 300 (ntOf Tryz.prog 14 1) (loopAt Tryz.prog 14 0) (wrF 1 2 3) [rowB (byteV x), msB k g f t i e a b s (.slice (some ⟨0, 0, none⟩) x.length 0), penB 6 l3, pk l0, pk l1, pk l2, pk l3] 0 [(1,true)] [1, 5, 18, 19] =
  some (.normal, wrF 1 2 4, [rowB (byteV x), msB k g f t i e a b s (.slice (some ⟨0, 0, none⟩) x.length 0), penB 7 l4, pk l0, pk l1, pk l2, pk l3, pk l4], 0, [(frameTPre (coW l3 l4 i) 46 [.pointer (some ⟨2, 0, none⟩), .int .i64 i] [rowB (byteV x), msB k g f t i e a b s (.slice (some ⟨0, 0, none⟩) x.length 0), penB 6 l3, pk l0, pk l1, pk l2, pk l3], true)]) := by kernel_rfl
theorem wl3_okR {kk g f t i e a b : Nat} {s : ByteArray} {x : List Nat} {l0 l1 l2 l3 : List Bool} (hne : x ≠ []) (h0 : l0 ≠ []) (h1 : l1 ≠ []) (h2 : l2 ≠ []) (h3 : l3 ≠ []) (hq : i ≤ 1073741824) (hl : l3.length + 100 ≤ 65536) :
    WP Tryz.prog (ntOf Tryz.prog 14 1) (loopAt Tryz.prog 14 0) ⟨wrF 1 2 3, [rowB (byteV x), msB kk g f t i e a b s (.slice (some ⟨0, 0, none⟩) x.length 0), penB 6 l3, pk l0, pk l1, pk l2, pk l3], 0⟩ .normal ⟨wrF 1 2 4, [rowB (byteV x), msB kk g f t i e a b s (.slice (some ⟨0, 0, none⟩) x.length 0), penB 7 (l3 ++ Bt.codeB i), pk l0, pk l1, pk l2, pk l3, pk (l3 ++ Bt.codeB i)], 0⟩ := by
  refine WP.run progOk extSound (nb_sound _ _ (frameT_sound _)) (by kernel_rfl) (LoopsOk.none (by kernel_rfl)) [1, 5, 18, 19] (wl3_runR kk g f t i e a b s l0 l1 l2 l3 (l3 ++ Bt.codeB i) x) ?_
  intro q hq
  simp only [List.mem_cons, List.not_mem_nil, or_false] at hq
  rcases hq with rfl
  · exact tok (frameT_ok [2, 6] (code_ok (l := l3) (n := i) h3 (by assumption) hl) (by exact ro_row hne (ro_in rfl (ro_in rfl (ro_pk h0 (ro_pk h1 (ro_pk h2 (ro_pk h3 (ro_nil)))))))) (by exact rf_in rfl (rf_pk (rf_in rfl (rf_pk (rf_nil))))))
theorem wl4_runR (k g f t i e a b : Int) (s : ByteArray) (l0 l1 l2 l3 l4 l5 : List Bool) (x : List Nat) : evL Tryz.prog ext (nmPre (frameTPre (coW l4 l5 e))) (nbC [] [] (frameT (coW l4 l5 e))) noLoops 300 (ntOf Tryz.prog 14 1) (loopAt Tryz.prog 14 0) (wrF 1 2 4) [rowB (byteV x), msB k g f t i e a b s (.slice (some ⟨0, 0, none⟩) x.length 0), penB 7 l4, pk l0, pk l1, pk l2, pk l3, pk l4] 0 [(1,true)] [1, 5, 18, 19] =
  some (.normal, wrF 1 2 5, [rowB (byteV x), msB k g f t i e a b s (.slice (some ⟨0, 0, none⟩) x.length 0), penB 8 l5, pk l0, pk l1, pk l2, pk l3, pk l4, pk l5], 0, [(frameTPre (coW l4 l5 e) 46 [.pointer (some ⟨2, 0, none⟩), .int .i64 e] [rowB (byteV x), msB k g f t i e a b s (.slice (some ⟨0, 0, none⟩) x.length 0), penB 7 l4, pk l0, pk l1, pk l2, pk l3, pk l4], true)]) := by kernel_rfl
theorem wl4_okR {kk g f t i e a b : Nat} {s : ByteArray} {x : List Nat} {l0 l1 l2 l3 l4 : List Bool} (hne : x ≠ []) (h0 : l0 ≠ []) (h1 : l1 ≠ []) (h2 : l2 ≠ []) (h3 : l3 ≠ []) (h4 : l4 ≠ []) (hq : e ≤ 1073741824) (hl : l4.length + 100 ≤ 65536) :
    WP Tryz.prog (ntOf Tryz.prog 14 1) (loopAt Tryz.prog 14 0) ⟨wrF 1 2 4, [rowB (byteV x), msB kk g f t i e a b s (.slice (some ⟨0, 0, none⟩) x.length 0), penB 7 l4, pk l0, pk l1, pk l2, pk l3, pk l4], 0⟩ .normal ⟨wrF 1 2 5, [rowB (byteV x), msB kk g f t i e a b s (.slice (some ⟨0, 0, none⟩) x.length 0), penB 8 (l4 ++ Bt.codeB e), pk l0, pk l1, pk l2, pk l3, pk l4, pk (l4 ++ Bt.codeB e)], 0⟩ := by
  refine WP.run progOk extSound (nb_sound _ _ (frameT_sound _)) (by kernel_rfl) (LoopsOk.none (by kernel_rfl)) [1, 5, 18, 19] (wl4_runR kk g f t i e a b s l0 l1 l2 l3 l4 (l4 ++ Bt.codeB e) x) ?_
  intro q hq
  simp only [List.mem_cons, List.not_mem_nil, or_false] at hq
  rcases hq with rfl
  · exact tok (frameT_ok [2, 7] (code_ok (l := l4) (n := e) h4 (by assumption) hl) (by exact ro_row hne (ro_in rfl (ro_in rfl (ro_pk h0 (ro_pk h1 (ro_pk h2 (ro_pk h3 (ro_pk h4 (ro_nil))))))))) (by exact rf_in rfl (rf_pk (rf_in rfl (rf_pk (rf_nil))))))
theorem wl5_runR (k g f t i e a b : Int) (s : ByteArray) (l0 l1 l2 l3 l4 l5 l6 : List Bool) (x : List Nat) : evL Tryz.prog ext (nmPre (frameTPre (coW l5 l6 a))) (nbC [] [] (frameT (coW l5 l6 a))) noLoops 300 (ntOf Tryz.prog 14 1) (loopAt Tryz.prog 14 0) (wrF 1 2 5) [rowB (byteV x), msB k g f t i e a b s (.slice (some ⟨0, 0, none⟩) x.length 0), penB 8 l5, pk l0, pk l1, pk l2, pk l3, pk l4, pk l5] 0 [(1,true)] [1, 5, 18, 19] =
  some (.normal, wrF 1 2 6, [rowB (byteV x), msB k g f t i e a b s (.slice (some ⟨0, 0, none⟩) x.length 0), penB 9 l6, pk l0, pk l1, pk l2, pk l3, pk l4, pk l5, pk l6], 0, [(frameTPre (coW l5 l6 a) 46 [.pointer (some ⟨2, 0, none⟩), .int .i64 a] [rowB (byteV x), msB k g f t i e a b s (.slice (some ⟨0, 0, none⟩) x.length 0), penB 8 l5, pk l0, pk l1, pk l2, pk l3, pk l4, pk l5], true)]) := by kernel_rfl
theorem wl5_okR {kk g f t i e a b : Nat} {s : ByteArray} {x : List Nat} {l0 l1 l2 l3 l4 l5 : List Bool} (hne : x ≠ []) (h0 : l0 ≠ []) (h1 : l1 ≠ []) (h2 : l2 ≠ []) (h3 : l3 ≠ []) (h4 : l4 ≠ []) (h5 : l5 ≠ []) (hq : a ≤ 1073741824) (hl : l5.length + 100 ≤ 65536) :
    WP Tryz.prog (ntOf Tryz.prog 14 1) (loopAt Tryz.prog 14 0) ⟨wrF 1 2 5, [rowB (byteV x), msB kk g f t i e a b s (.slice (some ⟨0, 0, none⟩) x.length 0), penB 8 l5, pk l0, pk l1, pk l2, pk l3, pk l4, pk l5], 0⟩ .normal ⟨wrF 1 2 6, [rowB (byteV x), msB kk g f t i e a b s (.slice (some ⟨0, 0, none⟩) x.length 0), penB 9 (l5 ++ Bt.codeB a), pk l0, pk l1, pk l2, pk l3, pk l4, pk l5, pk (l5 ++ Bt.codeB a)], 0⟩ := by
  refine WP.run progOk extSound (nb_sound _ _ (frameT_sound _)) (by kernel_rfl) (LoopsOk.none (by kernel_rfl)) [1, 5, 18, 19] (wl5_runR kk g f t i e a b s l0 l1 l2 l3 l4 l5 (l5 ++ Bt.codeB a) x) ?_
  intro q hq
  simp only [List.mem_cons, List.not_mem_nil, or_false] at hq
  rcases hq with rfl
  · exact tok (frameT_ok [2, 8] (code_ok (l := l5) (n := a) h5 (by assumption) hl) (by exact ro_row hne (ro_in rfl (ro_in rfl (ro_pk h0 (ro_pk h1 (ro_pk h2 (ro_pk h3 (ro_pk h4 (ro_pk h5 (ro_nil)))))))))) (by exact rf_in rfl (rf_pk (rf_in rfl (rf_pk (rf_nil))))))
theorem wl6_runR (k g f t i e a b : Int) (s : ByteArray) (l0 l1 l2 l3 l4 l5 l6 l7 : List Bool) (x : List Nat) : evL Tryz.prog ext (nmPre (frameTPre (coW l6 l7 b))) (nbC [] [] (frameT (coW l6 l7 b))) noLoops 300 (ntOf Tryz.prog 14 1) (loopAt Tryz.prog 14 0) (wrF 1 2 6) [rowB (byteV x), msB k g f t i e a b s (.slice (some ⟨0, 0, none⟩) x.length 0), penB 9 l6, pk l0, pk l1, pk l2, pk l3, pk l4, pk l5, pk l6] 0 [(1,true)] [1, 5, 18, 19] =
  some (.normal, wrF 1 2 7, [rowB (byteV x), msB k g f t i e a b s (.slice (some ⟨0, 0, none⟩) x.length 0), penB 10 l7, pk l0, pk l1, pk l2, pk l3, pk l4, pk l5, pk l6, pk l7], 0, [(frameTPre (coW l6 l7 b) 46 [.pointer (some ⟨2, 0, none⟩), .int .i64 b] [rowB (byteV x), msB k g f t i e a b s (.slice (some ⟨0, 0, none⟩) x.length 0), penB 9 l6, pk l0, pk l1, pk l2, pk l3, pk l4, pk l5, pk l6], true)]) := by kernel_rfl
theorem wl6_okR {kk g f t i e a b : Nat} {s : ByteArray} {x : List Nat} {l0 l1 l2 l3 l4 l5 l6 : List Bool} (hne : x ≠ []) (h0 : l0 ≠ []) (h1 : l1 ≠ []) (h2 : l2 ≠ []) (h3 : l3 ≠ []) (h4 : l4 ≠ []) (h5 : l5 ≠ []) (h6 : l6 ≠ []) (hq : b ≤ 1073741824) (hl : l6.length + 100 ≤ 65536) :
    WP Tryz.prog (ntOf Tryz.prog 14 1) (loopAt Tryz.prog 14 0) ⟨wrF 1 2 6, [rowB (byteV x), msB kk g f t i e a b s (.slice (some ⟨0, 0, none⟩) x.length 0), penB 9 l6, pk l0, pk l1, pk l2, pk l3, pk l4, pk l5, pk l6], 0⟩ .normal ⟨wrF 1 2 7, [rowB (byteV x), msB kk g f t i e a b s (.slice (some ⟨0, 0, none⟩) x.length 0), penB 10 (l6 ++ Bt.codeB b), pk l0, pk l1, pk l2, pk l3, pk l4, pk l5, pk l6, pk (l6 ++ Bt.codeB b)], 0⟩ := by
  refine WP.run progOk extSound (nb_sound _ _ (frameT_sound _)) (by kernel_rfl) (LoopsOk.none (by kernel_rfl)) [1, 5, 18, 19] (wl6_runR kk g f t i e a b s l0 l1 l2 l3 l4 l5 l6 (l6 ++ Bt.codeB b) x) ?_
  intro q hq
  simp only [List.mem_cons, List.not_mem_nil, or_false] at hq
  rcases hq with rfl
  · exact tok (frameT_ok [2, 9] (code_ok (l := l6) (n := b) h6 (by assumption) hl) (by exact ro_row hne (ro_in rfl (ro_in rfl (ro_pk h0 (ro_pk h1 (ro_pk h2 (ro_pk h3 (ro_pk h4 (ro_pk h5 (ro_pk h6 (ro_nil))))))))))) (by exact rf_in rfl (rf_pk (rf_in rfl (rf_pk (rf_nil))))))
theorem wl_outR (k g f t i e a b : Int) (s : ByteArray) (l0 l1 l2 l3 l4 l5 l6 l7 : List Bool) (x : List Nat) : evL Tryz.prog ext (nmPre noPre) (nbC [] [] noC) noLoops 300 (ntOf Tryz.prog 14 1) (loopAt Tryz.prog 14 0) (wrF 1 2 7) [rowB (byteV x), msB k g f t i e a b s (.slice (some ⟨0, 0, none⟩) x.length 0), penB 10 l7, pk l0, pk l1, pk l2, pk l3, pk l4, pk l5, pk l6, pk l7] 0 [] [1, 5] =
  some (.exit 0, [(1, .pointer (some ⟨1, 0, none⟩)), (5, .pointer (some ⟨2, 0, none⟩))], [rowB (byteV x), msB k g f t i e a b s (.slice (some ⟨0, 0, none⟩) x.length 0), penB 10 l7, pk l0, pk l1, pk l2, pk l3, pk l4, pk l5, pk l6, pk l7], 0, []) := by kernel_rfl
def wrHR (kk g f t i e a b : Nat) (s : ByteArray) (x : List Nat) : Nat → Heap
  | 0 => [rowB (byteV x), msB kk g f t i e a b s (.slice (some ⟨0, 0, none⟩) x.length 0), penB 3 (wrL kk g f t i e a b 0), pk (wrL kk g f t i e a b 0)]
  | 1 => [rowB (byteV x), msB kk g f t i e a b s (.slice (some ⟨0, 0, none⟩) x.length 0), penB 4 (wrL kk g f t i e a b 1), pk (wrL kk g f t i e a b 0), pk (wrL kk g f t i e a b 1)]
  | 2 => [rowB (byteV x), msB kk g f t i e a b s (.slice (some ⟨0, 0, none⟩) x.length 0), penB 5 (wrL kk g f t i e a b 2), pk (wrL kk g f t i e a b 0), pk (wrL kk g f t i e a b 1), pk (wrL kk g f t i e a b 2)]
  | 3 => [rowB (byteV x), msB kk g f t i e a b s (.slice (some ⟨0, 0, none⟩) x.length 0), penB 6 (wrL kk g f t i e a b 3), pk (wrL kk g f t i e a b 0), pk (wrL kk g f t i e a b 1), pk (wrL kk g f t i e a b 2), pk (wrL kk g f t i e a b 3)]
  | 4 => [rowB (byteV x), msB kk g f t i e a b s (.slice (some ⟨0, 0, none⟩) x.length 0), penB 7 (wrL kk g f t i e a b 4), pk (wrL kk g f t i e a b 0), pk (wrL kk g f t i e a b 1), pk (wrL kk g f t i e a b 2), pk (wrL kk g f t i e a b 3), pk (wrL kk g f t i e a b 4)]
  | 5 => [rowB (byteV x), msB kk g f t i e a b s (.slice (some ⟨0, 0, none⟩) x.length 0), penB 8 (wrL kk g f t i e a b 5), pk (wrL kk g f t i e a b 0), pk (wrL kk g f t i e a b 1), pk (wrL kk g f t i e a b 2), pk (wrL kk g f t i e a b 3), pk (wrL kk g f t i e a b 4), pk (wrL kk g f t i e a b 5)]
  | 6 => [rowB (byteV x), msB kk g f t i e a b s (.slice (some ⟨0, 0, none⟩) x.length 0), penB 9 (wrL kk g f t i e a b 6), pk (wrL kk g f t i e a b 0), pk (wrL kk g f t i e a b 1), pk (wrL kk g f t i e a b 2), pk (wrL kk g f t i e a b 3), pk (wrL kk g f t i e a b 4), pk (wrL kk g f t i e a b 5), pk (wrL kk g f t i e a b 6)]
  | _ => [rowB (byteV x), msB kk g f t i e a b s (.slice (some ⟨0, 0, none⟩) x.length 0), penB 10 (wrL kk g f t i e a b 7), pk (wrL kk g f t i e a b 0), pk (wrL kk g f t i e a b 1), pk (wrL kk g f t i e a b 2), pk (wrL kk g f t i e a b 3), pk (wrL kk g f t i e a b 4), pk (wrL kk g f t i e a b 5), pk (wrL kk g f t i e a b 6), pk (wrL kk g f t i e a b 7)]
theorem wl_okR {kk g f t i e a b : Nat} {s : ByteArray} {x : List Nat} (hne : x ≠ []) (hb : g ≤ 1073741824 ∧ f ≤ 1073741824 ∧ t ≤ 1073741824 ∧ i ≤ 1073741824 ∧ e ≤ 1073741824 ∧ a ≤ 1073741824 ∧ b ≤ 1073741824) :
    WP Tryz.prog (ntOf Tryz.prog 14 1) (.loop (loopAt Tryz.prog 14 0)) ⟨wrF 1 2 0, wrHR kk g f t i e a b s x 0, 0⟩ (.exit 0) ⟨[(1, .pointer (some ⟨1, 0, none⟩)), (5, .pointer (some ⟨2, 0, none⟩))], wrHR kk g f t i e a b s x 7, 0⟩ := by
  have hlen := fun j => wrL_len (kk := kk) hb j
  have hne' := fun j => wrL_ne kk g f t i e a b j
  obtain ⟨b0, b1, b2, b3, b4, b5, b6⟩ := hb
  refine WP.loop (P := Tryz.prog) (nt := ntOf Tryz.prog 14 1) (b := loopAt Tryz.prog 14 0) (fun j => ⟨wrF 1 2 (j : Nat), wrHR kk g f t i e a b s x j, 0⟩) 7 (x := .exit 0) (by simp) ?_
    (WP.run progOk extSound (nb_sound _ _ noC_sound) (by kernel_rfl) (LoopsOk.none (by kernel_rfl)) [1, 5] (wl_outR kk g f t i e a b s (wrL kk g f t i e a b 0) (wrL kk g f t i e a b 1) (wrL kk g f t i e a b 2) (wrL kk g f t i e a b 3) (wrL kk g f t i e a b 4) (wrL kk g f t i e a b 5) (wrL kk g f t i e a b 6) (wrL kk g f t i e a b 7) x) (by simp [Holds]))
  intro j hj
  match j, hj with
  | 0, _ => exact wl0_okR hne (hne' 0) b0 (by have := hlen 0; omega)
  | 1, _ => exact wl1_okR hne (hne' 0) (hne' 1) b1 (by have := hlen 1; omega)
  | 2, _ => exact wl2_okR hne (hne' 0) (hne' 1) (hne' 2) b2 (by have := hlen 2; omega)
  | 3, _ => exact wl3_okR hne (hne' 0) (hne' 1) (hne' 2) (hne' 3) b3 (by have := hlen 3; omega)
  | 4, _ => exact wl4_okR hne (hne' 0) (hne' 1) (hne' 2) (hne' 3) (hne' 4) b4 (by have := hlen 4; omega)
  | 5, _ => exact wl5_okR hne (hne' 0) (hne' 1) (hne' 2) (hne' 3) (hne' 4) (hne' 5) b5 (by have := hlen 5; omega)
  | 6, _ => exact wl6_okR hne (hne' 0) (hne' 1) (hne' 2) (hne' 3) (hne' 4) (hne' 5) (hne' 6) b6 (by have := hlen 6; omega)
  | n + 7, h => omega
theorem wl0_runM (k g f t i e a b : Int) (s : ByteArray) (l0 l1 : List Bool) (D : Value) : evL Tryz.prog ext (nmPre (frameTPre (coW l0 l1 g))) (nbC [] [] (frameT (coW l0 l1 g))) noLoops 300 (ntOf Tryz.prog 14 1) (loopAt Tryz.prog 14 0) (wrF 0 1 0) [msB k g f t i e a b s D, penB 2 l0, pk l0] 0 [(1,true)] [1, 5, 18, 19] =
  some (.normal, wrF 0 1 1, [msB k g f t i e a b s D, penB 3 l1, pk l0, pk l1], 0, [(frameTPre (coW l0 l1 g) 46 [.pointer (some ⟨1, 0, none⟩), .int .i64 g] [msB k g f t i e a b s D, penB 2 l0, pk l0], true)]) := by kernel_rfl
theorem wl0_okM {kk g f t i e a b : Nat} {s : ByteArray} {D : Value} {l0 : List Bool} (h0 : l0 ≠ []) (hq : g ≤ 1073741824) (hl : l0.length + 100 ≤ 65536) :
    WP Tryz.prog (ntOf Tryz.prog 14 1) (loopAt Tryz.prog 14 0) ⟨wrF 0 1 0, [msB kk g f t i e a b s D, penB 2 l0, pk l0], 0⟩ .normal ⟨wrF 0 1 1, [msB kk g f t i e a b s D, penB 3 (l0 ++ Bt.codeB g), pk l0, pk (l0 ++ Bt.codeB g)], 0⟩ := by
  refine WP.run progOk extSound (nb_sound _ _ (frameT_sound _)) (by kernel_rfl) (LoopsOk.none (by kernel_rfl)) [1, 5, 18, 19] (wl0_runM kk g f t i e a b s l0 (l0 ++ Bt.codeB g) D) ?_
  intro q hq
  simp only [List.mem_cons, List.not_mem_nil, or_false] at hq
  rcases hq with rfl
  · exact tok (frameT_ok [1, 2] (code_ok (l := l0) (n := g) h0 (by assumption) hl) (by exact ro_in rfl (ro_in rfl (ro_pk h0 (ro_nil)))) (by exact rf_in rfl (rf_pk (rf_in rfl (rf_pk (rf_nil))))))
theorem wl1_runM (k g f t i e a b : Int) (s : ByteArray) (l0 l1 l2 : List Bool) (D : Value) : evL Tryz.prog ext (nmPre (frameTPre (coW l1 l2 f))) (nbC [] [] (frameT (coW l1 l2 f))) noLoops 300 (ntOf Tryz.prog 14 1) (loopAt Tryz.prog 14 0) (wrF 0 1 1) [msB k g f t i e a b s D, penB 3 l1, pk l0, pk l1] 0 [(1,true)] [1, 5, 18, 19] =
  some (.normal, wrF 0 1 2, [msB k g f t i e a b s D, penB 4 l2, pk l0, pk l1, pk l2], 0, [(frameTPre (coW l1 l2 f) 46 [.pointer (some ⟨1, 0, none⟩), .int .i64 f] [msB k g f t i e a b s D, penB 3 l1, pk l0, pk l1], true)]) := by kernel_rfl
theorem wl1_okM {kk g f t i e a b : Nat} {s : ByteArray} {D : Value} {l0 l1 : List Bool} (h0 : l0 ≠ []) (h1 : l1 ≠ []) (hq : f ≤ 1073741824) (hl : l1.length + 100 ≤ 65536) :
    WP Tryz.prog (ntOf Tryz.prog 14 1) (loopAt Tryz.prog 14 0) ⟨wrF 0 1 1, [msB kk g f t i e a b s D, penB 3 l1, pk l0, pk l1], 0⟩ .normal ⟨wrF 0 1 2, [msB kk g f t i e a b s D, penB 4 (l1 ++ Bt.codeB f), pk l0, pk l1, pk (l1 ++ Bt.codeB f)], 0⟩ := by
  refine WP.run progOk extSound (nb_sound _ _ (frameT_sound _)) (by kernel_rfl) (LoopsOk.none (by kernel_rfl)) [1, 5, 18, 19] (wl1_runM kk g f t i e a b s l0 l1 (l1 ++ Bt.codeB f) D) ?_
  intro q hq
  simp only [List.mem_cons, List.not_mem_nil, or_false] at hq
  rcases hq with rfl
  · exact tok (frameT_ok [1, 3] (code_ok (l := l1) (n := f) h1 (by assumption) hl) (by exact ro_in rfl (ro_in rfl (ro_pk h0 (ro_pk h1 (ro_nil))))) (by exact rf_in rfl (rf_pk (rf_in rfl (rf_pk (rf_nil))))))
theorem wl2_runM (k g f t i e a b : Int) (s : ByteArray) (l0 l1 l2 l3 : List Bool) (D : Value) : evL Tryz.prog ext (nmPre (frameTPre (coW l2 l3 t))) (nbC [] [] (frameT (coW l2 l3 t))) noLoops 300 (ntOf Tryz.prog 14 1) (loopAt Tryz.prog 14 0) (wrF 0 1 2) [msB k g f t i e a b s D, penB 4 l2, pk l0, pk l1, pk l2] 0 [(1,true)] [1, 5, 18, 19] =
  some (.normal, wrF 0 1 3, [msB k g f t i e a b s D, penB 5 l3, pk l0, pk l1, pk l2, pk l3], 0, [(frameTPre (coW l2 l3 t) 46 [.pointer (some ⟨1, 0, none⟩), .int .i64 t] [msB k g f t i e a b s D, penB 4 l2, pk l0, pk l1, pk l2], true)]) := by kernel_rfl
theorem wl2_okM {kk g f t i e a b : Nat} {s : ByteArray} {D : Value} {l0 l1 l2 : List Bool} (h0 : l0 ≠ []) (h1 : l1 ≠ []) (h2 : l2 ≠ []) (hq : t ≤ 1073741824) (hl : l2.length + 100 ≤ 65536) :
    WP Tryz.prog (ntOf Tryz.prog 14 1) (loopAt Tryz.prog 14 0) ⟨wrF 0 1 2, [msB kk g f t i e a b s D, penB 4 l2, pk l0, pk l1, pk l2], 0⟩ .normal ⟨wrF 0 1 3, [msB kk g f t i e a b s D, penB 5 (l2 ++ Bt.codeB t), pk l0, pk l1, pk l2, pk (l2 ++ Bt.codeB t)], 0⟩ := by
  refine WP.run progOk extSound (nb_sound _ _ (frameT_sound _)) (by kernel_rfl) (LoopsOk.none (by kernel_rfl)) [1, 5, 18, 19] (wl2_runM kk g f t i e a b s l0 l1 l2 (l2 ++ Bt.codeB t) D) ?_
  intro q hq
  simp only [List.mem_cons, List.not_mem_nil, or_false] at hq
  rcases hq with rfl
  · exact tok (frameT_ok [1, 4] (code_ok (l := l2) (n := t) h2 (by assumption) hl) (by exact ro_in rfl (ro_in rfl (ro_pk h0 (ro_pk h1 (ro_pk h2 (ro_nil)))))) (by exact rf_in rfl (rf_pk (rf_in rfl (rf_pk (rf_nil))))))
theorem wl3_runM (k g f t i e a b : Int) (s : ByteArray) (l0 l1 l2 l3 l4 : List Bool) (D : Value) : evL Tryz.prog ext (nmPre (frameTPre (coW l3 l4 i))) (nbC [] [] (frameT (coW l3 l4 i))) noLoops 300 (ntOf Tryz.prog 14 1) (loopAt Tryz.prog 14 0) (wrF 0 1 3) [msB k g f t i e a b s D, penB 5 l3, pk l0, pk l1, pk l2, pk l3] 0 [(1,true)] [1, 5, 18, 19] =
  some (.normal, wrF 0 1 4, [msB k g f t i e a b s D, penB 6 l4, pk l0, pk l1, pk l2, pk l3, pk l4], 0, [(frameTPre (coW l3 l4 i) 46 [.pointer (some ⟨1, 0, none⟩), .int .i64 i] [msB k g f t i e a b s D, penB 5 l3, pk l0, pk l1, pk l2, pk l3], true)]) := by kernel_rfl
theorem wl3_okM {kk g f t i e a b : Nat} {s : ByteArray} {D : Value} {l0 l1 l2 l3 : List Bool} (h0 : l0 ≠ []) (h1 : l1 ≠ []) (h2 : l2 ≠ []) (h3 : l3 ≠ []) (hq : i ≤ 1073741824) (hl : l3.length + 100 ≤ 65536) :
    WP Tryz.prog (ntOf Tryz.prog 14 1) (loopAt Tryz.prog 14 0) ⟨wrF 0 1 3, [msB kk g f t i e a b s D, penB 5 l3, pk l0, pk l1, pk l2, pk l3], 0⟩ .normal ⟨wrF 0 1 4, [msB kk g f t i e a b s D, penB 6 (l3 ++ Bt.codeB i), pk l0, pk l1, pk l2, pk l3, pk (l3 ++ Bt.codeB i)], 0⟩ := by
  refine WP.run progOk extSound (nb_sound _ _ (frameT_sound _)) (by kernel_rfl) (LoopsOk.none (by kernel_rfl)) [1, 5, 18, 19] (wl3_runM kk g f t i e a b s l0 l1 l2 l3 (l3 ++ Bt.codeB i) D) ?_
  intro q hq
  simp only [List.mem_cons, List.not_mem_nil, or_false] at hq
  rcases hq with rfl
  · exact tok (frameT_ok [1, 5] (code_ok (l := l3) (n := i) h3 (by assumption) hl) (by exact ro_in rfl (ro_in rfl (ro_pk h0 (ro_pk h1 (ro_pk h2 (ro_pk h3 (ro_nil))))))) (by exact rf_in rfl (rf_pk (rf_in rfl (rf_pk (rf_nil))))))
theorem wl4_runM (k g f t i e a b : Int) (s : ByteArray) (l0 l1 l2 l3 l4 l5 : List Bool) (D : Value) : evL Tryz.prog ext (nmPre (frameTPre (coW l4 l5 e))) (nbC [] [] (frameT (coW l4 l5 e))) noLoops 300 (ntOf Tryz.prog 14 1) (loopAt Tryz.prog 14 0) (wrF 0 1 4) [msB k g f t i e a b s D, penB 6 l4, pk l0, pk l1, pk l2, pk l3, pk l4] 0 [(1,true)] [1, 5, 18, 19] =
  some (.normal, wrF 0 1 5, [msB k g f t i e a b s D, penB 7 l5, pk l0, pk l1, pk l2, pk l3, pk l4, pk l5], 0, [(frameTPre (coW l4 l5 e) 46 [.pointer (some ⟨1, 0, none⟩), .int .i64 e] [msB k g f t i e a b s D, penB 6 l4, pk l0, pk l1, pk l2, pk l3, pk l4], true)]) := by kernel_rfl
theorem wl4_okM {kk g f t i e a b : Nat} {s : ByteArray} {D : Value} {l0 l1 l2 l3 l4 : List Bool} (h0 : l0 ≠ []) (h1 : l1 ≠ []) (h2 : l2 ≠ []) (h3 : l3 ≠ []) (h4 : l4 ≠ []) (hq : e ≤ 1073741824) (hl : l4.length + 100 ≤ 65536) :
    WP Tryz.prog (ntOf Tryz.prog 14 1) (loopAt Tryz.prog 14 0) ⟨wrF 0 1 4, [msB kk g f t i e a b s D, penB 6 l4, pk l0, pk l1, pk l2, pk l3, pk l4], 0⟩ .normal ⟨wrF 0 1 5, [msB kk g f t i e a b s D, penB 7 (l4 ++ Bt.codeB e), pk l0, pk l1, pk l2, pk l3, pk l4, pk (l4 ++ Bt.codeB e)], 0⟩ := by
  refine WP.run progOk extSound (nb_sound _ _ (frameT_sound _)) (by kernel_rfl) (LoopsOk.none (by kernel_rfl)) [1, 5, 18, 19] (wl4_runM kk g f t i e a b s l0 l1 l2 l3 l4 (l4 ++ Bt.codeB e) D) ?_
  intro q hq
  simp only [List.mem_cons, List.not_mem_nil, or_false] at hq
  rcases hq with rfl
  · exact tok (frameT_ok [1, 6] (code_ok (l := l4) (n := e) h4 (by assumption) hl) (by exact ro_in rfl (ro_in rfl (ro_pk h0 (ro_pk h1 (ro_pk h2 (ro_pk h3 (ro_pk h4 (ro_nil)))))))) (by exact rf_in rfl (rf_pk (rf_in rfl (rf_pk (rf_nil))))))
theorem wl5_runM (k g f t i e a b : Int) (s : ByteArray) (l0 l1 l2 l3 l4 l5 l6 : List Bool) (D : Value) : evL Tryz.prog ext (nmPre (frameTPre (coW l5 l6 a))) (nbC [] [] (frameT (coW l5 l6 a))) noLoops 300 (ntOf Tryz.prog 14 1) (loopAt Tryz.prog 14 0) (wrF 0 1 5) [msB k g f t i e a b s D, penB 7 l5, pk l0, pk l1, pk l2, pk l3, pk l4, pk l5] 0 [(1,true)] [1, 5, 18, 19] =
  some (.normal, wrF 0 1 6, [msB k g f t i e a b s D, penB 8 l6, pk l0, pk l1, pk l2, pk l3, pk l4, pk l5, pk l6], 0, [(frameTPre (coW l5 l6 a) 46 [.pointer (some ⟨1, 0, none⟩), .int .i64 a] [msB k g f t i e a b s D, penB 7 l5, pk l0, pk l1, pk l2, pk l3, pk l4, pk l5], true)]) := by kernel_rfl
theorem wl5_okM {kk g f t i e a b : Nat} {s : ByteArray} {D : Value} {l0 l1 l2 l3 l4 l5 : List Bool} (h0 : l0 ≠ []) (h1 : l1 ≠ []) (h2 : l2 ≠ []) (h3 : l3 ≠ []) (h4 : l4 ≠ []) (h5 : l5 ≠ []) (hq : a ≤ 1073741824) (hl : l5.length + 100 ≤ 65536) :
    WP Tryz.prog (ntOf Tryz.prog 14 1) (loopAt Tryz.prog 14 0) ⟨wrF 0 1 5, [msB kk g f t i e a b s D, penB 7 l5, pk l0, pk l1, pk l2, pk l3, pk l4, pk l5], 0⟩ .normal ⟨wrF 0 1 6, [msB kk g f t i e a b s D, penB 8 (l5 ++ Bt.codeB a), pk l0, pk l1, pk l2, pk l3, pk l4, pk l5, pk (l5 ++ Bt.codeB a)], 0⟩ := by
  refine WP.run progOk extSound (nb_sound _ _ (frameT_sound _)) (by kernel_rfl) (LoopsOk.none (by kernel_rfl)) [1, 5, 18, 19] (wl5_runM kk g f t i e a b s l0 l1 l2 l3 l4 l5 (l5 ++ Bt.codeB a) D) ?_
  intro q hq
  simp only [List.mem_cons, List.not_mem_nil, or_false] at hq
  rcases hq with rfl
  · exact tok (frameT_ok [1, 7] (code_ok (l := l5) (n := a) h5 (by assumption) hl) (by exact ro_in rfl (ro_in rfl (ro_pk h0 (ro_pk h1 (ro_pk h2 (ro_pk h3 (ro_pk h4 (ro_pk h5 (ro_nil))))))))) (by exact rf_in rfl (rf_pk (rf_in rfl (rf_pk (rf_nil))))))
theorem wl6_runM (k g f t i e a b : Int) (s : ByteArray) (l0 l1 l2 l3 l4 l5 l6 l7 : List Bool) (D : Value) : evL Tryz.prog ext (nmPre (frameTPre (coW l6 l7 b))) (nbC [] [] (frameT (coW l6 l7 b))) noLoops 300 (ntOf Tryz.prog 14 1) (loopAt Tryz.prog 14 0) (wrF 0 1 6) [msB k g f t i e a b s D, penB 8 l6, pk l0, pk l1, pk l2, pk l3, pk l4, pk l5, pk l6] 0 [(1,true)] [1, 5, 18, 19] =
  some (.normal, wrF 0 1 7, [msB k g f t i e a b s D, penB 9 l7, pk l0, pk l1, pk l2, pk l3, pk l4, pk l5, pk l6, pk l7], 0, [(frameTPre (coW l6 l7 b) 46 [.pointer (some ⟨1, 0, none⟩), .int .i64 b] [msB k g f t i e a b s D, penB 8 l6, pk l0, pk l1, pk l2, pk l3, pk l4, pk l5, pk l6], true)]) := by kernel_rfl
theorem wl6_okM {kk g f t i e a b : Nat} {s : ByteArray} {D : Value} {l0 l1 l2 l3 l4 l5 l6 : List Bool} (h0 : l0 ≠ []) (h1 : l1 ≠ []) (h2 : l2 ≠ []) (h3 : l3 ≠ []) (h4 : l4 ≠ []) (h5 : l5 ≠ []) (h6 : l6 ≠ []) (hq : b ≤ 1073741824) (hl : l6.length + 100 ≤ 65536) :
    WP Tryz.prog (ntOf Tryz.prog 14 1) (loopAt Tryz.prog 14 0) ⟨wrF 0 1 6, [msB kk g f t i e a b s D, penB 8 l6, pk l0, pk l1, pk l2, pk l3, pk l4, pk l5, pk l6], 0⟩ .normal ⟨wrF 0 1 7, [msB kk g f t i e a b s D, penB 9 (l6 ++ Bt.codeB b), pk l0, pk l1, pk l2, pk l3, pk l4, pk l5, pk l6, pk (l6 ++ Bt.codeB b)], 0⟩ := by
  refine WP.run progOk extSound (nb_sound _ _ (frameT_sound _)) (by kernel_rfl) (LoopsOk.none (by kernel_rfl)) [1, 5, 18, 19] (wl6_runM kk g f t i e a b s l0 l1 l2 l3 l4 l5 l6 (l6 ++ Bt.codeB b) D) ?_
  intro q hq
  simp only [List.mem_cons, List.not_mem_nil, or_false] at hq
  rcases hq with rfl
  · exact tok (frameT_ok [1, 8] (code_ok (l := l6) (n := b) h6 (by assumption) hl) (by exact ro_in rfl (ro_in rfl (ro_pk h0 (ro_pk h1 (ro_pk h2 (ro_pk h3 (ro_pk h4 (ro_pk h5 (ro_pk h6 (ro_nil)))))))))) (by exact rf_in rfl (rf_pk (rf_in rfl (rf_pk (rf_nil))))))
theorem wl_outM (k g f t i e a b : Int) (s : ByteArray) (l0 l1 l2 l3 l4 l5 l6 l7 : List Bool) (D : Value) : evL Tryz.prog ext (nmPre noPre) (nbC [] [] noC) noLoops 300 (ntOf Tryz.prog 14 1) (loopAt Tryz.prog 14 0) (wrF 0 1 7) [msB k g f t i e a b s D, penB 9 l7, pk l0, pk l1, pk l2, pk l3, pk l4, pk l5, pk l6, pk l7] 0 [] [1, 5] =
  some (.exit 0, [(1, .pointer (some ⟨0, 0, none⟩)), (5, .pointer (some ⟨1, 0, none⟩))], [msB k g f t i e a b s D, penB 9 l7, pk l0, pk l1, pk l2, pk l3, pk l4, pk l5, pk l6, pk l7], 0, []) := by kernel_rfl
def wrHM (kk g f t i e a b : Nat) (s : ByteArray) (D : Value) : Nat → Heap
  | 0 => [msB kk g f t i e a b s D, penB 2 (wrL kk g f t i e a b 0), pk (wrL kk g f t i e a b 0)]
  | 1 => [msB kk g f t i e a b s D, penB 3 (wrL kk g f t i e a b 1), pk (wrL kk g f t i e a b 0), pk (wrL kk g f t i e a b 1)]
  | 2 => [msB kk g f t i e a b s D, penB 4 (wrL kk g f t i e a b 2), pk (wrL kk g f t i e a b 0), pk (wrL kk g f t i e a b 1), pk (wrL kk g f t i e a b 2)]
  | 3 => [msB kk g f t i e a b s D, penB 5 (wrL kk g f t i e a b 3), pk (wrL kk g f t i e a b 0), pk (wrL kk g f t i e a b 1), pk (wrL kk g f t i e a b 2), pk (wrL kk g f t i e a b 3)]
  | 4 => [msB kk g f t i e a b s D, penB 6 (wrL kk g f t i e a b 4), pk (wrL kk g f t i e a b 0), pk (wrL kk g f t i e a b 1), pk (wrL kk g f t i e a b 2), pk (wrL kk g f t i e a b 3), pk (wrL kk g f t i e a b 4)]
  | 5 => [msB kk g f t i e a b s D, penB 7 (wrL kk g f t i e a b 5), pk (wrL kk g f t i e a b 0), pk (wrL kk g f t i e a b 1), pk (wrL kk g f t i e a b 2), pk (wrL kk g f t i e a b 3), pk (wrL kk g f t i e a b 4), pk (wrL kk g f t i e a b 5)]
  | 6 => [msB kk g f t i e a b s D, penB 8 (wrL kk g f t i e a b 6), pk (wrL kk g f t i e a b 0), pk (wrL kk g f t i e a b 1), pk (wrL kk g f t i e a b 2), pk (wrL kk g f t i e a b 3), pk (wrL kk g f t i e a b 4), pk (wrL kk g f t i e a b 5), pk (wrL kk g f t i e a b 6)]
  | _ => [msB kk g f t i e a b s D, penB 9 (wrL kk g f t i e a b 7), pk (wrL kk g f t i e a b 0), pk (wrL kk g f t i e a b 1), pk (wrL kk g f t i e a b 2), pk (wrL kk g f t i e a b 3), pk (wrL kk g f t i e a b 4), pk (wrL kk g f t i e a b 5), pk (wrL kk g f t i e a b 6), pk (wrL kk g f t i e a b 7)]
theorem wl_okM {kk g f t i e a b : Nat} {s : ByteArray} {D : Value} (hb : g ≤ 1073741824 ∧ f ≤ 1073741824 ∧ t ≤ 1073741824 ∧ i ≤ 1073741824 ∧ e ≤ 1073741824 ∧ a ≤ 1073741824 ∧ b ≤ 1073741824) :
    WP Tryz.prog (ntOf Tryz.prog 14 1) (.loop (loopAt Tryz.prog 14 0)) ⟨wrF 0 1 0, wrHM kk g f t i e a b s D 0, 0⟩ (.exit 0) ⟨[(1, .pointer (some ⟨0, 0, none⟩)), (5, .pointer (some ⟨1, 0, none⟩))], wrHM kk g f t i e a b s D 7, 0⟩ := by
  have hlen := fun j => wrL_len (kk := kk) hb j
  have hne' := fun j => wrL_ne kk g f t i e a b j
  obtain ⟨b0, b1, b2, b3, b4, b5, b6⟩ := hb
  refine WP.loop (P := Tryz.prog) (nt := ntOf Tryz.prog 14 1) (b := loopAt Tryz.prog 14 0) (fun j => ⟨wrF 0 1 (j : Nat), wrHM kk g f t i e a b s D j, 0⟩) 7 (x := .exit 0) (by simp) ?_
    (WP.run progOk extSound (nb_sound _ _ noC_sound) (by kernel_rfl) (LoopsOk.none (by kernel_rfl)) [1, 5] (wl_outM kk g f t i e a b s (wrL kk g f t i e a b 0) (wrL kk g f t i e a b 1) (wrL kk g f t i e a b 2) (wrL kk g f t i e a b 3) (wrL kk g f t i e a b 4) (wrL kk g f t i e a b 5) (wrL kk g f t i e a b 6) (wrL kk g f t i e a b 7) D) (by simp [Holds]))
  intro j hj
  match j, hj with
  | 0, _ => exact wl0_okM (hne' 0) b0 (by have := hlen 0; omega)
  | 1, _ => exact wl1_okM (hne' 0) (hne' 1) b1 (by have := hlen 1; omega)
  | 2, _ => exact wl2_okM (hne' 0) (hne' 1) (hne' 2) b2 (by have := hlen 2; omega)
  | 3, _ => exact wl3_okM (hne' 0) (hne' 1) (hne' 2) (hne' 3) b3 (by have := hlen 3; omega)
  | 4, _ => exact wl4_okM (hne' 0) (hne' 1) (hne' 2) (hne' 3) (hne' 4) b4 (by have := hlen 4; omega)
  | 5, _ => exact wl5_okM (hne' 0) (hne' 1) (hne' 2) (hne' 3) (hne' 4) (hne' 5) b5 (by have := hlen 5; omega)
  | 6, _ => exact wl6_okM (hne' 0) (hne' 1) (hne' 2) (hne' 3) (hne' 4) (hne' 5) (hne' 6) b6 (by have := hlen 6; omega)
  | n + 7, h => omega
end Go.Proofs.YtpgmabpaiijipaaGreatDoor
