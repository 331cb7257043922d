/- Parts of the proof, joined: Wr2, Wr3, Wr4, Rd0, Rd1, Rd2, Rd3, Rd4, Rd5, Rd6, Pm2. -/
import Derived.Laws.Strings
import Derived.Test.YtpgmabpaiijipaaGreatDoorZ14
import Derived.Test.YtpgmabpaiijipaaGreatDoorZ04
namespace Go.Proofs.YtpgmabpaiijipaaGreatDoor
open Go Den
set_option maxRecDepth 100000
set_option linter.unusedSimpArgs false
set_option linter.unusedVariables false
def nuS (s : ByteArray) : Blk := ⟨false, none, s.data.toList.map fun b => .int .u8 b.toNat⟩
def slR (l : List Bool) : Heap := [pk l, arB 0 (pn l) 0, tlB (Crc.tail (Crc.sum (Bt.pack l))), ⟨true, none, [.slice (some ⟨0, 0, none⟩) (pn l) 0, .slice (some ⟨2, 0, none⟩) 4 4]⟩, rowB (byteV (Crc.sealed (Bt.pack l)))]
def byV (l l1 l2 : List Bool) (n c : Nat) (X : Blk) : Option (Value × Heap × Nat) := some (.tuple #[], [penB 5 l2, X, pk l, lbB 1 n c, pk l1, pk l2], 0)
def byN (l l1 : List Bool) (lb : Blk) : Option (Value × Heap × Nat) := some (.tuple #[], [penB 4 l1, pk l, lb, pk l1, pk l1], 0)
def wrT (c41 c42 c45 b1 b2 : Option (Value × Heap × Nat)) (n1 : Nat) (l : List Bool) : Nat → Tale := fun n f _ _ => match f with
  | 41 => c41
  | 42 => c42
  | 45 => c45
  | 47 => match Nat.beq n n1 with
    | true => b1
    | false => b2
  | 48 => some (.tuple #[.slice (some ⟨4, 0, none⟩) (pn l + 4) 0, .int .i64 0], slR l, 1)
  | _ => none
theorem wr_run0O (k g f t i e a b : Int) (l0 l1 l2 l3 l4 l5 l6 l7 l8 l9 l9a : List Bool) (x : List Nat) (c : Nat) : evFnL Tryz.prog ext 300 (nmPre (frameTPre (wrT (some (.int .i64 0, [⟨false, none, byteV x⟩, msB k g f t i e a b (ByteArray.mk #[]) (.slice (some ⟨0, 0, none⟩) x.length c), nusB 1], 1)) (some (.tuple #[], [penB 3 l0, msB k g f t i e a b (ByteArray.mk #[]) (.slice (some ⟨2, 0, none⟩) x.length c), ⟨false, none, byteV x⟩, pk l0], 0)) (some (nusV 0, [msB k g f t i e a b (ByteArray.mk #[]) (.slice (some ⟨1, 0, none⟩) x.length c), ⟨false, none, byteV x⟩, nusB 0], 2)) (byN l7 l8 lbG) (byV l8 l9a l9 x.length c (⟨false, none, byteV x⟩)) 11 l9))) (nbC [] [] (frameT (wrT (some (.int .i64 0, [⟨false, none, byteV x⟩, msB k g f t i e a b (ByteArray.mk #[]) (.slice (some ⟨0, 0, none⟩) x.length c), nusB 1], 1)) (some (.tuple #[], [penB 3 l0, msB k g f t i e a b (ByteArray.mk #[]) (.slice (some ⟨2, 0, none⟩) x.length c), ⟨false, none, byteV x⟩, pk l0], 0)) (some (nusV 0, [msB k g f t i e a b (ByteArray.mk #[]) (.slice (some ⟨1, 0, none⟩) x.length c), ⟨false, none, byteV x⟩, nusB 0], 2)) (byN l7 l8 lbG) (byV l8 l9a l9 x.length c (⟨false, none, byteV x⟩)) 11 l9))) ({ loop := sumL 7 ⟨wrF 1 2 0, [⟨false, none, byteV x⟩, msB k g f t i e a b (ByteArray.mk #[]) (.slice (some ⟨0, 0, none⟩) x.length c), penB 3 l0, pk l0], 0⟩ (.exit 0) ⟨[(1, .pointer (some ⟨1, 0, none⟩)), (5, .pointer (some ⟨2, 0, none⟩))], [⟨false, none, byteV x⟩, msB k g f t i e a b (ByteArray.mk #[]) (.slice (some ⟨0, 0, none⟩) x.length c), penB 10 l7, pk l0, pk l1, pk l2, pk l3, pk l4, pk l5, pk l6, pk l7], 0⟩ }) [(0,true),(1,true),(0,true),(0,true),(0,true),(1,true)] 14 [msA k g f t i e a b (ByteArray.mk #[]) (.slice (some ⟨0, 0, none⟩) x.length c)] [⟨false, none, byteV x⟩] =
  some ((.tuple #[.slice (some ⟨13, 0, none⟩) (pn l9 + 4) 0, .int .i64 0], [⟨false, none, byteV x⟩, msB k g f t i e a b (ByteArray.mk #[]) (.slice (some ⟨0, 0, none⟩) x.length c), penB 12 l9, pk l0, pk l1, pk l2, pk l3, pk l4, pk l5, pk l6, pk l7, pk l8, pk l9, rowB (byteV (Crc.sealed (Bt.pack l9)))], 0), [(frameTPre (wrT (some (.int .i64 0, [⟨false, none, byteV x⟩, msB k g f t i e a b (ByteArray.mk #[]) (.slice (some ⟨0, 0, none⟩) x.length c), nusB 1], 1)) (some (.tuple #[], [penB 3 l0, msB k g f t i e a b (ByteArray.mk #[]) (.slice (some ⟨2, 0, none⟩) x.length c), ⟨false, none, byteV x⟩, pk l0], 0)) (some (nusV 0, [msB k g f t i e a b (ByteArray.mk #[]) (.slice (some ⟨1, 0, none⟩) x.length c), ⟨false, none, byteV x⟩, nusB 0], 2)) (byN l7 l8 lbG) (byV l8 l9a l9 x.length c (⟨false, none, byteV x⟩)) 11 l9) 48 [.slice (some ⟨12, 0, none⟩) (pn l9) 0] [⟨false, none, byteV x⟩, msB k g f t i e a b (ByteArray.mk #[]) (.slice (some ⟨0, 0, none⟩) x.length c), penB 12 l9, pk l0, pk l1, pk l2, pk l3, pk l4, pk l5, pk l6, pk l7, pk l8, pk l9], true), (frameTPre (wrT (some (.int .i64 0, [⟨false, none, byteV x⟩, msB k g f t i e a b (ByteArray.mk #[]) (.slice (some ⟨0, 0, none⟩) x.length c), nusB 1], 1)) (some (.tuple #[], [penB 3 l0, msB k g f t i e a b (ByteArray.mk #[]) (.slice (some ⟨2, 0, none⟩) x.length c), ⟨false, none, byteV x⟩, pk l0], 0)) (some (nusV 0, [msB k g f t i e a b (ByteArray.mk #[]) (.slice (some ⟨1, 0, none⟩) x.length c), ⟨false, none, byteV x⟩, nusB 0], 2)) (byN l7 l8 lbG) (byV l8 l9a l9 x.length c (⟨false, none, byteV x⟩)) 11 l9) 47 [.pointer (some ⟨2, 0, none⟩), (.slice (some ⟨0, 0, none⟩) x.length c)] [⟨false, none, byteV x⟩, msB k g f t i e a b (ByteArray.mk #[]) (.slice (some ⟨0, 0, none⟩) x.length c), penB 11 l8, pk l0, pk l1, pk l2, pk l3, pk l4, pk l5, pk l6, pk l7, pk l8], true), (frameTPre (wrT (some (.int .i64 0, [⟨false, none, byteV x⟩, msB k g f t i e a b (ByteArray.mk #[]) (.slice (some ⟨0, 0, none⟩) x.length c), nusB 1], 1)) (some (.tuple #[], [penB 3 l0, msB k g f t i e a b (ByteArray.mk #[]) (.slice (some ⟨2, 0, none⟩) x.length c), ⟨false, none, byteV x⟩, pk l0], 0)) (some (nusV 0, [msB k g f t i e a b (ByteArray.mk #[]) (.slice (some ⟨1, 0, none⟩) x.length c), ⟨false, none, byteV x⟩, nusB 0], 2)) (byN l7 l8 lbG) (byV l8 l9a l9 x.length c (⟨false, none, byteV x⟩)) 11 l9) 47 [.pointer (some ⟨2, 0, none⟩), goneV] [⟨false, none, byteV x⟩, msB k g f t i e a b (ByteArray.mk #[]) (.slice (some ⟨0, 0, none⟩) x.length c), penB 10 l7, pk l0, pk l1, pk l2, pk l3, pk l4, pk l5, pk l6, pk l7], true), (cdec (wrF 1 2 0 = wrF 1 2 0), true), (cdec ([⟨false, none, byteV x⟩, msB k g f t i e a b (ByteArray.mk #[]) (.slice (some ⟨0, 0, none⟩) x.length c), penB 3 l0, pk l0] = [⟨false, none, byteV x⟩, msB k g f t i e a b (ByteArray.mk #[]) (.slice (some ⟨0, 0, none⟩) x.length c), penB 3 l0, pk l0]), true), (cdec ((0 : Nat) = 0), true), (frameTPre (wrT (some (.int .i64 0, [⟨false, none, byteV x⟩, msB k g f t i e a b (ByteArray.mk #[]) (.slice (some ⟨0, 0, none⟩) x.length c), nusB 1], 1)) (some (.tuple #[], [penB 3 l0, msB k g f t i e a b (ByteArray.mk #[]) (.slice (some ⟨2, 0, none⟩) x.length c), ⟨false, none, byteV x⟩, pk l0], 0)) (some (nusV 0, [msB k g f t i e a b (ByteArray.mk #[]) (.slice (some ⟨1, 0, none⟩) x.length c), ⟨false, none, byteV x⟩, nusB 0], 2)) (byN l7 l8 lbG) (byV l8 l9a l9 x.length c (⟨false, none, byteV x⟩)) 11 l9) 45 [.pointer (some ⟨1, 0, none⟩)] [⟨false, none, byteV x⟩, msB k g f t i e a b (ByteArray.mk #[]) (.slice (some ⟨0, 0, none⟩) x.length c), penB 3 l0, pk l0], true), (frameTPre (wrT (some (.int .i64 0, [⟨false, none, byteV x⟩, msB k g f t i e a b (ByteArray.mk #[]) (.slice (some ⟨0, 0, none⟩) x.length c), nusB 1], 1)) (some (.tuple #[], [penB 3 l0, msB k g f t i e a b (ByteArray.mk #[]) (.slice (some ⟨2, 0, none⟩) x.length c), ⟨false, none, byteV x⟩, pk l0], 0)) (some (nusV 0, [msB k g f t i e a b (ByteArray.mk #[]) (.slice (some ⟨1, 0, none⟩) x.length c), ⟨false, none, byteV x⟩, nusB 0], 2)) (byN l7 l8 lbG) (byV l8 l9a l9 x.length c (⟨false, none, byteV x⟩)) 11 l9) 42 [.pointer (some ⟨2, 0, none⟩), .func (.func 43) #[] #[.pointer (some ⟨1, 0, none⟩)]] [⟨false, none, byteV x⟩, msB k g f t i e a b (ByteArray.mk #[]) (.slice (some ⟨0, 0, none⟩) x.length c), pen0], true), (frameTPre (wrT (some (.int .i64 0, [⟨false, none, byteV x⟩, msB k g f t i e a b (ByteArray.mk #[]) (.slice (some ⟨0, 0, none⟩) x.length c), nusB 1], 1)) (some (.tuple #[], [penB 3 l0, msB k g f t i e a b (ByteArray.mk #[]) (.slice (some ⟨2, 0, none⟩) x.length c), ⟨false, none, byteV x⟩, pk l0], 0)) (some (nusV 0, [msB k g f t i e a b (ByteArray.mk #[]) (.slice (some ⟨1, 0, none⟩) x.length c), ⟨false, none, byteV x⟩, nusB 0], 2)) (byN l7 l8 lbG) (byV l8 l9a l9 x.length c (⟨false, none, byteV x⟩)) 11 l9) 41 [msA k g f t i e a b (ByteArray.mk #[]) (.slice (some ⟨0, 0, none⟩) x.length c)] [⟨false, none, byteV x⟩, msB k g f t i e a b (ByteArray.mk #[]) (.slice (some ⟨0, 0, none⟩) x.length c)], true)]) := by kernel_rfl
theorem wr_run0R (k g f t i e a b : Int) (l0 l1 l2 l3 l4 l5 l6 l7 l8 l9 l9a : List Bool) (x : List Nat) : evFnL Tryz.prog ext 300 (nmPre (frameTPre (wrT (some (.int .i64 0, [rowB (byteV x), msB k g f t i e a b (ByteArray.mk #[]) (.slice (some ⟨0, 0, none⟩) x.length 0), nusB 1], 1)) (some (.tuple #[], [penB 3 l0, msB k g f t i e a b (ByteArray.mk #[]) (.slice (some ⟨2, 0, none⟩) x.length 0), rowB (byteV x), pk l0], 0)) (some (nusV 0, [msB k g f t i e a b (ByteArray.mk #[]) (.slice (some ⟨1, 0, none⟩) x.length 0), rowB (byteV x), nusB 0], 2)) (byN l7 l8 lbG) (byV l8 l9a l9 x.length 0 (rowB (byteV x))) 11 l9))) (nbC [] [] (frameT (wrT (some (.int .i64 0, [rowB (byteV x), msB k g f t i e a b (ByteArray.mk #[]) (.slice (some ⟨0, 0, none⟩) x.length 0), nusB 1], 1)) (some (.tuple #[], [penB 3 l0, msB k g f t i e a b (ByteArray.mk #[]) (.slice (some ⟨2, 0, none⟩) x.length 0), rowB (byteV x), pk l0], 0)) (some (nusV 0, [msB k g f t i e a b (ByteArray.mk #[]) (.slice (some ⟨1, 0, none⟩) x.length 0), rowB (byteV x), nusB 0], 2)) (byN l7 l8 lbG) (byV l8 l9a l9 x.length 0 (rowB (byteV x))) 11 l9))) ({ loop := sumL 7 ⟨wrF 1 2 0, [rowB (byteV x), msB k g f t i e a b (ByteArray.mk #[]) (.slice (some ⟨0, 0, none⟩) x.length 0), penB 3 l0, pk l0], 0⟩ (.exit 0) ⟨[(1, .pointer (some ⟨1, 0, none⟩)), (5, .pointer (some ⟨2, 0, none⟩))], [rowB (byteV x), msB k g f t i e a b (ByteArray.mk #[]) (.slice (some ⟨0, 0, none⟩) x.length 0), penB 10 l7, pk l0, pk l1, pk l2, pk l3, pk l4, pk l5, pk l6, pk l7], 0⟩ }) [(0,true),(1,true),(0,true),(0,true),(0,true),(1,true)] 14 [msA k g f t i e a b (ByteArray.mk #[]) (.slice (some ⟨0, 0, none⟩) x.length 0)] [rowB (byteV x)] =
  some ((.tuple #[.slice (some ⟨13, 0, none⟩) (pn l9 + 4) 0, .int .i64 0], [rowB (byteV x), msB k g f t i e a b (ByteArray.mk #[]) (.slice (some ⟨0, 0, none⟩) x.length 0), penB 12 l9, pk l0, pk l1, pk l2, pk l3, pk l4, pk l5, pk l6, pk l7, pk l8, pk l9, rowB (byteV (Crc.sealed (Bt.pack l9)))], 0), [(frameTPre (wrT (some (.int .i64 0, [rowB (byteV x), msB k g f t i e a b (ByteArray.mk #[]) (.slice (some ⟨0, 0, none⟩) x.length 0), nusB 1], 1)) (some (.tuple #[], [penB 3 l0, msB k g f t i e a b (ByteArray.mk #[]) (.slice (some ⟨2, 0, none⟩) x.length 0), rowB (byteV x), pk l0], 0)) (some (nusV 0, [msB k g f t i e a b (ByteArray.mk #[]) (.slice (some ⟨1, 0, none⟩) x.length 0), rowB (byteV x), nusB 0], 2)) (byN l7 l8 lbG) (byV l8 l9a l9 x.length 0 (rowB (byteV x))) 11 l9) 48 [.slice (some ⟨12, 0, none⟩) (pn l9) 0] [rowB (byteV x), msB k g f t i e a b (ByteArray.mk #[]) (.slice (some ⟨0, 0, none⟩) x.length 0), penB 12 l9, pk l0, pk l1, pk l2, pk l3, pk l4, pk l5, pk l6, pk l7, pk l8, pk l9], true), (frameTPre (wrT (some (.int .i64 0, [rowB (byteV x), msB k g f t i e a b (ByteArray.mk #[]) (.slice (some ⟨0, 0, none⟩) x.length 0), nusB 1], 1)) (some (.tuple #[], [penB 3 l0, msB k g f t i e a b (ByteArray.mk #[]) (.slice (some ⟨2, 0, none⟩) x.length 0), rowB (byteV x), pk l0], 0)) (some (nusV 0, [msB k g f t i e a b (ByteArray.mk #[]) (.slice (some ⟨1, 0, none⟩) x.length 0), rowB (byteV x), nusB 0], 2)) (byN l7 l8 lbG) (byV l8 l9a l9 x.length 0 (rowB (byteV x))) 11 l9) 47 [.pointer (some ⟨2, 0, none⟩), (.slice (some ⟨0, 0, none⟩) x.length 0)] [rowB (byteV x), msB k g f t i e a b (ByteArray.mk #[]) (.slice (some ⟨0, 0, none⟩) x.length 0), penB 11 l8, pk l0, pk l1, pk l2, pk l3, pk l4, pk l5, pk l6, pk l7, pk l8], true), (frameTPre (wrT (some (.int .i64 0, [rowB (byteV x), msB k g f t i e a b (ByteArray.mk #[]) (.slice (some ⟨0, 0, none⟩) x.length 0), nusB 1], 1)) (some (.tuple #[], [penB 3 l0, msB k g f t i e a b (ByteArray.mk #[]) (.slice (some ⟨2, 0, none⟩) x.length 0), rowB (byteV x), pk l0], 0)) (some (nusV 0, [msB k g f t i e a b (ByteArray.mk #[]) (.slice (some ⟨1, 0, none⟩) x.length 0), rowB (byteV x), nusB 0], 2)) (byN l7 l8 lbG) (byV l8 l9a l9 x.length 0 (rowB (byteV x))) 11 l9) 47 [.pointer (some ⟨2, 0, none⟩), goneV] [rowB (byteV x), msB k g f t i e a b (ByteArray.mk #[]) (.slice (some ⟨0, 0, none⟩) x.length 0), penB 10 l7, pk l0, pk l1, pk l2, pk l3, pk l4, pk l5, pk l6, pk l7], true), (cdec (wrF 1 2 0 = wrF 1 2 0), true), (cdec ([rowB (byteV x), msB k g f t i e a b (ByteArray.mk #[]) (.slice (some ⟨0, 0, none⟩) x.length 0), penB 3 l0, pk l0] = [rowB (byteV x), msB k g f t i e a b (ByteArray.mk #[]) (.slice (some ⟨0, 0, none⟩) x.length 0), penB 3 l0, pk l0]), true), (cdec ((0 : Nat) = 0), true), (frameTPre (wrT (some (.int .i64 0, [rowB (byteV x), msB k g f t i e a b (ByteArray.mk #[]) (.slice (some ⟨0, 0, none⟩) x.length 0), nusB 1], 1)) (some (.tuple #[], [penB 3 l0, msB k g f t i e a b (ByteArray.mk #[]) (.slice (some ⟨2, 0, none⟩) x.length 0), rowB (byteV x), pk l0], 0)) (some (nusV 0, [msB k g f t i e a b (ByteArray.mk #[]) (.slice (some ⟨1, 0, none⟩) x.length 0), rowB (byteV x), nusB 0], 2)) (byN l7 l8 lbG) (byV l8 l9a l9 x.length 0 (rowB (byteV x))) 11 l9) 45 [.pointer (some ⟨1, 0, none⟩)] [rowB (byteV x), msB k g f t i e a b (ByteArray.mk #[]) (.slice (some ⟨0, 0, none⟩) x.length 0), penB 3 l0, pk l0], true), (frameTPre (wrT (some (.int .i64 0, [rowB (byteV x), msB k g f t i e a b (ByteArray.mk #[]) (.slice (some ⟨0, 0, none⟩) x.length 0), nusB 1], 1)) (some (.tuple #[], [penB 3 l0, msB k g f t i e a b (ByteArray.mk #[]) (.slice (some ⟨2, 0, none⟩) x.length 0), rowB (byteV x), pk l0], 0)) (some (nusV 0, [msB k g f t i e a b (ByteArray.mk #[]) (.slice (some ⟨1, 0, none⟩) x.length 0), rowB (byteV x), nusB 0], 2)) (byN l7 l8 lbG) (byV l8 l9a l9 x.length 0 (rowB (byteV x))) 11 l9) 42 [.pointer (some ⟨2, 0, none⟩), .func (.func 43) #[] #[.pointer (some ⟨1, 0, none⟩)]] [rowB (byteV x), msB k g f t i e a b (ByteArray.mk #[]) (.slice (some ⟨0, 0, none⟩) x.length 0), pen0], true), (frameTPre (wrT (some (.int .i64 0, [rowB (byteV x), msB k g f t i e a b (ByteArray.mk #[]) (.slice (some ⟨0, 0, none⟩) x.length 0), nusB 1], 1)) (some (.tuple #[], [penB 3 l0, msB k g f t i e a b (ByteArray.mk #[]) (.slice (some ⟨2, 0, none⟩) x.length 0), rowB (byteV x), pk l0], 0)) (some (nusV 0, [msB k g f t i e a b (ByteArray.mk #[]) (.slice (some ⟨1, 0, none⟩) x.length 0), rowB (byteV x), nusB 0], 2)) (byN l7 l8 lbG) (byV l8 l9a l9 x.length 0 (rowB (byteV x))) 11 l9) 41 [msA k g f t i e a b (ByteArray.mk #[]) (.slice (some ⟨0, 0, none⟩) x.length 0)] [rowB (byteV x), msB k g f t i e a b (ByteArray.mk #[]) (.slice (some ⟨0, 0, none⟩) x.length 0)], true)]) := by kernel_rfl
theorem wr_run0N (k g f t i e a b : Int) (l0 l1 l2 l3 l4 l5 l6 l7 l8 l9 : List Bool) : evFnL Tryz.prog ext 300 (nmPre (frameTPre (wrT (some (.int .i64 0, [msB k g f t i e a b (ByteArray.mk #[]) (.slice none 0 0), nusB 0], 0)) (some (.tuple #[], [penB 2 l0, msB k g f t i e a b (ByteArray.mk #[]) (.slice none 0 0), pk l0], 0)) (some (nusV 0, [msB k g f t i e a b (ByteArray.mk #[]) (.slice none 0 0), nusB 0], 1)) (byN l7 l8 lbG) (byN l8 l9 lbN) 10 l9))) (nbC [] [] (frameT (wrT (some (.int .i64 0, [msB k g f t i e a b (ByteArray.mk #[]) (.slice none 0 0), nusB 0], 0)) (some (.tuple #[], [penB 2 l0, msB k g f t i e a b (ByteArray.mk #[]) (.slice none 0 0), pk l0], 0)) (some (nusV 0, [msB k g f t i e a b (ByteArray.mk #[]) (.slice none 0 0), nusB 0], 1)) (byN l7 l8 lbG) (byN l8 l9 lbN) 10 l9))) ({ loop := sumL 7 ⟨wrF 0 1 0, [msB k g f t i e a b (ByteArray.mk #[]) (.slice none 0 0), penB 2 l0, pk l0], 0⟩ (.exit 0) ⟨[(1, .pointer (some ⟨0, 0, none⟩)), (5, .pointer (some ⟨1, 0, none⟩))], [msB k g f t i e a b (ByteArray.mk #[]) (.slice none 0 0), penB 9 l7, pk l0, pk l1, pk l2, pk l3, pk l4, pk l5, pk l6, pk l7], 0⟩ }) [(0,true),(1,true),(0,true),(0,true),(0,true),(1,true)] 14 [msA k g f t i e a b (ByteArray.mk #[]) (.slice none 0 0)] [] =
  some ((.tuple #[.slice (some ⟨12, 0, none⟩) (pn l9 + 4) 0, .int .i64 0], [msB k g f t i e a b (ByteArray.mk #[]) (.slice none 0 0), penB 11 l9, pk l0, pk l1, pk l2, pk l3, pk l4, pk l5, pk l6, pk l7, pk l8, pk l9, rowB (byteV (Crc.sealed (Bt.pack l9)))], 0), [(frameTPre (wrT (some (.int .i64 0, [msB k g f t i e a b (ByteArray.mk #[]) (.slice none 0 0), nusB 0], 0)) (some (.tuple #[], [penB 2 l0, msB k g f t i e a b (ByteArray.mk #[]) (.slice none 0 0), pk l0], 0)) (some (nusV 0, [msB k g f t i e a b (ByteArray.mk #[]) (.slice none 0 0), nusB 0], 1)) (byN l7 l8 lbG) (byN l8 l9 lbN) 10 l9) 48 [.slice (some ⟨11, 0, none⟩) (pn l9) 0] [msB k g f t i e a b (ByteArray.mk #[]) (.slice none 0 0), penB 11 l9, pk l0, pk l1, pk l2, pk l3, pk l4, pk l5, pk l6, pk l7, pk l8, pk l9], true), (frameTPre (wrT (some (.int .i64 0, [msB k g f t i e a b (ByteArray.mk #[]) (.slice none 0 0), nusB 0], 0)) (some (.tuple #[], [penB 2 l0, msB k g f t i e a b (ByteArray.mk #[]) (.slice none 0 0), pk l0], 0)) (some (nusV 0, [msB k g f t i e a b (ByteArray.mk #[]) (.slice none 0 0), nusB 0], 1)) (byN l7 l8 lbG) (byN l8 l9 lbN) 10 l9) 47 [.pointer (some ⟨1, 0, none⟩), (.slice none 0 0)] [msB k g f t i e a b (ByteArray.mk #[]) (.slice none 0 0), penB 10 l8, pk l0, pk l1, pk l2, pk l3, pk l4, pk l5, pk l6, pk l7, pk l8], true), (frameTPre (wrT (some (.int .i64 0, [msB k g f t i e a b (ByteArray.mk #[]) (.slice none 0 0), nusB 0], 0)) (some (.tuple #[], [penB 2 l0, msB k g f t i e a b (ByteArray.mk #[]) (.slice none 0 0), pk l0], 0)) (some (nusV 0, [msB k g f t i e a b (ByteArray.mk #[]) (.slice none 0 0), nusB 0], 1)) (byN l7 l8 lbG) (byN l8 l9 lbN) 10 l9) 47 [.pointer (some ⟨1, 0, none⟩), goneV] [msB k g f t i e a b (ByteArray.mk #[]) (.slice none 0 0), penB 9 l7, pk l0, pk l1, pk l2, pk l3, pk l4, pk l5, pk l6, pk l7], true), (cdec (wrF 0 1 0 = wrF 0 1 0), true), (cdec ([msB k g f t i e a b (ByteArray.mk #[]) (.slice none 0 0), penB 2 l0, pk l0] = [msB k g f t i e a b (ByteArray.mk #[]) (.slice none 0 0), penB 2 l0, pk l0]), true), (cdec ((0 : Nat) = 0), true), (frameTPre (wrT (some (.int .i64 0, [msB k g f t i e a b (ByteArray.mk #[]) (.slice none 0 0), nusB 0], 0)) (some (.tuple #[], [penB 2 l0, msB k g f t i e a b (ByteArray.mk #[]) (.slice none 0 0), pk l0], 0)) (some (nusV 0, [msB k g f t i e a b (ByteArray.mk #[]) (.slice none 0 0), nusB 0], 1)) (byN l7 l8 lbG) (byN l8 l9 lbN) 10 l9) 45 [.pointer (some ⟨0, 0, none⟩)] [msB k g f t i e a b (ByteArray.mk #[]) (.slice none 0 0), penB 2 l0, pk l0], true), (frameTPre (wrT (some (.int .i64 0, [msB k g f t i e a b (ByteArray.mk #[]) (.slice none 0 0), nusB 0], 0)) (some (.tuple #[], [penB 2 l0, msB k g f t i e a b (ByteArray.mk #[]) (.slice none 0 0), pk l0], 0)) (some (nusV 0, [msB k g f t i e a b (ByteArray.mk #[]) (.slice none 0 0), nusB 0], 1)) (byN l7 l8 lbG) (byN l8 l9 lbN) 10 l9) 42 [.pointer (some ⟨1, 0, none⟩), .func (.func 43) #[] #[.pointer (some ⟨0, 0, none⟩)]] [msB k g f t i e a b (ByteArray.mk #[]) (.slice none 0 0), pen0], true), (frameTPre (wrT (some (.int .i64 0, [msB k g f t i e a b (ByteArray.mk #[]) (.slice none 0 0), nusB 0], 0)) (some (.tuple #[], [penB 2 l0, msB k g f t i e a b (ByteArray.mk #[]) (.slice none 0 0), pk l0], 0)) (some (nusV 0, [msB k g f t i e a b (ByteArray.mk #[]) (.slice none 0 0), nusB 0], 1)) (byN l7 l8 lbG) (byN l8 l9 lbN) 10 l9) 41 [msA k g f t i e a b (ByteArray.mk #[]) (.slice none 0 0)] [], true)]) := by kernel_rfl
theorem wr_run0G (k g f t i e a b : Int) (l0 l1 l2 l3 l4 l5 l6 l7 l8 l9 : List Bool) : evFnL Tryz.prog ext 300 (nmPre (frameTPre (wrT (some (.int .i64 0, [msB k g f t i e a b (ByteArray.mk #[]) goneV, nusB 0], 0)) (some (.tuple #[], [penB 2 l0, msB k g f t i e a b (ByteArray.mk #[]) goneV, pk l0], 0)) (some (nusV 0, [msB k g f t i e a b (ByteArray.mk #[]) goneV, nusB 0], 1)) (byN l7 l8 lbG) (byN l8 l9 lbG) 10 l9))) (nbC [] [] (frameT (wrT (some (.int .i64 0, [msB k g f t i e a b (ByteArray.mk #[]) goneV, nusB 0], 0)) (some (.tuple #[], [penB 2 l0, msB k g f t i e a b (ByteArray.mk #[]) goneV, pk l0], 0)) (some (nusV 0, [msB k g f t i e a b (ByteArray.mk #[]) goneV, nusB 0], 1)) (byN l7 l8 lbG) (byN l8 l9 lbG) 10 l9))) ({ loop := sumL 7 ⟨wrF 0 1 0, [msB k g f t i e a b (ByteArray.mk #[]) goneV, penB 2 l0, pk l0], 0⟩ (.exit 0) ⟨[(1, .pointer (some ⟨0, 0, none⟩)), (5, .pointer (some ⟨1, 0, none⟩))], [msB k g f t i e a b (ByteArray.mk #[]) goneV, penB 9 l7, pk l0, pk l1, pk l2, pk l3, pk l4, pk l5, pk l6, pk l7], 0⟩ }) [(0,true),(1,true),(0,true),(0,true),(0,true),(1,true)] 14 [msA k g f t i e a b (ByteArray.mk #[]) goneV] [] =
  some ((.tuple #[.slice (some ⟨12, 0, none⟩) (pn l9 + 4) 0, .int .i64 0], [msB k g f t i e a b (ByteArray.mk #[]) goneV, penB 11 l9, pk l0, pk l1, pk l2, pk l3, pk l4, pk l5, pk l6, pk l7, pk l8, pk l9, rowB (byteV (Crc.sealed (Bt.pack l9)))], 0), [(frameTPre (wrT (some (.int .i64 0, [msB k g f t i e a b (ByteArray.mk #[]) goneV, nusB 0], 0)) (some (.tuple #[], [penB 2 l0, msB k g f t i e a b (ByteArray.mk #[]) goneV, pk l0], 0)) (some (nusV 0, [msB k g f t i e a b (ByteArray.mk #[]) goneV, nusB 0], 1)) (byN l7 l8 lbG) (byN l8 l9 lbG) 10 l9) 48 [.slice (some ⟨11, 0, none⟩) (pn l9) 0] [msB k g f t i e a b (ByteArray.mk #[]) goneV, penB 11 l9, pk l0, pk l1, pk l2, pk l3, pk l4, pk l5, pk l6, pk l7, pk l8, pk l9], true), (frameTPre (wrT (some (.int .i64 0, [msB k g f t i e a b (ByteArray.mk #[]) goneV, nusB 0], 0)) (some (.tuple #[], [penB 2 l0, msB k g f t i e a b (ByteArray.mk #[]) goneV, pk l0], 0)) (some (nusV 0, [msB k g f t i e a b (ByteArray.mk #[]) goneV, nusB 0], 1)) (byN l7 l8 lbG) (byN l8 l9 lbG) 10 l9) 47 [.pointer (some ⟨1, 0, none⟩), goneV] [msB k g f t i e a b (ByteArray.mk #[]) goneV, penB 10 l8, pk l0, pk l1, pk l2, pk l3, pk l4, pk l5, pk l6, pk l7, pk l8], true), (frameTPre (wrT (some (.int .i64 0, [msB k g f t i e a b (ByteArray.mk #[]) goneV, nusB 0], 0)) (some (.tuple #[], [penB 2 l0, msB k g f t i e a b (ByteArray.mk #[]) goneV, pk l0], 0)) (some (nusV 0, [msB k g f t i e a b (ByteArray.mk #[]) goneV, nusB 0], 1)) (byN l7 l8 lbG) (byN l8 l9 lbG) 10 l9) 47 [.pointer (some ⟨1, 0, none⟩), goneV] [msB k g f t i e a b (ByteArray.mk #[]) goneV, penB 9 l7, pk l0, pk l1, pk l2, pk l3, pk l4, pk l5, pk l6, pk l7], true), (cdec (wrF 0 1 0 = wrF 0 1 0), true), (cdec ([msB k g f t i e a b (ByteArray.mk #[]) goneV, penB 2 l0, pk l0] = [msB k g f t i e a b (ByteArray.mk #[]) goneV, penB 2 l0, pk l0]), true), (cdec ((0 : Nat) = 0), true), (frameTPre (wrT (some (.int .i64 0, [msB k g f t i e a b (ByteArray.mk #[]) goneV, nusB 0], 0)) (some (.tuple #[], [penB 2 l0, msB k g f t i e a b (ByteArray.mk #[]) goneV, pk l0], 0)) (some (nusV 0, [msB k g f t i e a b (ByteArray.mk #[]) goneV, nusB 0], 1)) (byN l7 l8 lbG) (byN l8 l9 lbG) 10 l9) 45 [.pointer (some ⟨0, 0, none⟩)] [msB k g f t i e a b (ByteArray.mk #[]) goneV, penB 2 l0, pk l0], true), (frameTPre (wrT (some (.int .i64 0, [msB k g f t i e a b (ByteArray.mk #[]) goneV, nusB 0], 0)) (some (.tuple #[], [penB 2 l0, msB k g f t i e a b (ByteArray.mk #[]) goneV, pk l0], 0)) (some (nusV 0, [msB k g f t i e a b (ByteArray.mk #[]) goneV, nusB 0], 1)) (byN l7 l8 lbG) (byN l8 l9 lbG) 10 l9) 42 [.pointer (some ⟨1, 0, none⟩), .func (.func 43) #[] #[.pointer (some ⟨0, 0, none⟩)]] [msB k g f t i e a b (ByteArray.mk #[]) goneV, pen0], true), (frameTPre (wrT (some (.int .i64 0, [msB k g f t i e a b (ByteArray.mk #[]) goneV, nusB 0], 0)) (some (.tuple #[], [penB 2 l0, msB k g f t i e a b (ByteArray.mk #[]) goneV, pk l0], 0)) (some (nusV 0, [msB k g f t i e a b (ByteArray.mk #[]) goneV, nusB 0], 1)) (byN l7 l8 lbG) (byN l8 l9 lbG) 10 l9) 41 [msA k g f t i e a b (ByteArray.mk #[]) goneV] [msB k g f t i e a b (ByteArray.mk #[]) goneV], true)]) := by kernel_rfl
theorem wr_run1N (k g f t i e a b : Int) (s : ByteArray) (l0 l1 l2 l3 l4 l5 l6 l7 l8 l9 l8a : List Bool) : evFnL Tryz.prog ext 300 (nmPre (symPre [30] (frameTPre (wrT (some (.int .i64 0, [msB k g f t i e a b s (.slice none 0 0), nusB 0], 0)) (some (.tuple #[], [penB 2 l0, msB k g f t i e a b s (.slice none 0 0), pk l0], 0)) (some (nusV 0, [msB k g f t i e a b s (.slice none 0 0), nusB 0], 1)) (byV l7 l8a l8 s.size 0 (nuS s)) (byN l8 l9 lbN) 11 l9)))) (nbC [] [] (frameT (wrT (some (.int .i64 0, [msB k g f t i e a b s (.slice none 0 0), nusB 0], 0)) (some (.tuple #[], [penB 2 l0, msB k g f t i e a b s (.slice none 0 0), pk l0], 0)) (some (nusV 0, [msB k g f t i e a b s (.slice none 0 0), nusB 0], 1)) (byV l7 l8a l8 s.size 0 (nuS s)) (byN l8 l9 lbN) 11 l9))) ({ loop := sumL 7 ⟨wrF 0 1 0, [msB k g f t i e a b s (.slice none 0 0), penB 2 l0, pk l0], 0⟩ (.exit 0) ⟨[(1, .pointer (some ⟨0, 0, none⟩)), (5, .pointer (some ⟨1, 0, none⟩))], [msB k g f t i e a b s (.slice none 0 0), penB 9 l7, pk l0, pk l1, pk l2, pk l3, pk l4, pk l5, pk l6, pk l7], 0⟩ }) [(0,true),(1,true),(0,true),(0,true),(0,true),(0,true),(1,true)] 14 [msA k g f t i e a b s (.slice none 0 0)] [] =
  some ((.tuple #[.slice (some ⟨13, 0, none⟩) (pn l9 + 4) 0, .int .i64 0], [msB k g f t i e a b s (.slice none 0 0), penB 12 l9, pk l0, pk l1, pk l2, pk l3, pk l4, pk l5, pk l6, pk l7, nuS s, pk l8, pk l9, rowB (byteV (Crc.sealed (Bt.pack l9)))], 0), [(frameTPre (wrT (some (.int .i64 0, [msB k g f t i e a b s (.slice none 0 0), nusB 0], 0)) (some (.tuple #[], [penB 2 l0, msB k g f t i e a b s (.slice none 0 0), pk l0], 0)) (some (nusV 0, [msB k g f t i e a b s (.slice none 0 0), nusB 0], 1)) (byV l7 l8a l8 s.size 0 (nuS s)) (byN l8 l9 lbN) 11 l9) 48 [.slice (some ⟨12, 0, none⟩) (pn l9) 0] [msB k g f t i e a b s (.slice none 0 0), penB 12 l9, pk l0, pk l1, pk l2, pk l3, pk l4, pk l5, pk l6, pk l7, nuS s, pk l8, pk l9], true), (frameTPre (wrT (some (.int .i64 0, [msB k g f t i e a b s (.slice none 0 0), nusB 0], 0)) (some (.tuple #[], [penB 2 l0, msB k g f t i e a b s (.slice none 0 0), pk l0], 0)) (some (nusV 0, [msB k g f t i e a b s (.slice none 0 0), nusB 0], 1)) (byV l7 l8a l8 s.size 0 (nuS s)) (byN l8 l9 lbN) 11 l9) 47 [.pointer (some ⟨1, 0, none⟩), (.slice none 0 0)] [msB k g f t i e a b s (.slice none 0 0), penB 11 l8, pk l0, pk l1, pk l2, pk l3, pk l4, pk l5, pk l6, pk l7, nuS s, pk l8], true), (frameTPre (wrT (some (.int .i64 0, [msB k g f t i e a b s (.slice none 0 0), nusB 0], 0)) (some (.tuple #[], [penB 2 l0, msB k g f t i e a b s (.slice none 0 0), pk l0], 0)) (some (nusV 0, [msB k g f t i e a b s (.slice none 0 0), nusB 0], 1)) (byV l7 l8a l8 s.size 0 (nuS s)) (byN l8 l9 lbN) 11 l9) 47 [.pointer (some ⟨1, 0, none⟩), .slice (some ⟨10, 0, none⟩) s.size 0] [msB k g f t i e a b s (.slice none 0 0), penB 9 l7, pk l0, pk l1, pk l2, pk l3, pk l4, pk l5, pk l6, pk l7, nuS s], true), (decide (s.data.toList ≠ []), true), (cdec (wrF 0 1 0 = wrF 0 1 0), true), (cdec ([msB k g f t i e a b s (.slice none 0 0), penB 2 l0, pk l0] = [msB k g f t i e a b s (.slice none 0 0), penB 2 l0, pk l0]), true), (cdec ((0 : Nat) = 0), true), (frameTPre (wrT (some (.int .i64 0, [msB k g f t i e a b s (.slice none 0 0), nusB 0], 0)) (some (.tuple #[], [penB 2 l0, msB k g f t i e a b s (.slice none 0 0), pk l0], 0)) (some (nusV 0, [msB k g f t i e a b s (.slice none 0 0), nusB 0], 1)) (byV l7 l8a l8 s.size 0 (nuS s)) (byN l8 l9 lbN) 11 l9) 45 [.pointer (some ⟨0, 0, none⟩)] [msB k g f t i e a b s (.slice none 0 0), penB 2 l0, pk l0], true), (frameTPre (wrT (some (.int .i64 0, [msB k g f t i e a b s (.slice none 0 0), nusB 0], 0)) (some (.tuple #[], [penB 2 l0, msB k g f t i e a b s (.slice none 0 0), pk l0], 0)) (some (nusV 0, [msB k g f t i e a b s (.slice none 0 0), nusB 0], 1)) (byV l7 l8a l8 s.size 0 (nuS s)) (byN l8 l9 lbN) 11 l9) 42 [.pointer (some ⟨1, 0, none⟩), .func (.func 43) #[] #[.pointer (some ⟨0, 0, none⟩)]] [msB k g f t i e a b s (.slice none 0 0), pen0], true), (frameTPre (wrT (some (.int .i64 0, [msB k g f t i e a b s (.slice none 0 0), nusB 0], 0)) (some (.tuple #[], [penB 2 l0, msB k g f t i e a b s (.slice none 0 0), pk l0], 0)) (some (nusV 0, [msB k g f t i e a b s (.slice none 0 0), nusB 0], 1)) (byV l7 l8a l8 s.size 0 (nuS s)) (byN l8 l9 lbN) 11 l9) 41 [msA k g f t i e a b s (.slice none 0 0)] [], true)]) := by kernel_rfl
theorem wr_run1G (k g f t i e a b : Int) (s : ByteArray) (l0 l1 l2 l3 l4 l5 l6 l7 l8 l9 l8a : List Bool) : evFnL Tryz.prog ext 300 (nmPre (symPre [30] (frameTPre (wrT (some (.int .i64 0, [msB k g f t i e a b s goneV, nusB 0], 0)) (some (.tuple #[], [penB 2 l0, msB k g f t i e a b s goneV, pk l0], 0)) (some (nusV 0, [msB k g f t i e a b s goneV, nusB 0], 1)) (byV l7 l8a l8 s.size 0 (nuS s)) (byN l8 l9 lbG) 11 l9)))) (nbC [] [] (frameT (wrT (some (.int .i64 0, [msB k g f t i e a b s goneV, nusB 0], 0)) (some (.tuple #[], [penB 2 l0, msB k g f t i e a b s goneV, pk l0], 0)) (some (nusV 0, [msB k g f t i e a b s goneV, nusB 0], 1)) (byV l7 l8a l8 s.size 0 (nuS s)) (byN l8 l9 lbG) 11 l9))) ({ loop := sumL 7 ⟨wrF 0 1 0, [msB k g f t i e a b s goneV, penB 2 l0, pk l0], 0⟩ (.exit 0) ⟨[(1, .pointer (some ⟨0, 0, none⟩)), (5, .pointer (some ⟨1, 0, none⟩))], [msB k g f t i e a b s goneV, penB 9 l7, pk l0, pk l1, pk l2, pk l3, pk l4, pk l5, pk l6, pk l7], 0⟩ }) [(0,true),(1,true),(0,true),(0,true),(0,true),(0,true),(1,true)] 14 [msA k g f t i e a b s goneV] [] =
  some ((.tuple #[.slice (some ⟨13, 0, none⟩) (pn l9 + 4) 0, .int .i64 0], [msB k g f t i e a b s goneV, penB 12 l9, pk l0, pk l1, pk l2, pk l3, pk l4, pk l5, pk l6, pk l7, nuS s, pk l8, pk l9, rowB (byteV (Crc.sealed (Bt.pack l9)))], 0), [(frameTPre (wrT (some (.int .i64 0, [msB k g f t i e a b s goneV, nusB 0], 0)) (some (.tuple #[], [penB 2 l0, msB k g f t i e a b s goneV, pk l0], 0)) (some (nusV 0, [msB k g f t i e a b s goneV, nusB 0], 1)) (byV l7 l8a l8 s.size 0 (nuS s)) (byN l8 l9 lbG) 11 l9) 48 [.slice (some ⟨12, 0, none⟩) (pn l9) 0] [msB k g f t i e a b s goneV, penB 12 l9, pk l0, pk l1, pk l2, pk l3, pk l4, pk l5, pk l6, pk l7, nuS s, pk l8, pk l9], true), (frameTPre (wrT (some (.int .i64 0, [msB k g f t i e a b s goneV, nusB 0], 0)) (some (.tuple #[], [penB 2 l0, msB k g f t i e a b s goneV, pk l0], 0)) (some (nusV 0, [msB k g f t i e a b s goneV, nusB 0], 1)) (byV l7 l8a l8 s.size 0 (nuS s)) (byN l8 l9 lbG) 11 l9) 47 [.pointer (some ⟨1, 0, none⟩), goneV] [msB k g f t i e a b s goneV, penB 11 l8, pk l0, pk l1, pk l2, pk l3, pk l4, pk l5, pk l6, pk l7, nuS s, pk l8], true), (frameTPre (wrT (some (.int .i64 0, [msB k g f t i e a b s goneV, nusB 0], 0)) (some (.tuple #[], [penB 2 l0, msB k g f t i e a b s goneV, pk l0], 0)) (some (nusV 0, [msB k g f t i e a b s goneV, nusB 0], 1)) (byV l7 l8a l8 s.size 0 (nuS s)) (byN l8 l9 lbG) 11 l9) 47 [.pointer (some ⟨1, 0, none⟩), .slice (some ⟨10, 0, none⟩) s.size 0] [msB k g f t i e a b s goneV, penB 9 l7, pk l0, pk l1, pk l2, pk l3, pk l4, pk l5, pk l6, pk l7, nuS s], true), (decide (s.data.toList ≠ []), true), (cdec (wrF 0 1 0 = wrF 0 1 0), true), (cdec ([msB k g f t i e a b s goneV, penB 2 l0, pk l0] = [msB k g f t i e a b s goneV, penB 2 l0, pk l0]), true), (cdec ((0 : Nat) = 0), true), (frameTPre (wrT (some (.int .i64 0, [msB k g f t i e a b s goneV, nusB 0], 0)) (some (.tuple #[], [penB 2 l0, msB k g f t i e a b s goneV, pk l0], 0)) (some (nusV 0, [msB k g f t i e a b s goneV, nusB 0], 1)) (byV l7 l8a l8 s.size 0 (nuS s)) (byN l8 l9 lbG) 11 l9) 45 [.pointer (some ⟨0, 0, none⟩)] [msB k g f t i e a b s goneV, penB 2 l0, pk l0], true), (frameTPre (wrT (some (.int .i64 0, [msB k g f t i e a b s goneV, nusB 0], 0)) (some (.tuple #[], [penB 2 l0, msB k g f t i e a b s goneV, pk l0], 0)) (some (nusV 0, [msB k g f t i e a b s goneV, nusB 0], 1)) (byV l7 l8a l8 s.size 0 (nuS s)) (byN l8 l9 lbG) 11 l9) 42 [.pointer (some ⟨1, 0, none⟩), .func (.func 43) #[] #[.pointer (some ⟨0, 0, none⟩)]] [msB k g f t i e a b s goneV, pen0], true), (frameTPre (wrT (some (.int .i64 0, [msB k g f t i e a b s goneV, nusB 0], 0)) (some (.tuple #[], [penB 2 l0, msB k g f t i e a b s goneV, pk l0], 0)) (some (nusV 0, [msB k g f t i e a b s goneV, nusB 0], 1)) (byV l7 l8a l8 s.size 0 (nuS s)) (byN l8 l9 lbG) 11 l9) 41 [msA k g f t i e a b s goneV] [msB k g f t i e a b s goneV], true)]) := by kernel_rfl
end Go.Proofs.YtpgmabpaiijipaaGreatDoor
namespace Go.Proofs.YtpgmabpaiijipaaGreatDoor
open Go Den
set_option maxRecDepth 100000
set_option linter.unusedSimpArgs false
set_option linter.unusedVariables false
theorem app_ne {l m : List Bool} (h : l ≠ []) : l ++ m ≠ [] := fun e => h (List.append_eq_nil_iff.1 e).1
def nmX (s : ByteArray) : List Nat := s.data.toList.map fun b => b.toNat
theorem nuS_eq (s : ByteArray) : nuS s = ⟨false, none, byteV (nmX s)⟩ := by
  unfold nuS nmX byteV
  rw [List.map_map]
  rfl
theorem nmX_len (s : ByteArray) : (nmX s).length = s.size := by
  unfold nmX
  rw [List.length_map, Array.length_toList]
  rfl
theorem nmX_lt (s : ByteArray) : ∀ b ∈ nmX s, b < 256 := by
  intro b hb
  unfold nmX at hb
  obtain ⟨c, _, rfl⟩ := List.mem_map.1 hb
  exact c.toNat_lt
theorem ro_nu {e : List Nat} {i : Nat} {H : Heap} {s : ByteArray} (hl : nmX s ≠ []) (h : RowsOk e (i + 1) H) : RowsOk e i (nuS s :: H) := by
  rw [nuS_eq]; exact ro_row hl h
theorem rf_nu {H : Heap} {s : ByteArray} (h : RowsFlat H) : RowsFlat (nuS s :: H) := by
  rw [nuS_eq]; exact rf_row h
theorem wr_nums_run (k g f t i e a b : Int) (s : ByteArray) (D : Value) (X : Blk) : evFnL Tryz.prog ext 300 noPre noC noLoops [] 45 [.pointer (some ⟨0, 0, none⟩)] [msB k g f t i e a b s D, X] =
  some ((nusV 0, [msB k g f t i e a b s D, X, nusB 0], 2), []) := by kernel_rfl
theorem wr_nums {k g f t i e a b : Int} {s : ByteArray} {D : Value} {X : Blk} : CallOk Tryz.prog 45 [.pointer (some ⟨0, 0, none⟩)] [msB k g f t i e a b s D, X] (nusV 0) [msB k g f t i e a b s D, X, nusB 0] 2 :=
  fnL_ok progOk extSound noC_sound noLoops_ok (wr_nums_run k g f t i e a b s D X) (by simp [Holds])
theorem wr_seal {l : List Bool} (hne : l ≠ []) (hl : l.length ≤ 60000) : CallOk Tryz.prog 48 [.slice (some ⟨0, 0, none⟩) (pn l) 0] [pk l] (.tuple #[.slice (some ⟨4, 0, none⟩) (pn l + 4) 0, .int .i64 0]) (slR l) 1 := by
  have hb : ∀ x ∈ Bt.pack l, x < 256 := Bt.pack_lt _ l (Nat.le_refl _)
  have h := seal_ok1 (y := Bt.pack l) (pack_ne hne) hb (by rw [Bt.pack_len]; omega)
  have e : (Bt.pack l).length = pn l := Bt.pack_len l
  rw [e] at h
  exact h
theorem loops14 : loopsOf (bodyOf Tryz.prog 14) = [loopAt Tryz.prog 14 0] := by kernel_rfl
theorem write_raw0O {kk g f t i e a b : Nat} {x : List Nat} {c : Nat} (hk : kk < 16) (hb : g ≤ 1073741824 ∧ f ≤ 1073741824 ∧ t ≤ 1073741824 ∧ i ≤ 1073741824 ∧ e ≤ 1073741824 ∧ a ≤ 1073741824 ∧ b ≤ 1073741824) (hc : chkB kk g f t i e a b (ByteArray.mk #[]) x.length = true) (hne : x ≠ []) (hx : ∀ b ∈ x, b < 256) (hxl : x.length ≤ 64) :
    CallOk Tryz.prog 14 [msA kk g f t i e a b (ByteArray.mk #[]) (.slice (some ⟨0, 0, none⟩) x.length c)] [⟨false, none, byteV x⟩] (.tuple #[.slice (some ⟨13, 0, none⟩) (pn ((((wrL kk g f t i e a b 7) ++ Bt.codeB 0) ++ Bt.codeB x.length) ++ Bt.bytesB x) + 4) 0, .int .i64 0]) [⟨false, none, byteV x⟩, msB kk g f t i e a b (ByteArray.mk #[]) (.slice (some ⟨0, 0, none⟩) x.length c), penB 12 ((((wrL kk g f t i e a b 7) ++ Bt.codeB 0) ++ Bt.codeB x.length) ++ Bt.bytesB x), pk (wrL kk g f t i e a b 0), pk (wrL kk g f t i e a b 1), pk (wrL kk g f t i e a b 2), pk (wrL kk g f t i e a b 3), pk (wrL kk g f t i e a b 4), pk (wrL kk g f t i e a b 5), pk (wrL kk g f t i e a b 6), pk (wrL kk g f t i e a b 7), pk ((wrL kk g f t i e a b 7) ++ Bt.codeB 0), pk ((((wrL kk g f t i e a b 7) ++ Bt.codeB 0) ++ Bt.codeB x.length) ++ Bt.bytesB x), rowB (byteV (Crc.sealed (Bt.pack ((((wrL kk g f t i e a b 7) ++ Bt.codeB 0) ++ Bt.codeB x.length) ++ Bt.bytesB x))))] 0 := by
  have hlen := wrL_len (kk := kk) hb 7
  have q0 := wrL_ne kk g f t i e a b 0
  have q1 := wrL_ne kk g f t i e a b 1
  have q2 := wrL_ne kk g f t i e a b 2
  have q3 := wrL_ne kk g f t i e a b 3
  have q4 := wrL_ne kk g f t i e a b 4
  have q5 := wrL_ne kk g f t i e a b 5
  have q6 := wrL_ne kk g f t i e a b 6
  have q7 := wrL_ne kk g f t i e a b 7
  have n8 : ((wrL kk g f t i e a b 7) ++ Bt.codeB 0) ≠ [] := app_ne q7
  have n9 : ((((wrL kk g f t i e a b 7) ++ Bt.codeB 0) ++ Bt.codeB x.length) ++ Bt.bytesB x) ≠ [] := app_ne (app_ne n8)
  have e9 : ((((wrL kk g f t i e a b 7) ++ Bt.codeB 0) ++ Bt.codeB x.length) ++ Bt.bytesB x).length ≤ 2000 := by
    have z1 : Bt.cz 0 < 31 := Bt.cz_le (by omega)
    have z2 : Bt.cz x.length < 31 := Bt.cz_le (by omega)
    simp only [List.length_append, Bt.codeB_length, Bt.bytesB_length]
    omega
  have e8 : ((wrL kk g f t i e a b 7) ++ Bt.codeB 0).length ≤ 2000 := by
    have z1 : Bt.cz 0 < 31 := Bt.cz_le (by omega)
    simp only [List.length_append, Bt.codeB_length, Bt.bytesB_length]
    omega
  have hck := check_msg_1 (k := (kk : Nat)) (g := (g : Nat)) (f := (f : Nat)) (t := (t : Nat)) (i := (i : Nat)) (e := (e : Nat)) (a := (a : Nat)) (b := (b : Nat)) (s := (ByteArray.mk #[])) (p := some ⟨0, 0, none⟩) (n := x.length) (c := c) (X := ⟨false, none, byteV x⟩) (by decide)
  rw [hc] at hck
  refine fnL_ok progOk extSound (nb_sound _ _ (frameT_sound _)) (LoopsOk.sum (hL := rfl) ?_) (wr_run0O kk g f t i e a b (wrL kk g f t i e a b 0) (wrL kk g f t i e a b 1) (wrL kk g f t i e a b 2) (wrL kk g f t i e a b 3) (wrL kk g f t i e a b 4) (wrL kk g f t i e a b 5) (wrL kk g f t i e a b 6) (wrL kk g f t i e a b 7) ((wrL kk g f t i e a b 7) ++ Bt.codeB 0) ((((wrL kk g f t i e a b 7) ++ Bt.codeB 0) ++ Bt.codeB x.length) ++ Bt.bytesB x) (((wrL kk g f t i e a b 7) ++ Bt.codeB 0) ++ Bt.codeB x.length) x c) ?_
  · intro b' hb' _
    rw [loops14] at hb'
    simp only [List.mem_singleton] at hb'
    subst hb'
    exact wl_okO (x := x) (c := c) hne hb
  intro q hq
  simp only [List.mem_cons, List.not_mem_nil, or_false] at hq
  rcases hq with rfl | rfl | rfl | rfl | rfl | rfl | rfl | rfl | rfl
  · exact tok (frameT_ok [12] (wr_seal n9 (by omega)) (by exact ro_row hne (ro_in rfl (ro_in rfl (ro_pk (q0) (ro_pk (q1) (ro_pk (q2) (ro_pk (q3) (ro_pk (q4) (ro_pk (q5) (ro_pk (q6) (ro_pk (q7) (ro_pk n8 (ro_pk n9 (ro_nil)))))))))))))) (by exact rf_pk (rf_in rfl (rf_in rfl (rf_in rfl (rf_row (rf_nil)))))))
  · exact tok (frameT_ok [2, 0, 11] (bytes_okO (l := ((wrL kk g f t i e a b 7) ++ Bt.codeB 0)) (c := c) n8 hne hx (by omega) (by omega)) (by exact ro_row hne (ro_in rfl (ro_in rfl (ro_pk (q0) (ro_pk (q1) (ro_pk (q2) (ro_pk (q3) (ro_pk (q4) (ro_pk (q5) (ro_pk (q6) (ro_pk (q7) (ro_pk n8 (ro_nil))))))))))))) (by exact rf_in rfl (rf_row (rf_pk (rf_in rfl (rf_pk (rf_pk (rf_nil))))))))
  · exact tok (frameT_ok [2, 10] (bytes_okG (l := (wrL kk g f t i e a b 7)) (q7) (by omega)) (by exact ro_row hne (ro_in rfl (ro_in rfl (ro_pk (q0) (ro_pk (q1) (ro_pk (q2) (ro_pk (q3) (ro_pk (q4) (ro_pk (q5) (ro_pk (q6) (ro_pk (q7) (ro_nil)))))))))))) (by exact rf_in rfl (rf_pk (rf_in rfl (rf_pk (rf_pk (rf_nil)))))))
  · simp [cdec]
  · simp [cdec]
  · simp [cdec]
  · exact tok (frameT_ok [1, 0] (wr_nums (k := (kk : Nat)) (g := (g : Nat)) (f := (f : Nat)) (t := (t : Nat)) (i := (i : Nat)) (e := (e : Nat)) (a := (a : Nat)) (b := (b : Nat)) (s := (ByteArray.mk #[])) (D := (.slice (some ⟨1, 0, none⟩) x.length c)) (X := ⟨false, none, byteV x⟩)) (by exact ro_row hne (ro_in rfl (ro_in rfl (ro_pk (q0) (ro_nil))))) (by exact rf_in rfl (rf_row (rf_in rfl (rf_nil)))))
  · exact tok (frameT_ok [2, 1, 0] (wr_d43_okO (kk := kk) (g := g) (f := f) (t := t) (i := i) (e := e) (a := a) (b := b) (s := (ByteArray.mk #[])) (c := c) hk hne) (by exact ro_row hne (ro_in rfl (ro_in rfl (ro_nil)))) (by exact rf_in rfl (rf_in rfl (rf_row (rf_pk (rf_nil))))))
  · exact tok (frameT_ok [0] (hck) (by exact ro_row hne (ro_in rfl (ro_nil))) (by exact rf_row (rf_in rfl (rf_in rfl (rf_nil)))))
theorem write_raw0R {kk g f t i e a b : Nat} {x : List Nat} (hk : kk < 16) (hb : g ≤ 1073741824 ∧ f ≤ 1073741824 ∧ t ≤ 1073741824 ∧ i ≤ 1073741824 ∧ e ≤ 1073741824 ∧ a ≤ 1073741824 ∧ b ≤ 1073741824) (hc : chkB kk g f t i e a b (ByteArray.mk #[]) x.length = true) (hne : x ≠ []) (hx : ∀ b ∈ x, b < 256) (hxl : x.length ≤ 64) :
    CallOk Tryz.prog 14 [msA kk g f t i e a b (ByteArray.mk #[]) (.slice (some ⟨0, 0, none⟩) x.length 0)] [rowB (byteV x)] (.tuple #[.slice (some ⟨13, 0, none⟩) (pn ((((wrL kk g f t i e a b 7) ++ Bt.codeB 0) ++ Bt.codeB x.length) ++ Bt.bytesB x) + 4) 0, .int .i64 0]) [rowB (byteV x), msB kk g f t i e a b (ByteArray.mk #[]) (.slice (some ⟨0, 0, none⟩) x.length 0), penB 12 ((((wrL kk g f t i e a b 7) ++ Bt.codeB 0) ++ Bt.codeB x.length) ++ Bt.bytesB x), pk (wrL kk g f t i e a b 0), pk (wrL kk g f t i e a b 1), pk (wrL kk g f t i e a b 2), pk (wrL kk g f t i e a b 3), pk (wrL kk g f t i e a b 4), pk (wrL kk g f t i e a b 5), pk (wrL kk g f t i e a b 6), pk (wrL kk g f t i e a b 7), pk ((wrL kk g f t i e a b 7) ++ Bt.codeB 0), pk ((((wrL kk g f t i e a b 7) ++ Bt.codeB 0) ++ Bt.codeB x.length) ++ Bt.bytesB x), rowB (byteV (Crc.sealed (Bt.pack ((((wrL kk g f t i e a b 7) ++ Bt.codeB 0) ++ Bt.codeB x.length) ++ Bt.bytesB x))))] 0 := by
  have hlen := wrL_len (kk := kk) hb 7
  have q0 := wrL_ne kk g f t i e a b 0
  have q1 := wrL_ne kk g f t i e a b 1
  have q2 := wrL_ne kk g f t i e a b 2
  have q3 := wrL_ne kk g f t i e a b 3
  have q4 := wrL_ne kk g f t i e a b 4
  have q5 := wrL_ne kk g f t i e a b 5
  have q6 := wrL_ne kk g f t i e a b 6
  have q7 := wrL_ne kk g f t i e a b 7
  have n8 : ((wrL kk g f t i e a b 7) ++ Bt.codeB 0) ≠ [] := app_ne q7
  have n9 : ((((wrL kk g f t i e a b 7) ++ Bt.codeB 0) ++ Bt.codeB x.length) ++ Bt.bytesB x) ≠ [] := app_ne (app_ne n8)
  have e9 : ((((wrL kk g f t i e a b 7) ++ Bt.codeB 0) ++ Bt.codeB x.length) ++ Bt.bytesB x).length ≤ 2000 := by
    have z1 : Bt.cz 0 < 31 := Bt.cz_le (by omega)
    have z2 : Bt.cz x.length < 31 := Bt.cz_le (by omega)
    simp only [List.length_append, Bt.codeB_length, Bt.bytesB_length]
    omega
  have e8 : ((wrL kk g f t i e a b 7) ++ Bt.codeB 0).length ≤ 2000 := by
    have z1 : Bt.cz 0 < 31 := Bt.cz_le (by omega)
    simp only [List.length_append, Bt.codeB_length, Bt.bytesB_length]
    omega
  have hck := check_msg_1 (k := (kk : Nat)) (g := (g : Nat)) (f := (f : Nat)) (t := (t : Nat)) (i := (i : Nat)) (e := (e : Nat)) (a := (a : Nat)) (b := (b : Nat)) (s := (ByteArray.mk #[])) (p := some ⟨0, 0, none⟩) (n := x.length) (c := 0) (X := rowB (byteV x)) (by decide)
  rw [hc] at hck
  refine fnL_ok progOk extSound (nb_sound _ _ (frameT_sound _)) (LoopsOk.sum (hL := rfl) ?_) (wr_run0R kk g f t i e a b (wrL kk g f t i e a b 0) (wrL kk g f t i e a b 1) (wrL kk g f t i e a b 2) (wrL kk g f t i e a b 3) (wrL kk g f t i e a b 4) (wrL kk g f t i e a b 5) (wrL kk g f t i e a b 6) (wrL kk g f t i e a b 7) ((wrL kk g f t i e a b 7) ++ Bt.codeB 0) ((((wrL kk g f t i e a b 7) ++ Bt.codeB 0) ++ Bt.codeB x.length) ++ Bt.bytesB x) (((wrL kk g f t i e a b 7) ++ Bt.codeB 0) ++ Bt.codeB x.length) x) ?_
  · intro b' hb' _
    rw [loops14] at hb'
    simp only [List.mem_singleton] at hb'
    subst hb'
    exact wl_okR (x := x) hne hb
  intro q hq
  simp only [List.mem_cons, List.not_mem_nil, or_false] at hq
  rcases hq with rfl | rfl | rfl | rfl | rfl | rfl | rfl | rfl | rfl
  · exact tok (frameT_ok [12] (wr_seal n9 (by omega)) (by exact ro_row hne (ro_in rfl (ro_in rfl (ro_pk (q0) (ro_pk (q1) (ro_pk (q2) (ro_pk (q3) (ro_pk (q4) (ro_pk (q5) (ro_pk (q6) (ro_pk (q7) (ro_pk n8 (ro_pk n9 (ro_nil)))))))))))))) (by exact rf_pk (rf_in rfl (rf_in rfl (rf_in rfl (rf_row (rf_nil)))))))
  · exact tok (frameT_ok [2, 0, 11] (bytes_okR (l := ((wrL kk g f t i e a b 7) ++ Bt.codeB 0)) (c := 0) n8 hne hx (by omega) (by omega)) (by exact ro_row hne (ro_in rfl (ro_in rfl (ro_pk (q0) (ro_pk (q1) (ro_pk (q2) (ro_pk (q3) (ro_pk (q4) (ro_pk (q5) (ro_pk (q6) (ro_pk (q7) (ro_pk n8 (ro_nil))))))))))))) (by exact rf_in rfl (rf_row (rf_pk (rf_in rfl (rf_pk (rf_pk (rf_nil))))))))
  · exact tok (frameT_ok [2, 10] (bytes_okG (l := (wrL kk g f t i e a b 7)) (q7) (by omega)) (by exact ro_row hne (ro_in rfl (ro_in rfl (ro_pk (q0) (ro_pk (q1) (ro_pk (q2) (ro_pk (q3) (ro_pk (q4) (ro_pk (q5) (ro_pk (q6) (ro_pk (q7) (ro_nil)))))))))))) (by exact rf_in rfl (rf_pk (rf_in rfl (rf_pk (rf_pk (rf_nil)))))))
  · simp [cdec]
  · simp [cdec]
  · simp [cdec]
  · exact tok (frameT_ok [1, 0] (wr_nums (k := (kk : Nat)) (g := (g : Nat)) (f := (f : Nat)) (t := (t : Nat)) (i := (i : Nat)) (e := (e : Nat)) (a := (a : Nat)) (b := (b : Nat)) (s := (ByteArray.mk #[])) (D := (.slice (some ⟨1, 0, none⟩) x.length 0)) (X := rowB (byteV x))) (by exact ro_row hne (ro_in rfl (ro_in rfl (ro_pk (q0) (ro_nil))))) (by exact rf_in rfl (rf_row (rf_in rfl (rf_nil)))))
  · exact tok (frameT_ok [2, 1, 0] (wr_d43_okR (kk := kk) (g := g) (f := f) (t := t) (i := i) (e := e) (a := a) (b := b) (s := (ByteArray.mk #[])) hk hne) (by exact ro_row hne (ro_in rfl (ro_in rfl (ro_nil)))) (by exact rf_in rfl (rf_in rfl (rf_row (rf_pk (rf_nil))))))
  · exact tok (frameT_ok [0] (hck) (by exact ro_row hne (ro_in rfl (ro_nil))) (by exact rf_row (rf_in rfl (rf_in rfl (rf_nil)))))
theorem write_raw0N {kk g f t i e a b : Nat} (hk : kk < 16) (hb : g ≤ 1073741824 ∧ f ≤ 1073741824 ∧ t ≤ 1073741824 ∧ i ≤ 1073741824 ∧ e ≤ 1073741824 ∧ a ≤ 1073741824 ∧ b ≤ 1073741824) (hc : chkB kk g f t i e a b (ByteArray.mk #[]) 0 = true) :
    CallOk Tryz.prog 14 [msA kk g f t i e a b (ByteArray.mk #[]) (.slice none 0 0)] [] (.tuple #[.slice (some ⟨12, 0, none⟩) (pn (((wrL kk g f t i e a b 7) ++ Bt.codeB 0) ++ Bt.codeB 0) + 4) 0, .int .i64 0]) [msB kk g f t i e a b (ByteArray.mk #[]) (.slice none 0 0), penB 11 (((wrL kk g f t i e a b 7) ++ Bt.codeB 0) ++ Bt.codeB 0), pk (wrL kk g f t i e a b 0), pk (wrL kk g f t i e a b 1), pk (wrL kk g f t i e a b 2), pk (wrL kk g f t i e a b 3), pk (wrL kk g f t i e a b 4), pk (wrL kk g f t i e a b 5), pk (wrL kk g f t i e a b 6), pk (wrL kk g f t i e a b 7), pk ((wrL kk g f t i e a b 7) ++ Bt.codeB 0), pk (((wrL kk g f t i e a b 7) ++ Bt.codeB 0) ++ Bt.codeB 0), rowB (byteV (Crc.sealed (Bt.pack (((wrL kk g f t i e a b 7) ++ Bt.codeB 0) ++ Bt.codeB 0))))] 0 := by
  have hlen := wrL_len (kk := kk) hb 7
  have q0 := wrL_ne kk g f t i e a b 0
  have q1 := wrL_ne kk g f t i e a b 1
  have q2 := wrL_ne kk g f t i e a b 2
  have q3 := wrL_ne kk g f t i e a b 3
  have q4 := wrL_ne kk g f t i e a b 4
  have q5 := wrL_ne kk g f t i e a b 5
  have q6 := wrL_ne kk g f t i e a b 6
  have q7 := wrL_ne kk g f t i e a b 7
  have n8 : ((wrL kk g f t i e a b 7) ++ Bt.codeB 0) ≠ [] := app_ne q7
  have n9 : (((wrL kk g f t i e a b 7) ++ Bt.codeB 0) ++ Bt.codeB 0) ≠ [] := app_ne n8
  have e9 : (((wrL kk g f t i e a b 7) ++ Bt.codeB 0) ++ Bt.codeB 0).length ≤ 2000 := by
    have z1 : Bt.cz 0 < 31 := Bt.cz_le (by omega)
    have z2 : Bt.cz 0 < 31 := Bt.cz_le (by omega)
    simp only [List.length_append, Bt.codeB_length, Bt.bytesB_length]
    omega
  have e8 : ((wrL kk g f t i e a b 7) ++ Bt.codeB 0).length ≤ 2000 := by
    have z1 : Bt.cz 0 < 31 := Bt.cz_le (by omega)
    simp only [List.length_append, Bt.codeB_length, Bt.bytesB_length]
    omega
  have hck := check_msg_0 (k := (kk : Nat)) (g := (g : Nat)) (f := (f : Nat)) (t := (t : Nat)) (i := (i : Nat)) (e := (e : Nat)) (a := (a : Nat)) (b := (b : Nat)) (s := (ByteArray.mk #[])) (p := none) (n := 0) (c := 0) (X := spB) (by decide)
  rw [hc] at hck
  refine fnL_ok progOk extSound (nb_sound _ _ (frameT_sound _)) (LoopsOk.sum (hL := rfl) ?_) (wr_run0N kk g f t i e a b (wrL kk g f t i e a b 0) (wrL kk g f t i e a b 1) (wrL kk g f t i e a b 2) (wrL kk g f t i e a b 3) (wrL kk g f t i e a b 4) (wrL kk g f t i e a b 5) (wrL kk g f t i e a b 6) (wrL kk g f t i e a b 7) ((wrL kk g f t i e a b 7) ++ Bt.codeB 0) (((wrL kk g f t i e a b 7) ++ Bt.codeB 0) ++ Bt.codeB 0)) ?_
  · intro b' hb' _
    rw [loops14] at hb'
    simp only [List.mem_singleton] at hb'
    subst hb'
    exact wl_okM (D := (.slice none 0 0)) hb
  intro q hq
  simp only [List.mem_cons, List.not_mem_nil, or_false] at hq
  rcases hq with rfl | rfl | rfl | rfl | rfl | rfl | rfl | rfl | rfl
  · exact tok (frameT_ok [11] (wr_seal n9 (by omega)) (by exact ro_in rfl (ro_in rfl (ro_pk (q0) (ro_pk (q1) (ro_pk (q2) (ro_pk (q3) (ro_pk (q4) (ro_pk (q5) (ro_pk (q6) (ro_pk (q7) (ro_pk n8 (ro_pk n9 (ro_nil))))))))))))) (by exact rf_pk (rf_in rfl (rf_in rfl (rf_in rfl (rf_row (rf_nil)))))))
  · exact tok (frameT_ok [1, 10] (bytes_okN (l := ((wrL kk g f t i e a b 7) ++ Bt.codeB 0)) n8 (by omega)) (by exact ro_in rfl (ro_in rfl (ro_pk (q0) (ro_pk (q1) (ro_pk (q2) (ro_pk (q3) (ro_pk (q4) (ro_pk (q5) (ro_pk (q6) (ro_pk (q7) (ro_pk n8 (ro_nil)))))))))))) (by exact rf_in rfl (rf_pk (rf_in rfl (rf_pk (rf_pk (rf_nil)))))))
  · exact tok (frameT_ok [1, 9] (bytes_okG (l := (wrL kk g f t i e a b 7)) (q7) (by omega)) (by exact ro_in rfl (ro_in rfl (ro_pk (q0) (ro_pk (q1) (ro_pk (q2) (ro_pk (q3) (ro_pk (q4) (ro_pk (q5) (ro_pk (q6) (ro_pk (q7) (ro_nil))))))))))) (by exact rf_in rfl (rf_pk (rf_in rfl (rf_pk (rf_pk (rf_nil)))))))
  · simp [cdec]
  · simp [cdec]
  · simp [cdec]
  · exact tok (frameT_ok [0] (nums_ok_0 (k := (kk : Nat)) (g := (g : Nat)) (f := (f : Nat)) (t := (t : Nat)) (i := (i : Nat)) (e := (e : Nat)) (a := (a : Nat)) (b := (b : Nat)) (s := (ByteArray.mk #[])) (D := (.slice none 0 0)) (X := spB)) (by exact ro_in rfl (ro_in rfl (ro_pk (q0) (ro_nil)))) (by exact rf_in rfl (rf_in rfl (rf_nil))))
  · exact tok (frameT_ok [1, 0] (wr_d43_okN (kk := kk) (g := g) (f := f) (t := t) (i := i) (e := e) (a := a) (b := b) (s := (ByteArray.mk #[])) hk) (by exact ro_in rfl (ro_in rfl (ro_nil))) (by exact rf_in rfl (rf_in rfl (rf_pk (rf_nil)))))
  · exact tok (frameT_ok [] (hck) (by exact ro_nil) (by exact rf_in rfl (rf_in rfl (rf_nil))))
theorem write_raw0G {kk g f t i e a b : Nat} (hk : kk < 16) (hb : g ≤ 1073741824 ∧ f ≤ 1073741824 ∧ t ≤ 1073741824 ∧ i ≤ 1073741824 ∧ e ≤ 1073741824 ∧ a ≤ 1073741824 ∧ b ≤ 1073741824) (hc : chkB kk g f t i e a b (ByteArray.mk #[]) 0 = true) :
    CallOk Tryz.prog 14 [msA kk g f t i e a b (ByteArray.mk #[]) goneV] [] (.tuple #[.slice (some ⟨12, 0, none⟩) (pn (((wrL kk g f t i e a b 7) ++ Bt.codeB 0) ++ Bt.codeB 0) + 4) 0, .int .i64 0]) [msB kk g f t i e a b (ByteArray.mk #[]) goneV, penB 11 (((wrL kk g f t i e a b 7) ++ Bt.codeB 0) ++ Bt.codeB 0), pk (wrL kk g f t i e a b 0), pk (wrL kk g f t i e a b 1), pk (wrL kk g f t i e a b 2), pk (wrL kk g f t i e a b 3), pk (wrL kk g f t i e a b 4), pk (wrL kk g f t i e a b 5), pk (wrL kk g f t i e a b 6), pk (wrL kk g f t i e a b 7), pk ((wrL kk g f t i e a b 7) ++ Bt.codeB 0), pk (((wrL kk g f t i e a b 7) ++ Bt.codeB 0) ++ Bt.codeB 0), rowB (byteV (Crc.sealed (Bt.pack (((wrL kk g f t i e a b 7) ++ Bt.codeB 0) ++ Bt.codeB 0))))] 0 := by
  have hlen := wrL_len (kk := kk) hb 7
  have q0 := wrL_ne kk g f t i e a b 0
  have q1 := wrL_ne kk g f t i e a b 1
  have q2 := wrL_ne kk g f t i e a b 2
  have q3 := wrL_ne kk g f t i e a b 3
  have q4 := wrL_ne kk g f t i e a b 4
  have q5 := wrL_ne kk g f t i e a b 5
  have q6 := wrL_ne kk g f t i e a b 6
  have q7 := wrL_ne kk g f t i e a b 7
  have n8 : ((wrL kk g f t i e a b 7) ++ Bt.codeB 0) ≠ [] := app_ne q7
  have n9 : (((wrL kk g f t i e a b 7) ++ Bt.codeB 0) ++ Bt.codeB 0) ≠ [] := app_ne n8
  have e9 : (((wrL kk g f t i e a b 7) ++ Bt.codeB 0) ++ Bt.codeB 0).length ≤ 2000 := by
    have z1 : Bt.cz 0 < 31 := Bt.cz_le (by omega)
    have z2 : Bt.cz 0 < 31 := Bt.cz_le (by omega)
    simp only [List.length_append, Bt.codeB_length, Bt.bytesB_length]
    omega
  have e8 : ((wrL kk g f t i e a b 7) ++ Bt.codeB 0).length ≤ 2000 := by
    have z1 : Bt.cz 0 < 31 := Bt.cz_le (by omega)
    simp only [List.length_append, Bt.codeB_length, Bt.bytesB_length]
    omega
  have hck := check_msg_0 (k := (kk : Nat)) (g := (g : Nat)) (f := (f : Nat)) (t := (t : Nat)) (i := (i : Nat)) (e := (e : Nat)) (a := (a : Nat)) (b := (b : Nat)) (s := (ByteArray.mk #[])) (p := some ⟨0, 0, some 1⟩) (n := 0) (c := 0) (X := spB) (by decide)
  rw [hc] at hck
  refine fnL_ok progOk extSound (nb_sound _ _ (frameT_sound _)) (LoopsOk.sum (hL := rfl) ?_) (wr_run0G kk g f t i e a b (wrL kk g f t i e a b 0) (wrL kk g f t i e a b 1) (wrL kk g f t i e a b 2) (wrL kk g f t i e a b 3) (wrL kk g f t i e a b 4) (wrL kk g f t i e a b 5) (wrL kk g f t i e a b 6) (wrL kk g f t i e a b 7) ((wrL kk g f t i e a b 7) ++ Bt.codeB 0) (((wrL kk g f t i e a b 7) ++ Bt.codeB 0) ++ Bt.codeB 0)) ?_
  · intro b' hb' _
    rw [loops14] at hb'
    simp only [List.mem_singleton] at hb'
    subst hb'
    exact wl_okM (D := goneV) hb
  intro q hq
  simp only [List.mem_cons, List.not_mem_nil, or_false] at hq
  rcases hq with rfl | rfl | rfl | rfl | rfl | rfl | rfl | rfl | rfl
  · exact tok (frameT_ok [11] (wr_seal n9 (by omega)) (by exact ro_in rfl (ro_in rfl (ro_pk (q0) (ro_pk (q1) (ro_pk (q2) (ro_pk (q3) (ro_pk (q4) (ro_pk (q5) (ro_pk (q6) (ro_pk (q7) (ro_pk n8 (ro_pk n9 (ro_nil))))))))))))) (by exact rf_pk (rf_in rfl (rf_in rfl (rf_in rfl (rf_row (rf_nil)))))))
  · exact tok (frameT_ok [1, 10] (bytes_okG (l := ((wrL kk g f t i e a b 7) ++ Bt.codeB 0)) n8 (by omega)) (by exact ro_in rfl (ro_in rfl (ro_pk (q0) (ro_pk (q1) (ro_pk (q2) (ro_pk (q3) (ro_pk (q4) (ro_pk (q5) (ro_pk (q6) (ro_pk (q7) (ro_pk n8 (ro_nil)))))))))))) (by exact rf_in rfl (rf_pk (rf_in rfl (rf_pk (rf_pk (rf_nil)))))))
  · exact tok (frameT_ok [1, 9] (bytes_okG (l := (wrL kk g f t i e a b 7)) (q7) (by omega)) (by exact ro_in rfl (ro_in rfl (ro_pk (q0) (ro_pk (q1) (ro_pk (q2) (ro_pk (q3) (ro_pk (q4) (ro_pk (q5) (ro_pk (q6) (ro_pk (q7) (ro_nil))))))))))) (by exact rf_in rfl (rf_pk (rf_in rfl (rf_pk (rf_pk (rf_nil)))))))
  · simp [cdec]
  · simp [cdec]
  · simp [cdec]
  · exact tok (frameT_ok [0] (nums_ok_0 (k := (kk : Nat)) (g := (g : Nat)) (f := (f : Nat)) (t := (t : Nat)) (i := (i : Nat)) (e := (e : Nat)) (a := (a : Nat)) (b := (b : Nat)) (s := (ByteArray.mk #[])) (D := goneV) (X := spB)) (by exact ro_in rfl (ro_in rfl (ro_pk (q0) (ro_nil)))) (by exact rf_in rfl (rf_in rfl (rf_nil))))
  · exact tok (frameT_ok [1, 0] (wr_d43_okG (kk := kk) (g := g) (f := f) (t := t) (i := i) (e := e) (a := a) (b := b) (s := (ByteArray.mk #[])) hk) (by exact ro_in rfl (ro_in rfl (ro_nil))) (by exact rf_in rfl (rf_in rfl (rf_pk (rf_nil)))))
  · exact tok (frameT_ok [] (hck) (by exact ro_in rfl (ro_nil)) (by exact rf_in rfl (rf_in rfl (rf_nil))))
theorem write_raw1N {kk g f t i e a b : Nat} {s : ByteArray} (hk : kk < 16) (hb : g ≤ 1073741824 ∧ f ≤ 1073741824 ∧ t ≤ 1073741824 ∧ i ≤ 1073741824 ∧ e ≤ 1073741824 ∧ a ≤ 1073741824 ∧ b ≤ 1073741824) (hc : chkB kk g f t i e a b s 0 = true) (hs : s.size ≤ 64) (hsn : nmX s ≠ []) :
    CallOk Tryz.prog 14 [msA kk g f t i e a b s (.slice none 0 0)] [] (.tuple #[.slice (some ⟨13, 0, none⟩) (pn ((((wrL kk g f t i e a b 7) ++ Bt.codeB s.size) ++ Bt.bytesB (nmX s)) ++ Bt.codeB 0) + 4) 0, .int .i64 0]) [msB kk g f t i e a b s (.slice none 0 0), penB 12 ((((wrL kk g f t i e a b 7) ++ Bt.codeB s.size) ++ Bt.bytesB (nmX s)) ++ Bt.codeB 0), pk (wrL kk g f t i e a b 0), pk (wrL kk g f t i e a b 1), pk (wrL kk g f t i e a b 2), pk (wrL kk g f t i e a b 3), pk (wrL kk g f t i e a b 4), pk (wrL kk g f t i e a b 5), pk (wrL kk g f t i e a b 6), pk (wrL kk g f t i e a b 7), nuS s, pk (((wrL kk g f t i e a b 7) ++ Bt.codeB s.size) ++ Bt.bytesB (nmX s)), pk ((((wrL kk g f t i e a b 7) ++ Bt.codeB s.size) ++ Bt.bytesB (nmX s)) ++ Bt.codeB 0), rowB (byteV (Crc.sealed (Bt.pack ((((wrL kk g f t i e a b 7) ++ Bt.codeB s.size) ++ Bt.bytesB (nmX s)) ++ Bt.codeB 0))))] 0 := by
  have hlen := wrL_len (kk := kk) hb 7
  have q0 := wrL_ne kk g f t i e a b 0
  have q1 := wrL_ne kk g f t i e a b 1
  have q2 := wrL_ne kk g f t i e a b 2
  have q3 := wrL_ne kk g f t i e a b 3
  have q4 := wrL_ne kk g f t i e a b 4
  have q5 := wrL_ne kk g f t i e a b 5
  have q6 := wrL_ne kk g f t i e a b 6
  have q7 := wrL_ne kk g f t i e a b 7
  have n8 : (((wrL kk g f t i e a b 7) ++ Bt.codeB s.size) ++ Bt.bytesB (nmX s)) ≠ [] := app_ne (app_ne q7)
  have n9 : ((((wrL kk g f t i e a b 7) ++ Bt.codeB s.size) ++ Bt.bytesB (nmX s)) ++ Bt.codeB 0) ≠ [] := app_ne n8
  have e9 : ((((wrL kk g f t i e a b 7) ++ Bt.codeB s.size) ++ Bt.bytesB (nmX s)) ++ Bt.codeB 0).length ≤ 2000 := by
    have z1 : Bt.cz s.size < 31 := Bt.cz_le (by omega)
    have z2 : Bt.cz 0 < 31 := Bt.cz_le (by omega)
    simp only [List.length_append, Bt.codeB_length, Bt.bytesB_length, nmX_len]
    omega
  have e8 : (((wrL kk g f t i e a b 7) ++ Bt.codeB s.size) ++ Bt.bytesB (nmX s)).length ≤ 2000 := by
    have z1 : Bt.cz s.size < 31 := Bt.cz_le (by omega)
    simp only [List.length_append, Bt.codeB_length, Bt.bytesB_length, nmX_len]
    omega
  have hnm := bytes_okO (l := (wrL kk g f t i e a b 7)) (x := nmX s) (c := 0) (q7) hsn (nmX_lt s) (by rw [nmX_len]; omega) (by omega)
  rw [← nuS_eq, nmX_len] at hnm
  have hck := check_msg_0 (k := (kk : Nat)) (g := (g : Nat)) (f := (f : Nat)) (t := (t : Nat)) (i := (i : Nat)) (e := (e : Nat)) (a := (a : Nat)) (b := (b : Nat)) (s := s) (p := none) (n := 0) (c := 0) (X := spB) (by omega)
  rw [hc] at hck
  refine fnL_ok progOk extSound (nb_sound _ _ (sym_sound _ (frameT_sound _))) (LoopsOk.sum (hL := rfl) ?_) (wr_run1N kk g f t i e a b s (wrL kk g f t i e a b 0) (wrL kk g f t i e a b 1) (wrL kk g f t i e a b 2) (wrL kk g f t i e a b 3) (wrL kk g f t i e a b 4) (wrL kk g f t i e a b 5) (wrL kk g f t i e a b 6) (wrL kk g f t i e a b 7) (((wrL kk g f t i e a b 7) ++ Bt.codeB s.size) ++ Bt.bytesB (nmX s)) ((((wrL kk g f t i e a b 7) ++ Bt.codeB s.size) ++ Bt.bytesB (nmX s)) ++ Bt.codeB 0) ((wrL kk g f t i e a b 7) ++ Bt.codeB s.size)) ?_
  · intro b' hb' _
    rw [loops14] at hb'
    simp only [List.mem_singleton] at hb'
    subst hb'
    exact wl_okM (D := (.slice none 0 0)) hb
  intro q hq
  simp only [List.mem_cons, List.not_mem_nil, or_false] at hq
  rcases hq with rfl | rfl | rfl | rfl | rfl | rfl | rfl | rfl | rfl | rfl
  · exact tok (frameT_ok [12] (wr_seal n9 (by omega)) (by exact ro_in rfl (ro_in rfl (ro_pk (q0) (ro_pk (q1) (ro_pk (q2) (ro_pk (q3) (ro_pk (q4) (ro_pk (q5) (ro_pk (q6) (ro_pk (q7) (ro_nu hsn (ro_pk n8 (ro_pk n9 (ro_nil)))))))))))))) (by exact rf_pk (rf_in rfl (rf_in rfl (rf_in rfl (rf_row (rf_nil)))))))
  · exact tok (frameT_ok [1, 11] (bytes_okN (l := (((wrL kk g f t i e a b 7) ++ Bt.codeB s.size) ++ Bt.bytesB (nmX s))) n8 (by omega)) (by exact ro_in rfl (ro_in rfl (ro_pk (q0) (ro_pk (q1) (ro_pk (q2) (ro_pk (q3) (ro_pk (q4) (ro_pk (q5) (ro_pk (q6) (ro_pk (q7) (ro_nu hsn (ro_pk n8 (ro_nil))))))))))))) (by exact rf_in rfl (rf_pk (rf_in rfl (rf_pk (rf_pk (rf_nil)))))))
  · exact tok (frameT_ok [1, 10, 9] (hnm) (by exact ro_in rfl (ro_in rfl (ro_pk (q0) (ro_pk (q1) (ro_pk (q2) (ro_pk (q3) (ro_pk (q4) (ro_pk (q5) (ro_pk (q6) (ro_pk (q7) (ro_nu hsn (ro_nil)))))))))))) (by exact rf_in rfl (rf_nu (rf_pk (rf_in rfl (rf_pk (rf_pk (rf_nil))))))))
  · simp only [decide_eq_true_eq]; intro he; exact hsn (by unfold nmX; rw [he]; rfl)
  · simp [cdec]
  · simp [cdec]
  · simp [cdec]
  · exact tok (frameT_ok [0] (nums_ok_0 (k := (kk : Nat)) (g := (g : Nat)) (f := (f : Nat)) (t := (t : Nat)) (i := (i : Nat)) (e := (e : Nat)) (a := (a : Nat)) (b := (b : Nat)) (s := s) (D := (.slice none 0 0)) (X := spB)) (by exact ro_in rfl (ro_in rfl (ro_pk (q0) (ro_nil)))) (by exact rf_in rfl (rf_in rfl (rf_nil))))
  · exact tok (frameT_ok [1, 0] (wr_d43_okN (kk := kk) (g := g) (f := f) (t := t) (i := i) (e := e) (a := a) (b := b) (s := s) hk) (by exact ro_in rfl (ro_in rfl (ro_nil))) (by exact rf_in rfl (rf_in rfl (rf_pk (rf_nil)))))
  · exact tok (frameT_ok [] (hck) (by exact ro_nil) (by exact rf_in rfl (rf_in rfl (rf_nil))))
theorem write_raw1G {kk g f t i e a b : Nat} {s : ByteArray} (hk : kk < 16) (hb : g ≤ 1073741824 ∧ f ≤ 1073741824 ∧ t ≤ 1073741824 ∧ i ≤ 1073741824 ∧ e ≤ 1073741824 ∧ a ≤ 1073741824 ∧ b ≤ 1073741824) (hc : chkB kk g f t i e a b s 0 = true) (hs : s.size ≤ 64) (hsn : nmX s ≠ []) :
    CallOk Tryz.prog 14 [msA kk g f t i e a b s goneV] [] (.tuple #[.slice (some ⟨13, 0, none⟩) (pn ((((wrL kk g f t i e a b 7) ++ Bt.codeB s.size) ++ Bt.bytesB (nmX s)) ++ Bt.codeB 0) + 4) 0, .int .i64 0]) [msB kk g f t i e a b s goneV, penB 12 ((((wrL kk g f t i e a b 7) ++ Bt.codeB s.size) ++ Bt.bytesB (nmX s)) ++ Bt.codeB 0), pk (wrL kk g f t i e a b 0), pk (wrL kk g f t i e a b 1), pk (wrL kk g f t i e a b 2), pk (wrL kk g f t i e a b 3), pk (wrL kk g f t i e a b 4), pk (wrL kk g f t i e a b 5), pk (wrL kk g f t i e a b 6), pk (wrL kk g f t i e a b 7), nuS s, pk (((wrL kk g f t i e a b 7) ++ Bt.codeB s.size) ++ Bt.bytesB (nmX s)), pk ((((wrL kk g f t i e a b 7) ++ Bt.codeB s.size) ++ Bt.bytesB (nmX s)) ++ Bt.codeB 0), rowB (byteV (Crc.sealed (Bt.pack ((((wrL kk g f t i e a b 7) ++ Bt.codeB s.size) ++ Bt.bytesB (nmX s)) ++ Bt.codeB 0))))] 0 := by
  have hlen := wrL_len (kk := kk) hb 7
  have q0 := wrL_ne kk g f t i e a b 0
  have q1 := wrL_ne kk g f t i e a b 1
  have q2 := wrL_ne kk g f t i e a b 2
  have q3 := wrL_ne kk g f t i e a b 3
  have q4 := wrL_ne kk g f t i e a b 4
  have q5 := wrL_ne kk g f t i e a b 5
  have q6 := wrL_ne kk g f t i e a b 6
  have q7 := wrL_ne kk g f t i e a b 7
  have n8 : (((wrL kk g f t i e a b 7) ++ Bt.codeB s.size) ++ Bt.bytesB (nmX s)) ≠ [] := app_ne (app_ne q7)
  have n9 : ((((wrL kk g f t i e a b 7) ++ Bt.codeB s.size) ++ Bt.bytesB (nmX s)) ++ Bt.codeB 0) ≠ [] := app_ne n8
  have e9 : ((((wrL kk g f t i e a b 7) ++ Bt.codeB s.size) ++ Bt.bytesB (nmX s)) ++ Bt.codeB 0).length ≤ 2000 := by
    have z1 : Bt.cz s.size < 31 := Bt.cz_le (by omega)
    have z2 : Bt.cz 0 < 31 := Bt.cz_le (by omega)
    simp only [List.length_append, Bt.codeB_length, Bt.bytesB_length, nmX_len]
    omega
  have e8 : (((wrL kk g f t i e a b 7) ++ Bt.codeB s.size) ++ Bt.bytesB (nmX s)).length ≤ 2000 := by
    have z1 : Bt.cz s.size < 31 := Bt.cz_le (by omega)
    simp only [List.length_append, Bt.codeB_length, Bt.bytesB_length, nmX_len]
    omega
  have hnm := bytes_okO (l := (wrL kk g f t i e a b 7)) (x := nmX s) (c := 0) (q7) hsn (nmX_lt s) (by rw [nmX_len]; omega) (by omega)
  rw [← nuS_eq, nmX_len] at hnm
  have hck := check_msg_0 (k := (kk : Nat)) (g := (g : Nat)) (f := (f : Nat)) (t := (t : Nat)) (i := (i : Nat)) (e := (e : Nat)) (a := (a : Nat)) (b := (b : Nat)) (s := s) (p := some ⟨0, 0, some 1⟩) (n := 0) (c := 0) (X := spB) (by omega)
  rw [hc] at hck
  refine fnL_ok progOk extSound (nb_sound _ _ (sym_sound _ (frameT_sound _))) (LoopsOk.sum (hL := rfl) ?_) (wr_run1G kk g f t i e a b s (wrL kk g f t i e a b 0) (wrL kk g f t i e a b 1) (wrL kk g f t i e a b 2) (wrL kk g f t i e a b 3) (wrL kk g f t i e a b 4) (wrL kk g f t i e a b 5) (wrL kk g f t i e a b 6) (wrL kk g f t i e a b 7) (((wrL kk g f t i e a b 7) ++ Bt.codeB s.size) ++ Bt.bytesB (nmX s)) ((((wrL kk g f t i e a b 7) ++ Bt.codeB s.size) ++ Bt.bytesB (nmX s)) ++ Bt.codeB 0) ((wrL kk g f t i e a b 7) ++ Bt.codeB s.size)) ?_
  · intro b' hb' _
    rw [loops14] at hb'
    simp only [List.mem_singleton] at hb'
    subst hb'
    exact wl_okM (D := goneV) hb
  intro q hq
  simp only [List.mem_cons, List.not_mem_nil, or_false] at hq
  rcases hq with rfl | rfl | rfl | rfl | rfl | rfl | rfl | rfl | rfl | rfl
  · exact tok (frameT_ok [12] (wr_seal n9 (by omega)) (by exact ro_in rfl (ro_in rfl (ro_pk (q0) (ro_pk (q1) (ro_pk (q2) (ro_pk (q3) (ro_pk (q4) (ro_pk (q5) (ro_pk (q6) (ro_pk (q7) (ro_nu hsn (ro_pk n8 (ro_pk n9 (ro_nil)))))))))))))) (by exact rf_pk (rf_in rfl (rf_in rfl (rf_in rfl (rf_row (rf_nil)))))))
  · exact tok (frameT_ok [1, 11] (bytes_okG (l := (((wrL kk g f t i e a b 7) ++ Bt.codeB s.size) ++ Bt.bytesB (nmX s))) n8 (by omega)) (by exact ro_in rfl (ro_in rfl (ro_pk (q0) (ro_pk (q1) (ro_pk (q2) (ro_pk (q3) (ro_pk (q4) (ro_pk (q5) (ro_pk (q6) (ro_pk (q7) (ro_nu hsn (ro_pk n8 (ro_nil))))))))))))) (by exact rf_in rfl (rf_pk (rf_in rfl (rf_pk (rf_pk (rf_nil)))))))
  · exact tok (frameT_ok [1, 10, 9] (hnm) (by exact ro_in rfl (ro_in rfl (ro_pk (q0) (ro_pk (q1) (ro_pk (q2) (ro_pk (q3) (ro_pk (q4) (ro_pk (q5) (ro_pk (q6) (ro_pk (q7) (ro_nu hsn (ro_nil)))))))))))) (by exact rf_in rfl (rf_nu (rf_pk (rf_in rfl (rf_pk (rf_pk (rf_nil))))))))
  · simp only [decide_eq_true_eq]; intro he; exact hsn (by unfold nmX; rw [he]; rfl)
  · simp [cdec]
  · simp [cdec]
  · simp [cdec]
  · exact tok (frameT_ok [0] (nums_ok_0 (k := (kk : Nat)) (g := (g : Nat)) (f := (f : Nat)) (t := (t : Nat)) (i := (i : Nat)) (e := (e : Nat)) (a := (a : Nat)) (b := (b : Nat)) (s := s) (D := goneV) (X := spB)) (by exact ro_in rfl (ro_in rfl (ro_pk (q0) (ro_nil)))) (by exact rf_in rfl (rf_in rfl (rf_nil))))
  · exact tok (frameT_ok [1, 0] (wr_d43_okG (kk := kk) (g := g) (f := f) (t := t) (i := i) (e := e) (a := a) (b := b) (s := s) hk) (by exact ro_in rfl (ro_in rfl (ro_nil))) (by exact rf_in rfl (rf_in rfl (rf_pk (rf_nil)))))
  · exact tok (frameT_ok [] (hck) (by exact ro_in rfl (ro_nil)) (by exact rf_in rfl (rf_in rfl (rf_nil))))
end Go.Proofs.YtpgmabpaiijipaaGreatDoor
namespace Go.Proofs.YtpgmabpaiijipaaGreatDoor
open Go Den
set_option maxRecDepth 100000
set_option linter.unusedSimpArgs false
set_option linter.unusedVariables false
theorem write_ok0O {kk g f t i e a b : Nat} {x : List Nat} {c : Nat} (hk : kk < 16) (hb : g ≤ 1073741824 ∧ f ≤ 1073741824 ∧ t ≤ 1073741824 ∧ i ≤ 1073741824 ∧ e ≤ 1073741824 ∧ a ≤ 1073741824 ∧ b ≤ 1073741824) (hc : chkB kk g f t i e a b (ByteArray.mk #[]) x.length = true) (hne : x ≠ []) (hx : ∀ b ∈ x, b < 256) (hxl : x.length ≤ 64) :
    CallOk Tryz.prog 14 [msA kk g f t i e a b (ByteArray.mk #[]) (.slice (some ⟨0, 0, none⟩) x.length c)] [⟨false, none, byteV x⟩] (.tuple #[.slice (some ⟨1, 0, none⟩) (pn ((((wrL kk g f t i e a b 7) ++ Bt.codeB 0) ++ Bt.codeB x.length) ++ Bt.bytesB x) + 4) 0, .int .i64 0]) [⟨false, none, byteV x⟩, rowB (byteV (Crc.sealed (Bt.pack ((((wrL kk g f t i e a b 7) ++ Bt.codeB 0) ++ Bt.codeB x.length) ++ Bt.bytesB x))))] 0 := by
  refine CallOk.view (write_raw0O hk hb hc hne hx hxl) (Views.canon [13] (by simp) (by simp) (by simp) rfl (fun i b2 hi hb => ?_) (fun j i b2 hj hb => ?_) (renF_get rfl))
  · match i, hi with
    | 0, _ => injection hb with hb; subst hb; exact ⟨_, rfl, renA_row _ _ _ _⟩
    | n + 1, hi => exact absurd hi (by simp)
  · match j, hj with
    | 0, hj =>
      injection hj with hj
      subst hj
      injection hb with hb
      subst hb
      exact ⟨_, rfl, renA_row _ _ _ _⟩
theorem write_ok0R {kk g f t i e a b : Nat} {x : List Nat} (hk : kk < 16) (hb : g ≤ 1073741824 ∧ f ≤ 1073741824 ∧ t ≤ 1073741824 ∧ i ≤ 1073741824 ∧ e ≤ 1073741824 ∧ a ≤ 1073741824 ∧ b ≤ 1073741824) (hc : chkB kk g f t i e a b (ByteArray.mk #[]) x.length = true) (hne : x ≠ []) (hx : ∀ b ∈ x, b < 256) (hxl : x.length ≤ 64) :
    CallOk Tryz.prog 14 [msA kk g f t i e a b (ByteArray.mk #[]) (.slice (some ⟨0, 0, none⟩) x.length 0)] [rowB (byteV x)] (.tuple #[.slice (some ⟨1, 0, none⟩) (pn ((((wrL kk g f t i e a b 7) ++ Bt.codeB 0) ++ Bt.codeB x.length) ++ Bt.bytesB x) + 4) 0, .int .i64 0]) [rowB (byteV x), rowB (byteV (Crc.sealed (Bt.pack ((((wrL kk g f t i e a b 7) ++ Bt.codeB 0) ++ Bt.codeB x.length) ++ Bt.bytesB x))))] 0 := by
  refine CallOk.view (write_raw0R hk hb hc hne hx hxl) (Views.canon [13] (by simp) (by simp) (by simp) rfl (fun i b2 hi hb => ?_) (fun j i b2 hj hb => ?_) (renF_get rfl))
  · match i, hi with
    | 0, _ => injection hb with hb; subst hb; exact ⟨_, rfl, renA_row _ _ _ _⟩
    | n + 1, hi => exact absurd hi (by simp)
  · match j, hj with
    | 0, hj =>
      injection hj with hj
      subst hj
      injection hb with hb
      subst hb
      exact ⟨_, rfl, renA_row _ _ _ _⟩
theorem write_ok0N {kk g f t i e a b : Nat} (hk : kk < 16) (hb : g ≤ 1073741824 ∧ f ≤ 1073741824 ∧ t ≤ 1073741824 ∧ i ≤ 1073741824 ∧ e ≤ 1073741824 ∧ a ≤ 1073741824 ∧ b ≤ 1073741824) (hc : chkB kk g f t i e a b (ByteArray.mk #[]) 0 = true) :
    CallOk Tryz.prog 14 [msA kk g f t i e a b (ByteArray.mk #[]) (.slice none 0 0)] [] (.tuple #[.slice (some ⟨0, 0, none⟩) (pn (((wrL kk g f t i e a b 7) ++ Bt.codeB 0) ++ Bt.codeB 0) + 4) 0, .int .i64 0]) [rowB (byteV (Crc.sealed (Bt.pack (((wrL kk g f t i e a b 7) ++ Bt.codeB 0) ++ Bt.codeB 0))))] 0 := by
  refine CallOk.view (write_raw0N hk hb hc) (Views.canon [12] (by simp) (by simp) (by simp) rfl (fun i b2 hi hb => ?_) (fun j i b2 hj hb => ?_) (renF_get rfl))
  · exact absurd hi (by simp)
  · match j, hj with
    | 0, hj =>
      injection hj with hj
      subst hj
      injection hb with hb
      subst hb
      exact ⟨_, rfl, renA_row _ _ _ _⟩
theorem write_ok0G {kk g f t i e a b : Nat} (hk : kk < 16) (hb : g ≤ 1073741824 ∧ f ≤ 1073741824 ∧ t ≤ 1073741824 ∧ i ≤ 1073741824 ∧ e ≤ 1073741824 ∧ a ≤ 1073741824 ∧ b ≤ 1073741824) (hc : chkB kk g f t i e a b (ByteArray.mk #[]) 0 = true) :
    CallOk Tryz.prog 14 [msA kk g f t i e a b (ByteArray.mk #[]) goneV] [] (.tuple #[.slice (some ⟨0, 0, none⟩) (pn (((wrL kk g f t i e a b 7) ++ Bt.codeB 0) ++ Bt.codeB 0) + 4) 0, .int .i64 0]) [rowB (byteV (Crc.sealed (Bt.pack (((wrL kk g f t i e a b 7) ++ Bt.codeB 0) ++ Bt.codeB 0))))] 0 := by
  refine CallOk.view (write_raw0G hk hb hc) (Views.canon [12] (by simp) (by simp) (by simp) rfl (fun i b2 hi hb => ?_) (fun j i b2 hj hb => ?_) (renF_get rfl))
  · exact absurd hi (by simp)
  · match j, hj with
    | 0, hj =>
      injection hj with hj
      subst hj
      injection hb with hb
      subst hb
      exact ⟨_, rfl, renA_row _ _ _ _⟩
theorem write_ok1N {kk g f t i e a b : Nat} {s : ByteArray} (hk : kk < 16) (hb : g ≤ 1073741824 ∧ f ≤ 1073741824 ∧ t ≤ 1073741824 ∧ i ≤ 1073741824 ∧ e ≤ 1073741824 ∧ a ≤ 1073741824 ∧ b ≤ 1073741824) (hc : chkB kk g f t i e a b s 0 = true) (hs : s.size ≤ 64) (hsn : nmX s ≠ []) :
    CallOk Tryz.prog 14 [msA kk g f t i e a b s (.slice none 0 0)] [] (.tuple #[.slice (some ⟨0, 0, none⟩) (pn ((((wrL kk g f t i e a b 7) ++ Bt.codeB s.size) ++ Bt.bytesB (nmX s)) ++ Bt.codeB 0) + 4) 0, .int .i64 0]) [rowB (byteV (Crc.sealed (Bt.pack ((((wrL kk g f t i e a b 7) ++ Bt.codeB s.size) ++ Bt.bytesB (nmX s)) ++ Bt.codeB 0))))] 0 := by
  refine CallOk.view (write_raw1N hk hb hc hs hsn) (Views.canon [13] (by simp) (by simp) (by simp) rfl (fun i b2 hi hb => ?_) (fun j i b2 hj hb => ?_) (renF_get rfl))
  · exact absurd hi (by simp)
  · match j, hj with
    | 0, hj =>
      injection hj with hj
      subst hj
      injection hb with hb
      subst hb
      exact ⟨_, rfl, renA_row _ _ _ _⟩
theorem write_ok1G {kk g f t i e a b : Nat} {s : ByteArray} (hk : kk < 16) (hb : g ≤ 1073741824 ∧ f ≤ 1073741824 ∧ t ≤ 1073741824 ∧ i ≤ 1073741824 ∧ e ≤ 1073741824 ∧ a ≤ 1073741824 ∧ b ≤ 1073741824) (hc : chkB kk g f t i e a b s 0 = true) (hs : s.size ≤ 64) (hsn : nmX s ≠ []) :
    CallOk Tryz.prog 14 [msA kk g f t i e a b s goneV] [] (.tuple #[.slice (some ⟨0, 0, none⟩) (pn ((((wrL kk g f t i e a b 7) ++ Bt.codeB s.size) ++ Bt.bytesB (nmX s)) ++ Bt.codeB 0) + 4) 0, .int .i64 0]) [rowB (byteV (Crc.sealed (Bt.pack ((((wrL kk g f t i e a b 7) ++ Bt.codeB s.size) ++ Bt.bytesB (nmX s)) ++ Bt.codeB 0))))] 0 := by
  refine CallOk.view (write_raw1G hk hb hc hs hsn) (Views.canon [13] (by simp) (by simp) (by simp) rfl (fun i b2 hi hb => ?_) (fun j i b2 hj hb => ?_) (renF_get rfl))
  · exact absurd hi (by simp)
  · match j, hj with
    | 0, hj =>
      injection hj with hj
      subst hj
      injection hb with hb
      subst hb
      exact ⟨_, rfl, renA_row _ _ _ _⟩
theorem wr_no_runO (k g f t i e a b : Int) (s : ByteArray) (x : List Nat) (c : Nat) : evFnL Tryz.prog ext 300 (nmPre (frameTPre (wrT (some (.int .i64 1, [⟨false, none, byteV x⟩, msB k g f t i e a b s (.slice (some ⟨0, 0, none⟩) x.length c), nusB 1], 1)) none none none none 0 []))) (nbC [] [] (frameT (wrT (some (.int .i64 1, [⟨false, none, byteV x⟩, msB k g f t i e a b s (.slice (some ⟨0, 0, none⟩) x.length c), nusB 1], 1)) none none none none 0 []))) noLoops [(0, true)] 14 [msA k g f t i e a b s (.slice (some ⟨0, 0, none⟩) x.length c)] [⟨false, none, byteV x⟩] =
  some ((.tuple #[.slice none 0 0, .int .i64 1], [⟨false, none, byteV x⟩, msB k g f t i e a b s (.slice (some ⟨0, 0, none⟩) x.length c)], 1), [(frameTPre (wrT (some (.int .i64 1, [⟨false, none, byteV x⟩, msB k g f t i e a b s (.slice (some ⟨0, 0, none⟩) x.length c), nusB 1], 1)) none none none none 0 []) 41 [msA k g f t i e a b s (.slice (some ⟨0, 0, none⟩) x.length c)] [⟨false, none, byteV x⟩, msB k g f t i e a b s (.slice (some ⟨0, 0, none⟩) x.length c)], true)]) := by kernel_rfl
theorem write_noO {k g f t i e a b : Int} {s : ByteArray} {x : List Nat} {c : Nat} (hs : s.size ≤ 9223372036854770000) (hne : x ≠ []) (hc : chkB k g f t i e a b s x.length = false) : CallOk Tryz.prog 14 [msA k g f t i e a b s (.slice (some ⟨0, 0, none⟩) x.length c)] [⟨false, none, byteV x⟩] (.tuple #[.slice none 0 0, .int .i64 1]) [⟨false, none, byteV x⟩, msB k g f t i e a b s (.slice (some ⟨0, 0, none⟩) x.length c)] 1 := by
  have hck := check_msg_1 (k := k) (g := g) (f := f) (t := t) (i := i) (e := e) (a := a) (b := b) (s := s) (p := some ⟨0, 0, none⟩) (n := x.length) (c := c) (X := ⟨false, none, byteV x⟩) hs
  rw [hc] at hck
  refine fnL_ok progOk extSound (nb_sound _ _ (frameT_sound _)) noLoops_ok (wr_no_runO k g f t i e a b s x c) ?_
  intro q hq
  simp only [List.mem_cons, List.not_mem_nil, or_false] at hq
  rcases hq with rfl
  exact tok (frameT_ok [0] hck (by exact ro_row hne (ro_in rfl ro_nil)) (by exact rf_row (rf_in rfl (rf_in rfl rf_nil))))
theorem wr_no_runR (k g f t i e a b : Int) (s : ByteArray) (x : List Nat) : evFnL Tryz.prog ext 300 (nmPre (frameTPre (wrT (some (.int .i64 1, [rowB (byteV x), msB k g f t i e a b s (.slice (some ⟨0, 0, none⟩) x.length 0), nusB 1], 1)) none none none none 0 []))) (nbC [] [] (frameT (wrT (some (.int .i64 1, [rowB (byteV x), msB k g f t i e a b s (.slice (some ⟨0, 0, none⟩) x.length 0), nusB 1], 1)) none none none none 0 []))) noLoops [(0, true)] 14 [msA k g f t i e a b s (.slice (some ⟨0, 0, none⟩) x.length 0)] [rowB (byteV x)] =
  some ((.tuple #[.slice none 0 0, .int .i64 1], [rowB (byteV x), msB k g f t i e a b s (.slice (some ⟨0, 0, none⟩) x.length 0)], 1), [(frameTPre (wrT (some (.int .i64 1, [rowB (byteV x), msB k g f t i e a b s (.slice (some ⟨0, 0, none⟩) x.length 0), nusB 1], 1)) none none none none 0 []) 41 [msA k g f t i e a b s (.slice (some ⟨0, 0, none⟩) x.length 0)] [rowB (byteV x), msB k g f t i e a b s (.slice (some ⟨0, 0, none⟩) x.length 0)], true)]) := by kernel_rfl
theorem write_noR {k g f t i e a b : Int} {s : ByteArray} {x : List Nat} (hs : s.size ≤ 9223372036854770000) (hne : x ≠ []) (hc : chkB k g f t i e a b s x.length = false) : CallOk Tryz.prog 14 [msA k g f t i e a b s (.slice (some ⟨0, 0, none⟩) x.length 0)] [rowB (byteV x)] (.tuple #[.slice none 0 0, .int .i64 1]) [rowB (byteV x), msB k g f t i e a b s (.slice (some ⟨0, 0, none⟩) x.length 0)] 1 := by
  have hck := check_msg_1 (k := k) (g := g) (f := f) (t := t) (i := i) (e := e) (a := a) (b := b) (s := s) (p := some ⟨0, 0, none⟩) (n := x.length) (c := 0) (X := rowB (byteV x)) hs
  rw [hc] at hck
  refine fnL_ok progOk extSound (nb_sound _ _ (frameT_sound _)) noLoops_ok (wr_no_runR k g f t i e a b s x) ?_
  intro q hq
  simp only [List.mem_cons, List.not_mem_nil, or_false] at hq
  rcases hq with rfl
  exact tok (frameT_ok [0] hck (by exact ro_row hne (ro_in rfl ro_nil)) (by exact rf_row (rf_in rfl (rf_in rfl rf_nil))))
theorem wr_no_runN (k g f t i e a b : Int) (s : ByteArray) : evFnL Tryz.prog ext 300 (nmPre (frameTPre (wrT (some (.int .i64 1, [msB k g f t i e a b s (.slice none 0 0), nusB 0], 0)) none none none none 0 []))) (nbC [] [] (frameT (wrT (some (.int .i64 1, [msB k g f t i e a b s (.slice none 0 0), nusB 0], 0)) none none none none 0 []))) noLoops [(0, true)] 14 [msA k g f t i e a b s (.slice none 0 0)] [] =
  some ((.tuple #[.slice none 0 0, .int .i64 1], [msB k g f t i e a b s (.slice none 0 0)], 0), [(frameTPre (wrT (some (.int .i64 1, [msB k g f t i e a b s (.slice none 0 0), nusB 0], 0)) none none none none 0 []) 41 [msA k g f t i e a b s (.slice none 0 0)] [], true)]) := by kernel_rfl
theorem write_noN {k g f t i e a b : Int} {s : ByteArray} (hs : s.size ≤ 9223372036854770000) (hc : chkB k g f t i e a b s 0 = false) : CallOk Tryz.prog 14 [msA k g f t i e a b s (.slice none 0 0)] [] (.tuple #[.slice none 0 0, .int .i64 1]) [msB k g f t i e a b s (.slice none 0 0)] 0 := by
  have hck := check_msg_0 (k := k) (g := g) (f := f) (t := t) (i := i) (e := e) (a := a) (b := b) (s := s) (p := none) (n := 0) (c := 0) (X := spB) hs
  rw [hc] at hck
  refine fnL_ok progOk extSound (nb_sound _ _ (frameT_sound _)) noLoops_ok (wr_no_runN k g f t i e a b s) ?_
  intro q hq
  simp only [List.mem_cons, List.not_mem_nil, or_false] at hq
  rcases hq with rfl
  exact tok (frameT_ok [] hck (by exact ro_nil) (by exact rf_in rfl (rf_in rfl rf_nil)))
theorem wr_no_runG (k g f t i e a b : Int) (s : ByteArray) : evFnL Tryz.prog ext 300 (nmPre (frameTPre (wrT (some (.int .i64 1, [msB k g f t i e a b s goneV, nusB 0], 0)) none none none none 0 []))) (nbC [] [] (frameT (wrT (some (.int .i64 1, [msB k g f t i e a b s goneV, nusB 0], 0)) none none none none 0 []))) noLoops [(0, true)] 14 [msA k g f t i e a b s goneV] [] =
  some ((.tuple #[.slice none 0 0, .int .i64 1], [msB k g f t i e a b s goneV], 0), [(frameTPre (wrT (some (.int .i64 1, [msB k g f t i e a b s goneV, nusB 0], 0)) none none none none 0 []) 41 [msA k g f t i e a b s goneV] [msB k g f t i e a b s goneV], true)]) := by kernel_rfl
theorem write_noG {k g f t i e a b : Int} {s : ByteArray} (hs : s.size ≤ 9223372036854770000) (hc : chkB k g f t i e a b s 0 = false) : CallOk Tryz.prog 14 [msA k g f t i e a b s goneV] [] (.tuple #[.slice none 0 0, .int .i64 1]) [msB k g f t i e a b s goneV] 0 := by
  have hck := check_msg_0 (k := k) (g := g) (f := f) (t := t) (i := i) (e := e) (a := a) (b := b) (s := s) (p := some ⟨0, 0, some 1⟩) (n := 0) (c := 0) (X := spB) hs
  rw [hc] at hck
  refine fnL_ok progOk extSound (nb_sound _ _ (frameT_sound _)) noLoops_ok (wr_no_runG k g f t i e a b s) ?_
  intro q hq
  simp only [List.mem_cons, List.not_mem_nil, or_false] at hq
  rcases hq with rfl
  exact tok (frameT_ok [] hck (by exact ro_in rfl ro_nil) (by exact rf_in rfl (rf_in rfl rf_nil)))
end Go.Proofs.YtpgmabpaiijipaaGreatDoor
namespace Go.Proofs.YtpgmabpaiijipaaGreatDoor
open Go Den
set_option maxRecDepth 100000
set_option linter.unusedSimpArgs false
set_option linter.unusedVariables false
def rdT (l : List Bool) (n a' : Int) : Nat → Tale := fun _ f _ _ => match f with
  | 60 => some (.int .i64 n, [eyB 1 l a', pk l], 0)
  | _ => none
def rdF (j : Int) (n : Nat) : Slots := [(0, .slice (some ⟨0, 0, none⟩) n 0), (2, .pointer (some ⟨1, 0, none⟩)), (6, .pointer (some ⟨4, 0, none⟩)), (40, nusV 1), (41, .int .i64 j)]
def rdW (z : List Nat) (B : Blk) (y : List Nat) (l : List Bool) (a : Int) : Heap := [rowB (byteV z), B, rowB (byteV y), pk l, eyB 3 l a]
def rmT (y : List Nat) (l : List Bool) (z : List Nat) (m : Nat) (k a1 a2 a3 : Int) (Y : Blk) (ra rb : Option (Value × Heap × Nat)) (wr : Option (Value × Heap × Nat)) : Nat → Tale := fun n f _ _ => match f with
  | 15 => some (.tuple #[.slice (some ⟨1, 0, none⟩) m 0, .int .i64 0], [rowB (byteV z), rowB (byteV y)], 1)
  | 58 => some (pv 2 l, [rowB (byteV y), bitsB 2 (pn l) (l.length : Nat), pk l], 1)
  | 59 => some (.int .i64 k, [eyB 1 l 4, pk l], 0)
  | 45 => some (nusV 0, [Y, nusB 0], 1)
  | 61 => match Nat.beq n 5 with
    | true => ra
    | false => rb
  | 14 => wr
  | 40 => some (.bool true, [rowB (byteV z), rowB (byteV z)], 2)
  | _ => none
theorem rd0_run (z y : List Nat) (l : List Bool) (m : Nat) (k g f t i e a b q a1 a2 : Int) : evL Tryz.prog ext (nmPre (frameTPre (rdT l q a2))) (nbC [] [] (frameT (rdT l q a2))) noLoops 300 (ntOf Tryz.prog 20 1) (loopAt Tryz.prog 20 0) (rdF 0 m) (rdW z (msB k g f t i e a b (ByteArray.mk #[]) (.slice none 0 0)) y l a1) 1 [(1,true)] [0, 2, 6, 40, 41] =
  some (.normal, rdF 1 m, rdW z (msB k q f t i e a b (ByteArray.mk #[]) (.slice none 0 0)) y l a2, 1, [(frameTPre (rdT l q a2) 60 [.pointer (some ⟨4, 0, none⟩)] (rdW z (msB k g f t i e a b (ByteArray.mk #[]) (.slice none 0 0)) y l a1), true)]) := by kernel_rfl
theorem rd1_run (z y : List Nat) (l : List Bool) (m : Nat) (k g f t i e a b q a1 a2 : Int) : evL Tryz.prog ext (nmPre (frameTPre (rdT l q a2))) (nbC [] [] (frameT (rdT l q a2))) noLoops 300 (ntOf Tryz.prog 20 1) (loopAt Tryz.prog 20 0) (rdF 1 m) (rdW z (msB k g f t i e a b (ByteArray.mk #[]) (.slice none 0 0)) y l a1) 1 [(1,true)] [0, 2, 6, 40, 41] =
  some (.normal, rdF 2 m, rdW z (msB k g q t i e a b (ByteArray.mk #[]) (.slice none 0 0)) y l a2, 1, [(frameTPre (rdT l q a2) 60 [.pointer (some ⟨4, 0, none⟩)] (rdW z (msB k g f t i e a b (ByteArray.mk #[]) (.slice none 0 0)) y l a1), true)]) := by kernel_rfl
theorem rd2_run (z y : List Nat) (l : List Bool) (m : Nat) (k g f t i e a b q a1 a2 : Int) : evL Tryz.prog ext (nmPre (frameTPre (rdT l q a2))) (nbC [] [] (frameT (rdT l q a2))) noLoops 300 (ntOf Tryz.prog 20 1) (loopAt Tryz.prog 20 0) (rdF 2 m) (rdW z (msB k g f t i e a b (ByteArray.mk #[]) (.slice none 0 0)) y l a1) 1 [(1,true)] [0, 2, 6, 40, 41] =
  some (.normal, rdF 3 m, rdW z (msB k g f q i e a b (ByteArray.mk #[]) (.slice none 0 0)) y l a2, 1, [(frameTPre (rdT l q a2) 60 [.pointer (some ⟨4, 0, none⟩)] (rdW z (msB k g f t i e a b (ByteArray.mk #[]) (.slice none 0 0)) y l a1), true)]) := by kernel_rfl
theorem rd3_run (z y : List Nat) (l : List Bool) (m : Nat) (k g f t i e a b q a1 a2 : Int) : evL Tryz.prog ext (nmPre (frameTPre (rdT l q a2))) (nbC [] [] (frameT (rdT l q a2))) noLoops 300 (ntOf Tryz.prog 20 1) (loopAt Tryz.prog 20 0) (rdF 3 m) (rdW z (msB k g f t i e a b (ByteArray.mk #[]) (.slice none 0 0)) y l a1) 1 [(1,true)] [0, 2, 6, 40, 41] =
  some (.normal, rdF 4 m, rdW z (msB k g f t q e a b (ByteArray.mk #[]) (.slice none 0 0)) y l a2, 1, [(frameTPre (rdT l q a2) 60 [.pointer (some ⟨4, 0, none⟩)] (rdW z (msB k g f t i e a b (ByteArray.mk #[]) (.slice none 0 0)) y l a1), true)]) := by kernel_rfl
theorem rd4_run (z y : List Nat) (l : List Bool) (m : Nat) (k g f t i e a b q a1 a2 : Int) : evL Tryz.prog ext (nmPre (frameTPre (rdT l q a2))) (nbC [] [] (frameT (rdT l q a2))) noLoops 300 (ntOf Tryz.prog 20 1) (loopAt Tryz.prog 20 0) (rdF 4 m) (rdW z (msB k g f t i e a b (ByteArray.mk #[]) (.slice none 0 0)) y l a1) 1 [(1,true)] [0, 2, 6, 40, 41] =
  some (.normal, rdF 5 m, rdW z (msB k g f t i q a b (ByteArray.mk #[]) (.slice none 0 0)) y l a2, 1, [(frameTPre (rdT l q a2) 60 [.pointer (some ⟨4, 0, none⟩)] (rdW z (msB k g f t i e a b (ByteArray.mk #[]) (.slice none 0 0)) y l a1), true)]) := by kernel_rfl
theorem rd5_run (z y : List Nat) (l : List Bool) (m : Nat) (k g f t i e a b q a1 a2 : Int) : evL Tryz.prog ext (nmPre (frameTPre (rdT l q a2))) (nbC [] [] (frameT (rdT l q a2))) noLoops 300 (ntOf Tryz.prog 20 1) (loopAt Tryz.prog 20 0) (rdF 5 m) (rdW z (msB k g f t i e a b (ByteArray.mk #[]) (.slice none 0 0)) y l a1) 1 [(1,true)] [0, 2, 6, 40, 41] =
  some (.normal, rdF 6 m, rdW z (msB k g f t i e q b (ByteArray.mk #[]) (.slice none 0 0)) y l a2, 1, [(frameTPre (rdT l q a2) 60 [.pointer (some ⟨4, 0, none⟩)] (rdW z (msB k g f t i e a b (ByteArray.mk #[]) (.slice none 0 0)) y l a1), true)]) := by kernel_rfl
theorem rd6_run (z y : List Nat) (l : List Bool) (m : Nat) (k g f t i e a b q a1 a2 : Int) : evL Tryz.prog ext (nmPre (frameTPre (rdT l q a2))) (nbC [] [] (frameT (rdT l q a2))) noLoops 300 (ntOf Tryz.prog 20 1) (loopAt Tryz.prog 20 0) (rdF 6 m) (rdW z (msB k g f t i e a b (ByteArray.mk #[]) (.slice none 0 0)) y l a1) 1 [(1,true)] [0, 2, 6, 40, 41] =
  some (.normal, rdF 7 m, rdW z (msB k g f t i e a q (ByteArray.mk #[]) (.slice none 0 0)) y l a2, 1, [(frameTPre (rdT l q a2) 60 [.pointer (some ⟨4, 0, none⟩)] (rdW z (msB k g f t i e a b (ByteArray.mk #[]) (.slice none 0 0)) y l a1), true)]) := by kernel_rfl
theorem rd_out (z y : List Nat) (l : List Bool) (m : Nat) (k g f t i e a b a1 : Int) : evL Tryz.prog ext (nmPre noPre) (nbC [] [] noC) noLoops 300 (ntOf Tryz.prog 20 1) (loopAt Tryz.prog 20 0) (rdF 7 m) (rdW z (msB k g f t i e a b (ByteArray.mk #[]) (.slice none 0 0)) y l a1) 1 [] [0, 2, 6] =
  some (.exit 1, [(0, .slice (some ⟨0, 0, none⟩) m 0), (2, .pointer (some ⟨1, 0, none⟩)), (6, .pointer (some ⟨4, 0, none⟩))], rdW z (msB k g f t i e a b (ByteArray.mk #[]) (.slice none 0 0)) y l a1, 1, []) := by kernel_rfl
end Go.Proofs.YtpgmabpaiijipaaGreatDoor
namespace Go.Proofs.YtpgmabpaiijipaaGreatDoor
open Go Den
set_option maxRecDepth 100000
set_option linter.unusedSimpArgs false
set_option linter.unusedVariables false
def roT (z y : List Nat) (m : Nat) : Nat → Tale := fun _ f _ _ => match f with
  | 15 => some (.tuple #[.slice (some ⟨1, 0, none⟩) m 0, .int .i64 0], [rowB (byteV z), rowB (byteV y)], 1)
  | _ => none
def rfT (y : List Nat) (l : List Bool) : Nat → Tale := fun _ f _ _ => match f with
  | 58 => some (pv 2 l, [rowB (byteV y), bitsB 2 (pn l) (l.length : Nat), pk l], 1)
  | _ => none
def rkT (l : List Bool) (k : Int) : Nat → Tale := fun _ f _ _ => match f with
  | 59 => some (.int .i64 k, [eyB 1 l 4, pk l], 0)
  | _ => none
def rnT (Y : Blk) : Nat → Tale := fun _ f _ _ => match f with
  | 45 => some (nusV 0, [Y, nusB 0], 1)
  | _ => none
def rbN (l : List Bool) (a : Int) : Option (Value × Heap × Nat) := some (.slice none 0 0, [eyB 1 l a, pk l], 0)
def rbR (l : List Bool) (a : Int) (x : List Nat) : Option (Value × Heap × Nat) := some (.slice (some ⟨2, 0, none⟩) x.length 0, [eyB 1 l a, pk l, rowB (byteV x)], 0)
def reT (b : Option (Value × Heap × Nat)) (w : Option (Value × Heap × Nat)) (z : List Nat) : Nat → Tale := fun _ f _ _ => match f with
  | 61 => b
  | 14 => w
  | 40 => some (.bool true, [rowB (byteV z), rowB (byteV z)], 2)
  | _ => none
def rwN (q : Nat) (z : List Nat) : Option (Value × Heap × Nat) := some (.tuple #[.slice (some ⟨0, 0, none⟩) q 0, .int .i64 0], [rowB (byteV z)], 0)
def rwR (q : Nat) (x z : List Nat) : Option (Value × Heap × Nat) := some (.tuple #[.slice (some ⟨1, 0, none⟩) q 0, .int .i64 0], [rowB (byteV x), rowB (byteV z)], 0)
theorem rr0 (z : List Nat) (q : Nat) : evL Tryz.prog ext (nmPre (noPre)) (nbC [] [] (noC)) (noLoops) 300 (ntOf Tryz.prog 20 1) (hdC (bodyOf Tryz.prog 20)) (Den.start 0 [.slice (some ⟨0, 0, none⟩) q 0]) ([rowB (byteV z)]) 1 [] [0, 2] =
  some (.normal, [(0, .slice (some ⟨0, 0, none⟩) q 0), (2, .pointer (some ⟨1, 0, none⟩))], [rowB (byteV z), msB 0 0 0 0 0 0 0 0 (ByteArray.mk #[]) (.slice none 0 0)], 1, []) := by kernel_rfl
theorem rr1 (z y : List Nat) (q m : Nat) : evL Tryz.prog ext (nmPre (frameTPre (roT z y m))) (nbC [] [] (frameT (roT z y m))) (noLoops) 300 (ntOf Tryz.prog 20 1) (hdC (tlC (bodyOf Tryz.prog 20))) ([(0, .slice (some ⟨0, 0, none⟩) q 0), (2, .pointer (some ⟨1, 0, none⟩))]) ([rowB (byteV z), msB 0 0 0 0 0 0 0 0 (ByteArray.mk #[]) (.slice none 0 0)]) 1 [(0,true)] [0, 2, 4, 5] =
  some (.normal, [(0, .slice (some ⟨0, 0, none⟩) q 0), (2, .pointer (some ⟨1, 0, none⟩)), (4, .slice (some ⟨2, 0, none⟩) m 0), (5, .int .i64 0)], [rowB (byteV z), msB 0 0 0 0 0 0 0 0 (ByteArray.mk #[]) (.slice none 0 0), rowB (byteV y)], 1, [(frameTPre (roT z y m) 15 [.slice (some ⟨0, 0, none⟩) q 0] [rowB (byteV z), msB 0 0 0 0 0 0 0 0 (ByteArray.mk #[]) (.slice none 0 0)], true)]) := by kernel_rfl
theorem rr2 (z y : List Nat) (q m : Nat) (w : Int) : evL Tryz.prog ext (nmPre (noPre)) (nbC [(24, w)] [(25, false)] (noC)) (noLoops) 300 (ntOf Tryz.prog 20 1) (hdC (tlC (tlC (bodyOf Tryz.prog 20)))) ([(0, .slice (some ⟨0, 0, none⟩) q 0), (2, .pointer (some ⟨1, 0, none⟩)), (4, .slice (some ⟨2, 0, none⟩) m 0), (5, .int .i64 0)]) ([rowB (byteV z), msB 0 0 0 0 0 0 0 0 (ByteArray.mk #[]) (.slice none 0 0), rowB (byteV y)]) 1 [] [0, 2, 4] =
  some (.normal, [(0, .slice (some ⟨0, 0, none⟩) q 0), (2, .pointer (some ⟨1, 0, none⟩)), (4, .slice (some ⟨2, 0, none⟩) m 0)], [rowB (byteV z), msB 0 0 0 0 0 0 0 0 (ByteArray.mk #[]) (.slice none 0 0), rowB (byteV y)], 1, [(decide (w > 4096), false), (decide (IntKind.wrap .i64 (8 * (m : Nat)) = w), true)]) := by kernel_rfl
theorem rr3 (z y : List Nat) (l : List Bool) (q m : Nat) : evL Tryz.prog ext (nmPre (frameTPre (rfT y l))) (nbC [] [] (frameT (rfT y l))) (noLoops) 300 (ntOf Tryz.prog 20 1) (hdC (tlC (tlC (tlC (bodyOf Tryz.prog 20))))) ([(0, .slice (some ⟨0, 0, none⟩) q 0), (2, .pointer (some ⟨1, 0, none⟩)), (4, .slice (some ⟨2, 0, none⟩) m 0)]) ([rowB (byteV z), msB 0 0 0 0 0 0 0 0 (ByteArray.mk #[]) (.slice none 0 0), rowB (byteV y)]) 1 [(0,true)] [0, 2, 6] =
  some (.normal, [(0, .slice (some ⟨0, 0, none⟩) q 0), (2, .pointer (some ⟨1, 0, none⟩)), (6, .pointer (some ⟨4, 0, none⟩))], rdW z (msB 0 0 0 0 0 0 0 0 (ByteArray.mk #[]) (.slice none 0 0)) y l 0, 1, [(frameTPre (rfT y l) 58 [.slice (some ⟨2, 0, none⟩) m 0] [rowB (byteV z), msB 0 0 0 0 0 0 0 0 (ByteArray.mk #[]) (.slice none 0 0), rowB (byteV y)], true)]) := by kernel_rfl
theorem rr4 (z y : List Nat) (l : List Bool) (q : Nat) (k : Int) : evL Tryz.prog ext (nmPre (frameTPre (rkT l k))) (nbC [] [] (frameT (rkT l k))) (noLoops) 300 (ntOf Tryz.prog 20 1) (hdC (tlC (tlC (tlC (tlC (bodyOf Tryz.prog 20)))))) ([(0, .slice (some ⟨0, 0, none⟩) q 0), (2, .pointer (some ⟨1, 0, none⟩)), (6, .pointer (some ⟨4, 0, none⟩))]) (rdW z (msB 0 0 0 0 0 0 0 0 (ByteArray.mk #[]) (.slice none 0 0)) y l 0) 1 [(0,true)] [0, 2, 6] =
  some (.normal, [(0, .slice (some ⟨0, 0, none⟩) q 0), (2, .pointer (some ⟨1, 0, none⟩)), (6, .pointer (some ⟨4, 0, none⟩))], rdW z (msB k 0 0 0 0 0 0 0 (ByteArray.mk #[]) (.slice none 0 0)) y l 4, 1, [(frameTPre (rkT l k) 59 [.pointer (some ⟨4, 0, none⟩), .int .i64 4] (rdW z (msB 0 0 0 0 0 0 0 0 (ByteArray.mk #[]) (.slice none 0 0)) y l 0), true)]) := by kernel_rfl
theorem rr5 (z y : List Nat) (l : List Bool) (q : Nat) (k g f t i e a b a7 : Int) : evL Tryz.prog ext (nmPre (frameTPre (rnT (msB k 0 0 0 0 0 0 0 (ByteArray.mk #[]) (.slice none 0 0))))) (nbC [] [] (frameT (rnT (msB k 0 0 0 0 0 0 0 (ByteArray.mk #[]) (.slice none 0 0))))) ({ loop := sumL 10 ⟨rdF 0 q, rdW z (msB k 0 0 0 0 0 0 0 (ByteArray.mk #[]) (.slice none 0 0)) y l 4, 1⟩ (.exit 1) ⟨[(0, .slice (some ⟨0, 0, none⟩) q 0), (2, .pointer (some ⟨1, 0, none⟩)), (6, .pointer (some ⟨4, 0, none⟩))], rdW z (msB k g f t i e a b (ByteArray.mk #[]) (.slice none 0 0)) y l a7, 1⟩ }) 300 (ntOf Tryz.prog 20 1) (hdC (tlC (tlC (tlC (tlC (tlC (bodyOf Tryz.prog 20))))))) ([(0, .slice (some ⟨0, 0, none⟩) q 0), (2, .pointer (some ⟨1, 0, none⟩)), (6, .pointer (some ⟨4, 0, none⟩))]) (rdW z (msB k 0 0 0 0 0 0 0 (ByteArray.mk #[]) (.slice none 0 0)) y l 4) 1 [(0,true)] [0, 2, 6] =
  some (.normal, [(0, .slice (some ⟨0, 0, none⟩) q 0), (2, .pointer (some ⟨1, 0, none⟩)), (6, .pointer (some ⟨4, 0, none⟩))], rdW z (msB k g f t i e a b (ByteArray.mk #[]) (.slice none 0 0)) y l a7, 1, [(cdec (rdF 0 q = rdF 0 q), true), (cdec (rdW z (msB k 0 0 0 0 0 0 0 (ByteArray.mk #[]) (.slice none 0 0)) y l 4 = rdW z (msB k 0 0 0 0 0 0 0 (ByteArray.mk #[]) (.slice none 0 0)) y l 4), true), (cdec ((1 : Nat) = 1), true), (frameTPre (rnT (msB k 0 0 0 0 0 0 0 (ByteArray.mk #[]) (.slice none 0 0))) 45 [.pointer (some ⟨1, 0, none⟩)] (rdW z (msB k 0 0 0 0 0 0 0 (ByteArray.mk #[]) (.slice none 0 0)) y l 4), true)]) := by kernel_rfl
theorem rr6_0 (z y : List Nat) (l : List Bool) (q : Nat) (k g f t i e a b a7 a8 : Int) : evL Tryz.prog ext (nmPre (frameTPre (reT (rbN l a8) none z))) (nbC [] [] (frameT (reT (rbN l a8) none z))) (noLoops) 300 (ntOf Tryz.prog 20 1) (hdC (tlC (tlC (tlC (tlC (tlC (tlC (bodyOf Tryz.prog 20)))))))) ([(0, .slice (some ⟨0, 0, none⟩) q 0), (2, .pointer (some ⟨1, 0, none⟩)), (6, .pointer (some ⟨4, 0, none⟩))]) (rdW z (msB k g f t i e a b (ByteArray.mk #[]) (.slice none 0 0)) y l a7) 1 [(0,true)] [0, 2, 6] =
  some (.normal, [(0, .slice (some ⟨0, 0, none⟩) q 0), (2, .pointer (some ⟨1, 0, none⟩)), (6, .pointer (some ⟨4, 0, none⟩))], rdW z (msB k g f t i e a b (ByteArray.mk #[]) (.slice none 0 0)) y l a8, 1, [(frameTPre (reT (rbN l a8) none z) 61 [.pointer (some ⟨4, 0, none⟩)] (rdW z (msB k g f t i e a b (ByteArray.mk #[]) (.slice none 0 0)) y l a7), true)]) := by kernel_rfl
theorem rr6_1 (z y : List Nat) (l : List Bool) (q : Nat) (k g f t i e a b a7 a8 : Int) (x : List Nat) : evL Tryz.prog ext (nmPre (symPre [50] (frameTPre (reT (rbR l a8 x) none z)))) (nbC [] [] (frameT (reT (rbR l a8 x) none z))) (noLoops) 300 (ntOf Tryz.prog 20 1) (hdC (tlC (tlC (tlC (tlC (tlC (tlC (bodyOf Tryz.prog 20)))))))) ([(0, .slice (some ⟨0, 0, none⟩) q 0), (2, .pointer (some ⟨1, 0, none⟩)), (6, .pointer (some ⟨4, 0, none⟩))]) (rdW z (msB k g f t i e a b (ByteArray.mk #[]) (.slice none 0 0)) y l a7) 1 [(0,true),(0,true)] [0, 2, 6] =
  some (.normal, [(0, .slice (some ⟨0, 0, none⟩) q 0), (2, .pointer (some ⟨1, 0, none⟩)), (6, .pointer (some ⟨4, 0, none⟩))], rdW z (msB k g f t i e a b (ByteArray.mk ((((byteV x).drop 0).take x.length).map u8Of).toArray) (.slice none 0 0)) y l a8 ++ [rowB (byteV x)], 1, [(live (rowB (byteV x)) && ((((byteV x).drop 0).take x.length).all isU8 && decide (0 < x.length ∧ 0 + x.length ≤ (byteV x).length)), true), (frameTPre (reT (rbR l a8 x) none z) 61 [.pointer (some ⟨4, 0, none⟩)] (rdW z (msB k g f t i e a b (ByteArray.mk #[]) (.slice none 0 0)) y l a7), true)]) := by kernel_rfl
theorem rr7_0N (z y : List Nat) (l : List Bool) (q : Nat) (k g f t i e a b a8 a9 : Int) : evL Tryz.prog ext (nmPre (frameTPre (reT (rbN l a9) (rwN q z) z))) (nbC [] [] (frameT (reT (rbN l a9) (rwN q z) z))) (noLoops) 300 (ntOf Tryz.prog 20 1) (tlC (tlC (tlC (tlC (tlC (tlC (tlC (bodyOf Tryz.prog 20)))))))) ([(0, .slice (some ⟨0, 0, none⟩) q 0), (2, .pointer (some ⟨1, 0, none⟩)), (6, .pointer (some ⟨4, 0, none⟩))]) (rdW z (msB k g f t i e a b (ByteArray.mk #[]) (.slice none 0 0)) y l a8) 1 [(0,true),(0,true),(5,true)] [2, 3] =
  some (.ret, [(2, .pointer (some ⟨1, 0, none⟩)), (3, .int .i64 0)], rdW z (msB k g f t i e a b (ByteArray.mk #[]) (.slice none 0 0)) y l a9 ++ [rowB (byteV z)], 1, [(frameTPre (reT (rbN l a9) (rwN q z) z) 40 [.slice (some ⟨5, 0, none⟩) q 0, .slice (some ⟨0, 0, none⟩) q 0] (rdW z (msB k g f t i e a b (ByteArray.mk #[]) (.slice none 0 0)) y l a9 ++ [rowB (byteV z)]), true), (frameTPre (reT (rbN l a9) (rwN q z) z) 14 [msA k g f t i e a b (ByteArray.mk #[]) (.slice none 0 0)]  (rdW z (msB k g f t i e a b (ByteArray.mk #[]) (.slice none 0 0)) y l a9), true), (frameTPre (reT (rbN l a9) (rwN q z) z) 61 [.pointer (some ⟨4, 0, none⟩)] (rdW z (msB k g f t i e a b (ByteArray.mk #[]) (.slice none 0 0)) y l a8), true)]) := by kernel_rfl
theorem rr7_0R (z y : List Nat) (l : List Bool) (q : Nat) (k g f t i e a b a8 a9 : Int) (x : List Nat) : evL Tryz.prog ext (nmPre (frameTPre (reT (rbR l a9 x) (rwR q x z) z))) (nbC [] [] (frameT (reT (rbR l a9 x) (rwR q x z) z))) (noLoops) 300 (ntOf Tryz.prog 20 1) (tlC (tlC (tlC (tlC (tlC (tlC (tlC (bodyOf Tryz.prog 20)))))))) ([(0, .slice (some ⟨0, 0, none⟩) q 0), (2, .pointer (some ⟨1, 0, none⟩)), (6, .pointer (some ⟨4, 0, none⟩))]) (rdW z (msB k g f t i e a b (ByteArray.mk #[]) (.slice none 0 0)) y l a8) 1 [(0,true),(0,true),(5,true)] [2, 3] =
  some (.ret, [(2, .pointer (some ⟨1, 0, none⟩)), (3, .int .i64 0)], rdW z (msB k g f t i e a b (ByteArray.mk #[]) (.slice (some ⟨5, 0, none⟩) x.length 0)) y l a9 ++ [rowB (byteV x), rowB (byteV z)], 1, [(frameTPre (reT (rbR l a9 x) (rwR q x z) z) 40 [.slice (some ⟨6, 0, none⟩) q 0, .slice (some ⟨0, 0, none⟩) q 0] (rdW z (msB k g f t i e a b (ByteArray.mk #[]) (.slice (some ⟨5, 0, none⟩) x.length 0)) y l a9 ++ [rowB (byteV x), rowB (byteV z)]), true), (frameTPre (reT (rbR l a9 x) (rwR q x z) z) 14 [msA k g f t i e a b (ByteArray.mk #[]) (.slice (some ⟨5, 0, none⟩) x.length 0)]  (rdW z (msB k g f t i e a b (ByteArray.mk #[]) (.slice (some ⟨5, 0, none⟩) x.length 0)) y l a9 ++ [rowB (byteV x)]), true), (frameTPre (reT (rbR l a9 x) (rwR q x z) z) 61 [.pointer (some ⟨4, 0, none⟩)] (rdW z (msB k g f t i e a b (ByteArray.mk #[]) (.slice none 0 0)) y l a8), true)]) := by kernel_rfl
theorem rr7_1N (z y : List Nat) (l : List Bool) (q : Nat) (k g f t i e a b a8 a9 : Int) (s : ByteArray) (N : List Nat) : evL Tryz.prog ext (nmPre (frameTPre (reT (rbN l a9) (rwN q z) z))) (nbC [] [] (frameT (reT (rbN l a9) (rwN q z) z))) (noLoops) 300 (ntOf Tryz.prog 20 1) (tlC (tlC (tlC (tlC (tlC (tlC (tlC (bodyOf Tryz.prog 20)))))))) ([(0, .slice (some ⟨0, 0, none⟩) q 0), (2, .pointer (some ⟨1, 0, none⟩)), (6, .pointer (some ⟨4, 0, none⟩))]) (rdW z (msB k g f t i e a b s (.slice none 0 0)) y l a8 ++ [rowB (byteV N)]) 1 [(0,true),(0,true),(5,true)] [2, 3] =
  some (.ret, [(2, .pointer (some ⟨1, 0, none⟩)), (3, .int .i64 0)], rdW z (msB k g f t i e a b s (.slice none 0 0)) y l a9 ++ [rowB (byteV N), rowB (byteV z)], 1, [(frameTPre (reT (rbN l a9) (rwN q z) z) 40 [.slice (some ⟨6, 0, none⟩) q 0, .slice (some ⟨0, 0, none⟩) q 0] (rdW z (msB k g f t i e a b s (.slice none 0 0)) y l a9 ++ [rowB (byteV N), rowB (byteV z)]), true), (frameTPre (reT (rbN l a9) (rwN q z) z) 14 [msA k g f t i e a b s (.slice none 0 0)]  (rdW z (msB k g f t i e a b s (.slice none 0 0)) y l a9 ++ [rowB (byteV N)]), true), (frameTPre (reT (rbN l a9) (rwN q z) z) 61 [.pointer (some ⟨4, 0, none⟩)] (rdW z (msB k g f t i e a b s (.slice none 0 0)) y l a8 ++ [rowB (byteV N)]), true)]) := by kernel_rfl
end Go.Proofs.YtpgmabpaiijipaaGreatDoor
namespace Go.Proofs.YtpgmabpaiijipaaGreatDoor
open Go Den
set_option maxRecDepth 100000
set_option linter.unusedSimpArgs false
set_option linter.unusedVariables false
theorem dropL {l P R : List Bool} {a : Nat} (h : l = P ++ R) (ha : a = P.length) : l.drop a = R := by
  subst ha; rw [h, List.drop_left]
theorem wrL_pre (kk g f t i e a b j k : Nat) : ∃ r, wrL kk g f t i e a b (j + k) = wrL kk g f t i e a b j ++ r := by
  induction k with
  | zero => exact ⟨[], by simp⟩
  | succ k ih =>
    obtain ⟨r, hr⟩ := ih
    exact ⟨r ++ Bt.codeB (numN g f t i e a b (j + k)), by rw [← List.append_assoc, ← hr]; rfl⟩
theorem wrL_at {kk g f t i e a b : Nat} {l : List Bool} (hp : ∃ r, l = wrL kk g f t i e a b 7 ++ r) {j : Nat} (hj : j < 7) :
    ∃ r, l.drop (wrL kk g f t i e a b j).length = Bt.codeB (numN g f t i e a b j) ++ r := by
  obtain ⟨r, hr⟩ := hp
  obtain ⟨r2, h2⟩ := wrL_pre kk g f t i e a b (j + 1) (6 - j)
  rw [show j + 1 + (6 - j) = 7 by omega] at h2
  refine ⟨r2 ++ r, dropL (P := wrL kk g f t i e a b j) ?_ rfl⟩
  rw [hr, h2]
  simp only [wrL, List.append_assoc]
def rdM (kk g f t i e a b : Nat) : Nat → Blk
  | 0 => msB (kk : Nat) 0 0 0 0 0 0 0 (ByteArray.mk #[]) (.slice none 0 0)
  | 1 => msB (kk : Nat) (g : Nat) 0 0 0 0 0 0 (ByteArray.mk #[]) (.slice none 0 0)
  | 2 => msB (kk : Nat) (g : Nat) (f : Nat) 0 0 0 0 0 (ByteArray.mk #[]) (.slice none 0 0)
  | 3 => msB (kk : Nat) (g : Nat) (f : Nat) (t : Nat) 0 0 0 0 (ByteArray.mk #[]) (.slice none 0 0)
  | 4 => msB (kk : Nat) (g : Nat) (f : Nat) (t : Nat) (i : Nat) 0 0 0 (ByteArray.mk #[]) (.slice none 0 0)
  | 5 => msB (kk : Nat) (g : Nat) (f : Nat) (t : Nat) (i : Nat) (e : Nat) 0 0 (ByteArray.mk #[]) (.slice none 0 0)
  | 6 => msB (kk : Nat) (g : Nat) (f : Nat) (t : Nat) (i : Nat) (e : Nat) (a : Nat) 0 (ByteArray.mk #[]) (.slice none 0 0)
  | _ => msB kk g f t i e a b (ByteArray.mk #[]) (.slice none 0 0)
theorem rd0_ok {kk g f t i e a b : Nat} {z y : List Nat} {l : List Bool} {m : Nat} (hne : l ≠ []) (hl : l.length ≤ 60000) (hq : g ≤ 1073741824) (h : ∃ r, l.drop (wrL kk g f t i e a b 0).length = Bt.codeB g ++ r) (hz : z ≠ []) (hy : y ≠ []) :
    WP Tryz.prog (ntOf Tryz.prog 20 1) (loopAt Tryz.prog 20 0) ⟨rdF 0 m, rdW z (msB (kk : Nat) 0 0 0 0 0 0 0 (ByteArray.mk #[]) (.slice none 0 0)) y l ((wrL kk g f t i e a b 0).length : Nat), 1⟩ .normal ⟨rdF 1 m, rdW z (msB (kk : Nat) (g : Nat) 0 0 0 0 0 0 (ByteArray.mk #[]) (.slice none 0 0)) y l ((wrL kk g f t i e a b 1).length : Nat), 1⟩ := by
  obtain ⟨r, h⟩ := h
  have hc := ecode_ok hne hl h hq
  have e1 : (wrL kk g f t i e a b 0).length + (2 * Bt.cz g + 1) = (wrL kk g f t i e a b 1).length := by
    have : wrL kk g f t i e a b 1 = wrL kk g f t i e a b 0 ++ Bt.codeB g := rfl
    rw [this, List.length_append, Bt.codeB_length]
  rw [e1] at hc
  refine WP.run progOk extSound (nb_sound _ _ (frameT_sound _)) (by kernel_rfl) (LoopsOk.none (by kernel_rfl)) [0, 2, 6, 40, 41] (rd0_run z y l m (kk : Nat) 0 0 0 0 0 0 0 (g : Nat) ((wrL kk g f t i e a b 0).length : Nat) ((wrL kk g f t i e a b 1).length : Nat)) ?_
  intro q hq
  simp only [List.mem_cons, List.not_mem_nil, or_false] at hq
  rcases hq with rfl
  exact tok (frameT_ok [4, 3] hc (by exact ro_row hz (ro_in rfl (ro_row hy (ro_pk hne (ro_in rfl ro_nil))))) (by exact rf_in rfl (rf_pk rf_nil)))
theorem rd1_ok {kk g f t i e a b : Nat} {z y : List Nat} {l : List Bool} {m : Nat} (hne : l ≠ []) (hl : l.length ≤ 60000) (hq : f ≤ 1073741824) (h : ∃ r, l.drop (wrL kk g f t i e a b 1).length = Bt.codeB f ++ r) (hz : z ≠ []) (hy : y ≠ []) :
    WP Tryz.prog (ntOf Tryz.prog 20 1) (loopAt Tryz.prog 20 0) ⟨rdF 1 m, rdW z (msB (kk : Nat) (g : Nat) 0 0 0 0 0 0 (ByteArray.mk #[]) (.slice none 0 0)) y l ((wrL kk g f t i e a b 1).length : Nat), 1⟩ .normal ⟨rdF 2 m, rdW z (msB (kk : Nat) (g : Nat) (f : Nat) 0 0 0 0 0 (ByteArray.mk #[]) (.slice none 0 0)) y l ((wrL kk g f t i e a b 2).length : Nat), 1⟩ := by
  obtain ⟨r, h⟩ := h
  have hc := ecode_ok hne hl h hq
  have e1 : (wrL kk g f t i e a b 1).length + (2 * Bt.cz f + 1) = (wrL kk g f t i e a b 2).length := by
    have : wrL kk g f t i e a b 2 = wrL kk g f t i e a b 1 ++ Bt.codeB f := rfl
    rw [this, List.length_append, Bt.codeB_length]
  rw [e1] at hc
  refine WP.run progOk extSound (nb_sound _ _ (frameT_sound _)) (by kernel_rfl) (LoopsOk.none (by kernel_rfl)) [0, 2, 6, 40, 41] (rd1_run z y l m (kk : Nat) (g : Nat) 0 0 0 0 0 0 (f : Nat) ((wrL kk g f t i e a b 1).length : Nat) ((wrL kk g f t i e a b 2).length : Nat)) ?_
  intro q hq
  simp only [List.mem_cons, List.not_mem_nil, or_false] at hq
  rcases hq with rfl
  exact tok (frameT_ok [4, 3] hc (by exact ro_row hz (ro_in rfl (ro_row hy (ro_pk hne (ro_in rfl ro_nil))))) (by exact rf_in rfl (rf_pk rf_nil)))
theorem rd2_ok {kk g f t i e a b : Nat} {z y : List Nat} {l : List Bool} {m : Nat} (hne : l ≠ []) (hl : l.length ≤ 60000) (hq : t ≤ 1073741824) (h : ∃ r, l.drop (wrL kk g f t i e a b 2).length = Bt.codeB t ++ r) (hz : z ≠ []) (hy : y ≠ []) :
    WP Tryz.prog (ntOf Tryz.prog 20 1) (loopAt Tryz.prog 20 0) ⟨rdF 2 m, rdW z (msB (kk : Nat) (g : Nat) (f : Nat) 0 0 0 0 0 (ByteArray.mk #[]) (.slice none 0 0)) y l ((wrL kk g f t i e a b 2).length : Nat), 1⟩ .normal ⟨rdF 3 m, rdW z (msB (kk : Nat) (g : Nat) (f : Nat) (t : Nat) 0 0 0 0 (ByteArray.mk #[]) (.slice none 0 0)) y l ((wrL kk g f t i e a b 3).length : Nat), 1⟩ := by
  obtain ⟨r, h⟩ := h
  have hc := ecode_ok hne hl h hq
  have e1 : (wrL kk g f t i e a b 2).length + (2 * Bt.cz t + 1) = (wrL kk g f t i e a b 3).length := by
    have : wrL kk g f t i e a b 3 = wrL kk g f t i e a b 2 ++ Bt.codeB t := rfl
    rw [this, List.length_append, Bt.codeB_length]
  rw [e1] at hc
  refine WP.run progOk extSound (nb_sound _ _ (frameT_sound _)) (by kernel_rfl) (LoopsOk.none (by kernel_rfl)) [0, 2, 6, 40, 41] (rd2_run z y l m (kk : Nat) (g : Nat) (f : Nat) 0 0 0 0 0 (t : Nat) ((wrL kk g f t i e a b 2).length : Nat) ((wrL kk g f t i e a b 3).length : Nat)) ?_
  intro q hq
  simp only [List.mem_cons, List.not_mem_nil, or_false] at hq
  rcases hq with rfl
  exact tok (frameT_ok [4, 3] hc (by exact ro_row hz (ro_in rfl (ro_row hy (ro_pk hne (ro_in rfl ro_nil))))) (by exact rf_in rfl (rf_pk rf_nil)))
theorem rd3_ok {kk g f t i e a b : Nat} {z y : List Nat} {l : List Bool} {m : Nat} (hne : l ≠ []) (hl : l.length ≤ 60000) (hq : i ≤ 1073741824) (h : ∃ r, l.drop (wrL kk g f t i e a b 3).length = Bt.codeB i ++ r) (hz : z ≠ []) (hy : y ≠ []) :
    WP Tryz.prog (ntOf Tryz.prog 20 1) (loopAt Tryz.prog 20 0) ⟨rdF 3 m, rdW z (msB (kk : Nat) (g : Nat) (f : Nat) (t : Nat) 0 0 0 0 (ByteArray.mk #[]) (.slice none 0 0)) y l ((wrL kk g f t i e a b 3).length : Nat), 1⟩ .normal ⟨rdF 4 m, rdW z (msB (kk : Nat) (g : Nat) (f : Nat) (t : Nat) (i : Nat) 0 0 0 (ByteArray.mk #[]) (.slice none 0 0)) y l ((wrL kk g f t i e a b 4).length : Nat), 1⟩ := by
  obtain ⟨r, h⟩ := h
  have hc := ecode_ok hne hl h hq
  have e1 : (wrL kk g f t i e a b 3).length + (2 * Bt.cz i + 1) = (wrL kk g f t i e a b 4).length := by
    have : wrL kk g f t i e a b 4 = wrL kk g f t i e a b 3 ++ Bt.codeB i := rfl
    rw [this, List.length_append, Bt.codeB_length]
  rw [e1] at hc
  refine WP.run progOk extSound (nb_sound _ _ (frameT_sound _)) (by kernel_rfl) (LoopsOk.none (by kernel_rfl)) [0, 2, 6, 40, 41] (rd3_run z y l m (kk : Nat) (g : Nat) (f : Nat) (t : Nat) 0 0 0 0 (i : Nat) ((wrL kk g f t i e a b 3).length : Nat) ((wrL kk g f t i e a b 4).length : Nat)) ?_
  intro q hq
  simp only [List.mem_cons, List.not_mem_nil, or_false] at hq
  rcases hq with rfl
  exact tok (frameT_ok [4, 3] hc (by exact ro_row hz (ro_in rfl (ro_row hy (ro_pk hne (ro_in rfl ro_nil))))) (by exact rf_in rfl (rf_pk rf_nil)))
theorem rd4_ok {kk g f t i e a b : Nat} {z y : List Nat} {l : List Bool} {m : Nat} (hne : l ≠ []) (hl : l.length ≤ 60000) (hq : e ≤ 1073741824) (h : ∃ r, l.drop (wrL kk g f t i e a b 4).length = Bt.codeB e ++ r) (hz : z ≠ []) (hy : y ≠ []) :
    WP Tryz.prog (ntOf Tryz.prog 20 1) (loopAt Tryz.prog 20 0) ⟨rdF 4 m, rdW z (msB (kk : Nat) (g : Nat) (f : Nat) (t : Nat) (i : Nat) 0 0 0 (ByteArray.mk #[]) (.slice none 0 0)) y l ((wrL kk g f t i e a b 4).length : Nat), 1⟩ .normal ⟨rdF 5 m, rdW z (msB (kk : Nat) (g : Nat) (f : Nat) (t : Nat) (i : Nat) (e : Nat) 0 0 (ByteArray.mk #[]) (.slice none 0 0)) y l ((wrL kk g f t i e a b 5).length : Nat), 1⟩ := by
  obtain ⟨r, h⟩ := h
  have hc := ecode_ok hne hl h hq
  have e1 : (wrL kk g f t i e a b 4).length + (2 * Bt.cz e + 1) = (wrL kk g f t i e a b 5).length := by
    have : wrL kk g f t i e a b 5 = wrL kk g f t i e a b 4 ++ Bt.codeB e := rfl
    rw [this, List.length_append, Bt.codeB_length]
  rw [e1] at hc
  refine WP.run progOk extSound (nb_sound _ _ (frameT_sound _)) (by kernel_rfl) (LoopsOk.none (by kernel_rfl)) [0, 2, 6, 40, 41] (rd4_run z y l m (kk : Nat) (g : Nat) (f : Nat) (t : Nat) (i : Nat) 0 0 0 (e : Nat) ((wrL kk g f t i e a b 4).length : Nat) ((wrL kk g f t i e a b 5).length : Nat)) ?_
  intro q hq
  simp only [List.mem_cons, List.not_mem_nil, or_false] at hq
  rcases hq with rfl
  exact tok (frameT_ok [4, 3] hc (by exact ro_row hz (ro_in rfl (ro_row hy (ro_pk hne (ro_in rfl ro_nil))))) (by exact rf_in rfl (rf_pk rf_nil)))
theorem rd5_ok {kk g f t i e a b : Nat} {z y : List Nat} {l : List Bool} {m : Nat} (hne : l ≠ []) (hl : l.length ≤ 60000) (hq : a ≤ 1073741824) (h : ∃ r, l.drop (wrL kk g f t i e a b 5).length = Bt.codeB a ++ r) (hz : z ≠ []) (hy : y ≠ []) :
    WP Tryz.prog (ntOf Tryz.prog 20 1) (loopAt Tryz.prog 20 0) ⟨rdF 5 m, rdW z (msB (kk : Nat) (g : Nat) (f : Nat) (t : Nat) (i : Nat) (e : Nat) 0 0 (ByteArray.mk #[]) (.slice none 0 0)) y l ((wrL kk g f t i e a b 5).length : Nat), 1⟩ .normal ⟨rdF 6 m, rdW z (msB (kk : Nat) (g : Nat) (f : Nat) (t : Nat) (i : Nat) (e : Nat) (a : Nat) 0 (ByteArray.mk #[]) (.slice none 0 0)) y l ((wrL kk g f t i e a b 6).length : Nat), 1⟩ := by
  obtain ⟨r, h⟩ := h
  have hc := ecode_ok hne hl h hq
  have e1 : (wrL kk g f t i e a b 5).length + (2 * Bt.cz a + 1) = (wrL kk g f t i e a b 6).length := by
    have : wrL kk g f t i e a b 6 = wrL kk g f t i e a b 5 ++ Bt.codeB a := rfl
    rw [this, List.length_append, Bt.codeB_length]
  rw [e1] at hc
  refine WP.run progOk extSound (nb_sound _ _ (frameT_sound _)) (by kernel_rfl) (LoopsOk.none (by kernel_rfl)) [0, 2, 6, 40, 41] (rd5_run z y l m (kk : Nat) (g : Nat) (f : Nat) (t : Nat) (i : Nat) (e : Nat) 0 0 (a : Nat) ((wrL kk g f t i e a b 5).length : Nat) ((wrL kk g f t i e a b 6).length : Nat)) ?_
  intro q hq
  simp only [List.mem_cons, List.not_mem_nil, or_false] at hq
  rcases hq with rfl
  exact tok (frameT_ok [4, 3] hc (by exact ro_row hz (ro_in rfl (ro_row hy (ro_pk hne (ro_in rfl ro_nil))))) (by exact rf_in rfl (rf_pk rf_nil)))
theorem rd6_ok {kk g f t i e a b : Nat} {z y : List Nat} {l : List Bool} {m : Nat} (hne : l ≠ []) (hl : l.length ≤ 60000) (hq : b ≤ 1073741824) (h : ∃ r, l.drop (wrL kk g f t i e a b 6).length = Bt.codeB b ++ r) (hz : z ≠ []) (hy : y ≠ []) :
    WP Tryz.prog (ntOf Tryz.prog 20 1) (loopAt Tryz.prog 20 0) ⟨rdF 6 m, rdW z (msB (kk : Nat) (g : Nat) (f : Nat) (t : Nat) (i : Nat) (e : Nat) (a : Nat) 0 (ByteArray.mk #[]) (.slice none 0 0)) y l ((wrL kk g f t i e a b 6).length : Nat), 1⟩ .normal ⟨rdF 7 m, rdW z (msB kk g f t i e a b (ByteArray.mk #[]) (.slice none 0 0)) y l ((wrL kk g f t i e a b 7).length : Nat), 1⟩ := by
  obtain ⟨r, h⟩ := h
  have hc := ecode_ok hne hl h hq
  have e1 : (wrL kk g f t i e a b 6).length + (2 * Bt.cz b + 1) = (wrL kk g f t i e a b 7).length := by
    have : wrL kk g f t i e a b 7 = wrL kk g f t i e a b 6 ++ Bt.codeB b := rfl
    rw [this, List.length_append, Bt.codeB_length]
  rw [e1] at hc
  refine WP.run progOk extSound (nb_sound _ _ (frameT_sound _)) (by kernel_rfl) (LoopsOk.none (by kernel_rfl)) [0, 2, 6, 40, 41] (rd6_run z y l m (kk : Nat) (g : Nat) (f : Nat) (t : Nat) (i : Nat) (e : Nat) (a : Nat) 0 (b : Nat) ((wrL kk g f t i e a b 6).length : Nat) ((wrL kk g f t i e a b 7).length : Nat)) ?_
  intro q hq
  simp only [List.mem_cons, List.not_mem_nil, or_false] at hq
  rcases hq with rfl
  exact tok (frameT_ok [4, 3] hc (by exact ro_row hz (ro_in rfl (ro_row hy (ro_pk hne (ro_in rfl ro_nil))))) (by exact rf_in rfl (rf_pk rf_nil)))
theorem rd_loop {kk g f t i e a b : Nat} {z y : List Nat} {l : List Bool} {m : Nat} (hne : l ≠ []) (hl : l.length ≤ 60000) (hb : g ≤ 1073741824 ∧ f ≤ 1073741824 ∧ t ≤ 1073741824 ∧ i ≤ 1073741824 ∧ e ≤ 1073741824 ∧ a ≤ 1073741824 ∧ b ≤ 1073741824) (hp : ∃ r, l = wrL kk g f t i e a b 7 ++ r) (hz : z ≠ []) (hy : y ≠ []) :
    WP Tryz.prog (ntOf Tryz.prog 20 1) (.loop (loopAt Tryz.prog 20 0)) ⟨rdF 0 m, rdW z (msB (kk : Nat) 0 0 0 0 0 0 0 (ByteArray.mk #[]) (.slice none 0 0)) y l 4, 1⟩ (.exit 1) ⟨[(0, .slice (some ⟨0, 0, none⟩) m 0), (2, .pointer (some ⟨1, 0, none⟩)), (6, .pointer (some ⟨4, 0, none⟩))], rdW z (msB kk g f t i e a b (ByteArray.mk #[]) (.slice none 0 0)) y l ((wrL kk g f t i e a b 7).length : Nat), 1⟩ := by
  obtain ⟨b0, b1, b2, b3, b4, b5, b6⟩ := hb
  have e0 : (((wrL kk g f t i e a b 0).length : Nat) : Int) = 4 := by simp [wrL]
  have hlp := WP.loop (P := Tryz.prog) (nt := ntOf Tryz.prog 20 1) (b := loopAt Tryz.prog 20 0) (fun j => ⟨rdF (j : Nat) m, rdW z (rdM kk g f t i e a b j) y l ((wrL kk g f t i e a b j).length : Nat), 1⟩) 7 (x := .exit 1) (s' := ⟨[(0, .slice (some ⟨0, 0, none⟩) m 0), (2, .pointer (some ⟨1, 0, none⟩)), (6, .pointer (some ⟨4, 0, none⟩))], rdW z (msB kk g f t i e a b (ByteArray.mk #[]) (.slice none 0 0)) y l ((wrL kk g f t i e a b 7).length : Nat), 1⟩) (by simp) ?_
    (WP.run progOk extSound (nb_sound _ _ noC_sound) (by kernel_rfl) (LoopsOk.none (by kernel_rfl)) [0, 2, 6] (rd_out z y l m kk g f t i e a b ((wrL kk g f t i e a b 7).length : Nat)) (by simp [Holds]))
  · simp only [e0] at hlp
    exact hlp
  intro j hj
  have hat := wrL_at hp hj
  match j, hj with
  | 0, _ => exact rd0_ok hne hl b0 hat hz hy
  | 1, _ => exact rd1_ok hne hl b1 hat hz hy
  | 2, _ => exact rd2_ok hne hl b2 hat hz hy
  | 3, _ => exact rd3_ok hne hl b3 hat hz hy
  | 4, _ => exact rd4_ok hne hl b4 hat hz hy
  | 5, _ => exact rd5_ok hne hl b5 hat hz hy
  | 6, _ => exact rd6_ok hne hl b6 hat hz hy
  | n + 7, h => omega
end Go.Proofs.YtpgmabpaiijipaaGreatDoor
namespace Go.Proofs.YtpgmabpaiijipaaGreatDoor
open Go Den
set_option maxRecDepth 100000
set_option linter.unusedSimpArgs false
set_option linter.unusedVariables false
theorem sealed_len (y : List Nat) : (Crc.sealed y).length = y.length + 4 := by
  unfold Crc.sealed
  rw [List.length_append]
  rfl
theorem sealed_take (y : List Nat) : (Crc.sealed y).take y.length = y := by
  unfold Crc.sealed
  exact List.take_left
theorem sealed_drop (y : List Nat) : (Crc.sealed y).drop y.length = Crc.tail (Crc.sum y) := by
  unfold Crc.sealed
  exact List.drop_left
theorem sealed_lt {y : List Nat} (h : ∀ x ∈ y, x < 256) : ∀ x ∈ Crc.sealed y, x < 256 := by
  intro x hx
  unfold Crc.sealed at hx
  rcases List.mem_append.1 hx with h1 | h1
  · exact h x h1
  · exact Crc.tail_lt _ x h1
theorem pn_pos {L : List Bool} (h : L ≠ []) : 0 < pn L := by
  have := List.length_pos_iff.2 h
  unfold pn
  omega
theorem rd_head {kk g f t i e a b : Nat} {L : List Bool} (hb : g ≤ 1073741824 ∧ f ≤ 1073741824 ∧ t ≤ 1073741824 ∧ i ≤ 1073741824 ∧ e ≤ 1073741824 ∧ a ≤ 1073741824 ∧ b ≤ 1073741824) (hk : kk < 16) (hp : ∃ r, L = wrL kk g f t i e a b 7 ++ r) (hLl : L.length ≤ 2000) {x : Ex} {s' : St}
    (hrest : WP Tryz.prog (ntOf Tryz.prog 20 1) (tlC (tlC (tlC (tlC (tlC (tlC (bodyOf Tryz.prog 20))))))) ⟨[(0, .slice (some ⟨0, 0, none⟩) (pn L + 4) 0), (2, .pointer (some ⟨1, 0, none⟩)), (6, .pointer (some ⟨4, 0, none⟩))], rdW (Crc.sealed (Bt.pack L)) (msB kk g f t i e a b (ByteArray.mk #[]) (.slice none 0 0)) (Bt.pack L) (Bt.bytesB (Bt.pack L)) ((wrL kk g f t i e a b 7).length : Nat), 1⟩ x s') :
    WP Tryz.prog (ntOf Tryz.prog 20 1) (bodyOf Tryz.prog 20) ⟨Den.start 0 [.slice (some ⟨0, 0, none⟩) (pn L + 4) 0], [rowB (byteV (Crc.sealed (Bt.pack L)))], 1⟩ x s' := by
  obtain ⟨r, hr⟩ := hp
  have hne : L ≠ [] := by rw [hr]; exact app_ne (wrL_ne _ _ _ _ _ _ _ _ _)
  have hyne := pack_ne hne
  have hylen : (Bt.pack L).length = pn L := Bt.pack_len L
  have hylt : ∀ x ∈ Bt.pack L, x < 256 := Bt.pack_lt _ L (Nat.le_refl _)
  have hpn : pn L ≤ 300 := by unfold pn; omega
  have hpos := pn_pos hne
  have hl : Bt.bytesB (Bt.pack L) = L ++ List.replicate (Bt.pad L.length) false := Bt.bytesB_pack _ L (Nat.le_refl _)
  have hlen : (Bt.bytesB (Bt.pack L)).length = 8 * pn L := by rw [Bt.bytesB_length, hylen]
  have hlne : Bt.bytesB (Bt.pack L) ≠ [] := bytes_ne hyne
  have hzne : Crc.sealed (Bt.pack L) ≠ [] := by
    intro he
    have := congrArg List.length he
    rw [sealed_len] at this
    simp at this
  have hzl : (Crc.sealed (Bt.pack L)).length = pn L + 4 := by rw [sealed_len, hylen]
  have hzt : (Crc.sealed (Bt.pack L)).take (pn L) = Bt.pack L := by rw [← hylen]; exact sealed_take _
  have hzd : (Crc.sealed (Bt.pack L)).drop (pn L) = Crc.tail (Crc.sum (Bt.pack L)) := by rw [← hylen]; exact sealed_drop _
  have c15 := open_ok (y := Crc.sealed (Bt.pack L)) (m := pn L) hpos hzl (sealed_lt hylt) (by omega) (by rw [hzt, hzd])
  rw [hzt] at c15
  have c58 := of_okM (x := Bt.pack L) (c := 0) hyne hylt (by omega)
  rw [hylen] at c58
  have hpl : ∃ r, Bt.bytesB (Bt.pack L) = wrL kk g f t i e a b 7 ++ r := ⟨r ++ List.replicate (Bt.pad L.length) false, by rw [hl, hr, List.append_assoc]⟩
  have c59 := num_ok (l := Bt.bytesB (Bt.pack L)) (a := 0) (w := 4) (t := kk) hlne (by omega) (by omega) (by omega) (by
    obtain ⟨r2, h2⟩ := hpl
    obtain ⟨r3, h3⟩ := wrL_pre kk g f t i e a b 0 7
    exact Bt.val_take_be (rest := r3 ++ r2) (by rw [List.drop_zero, h2, show (7 : Nat) = 0 + 7 from rfl, h3]; simp only [wrL, List.append_assoc]) (by omega))
  have h0 : WP Tryz.prog (ntOf Tryz.prog 20 1) (hdC (bodyOf Tryz.prog 20)) ⟨Den.start 0 [.slice (some ⟨0, 0, none⟩) (pn L + 4) 0], [rowB (byteV (Crc.sealed (Bt.pack L)))], 1⟩ .normal ⟨[(0, .slice (some ⟨0, 0, none⟩) (pn L + 4) 0), (2, .pointer (some ⟨1, 0, none⟩))], [rowB (byteV (Crc.sealed (Bt.pack L))), msB 0 0 0 0 0 0 0 0 (ByteArray.mk #[]) (.slice none 0 0)], 1⟩ := WP.run progOk extSound (nb_sound _ _ noC_sound) (by kernel_rfl) (LoopsOk.none (by kernel_rfl)) [0, 2] (rr0 (Crc.sealed (Bt.pack L)) (pn L + 4)) (by simp [Holds])
  have h1 : WP Tryz.prog (ntOf Tryz.prog 20 1) (hdC (tlC (bodyOf Tryz.prog 20))) ⟨[(0, .slice (some ⟨0, 0, none⟩) (pn L + 4) 0), (2, .pointer (some ⟨1, 0, none⟩))], [rowB (byteV (Crc.sealed (Bt.pack L))), msB 0 0 0 0 0 0 0 0 (ByteArray.mk #[]) (.slice none 0 0)], 1⟩ .normal ⟨[(0, .slice (some ⟨0, 0, none⟩) (pn L + 4) 0), (2, .pointer (some ⟨1, 0, none⟩)), (4, .slice (some ⟨2, 0, none⟩) (pn L) 0), (5, .int .i64 0)], [rowB (byteV (Crc.sealed (Bt.pack L))), msB 0 0 0 0 0 0 0 0 (ByteArray.mk #[]) (.slice none 0 0), rowB (byteV (Bt.pack L))], 1⟩ := by
    refine WP.run progOk extSound (nb_sound _ _ (frameT_sound _)) (by kernel_rfl) (LoopsOk.none (by kernel_rfl)) [0, 2, 4, 5] (rr1 (Crc.sealed (Bt.pack L)) (Bt.pack L) (pn L + 4) (pn L)) ?_
    intro q hq
    simp only [List.mem_cons, List.not_mem_nil, or_false] at hq
    rcases hq with rfl
    exact tok (frameT_ok [0] c15 (by exact ro_row hzne (ro_in rfl ro_nil)) (by exact rf_row (rf_row rf_nil)))
  have h2 : WP Tryz.prog (ntOf Tryz.prog 20 1) (hdC (tlC (tlC (bodyOf Tryz.prog 20)))) ⟨[(0, .slice (some ⟨0, 0, none⟩) (pn L + 4) 0), (2, .pointer (some ⟨1, 0, none⟩)), (4, .slice (some ⟨2, 0, none⟩) (pn L) 0), (5, .int .i64 0)], [rowB (byteV (Crc.sealed (Bt.pack L))), msB 0 0 0 0 0 0 0 0 (ByteArray.mk #[]) (.slice none 0 0), rowB (byteV (Bt.pack L))], 1⟩ .normal ⟨[(0, .slice (some ⟨0, 0, none⟩) (pn L + 4) 0), (2, .pointer (some ⟨1, 0, none⟩)), (4, .slice (some ⟨2, 0, none⟩) (pn L) 0)], [rowB (byteV (Crc.sealed (Bt.pack L))), msB 0 0 0 0 0 0 0 0 (ByteArray.mk #[]) (.slice none 0 0), rowB (byteV (Bt.pack L))], 1⟩ := by
    refine WP.run progOk extSound (nb_sound _ _ noC_sound) (by kernel_rfl) (LoopsOk.none (by kernel_rfl)) [0, 2, 4] (rr2 (Crc.sealed (Bt.pack L)) (Bt.pack L) (pn L + 4) (pn L) ((8 * pn L : Nat) : Int)) ?_
    intro q hq
    simp only [List.mem_cons, List.not_mem_nil, or_false] at hq
    rcases hq with rfl | rfl
    · simp only [decide_eq_false_iff_not]; omega
    · simp only [decide_eq_true_eq]; rw [wrap_i64 (by omega)]; omega
  have h3 : WP Tryz.prog (ntOf Tryz.prog 20 1) (hdC (tlC (tlC (tlC (bodyOf Tryz.prog 20))))) ⟨[(0, .slice (some ⟨0, 0, none⟩) (pn L + 4) 0), (2, .pointer (some ⟨1, 0, none⟩)), (4, .slice (some ⟨2, 0, none⟩) (pn L) 0)], [rowB (byteV (Crc.sealed (Bt.pack L))), msB 0 0 0 0 0 0 0 0 (ByteArray.mk #[]) (.slice none 0 0), rowB (byteV (Bt.pack L))], 1⟩ .normal ⟨[(0, .slice (some ⟨0, 0, none⟩) (pn L + 4) 0), (2, .pointer (some ⟨1, 0, none⟩)), (6, .pointer (some ⟨4, 0, none⟩))], rdW (Crc.sealed (Bt.pack L)) (msB 0 0 0 0 0 0 0 0 (ByteArray.mk #[]) (.slice none 0 0)) (Bt.pack L) (Bt.bytesB (Bt.pack L)) 0, 1⟩ := by
    refine WP.run progOk extSound (nb_sound _ _ (frameT_sound _)) (by kernel_rfl) (LoopsOk.none (by kernel_rfl)) [0, 2, 6] (rr3 (Crc.sealed (Bt.pack L)) (Bt.pack L) (Bt.bytesB (Bt.pack L)) (pn L + 4) (pn L)) ?_
    intro q hq
    simp only [List.mem_cons, List.not_mem_nil, or_false] at hq
    rcases hq with rfl
    exact tok (frameT_ok [2] c58 (by exact ro_row hzne (ro_in rfl (ro_row hyne ro_nil))) (by exact rf_row (rf_in rfl (rf_pk rf_nil))))
  have h4 : WP Tryz.prog (ntOf Tryz.prog 20 1) (hdC (tlC (tlC (tlC (tlC (bodyOf Tryz.prog 20)))))) ⟨[(0, .slice (some ⟨0, 0, none⟩) (pn L + 4) 0), (2, .pointer (some ⟨1, 0, none⟩)), (6, .pointer (some ⟨4, 0, none⟩))], rdW (Crc.sealed (Bt.pack L)) (msB 0 0 0 0 0 0 0 0 (ByteArray.mk #[]) (.slice none 0 0)) (Bt.pack L) (Bt.bytesB (Bt.pack L)) 0, 1⟩ .normal ⟨[(0, .slice (some ⟨0, 0, none⟩) (pn L + 4) 0), (2, .pointer (some ⟨1, 0, none⟩)), (6, .pointer (some ⟨4, 0, none⟩))], rdW (Crc.sealed (Bt.pack L)) (msB (kk : Nat) 0 0 0 0 0 0 0 (ByteArray.mk #[]) (.slice none 0 0)) (Bt.pack L) (Bt.bytesB (Bt.pack L)) 4, 1⟩ := by
    refine WP.run progOk extSound (nb_sound _ _ (frameT_sound _)) (by kernel_rfl) (LoopsOk.none (by kernel_rfl)) [0, 2, 6] (rr4 (Crc.sealed (Bt.pack L)) (Bt.pack L) (Bt.bytesB (Bt.pack L)) (pn L + 4) (kk : Nat)) ?_
    intro q hq
    simp only [List.mem_cons, List.not_mem_nil, or_false] at hq
    rcases hq with rfl
    exact tok (frameT_ok [4, 3] c59 (by exact ro_row hzne (ro_in rfl (ro_row hyne (ro_pk hlne (ro_in rfl ro_nil))))) (by exact rf_in rfl (rf_pk rf_nil)))
  have h5 : WP Tryz.prog (ntOf Tryz.prog 20 1) (hdC (tlC (tlC (tlC (tlC (tlC (bodyOf Tryz.prog 20))))))) ⟨[(0, .slice (some ⟨0, 0, none⟩) (pn L + 4) 0), (2, .pointer (some ⟨1, 0, none⟩)), (6, .pointer (some ⟨4, 0, none⟩))], rdW (Crc.sealed (Bt.pack L)) (msB (kk : Nat) 0 0 0 0 0 0 0 (ByteArray.mk #[]) (.slice none 0 0)) (Bt.pack L) (Bt.bytesB (Bt.pack L)) 4, 1⟩ .normal ⟨[(0, .slice (some ⟨0, 0, none⟩) (pn L + 4) 0), (2, .pointer (some ⟨1, 0, none⟩)), (6, .pointer (some ⟨4, 0, none⟩))], rdW (Crc.sealed (Bt.pack L)) (msB kk g f t i e a b (ByteArray.mk #[]) (.slice none 0 0)) (Bt.pack L) (Bt.bytesB (Bt.pack L)) ((wrL kk g f t i e a b 7).length : Nat), 1⟩ := by
    refine WP.run progOk extSound (nb_sound _ _ (frameT_sound _)) (by kernel_rfl) (LoopsOk.sum (hL := rfl) (fun b' hb' _ => by
      have hlo : loopsOf (hdC (tlC (tlC (tlC (tlC (tlC (bodyOf Tryz.prog 20))))))) = [loopAt Tryz.prog 20 0] := by kernel_rfl
      rw [hlo] at hb'
      simp only [List.mem_singleton] at hb'
      subst hb'
      exact rd_loop hlne (by omega) hb hpl hzne hyne)) [0, 2, 6] (rr5 (Crc.sealed (Bt.pack L)) (Bt.pack L) (Bt.bytesB (Bt.pack L)) (pn L + 4) kk g f t i e a b ((wrL kk g f t i e a b 7).length : Nat)) ?_
    intro q hq
    simp only [List.mem_cons, List.not_mem_nil, or_false] at hq
    rcases hq with rfl | rfl | rfl | rfl
    · simp [cdec]
    · simp [cdec]
    · simp [cdec]
    · exact tok (frameT_ok [1] (nums_ok_0 (k := (kk : Nat)) (g := 0) (f := 0) (t := 0) (i := 0) (e := 0) (a := 0) (b := 0) (s := ByteArray.mk #[]) (D := .slice none 0 0) (X := spB)) (by exact ro_row hzne (ro_in rfl (ro_row hyne (ro_pk hlne (ro_in rfl ro_nil))))) (by exact rf_in rfl (rf_in rfl rf_nil)))
  exact WP.cut (by kernel_rfl) h0 (WP.cut (by kernel_rfl) h1 (WP.cut (by kernel_rfl) h2 (WP.cut (by kernel_rfl) h3 (WP.cut (by kernel_rfl) h4 (WP.cut (by kernel_rfl) h5 hrest)))))
end Go.Proofs.YtpgmabpaiijipaaGreatDoor
namespace Go.Proofs.YtpgmabpaiijipaaGreatDoor
open Go Den
set_option maxRecDepth 100000
set_option linter.unusedSimpArgs false
set_option linter.unusedVariables false
theorem u8_nmX (l : List UInt8) : (byteV (l.map fun b => b.toNat)).map u8Of = l := by
  induction l with
  | nil => rfl
  | cons a l ih =>
    simp only [byteV, List.map_cons, List.map_map, List.cons.injEq] at ih ⊢
    refine ⟨?_, ih⟩
    show UInt8.ofNat ((a.toNat : Int).toNat) = a
    simp
theorem sv_eq (s : ByteArray) : ByteArray.mk ((((byteV (nmX s)).drop 0).take (nmX s).length).map u8Of).toArray = s := by
  have h1 : ((byteV (nmX s)).drop 0).take (nmX s).length = byteV (nmX s) := by
    rw [List.drop_zero, List.take_of_length_le]
    simp [byteV]
  rw [h1, nmX, u8_nmX]
theorem u8_all (x : List Nat) (hx : x ≠ []) : (live (rowB (byteV x)) && ((((byteV x).drop 0).take x.length).all isU8 && decide (0 < x.length ∧ 0 + x.length ≤ (byteV x).length))) = true := by
  have h0 := List.length_pos_iff.2 hx
  have h1 : ((byteV x).drop 0).take x.length = byteV x := by
    rw [List.drop_zero, List.take_of_length_le]
    simp [byteV]
  rw [h1]
  have h2 : (byteV x).all isU8 = true := by
    simp [byteV, isU8]
  rw [h2]
  simp [live, rowB, byteV]
  omega
theorem read_raw0N {kk g f t i e a b : Nat} (hk : kk < 16) (hb : g ≤ 1073741824 ∧ f ≤ 1073741824 ∧ t ≤ 1073741824 ∧ i ≤ 1073741824 ∧ e ≤ 1073741824 ∧ a ≤ 1073741824 ∧ b ≤ 1073741824) (hc : chkB kk g f t i e a b (ByteArray.mk #[]) 0 = true) {L : List Bool} (hL : L = (((wrL kk g f t i e a b 7) ++ Bt.codeB 0) ++ Bt.codeB 0)) :
    CallOk Tryz.prog 20 [.slice (some ⟨0, 0, none⟩) (pn L + 4) 0] [rowB (byteV (Crc.sealed (Bt.pack L)))] (.tuple #[msA kk g f t i e a b (ByteArray.mk #[]) (.slice none 0 0), .int .i64 0]) (rdW (Crc.sealed (Bt.pack L)) (msB kk g f t i e a b (ByteArray.mk #[]) (.slice none 0 0)) (Bt.pack L) (Bt.bytesB (Bt.pack L)) (((((wrL kk g f t i e a b 7).length + (2 * Bt.cz 0 + 1)) + (2 * Bt.cz 0 + 1)) : Nat) : Int) ++ [rowB (byteV (Crc.sealed (Bt.pack L)))]) 1 := by
  have hlen7 := wrL_len (kk := kk) hb 7
  have hp : ∃ r, L = wrL kk g f t i e a b 7 ++ r := by
    rw [hL]
    simp only [List.append_assoc]
    exact ⟨_, rfl⟩
  have hLl : L.length ≤ 2000 := by
    have z1 : Bt.cz 0 < 31 := Bt.cz_le (by omega)
    have z2 : Bt.cz 0 < 31 := Bt.cz_le (by omega)
    rw [hL]
    simp only [List.length_append, Bt.codeB_length, Bt.bytesB_length]
    omega
  have hne : L ≠ [] := by obtain ⟨r, hr⟩ := hp; rw [hr]; exact app_ne (wrL_ne _ _ _ _ _ _ _ _ _)
  have hyne := pack_ne hne
  have hylen : (Bt.pack L).length = pn L := Bt.pack_len L
  have hpn : pn L ≤ 300 := by unfold pn; omega
  have hl : Bt.bytesB (Bt.pack L) = L ++ List.replicate (Bt.pad L.length) false := Bt.bytesB_pack _ L (Nat.le_refl _)
  have hlen : (Bt.bytesB (Bt.pack L)).length = 8 * pn L := by rw [Bt.bytesB_length, hylen]
  have hlne : Bt.bytesB (Bt.pack L) ≠ [] := bytes_ne hyne
  have hzl : (Crc.sealed (Bt.pack L)).length = pn L + 4 := by rw [sealed_len, hylen]
  have hzne : Crc.sealed (Bt.pack L) ≠ [] := by
    intro he
    have := congrArg List.length he
    rw [hzl] at this
    simp at this
  have hll : (Bt.bytesB (Bt.pack L)).length ≤ 60000 := by omega
  have d7 : (Bt.bytesB (Bt.pack L)).drop (wrL kk g f t i e a b 7).length = Bt.codeB 0 ++ (Bt.codeB 0 ++ List.replicate (Bt.pad L.length) false) := by
    refine dropL (P := wrL kk g f t i e a b 7) ?_ rfl
    rw [hl, hL]
    simp only [List.append_assoc]
  have c61 := ebytesN_ok hlne hll d7
  have h6 : WP Tryz.prog (ntOf Tryz.prog 20 1) (hdC (tlC (tlC (tlC (tlC (tlC (tlC (bodyOf Tryz.prog 20)))))))) ⟨[(0, .slice (some ⟨0, 0, none⟩) (pn L + 4) 0), (2, .pointer (some ⟨1, 0, none⟩)), (6, .pointer (some ⟨4, 0, none⟩))], rdW (Crc.sealed (Bt.pack L)) (msB kk g f t i e a b (ByteArray.mk #[]) (.slice none 0 0)) (Bt.pack L) (Bt.bytesB (Bt.pack L)) ((wrL kk g f t i e a b 7).length : Nat), 1⟩ .normal ⟨[(0, .slice (some ⟨0, 0, none⟩) (pn L + 4) 0), (2, .pointer (some ⟨1, 0, none⟩)), (6, .pointer (some ⟨4, 0, none⟩))], rdW (Crc.sealed (Bt.pack L)) (msB kk g f t i e a b (ByteArray.mk #[]) (.slice none 0 0)) (Bt.pack L) (Bt.bytesB (Bt.pack L)) ((((wrL kk g f t i e a b 7).length + (2 * Bt.cz 0 + 1)) : Nat) : Int), 1⟩ := by
    refine WP.run progOk extSound (nb_sound _ _ (frameT_sound _)) (by kernel_rfl) (LoopsOk.none (by kernel_rfl)) [0, 2, 6] (rr6_0 (Crc.sealed (Bt.pack L)) (Bt.pack L) (Bt.bytesB (Bt.pack L)) (pn L + 4) kk g f t i e a b ((wrL kk g f t i e a b 7).length : Nat) ((((wrL kk g f t i e a b 7).length + (2 * Bt.cz 0 + 1)) : Nat) : Int)) ?_
    intro q hq
    simp only [List.mem_cons, List.not_mem_nil, or_false] at hq
    rcases hq with rfl
    exact tok (frameT_ok [4, 3] c61 (by exact ro_row hzne (ro_in rfl (ro_row hyne (ro_pk hlne (ro_in rfl (ro_nil)))))) (by exact rf_in rfl (rf_pk rf_nil)))
  have d8 : (Bt.bytesB (Bt.pack L)).drop ((wrL kk g f t i e a b 7).length + (2 * Bt.cz 0 + 1)) = Bt.codeB 0 ++ List.replicate (Bt.pad L.length) false := by
    refine dropL (P := (wrL kk g f t i e a b 7 ++ Bt.codeB 0)) ?_ (by simp only [List.length_append, Bt.codeB_length, Bt.bytesB_length])
    rw [hl, hL]
    simp only [List.append_assoc]
  have c62 := ebytesN_ok hlne hll d8
  have c14 := (write_ok0N hk hb hc)
  rw [← hL] at c14
  have c40 : CallOk Tryz.prog 40 [.slice (some ⟨0, 0, none⟩) (pn L + 4) 0, .slice (some ⟨1, 0, none⟩) (pn L + 4) 0] [rowB (byteV (Crc.sealed (Bt.pack L))), rowB (byteV (Crc.sealed (Bt.pack L)))] (.bool true) [rowB (byteV (Crc.sealed (Bt.pack L))), rowB (byteV (Crc.sealed (Bt.pack L)))] 2 :=
    equal_ok (y := Crc.sealed (Bt.pack L)) (z := Crc.sealed (Bt.pack L)) rfl rfl rfl rfl (by omega) (by omega) (by omega) (by rw [List.drop_zero])
  have h7 : WP Tryz.prog (ntOf Tryz.prog 20 1) (tlC (tlC (tlC (tlC (tlC (tlC (tlC (bodyOf Tryz.prog 20)))))))) ⟨[(0, .slice (some ⟨0, 0, none⟩) (pn L + 4) 0), (2, .pointer (some ⟨1, 0, none⟩)), (6, .pointer (some ⟨4, 0, none⟩))], rdW (Crc.sealed (Bt.pack L)) (msB kk g f t i e a b (ByteArray.mk #[]) (.slice none 0 0)) (Bt.pack L) (Bt.bytesB (Bt.pack L)) ((((wrL kk g f t i e a b 7).length + (2 * Bt.cz 0 + 1)) : Nat) : Int), 1⟩ .ret ⟨[(2, .pointer (some ⟨1, 0, none⟩)), (3, .int .i64 0)], rdW (Crc.sealed (Bt.pack L)) (msB kk g f t i e a b (ByteArray.mk #[]) (.slice none 0 0)) (Bt.pack L) (Bt.bytesB (Bt.pack L)) (((((wrL kk g f t i e a b 7).length + (2 * Bt.cz 0 + 1)) + (2 * Bt.cz 0 + 1)) : Nat) : Int) ++ [rowB (byteV (Crc.sealed (Bt.pack L)))], 1⟩ := by
    refine WP.run progOk extSound (nb_sound _ _ (frameT_sound _)) (by kernel_rfl) (LoopsOk.none (by kernel_rfl)) [2, 3] (rr7_0N (Crc.sealed (Bt.pack L)) (Bt.pack L) (Bt.bytesB (Bt.pack L)) (pn L + 4) kk g f t i e a b ((((wrL kk g f t i e a b 7).length + (2 * Bt.cz 0 + 1)) : Nat) : Int) (((((wrL kk g f t i e a b 7).length + (2 * Bt.cz 0 + 1)) + (2 * Bt.cz 0 + 1)) : Nat) : Int)) ?_
    intro q hq
    simp only [List.mem_cons, List.not_mem_nil, or_false] at hq
    rcases hq with rfl | rfl | rfl
    · exact tok (frameT_ok [5, 0] c40 (by exact ro_row hzne (ro_in rfl (ro_row hyne (ro_pk hlne (ro_in rfl (ro_row hzne ro_nil)))))) (by exact rf_row (rf_row rf_nil)))
    · exact tok (frameT_ok [] c14 (by exact ro_row hzne (ro_in rfl (ro_row hyne (ro_pk hlne (ro_in rfl (ro_nil)))))) (by exact rf_row rf_nil))
    · exact tok (frameT_ok [4, 3] c62 (by exact ro_row hzne (ro_in rfl (ro_row hyne (ro_pk hlne (ro_in rfl (ro_nil)))))) (by exact rf_in rfl (rf_pk rf_nil)))
  exact CallOk.walk (f := 20) (n := 1) (by kernel_rfl) rfl (rd_head (kk := kk) (g := g) (f := f) (t := t) (i := i) (e := e) (a := a) (b := b) hb hk hp hLl (WP.cut (by kernel_rfl) h6 h7)) (.inr rfl) (by kernel_rfl)
theorem read_raw0R {kk g f t i e a b : Nat} {x : List Nat} (hk : kk < 16) (hb : g ≤ 1073741824 ∧ f ≤ 1073741824 ∧ t ≤ 1073741824 ∧ i ≤ 1073741824 ∧ e ≤ 1073741824 ∧ a ≤ 1073741824 ∧ b ≤ 1073741824) (hc : chkB kk g f t i e a b (ByteArray.mk #[]) x.length = true) (hxn : x ≠ []) (hx : ∀ b ∈ x, b < 256) (hxl : x.length ≤ 64) {L : List Bool} (hL : L = ((((wrL kk g f t i e a b 7) ++ Bt.codeB 0) ++ Bt.codeB x.length) ++ Bt.bytesB x)) :
    CallOk Tryz.prog 20 [.slice (some ⟨0, 0, none⟩) (pn L + 4) 0] [rowB (byteV (Crc.sealed (Bt.pack L)))] (.tuple #[msA kk g f t i e a b (ByteArray.mk #[]) (.slice (some ⟨5, 0, none⟩) x.length 0), .int .i64 0]) (rdW (Crc.sealed (Bt.pack L)) (msB kk g f t i e a b (ByteArray.mk #[]) (.slice (some ⟨5, 0, none⟩) x.length 0)) (Bt.pack L) (Bt.bytesB (Bt.pack L)) (((((wrL kk g f t i e a b 7).length + (2 * Bt.cz 0 + 1)) + (2 * Bt.cz x.length + 1) + 8 * x.length) : Nat) : Int) ++ [rowB (byteV x), rowB (byteV (Crc.sealed (Bt.pack L)))]) 1 := by
  have hlen7 := wrL_len (kk := kk) hb 7
  have hp : ∃ r, L = wrL kk g f t i e a b 7 ++ r := by
    rw [hL]
    simp only [List.append_assoc]
    exact ⟨_, rfl⟩
  have hLl : L.length ≤ 2000 := by
    have z1 : Bt.cz 0 < 31 := Bt.cz_le (by omega)
    have z2 : Bt.cz x.length < 31 := Bt.cz_le (by omega)
    rw [hL]
    simp only [List.length_append, Bt.codeB_length, Bt.bytesB_length]
    omega
  have hne : L ≠ [] := by obtain ⟨r, hr⟩ := hp; rw [hr]; exact app_ne (wrL_ne _ _ _ _ _ _ _ _ _)
  have hyne := pack_ne hne
  have hylen : (Bt.pack L).length = pn L := Bt.pack_len L
  have hpn : pn L ≤ 300 := by unfold pn; omega
  have hl : Bt.bytesB (Bt.pack L) = L ++ List.replicate (Bt.pad L.length) false := Bt.bytesB_pack _ L (Nat.le_refl _)
  have hlen : (Bt.bytesB (Bt.pack L)).length = 8 * pn L := by rw [Bt.bytesB_length, hylen]
  have hlne : Bt.bytesB (Bt.pack L) ≠ [] := bytes_ne hyne
  have hzl : (Crc.sealed (Bt.pack L)).length = pn L + 4 := by rw [sealed_len, hylen]
  have hzne : Crc.sealed (Bt.pack L) ≠ [] := by
    intro he
    have := congrArg List.length he
    rw [hzl] at this
    simp at this
  have hll : (Bt.bytesB (Bt.pack L)).length ≤ 60000 := by omega
  have d7 : (Bt.bytesB (Bt.pack L)).drop (wrL kk g f t i e a b 7).length = Bt.codeB 0 ++ ((Bt.codeB x.length ++ Bt.bytesB x) ++ List.replicate (Bt.pad L.length) false) := by
    refine dropL (P := wrL kk g f t i e a b 7) ?_ rfl
    rw [hl, hL]
    simp only [List.append_assoc]
  have c61 := ebytesN_ok hlne hll d7
  have h6 : WP Tryz.prog (ntOf Tryz.prog 20 1) (hdC (tlC (tlC (tlC (tlC (tlC (tlC (bodyOf Tryz.prog 20)))))))) ⟨[(0, .slice (some ⟨0, 0, none⟩) (pn L + 4) 0), (2, .pointer (some ⟨1, 0, none⟩)), (6, .pointer (some ⟨4, 0, none⟩))], rdW (Crc.sealed (Bt.pack L)) (msB kk g f t i e a b (ByteArray.mk #[]) (.slice none 0 0)) (Bt.pack L) (Bt.bytesB (Bt.pack L)) ((wrL kk g f t i e a b 7).length : Nat), 1⟩ .normal ⟨[(0, .slice (some ⟨0, 0, none⟩) (pn L + 4) 0), (2, .pointer (some ⟨1, 0, none⟩)), (6, .pointer (some ⟨4, 0, none⟩))], rdW (Crc.sealed (Bt.pack L)) (msB kk g f t i e a b (ByteArray.mk #[]) (.slice none 0 0)) (Bt.pack L) (Bt.bytesB (Bt.pack L)) ((((wrL kk g f t i e a b 7).length + (2 * Bt.cz 0 + 1)) : Nat) : Int), 1⟩ := by
    refine WP.run progOk extSound (nb_sound _ _ (frameT_sound _)) (by kernel_rfl) (LoopsOk.none (by kernel_rfl)) [0, 2, 6] (rr6_0 (Crc.sealed (Bt.pack L)) (Bt.pack L) (Bt.bytesB (Bt.pack L)) (pn L + 4) kk g f t i e a b ((wrL kk g f t i e a b 7).length : Nat) ((((wrL kk g f t i e a b 7).length + (2 * Bt.cz 0 + 1)) : Nat) : Int)) ?_
    intro q hq
    simp only [List.mem_cons, List.not_mem_nil, or_false] at hq
    rcases hq with rfl
    exact tok (frameT_ok [4, 3] c61 (by exact ro_row hzne (ro_in rfl (ro_row hyne (ro_pk hlne (ro_in rfl (ro_nil)))))) (by exact rf_in rfl (rf_pk rf_nil)))
  have d8 : (Bt.bytesB (Bt.pack L)).drop ((wrL kk g f t i e a b 7).length + (2 * Bt.cz 0 + 1)) = Bt.codeB x.length ++ (Bt.bytesB x ++ List.replicate (Bt.pad L.length) false) := by
    refine dropL (P := (wrL kk g f t i e a b 7 ++ Bt.codeB 0)) ?_ (by simp only [List.length_append, Bt.codeB_length, Bt.bytesB_length])
    rw [hl, hL]
    simp only [List.append_assoc]
  have c62 := ebytes_ok hlne hll d8 hx hxn hxl
  have c14 := (write_ok0R hk hb hc hxn hx hxl)
  rw [← hL] at c14
  have c40 : CallOk Tryz.prog 40 [.slice (some ⟨0, 0, none⟩) (pn L + 4) 0, .slice (some ⟨1, 0, none⟩) (pn L + 4) 0] [rowB (byteV (Crc.sealed (Bt.pack L))), rowB (byteV (Crc.sealed (Bt.pack L)))] (.bool true) [rowB (byteV (Crc.sealed (Bt.pack L))), rowB (byteV (Crc.sealed (Bt.pack L)))] 2 :=
    equal_ok (y := Crc.sealed (Bt.pack L)) (z := Crc.sealed (Bt.pack L)) rfl rfl rfl rfl (by omega) (by omega) (by omega) (by rw [List.drop_zero])
  have h7 : WP Tryz.prog (ntOf Tryz.prog 20 1) (tlC (tlC (tlC (tlC (tlC (tlC (tlC (bodyOf Tryz.prog 20)))))))) ⟨[(0, .slice (some ⟨0, 0, none⟩) (pn L + 4) 0), (2, .pointer (some ⟨1, 0, none⟩)), (6, .pointer (some ⟨4, 0, none⟩))], rdW (Crc.sealed (Bt.pack L)) (msB kk g f t i e a b (ByteArray.mk #[]) (.slice none 0 0)) (Bt.pack L) (Bt.bytesB (Bt.pack L)) ((((wrL kk g f t i e a b 7).length + (2 * Bt.cz 0 + 1)) : Nat) : Int), 1⟩ .ret ⟨[(2, .pointer (some ⟨1, 0, none⟩)), (3, .int .i64 0)], rdW (Crc.sealed (Bt.pack L)) (msB kk g f t i e a b (ByteArray.mk #[]) (.slice (some ⟨5, 0, none⟩) x.length 0)) (Bt.pack L) (Bt.bytesB (Bt.pack L)) (((((wrL kk g f t i e a b 7).length + (2 * Bt.cz 0 + 1)) + (2 * Bt.cz x.length + 1) + 8 * x.length) : Nat) : Int) ++ [rowB (byteV x), rowB (byteV (Crc.sealed (Bt.pack L)))], 1⟩ := by
    refine WP.run progOk extSound (nb_sound _ _ (frameT_sound _)) (by kernel_rfl) (LoopsOk.none (by kernel_rfl)) [2, 3] (rr7_0R (Crc.sealed (Bt.pack L)) (Bt.pack L) (Bt.bytesB (Bt.pack L)) (pn L + 4) kk g f t i e a b ((((wrL kk g f t i e a b 7).length + (2 * Bt.cz 0 + 1)) : Nat) : Int) (((((wrL kk g f t i e a b 7).length + (2 * Bt.cz 0 + 1)) + (2 * Bt.cz x.length + 1) + 8 * x.length) : Nat) : Int) x) ?_
    intro q hq
    simp only [List.mem_cons, List.not_mem_nil, or_false] at hq
    rcases hq with rfl | rfl | rfl
    · exact tok (frameT_ok [6, 0] c40 (by exact ro_row hzne (ro_in rfl (ro_row hyne (ro_pk hlne (ro_in rfl (ro_row hxn (ro_row hzne ro_nil))))))) (by exact rf_row (rf_row rf_nil)))
    · exact tok (frameT_ok [5] c14 (by exact ro_row hzne (ro_in rfl (ro_row hyne (ro_pk hlne (ro_in rfl (ro_row hxn ro_nil)))))) (by exact rf_row (rf_row rf_nil)))
    · exact tok (frameT_ok [4, 3] c62 (by exact ro_row hzne (ro_in rfl (ro_row hyne (ro_pk hlne (ro_in rfl (ro_nil)))))) (by exact rf_in rfl (rf_pk (rf_row rf_nil))))
  exact CallOk.walk (f := 20) (n := 1) (by kernel_rfl) rfl (rd_head (kk := kk) (g := g) (f := f) (t := t) (i := i) (e := e) (a := a) (b := b) hb hk hp hLl (WP.cut (by kernel_rfl) h6 h7)) (.inr rfl) (by kernel_rfl)
theorem read_raw1N {kk g f t i e a b : Nat} {s : ByteArray} (hk : kk < 16) (hb : g ≤ 1073741824 ∧ f ≤ 1073741824 ∧ t ≤ 1073741824 ∧ i ≤ 1073741824 ∧ e ≤ 1073741824 ∧ a ≤ 1073741824 ∧ b ≤ 1073741824) (hc : chkB kk g f t i e a b s 0 = true) (hs : s.size ≤ 64) (hsn : nmX s ≠ []) {L : List Bool} (hL : L = ((((wrL kk g f t i e a b 7) ++ Bt.codeB s.size) ++ Bt.bytesB (nmX s)) ++ Bt.codeB 0)) :
    CallOk Tryz.prog 20 [.slice (some ⟨0, 0, none⟩) (pn L + 4) 0] [rowB (byteV (Crc.sealed (Bt.pack L)))] (.tuple #[msA kk g f t i e a b s (.slice none 0 0), .int .i64 0]) (rdW (Crc.sealed (Bt.pack L)) (msB kk g f t i e a b s (.slice none 0 0)) (Bt.pack L) (Bt.bytesB (Bt.pack L)) (((((wrL kk g f t i e a b 7).length + (2 * Bt.cz s.size + 1) + 8 * s.size) + (2 * Bt.cz 0 + 1)) : Nat) : Int) ++ [rowB (byteV (nmX s)), rowB (byteV (Crc.sealed (Bt.pack L)))]) 1 := by
  have hlen7 := wrL_len (kk := kk) hb 7
  have hp : ∃ r, L = wrL kk g f t i e a b 7 ++ r := by
    rw [hL]
    simp only [List.append_assoc]
    exact ⟨_, rfl⟩
  have hLl : L.length ≤ 2000 := by
    have z1 : Bt.cz s.size < 31 := Bt.cz_le (by omega)
    have z2 : Bt.cz 0 < 31 := Bt.cz_le (by omega)
    rw [hL]
    simp only [List.length_append, Bt.codeB_length, Bt.bytesB_length, nmX_len]
    omega
  have hne : L ≠ [] := by obtain ⟨r, hr⟩ := hp; rw [hr]; exact app_ne (wrL_ne _ _ _ _ _ _ _ _ _)
  have hyne := pack_ne hne
  have hylen : (Bt.pack L).length = pn L := Bt.pack_len L
  have hpn : pn L ≤ 300 := by unfold pn; omega
  have hl : Bt.bytesB (Bt.pack L) = L ++ List.replicate (Bt.pad L.length) false := Bt.bytesB_pack _ L (Nat.le_refl _)
  have hlen : (Bt.bytesB (Bt.pack L)).length = 8 * pn L := by rw [Bt.bytesB_length, hylen]
  have hlne : Bt.bytesB (Bt.pack L) ≠ [] := bytes_ne hyne
  have hzl : (Crc.sealed (Bt.pack L)).length = pn L + 4 := by rw [sealed_len, hylen]
  have hzne : Crc.sealed (Bt.pack L) ≠ [] := by
    intro he
    have := congrArg List.length he
    rw [hzl] at this
    simp at this
  have hll : (Bt.bytesB (Bt.pack L)).length ≤ 60000 := by omega
  have d7 : (Bt.bytesB (Bt.pack L)).drop (wrL kk g f t i e a b 7).length = Bt.codeB (nmX s).length ++ (Bt.bytesB (nmX s) ++ (Bt.codeB 0 ++ List.replicate (Bt.pad L.length) false)) := by
    refine dropL (P := wrL kk g f t i e a b 7) ?_ rfl
    rw [hl, hL, nmX_len]
    simp only [List.append_assoc]
  have c61 := ebytes_ok hlne hll d7 (nmX_lt s) hsn (by rw [nmX_len]; exact hs)
  have ew : ((((wrL kk g f t i e a b 7).length + (2 * Bt.cz (nmX s).length + 1) + 8 * (nmX s).length : Nat)) : Int) = ((((wrL kk g f t i e a b 7).length + (2 * Bt.cz s.size + 1) + 8 * s.size) : Nat) : Int) := by rw [nmX_len]
  rw [ew] at c61
  have h6 : WP Tryz.prog (ntOf Tryz.prog 20 1) (hdC (tlC (tlC (tlC (tlC (tlC (tlC (bodyOf Tryz.prog 20)))))))) ⟨[(0, .slice (some ⟨0, 0, none⟩) (pn L + 4) 0), (2, .pointer (some ⟨1, 0, none⟩)), (6, .pointer (some ⟨4, 0, none⟩))], rdW (Crc.sealed (Bt.pack L)) (msB kk g f t i e a b (ByteArray.mk #[]) (.slice none 0 0)) (Bt.pack L) (Bt.bytesB (Bt.pack L)) ((wrL kk g f t i e a b 7).length : Nat), 1⟩ .normal ⟨[(0, .slice (some ⟨0, 0, none⟩) (pn L + 4) 0), (2, .pointer (some ⟨1, 0, none⟩)), (6, .pointer (some ⟨4, 0, none⟩))], rdW (Crc.sealed (Bt.pack L)) (msB kk g f t i e a b s (.slice none 0 0)) (Bt.pack L) (Bt.bytesB (Bt.pack L)) ((((wrL kk g f t i e a b 7).length + (2 * Bt.cz s.size + 1) + 8 * s.size) : Nat) : Int) ++ [rowB (byteV (nmX s))], 1⟩ := by
    have hr := rr6_1 (Crc.sealed (Bt.pack L)) (Bt.pack L) (Bt.bytesB (Bt.pack L)) (pn L + 4) kk g f t i e a b ((wrL kk g f t i e a b 7).length : Nat) ((((wrL kk g f t i e a b 7).length + (2 * Bt.cz s.size + 1) + 8 * s.size) : Nat) : Int) (nmX s)
    rw [sv_eq] at hr
    refine WP.run progOk extSound (nb_sound _ _ (sym_sound _ (frameT_sound _))) (by kernel_rfl) (LoopsOk.none (by kernel_rfl)) [0, 2, 6] (hr ) ?_
    intro q hq
    simp only [List.mem_cons, List.not_mem_nil, or_false] at hq
    rcases hq with rfl | rfl
    · exact u8_all _ hsn
    · exact tok (frameT_ok [4, 3] c61 (by exact ro_row hzne (ro_in rfl (ro_row hyne (ro_pk hlne (ro_in rfl (ro_nil)))))) (by exact rf_in rfl (rf_pk (rf_row rf_nil))))
  have d8 : (Bt.bytesB (Bt.pack L)).drop ((wrL kk g f t i e a b 7).length + (2 * Bt.cz s.size + 1) + 8 * s.size) = Bt.codeB 0 ++ List.replicate (Bt.pad L.length) false := by
    refine dropL (P := (wrL kk g f t i e a b 7 ++ Bt.codeB s.size ++ Bt.bytesB (nmX s))) ?_ (by simp only [List.length_append, Bt.codeB_length, Bt.bytesB_length, nmX_len])
    rw [hl, hL]
    simp only [List.append_assoc]
  have c62 := ebytesN_ok hlne hll d8
  have c14 := (write_ok1N hk hb hc hs hsn)
  rw [← hL] at c14
  have c40 : CallOk Tryz.prog 40 [.slice (some ⟨0, 0, none⟩) (pn L + 4) 0, .slice (some ⟨1, 0, none⟩) (pn L + 4) 0] [rowB (byteV (Crc.sealed (Bt.pack L))), rowB (byteV (Crc.sealed (Bt.pack L)))] (.bool true) [rowB (byteV (Crc.sealed (Bt.pack L))), rowB (byteV (Crc.sealed (Bt.pack L)))] 2 :=
    equal_ok (y := Crc.sealed (Bt.pack L)) (z := Crc.sealed (Bt.pack L)) rfl rfl rfl rfl (by omega) (by omega) (by omega) (by rw [List.drop_zero])
  have h7 : WP Tryz.prog (ntOf Tryz.prog 20 1) (tlC (tlC (tlC (tlC (tlC (tlC (tlC (bodyOf Tryz.prog 20)))))))) ⟨[(0, .slice (some ⟨0, 0, none⟩) (pn L + 4) 0), (2, .pointer (some ⟨1, 0, none⟩)), (6, .pointer (some ⟨4, 0, none⟩))], rdW (Crc.sealed (Bt.pack L)) (msB kk g f t i e a b s (.slice none 0 0)) (Bt.pack L) (Bt.bytesB (Bt.pack L)) ((((wrL kk g f t i e a b 7).length + (2 * Bt.cz s.size + 1) + 8 * s.size) : Nat) : Int) ++ [rowB (byteV (nmX s))], 1⟩ .ret ⟨[(2, .pointer (some ⟨1, 0, none⟩)), (3, .int .i64 0)], rdW (Crc.sealed (Bt.pack L)) (msB kk g f t i e a b s (.slice none 0 0)) (Bt.pack L) (Bt.bytesB (Bt.pack L)) (((((wrL kk g f t i e a b 7).length + (2 * Bt.cz s.size + 1) + 8 * s.size) + (2 * Bt.cz 0 + 1)) : Nat) : Int) ++ [rowB (byteV (nmX s)), rowB (byteV (Crc.sealed (Bt.pack L)))], 1⟩ := by
    refine WP.run progOk extSound (nb_sound _ _ (frameT_sound _)) (by kernel_rfl) (LoopsOk.none (by kernel_rfl)) [2, 3] (rr7_1N (Crc.sealed (Bt.pack L)) (Bt.pack L) (Bt.bytesB (Bt.pack L)) (pn L + 4) kk g f t i e a b ((((wrL kk g f t i e a b 7).length + (2 * Bt.cz s.size + 1) + 8 * s.size) : Nat) : Int) (((((wrL kk g f t i e a b 7).length + (2 * Bt.cz s.size + 1) + 8 * s.size) + (2 * Bt.cz 0 + 1)) : Nat) : Int) s (nmX s)) ?_
    intro q hq
    simp only [List.mem_cons, List.not_mem_nil, or_false] at hq
    rcases hq with rfl | rfl | rfl
    · exact tok (frameT_ok [6, 0] c40 (by exact ro_row hzne (ro_in rfl (ro_row hyne (ro_pk hlne (ro_in rfl (ro_row hsn (ro_row hzne ro_nil))))))) (by exact rf_row (rf_row rf_nil)))
    · exact tok (frameT_ok [] c14 (by exact ro_row hzne (ro_in rfl (ro_row hyne (ro_pk hlne (ro_in rfl (ro_row hsn ro_nil)))))) (by exact rf_row rf_nil))
    · exact tok (frameT_ok [4, 3] c62 (by exact ro_row hzne (ro_in rfl (ro_row hyne (ro_pk hlne (ro_in rfl (ro_row hsn ro_nil)))))) (by exact rf_in rfl (rf_pk rf_nil)))
  exact CallOk.walk (f := 20) (n := 1) (by kernel_rfl) rfl (rd_head (kk := kk) (g := g) (f := f) (t := t) (i := i) (e := e) (a := a) (b := b) hb hk hp hLl (WP.cut (by kernel_rfl) h6 h7)) (.inr rfl) (by kernel_rfl)
end Go.Proofs.YtpgmabpaiijipaaGreatDoor
namespace Go.Proofs.YtpgmabpaiijipaaGreatDoor
open Go Den
set_option maxRecDepth 100000
set_option linter.unusedSimpArgs false
set_option linter.unusedVariables false
def rxT (z : List Nat) : Nat → Tale := fun _ f _ _ => match f with
  | 15 => some (.tuple #[.slice none 0 0, .int .i64 30], [rowB (byteV z)], 1)
  | _ => none
theorem read_no_run (z : List Nat) (q : Nat) : evFnL Tryz.prog ext 300 (nmPre (frameTPre (rxT z))) (nbC [] [] (frameT (rxT z))) noLoops [(0,true)] 20 [.slice (some ⟨0, 0, none⟩) q 0] [rowB (byteV z)] =
  some ((.tuple #[msA 0 0 0 0 0 0 0 0 (ByteArray.mk #[]) (.slice none 0 0), .int .i64 30], [rowB (byteV z), msB 0 0 0 0 0 0 0 0 (ByteArray.mk #[]) (.slice none 0 0)], 1), [(frameTPre (rxT z) 15 [.slice (some ⟨0, 0, none⟩) q 0] [rowB (byteV z), msB 0 0 0 0 0 0 0 0 (ByteArray.mk #[]) (.slice none 0 0)], true)]) := by kernel_rfl
theorem read_no {y : List Nat} {m : Nat} (h0 : 0 < m) (hlen : y.length = m + 4) (hy : ∀ x ∈ y, x < 256) (hl : y.length ≤ 60000) (hs : y.drop m ≠ Crc.tail (Crc.sum (y.take m))) :
    CallOk Tryz.prog 20 [.slice (some ⟨0, 0, none⟩) (m + 4) 0] [rowB (byteV y)] (.tuple #[msA 0 0 0 0 0 0 0 0 (ByteArray.mk #[]) (.slice none 0 0), .int .i64 30]) [rowB (byteV y), msB 0 0 0 0 0 0 0 0 (ByteArray.mk #[]) (.slice none 0 0)] 1 := by
  have hyne : y ≠ [] := by intro e; rw [e] at hlen; simp at hlen
  refine fnL_ok progOk extSound (nb_sound _ _ (frameT_sound _)) noLoops_ok (read_no_run y (m + 4)) ?_
  intro q hq
  simp only [List.mem_cons, List.not_mem_nil, or_false] at hq
  rcases hq with rfl
  exact tok (frameT_ok [0] (open_not h0 hlen hy hl hs) (by exact ro_row hyne (ro_in rfl ro_nil)) (by exact rf_row rf_nil))
end Go.Proofs.YtpgmabpaiijipaaGreatDoor
namespace Go.Proofs.YtpgmabpaiijipaaGreatDoor
open Go Den
set_option maxRecDepth 100000
set_option linter.unusedSimpArgs false
set_option linter.unusedVariables false
theorem inR_nat {q : Int} (h : inR q = true) : ∃ n : Nat, q = (n : Nat) ∧ n ≤ 1073741824 := by
  unfold inR at h
  simp only [Bool.and_eq_true, decide_eq_true_eq] at h
  exact ⟨q.toNat, by omega, by omega⟩
theorem chkB_of {k g f t i e a b : Int} {s : ByteArray} {n : Nat} (h : chkB k g f t i e a b s n = true) :
    ∃ kk g' f' t' i' e' a' b' : Nat, k = kk ∧ g = g' ∧ f = f' ∧ t = t' ∧ i = i' ∧ e = e' ∧ a = a' ∧ b = b' ∧ kk < 16 ∧
      (g' ≤ 1073741824 ∧ f' ≤ 1073741824 ∧ t' ≤ 1073741824 ∧ i' ≤ 1073741824 ∧ e' ≤ 1073741824 ∧ a' ≤ 1073741824 ∧ b' ≤ 1073741824) ∧
      n ≤ 64 ∧ (kk = 13 ↔ 0 < n) ∧ s.size ≤ 64 ∧ (0 < n → s = ByteArray.mk #[]) := by
  unfold chkB at h
  simp only [Bool.and_eq_true, okS, okA, numL, decide_eq_true_eq] at h
  obtain ⟨⟨⟨⟨⟨⟨⟨⟨⟨hk1, hk2, hn, hkn⟩, h0⟩, h1⟩, h2⟩, h3⟩, h4⟩, h5⟩, h6⟩, hK⟩ := h
  obtain ⟨g', rfl, hg⟩ := inR_nat h0
  obtain ⟨f', rfl, hf⟩ := inR_nat h1
  obtain ⟨t', rfl, ht⟩ := inR_nat h2
  obtain ⟨i', rfl, hi⟩ := inR_nat h3
  obtain ⟨e', rfl, he⟩ := inR_nat h4
  obtain ⟨a', rfl, ha⟩ := inR_nat h5
  obtain ⟨b', rfl, hb⟩ := inR_nat h6
  have hiff : k = 13 ↔ 0 < n := by
    have : (decide (k = 13)) = decide ((n : Int) > 0) := by
      have e1 : (k == 13) = decide (k = 13) := by rfl
      rw [← e1]; simpa using hkn
    rw [decide_eq_decide] at this
    rw [this]; omega
  have hemp : ∀ {l : ByteArray}, l.toList = [] → l = ByteArray.mk #[] := by
    intro l hl
    rw [ByteArray.toList_eq] at hl
    cases l with
    | mk d =>
      have h2 : d = #[] := Array.toList_inj.1 hl
      rw [h2]
  refine ⟨k.toNat, g', f', t', i', e', a', b', by omega, rfl, rfl, rfl, rfl, rfl, rfl, rfl, by omega, ⟨hg, hf, ht, hi, he, ha, hb⟩, by omega, ⟨fun h => hiff.1 (by omega), fun h => by have := hiff.2 h; omega⟩, ?_, ?_⟩
  · unfold okK at hK
    cases hc : (k == 1) || ((k == 9) || (k == 5)) with
    | true => rw [hc] at hK; exact nmB_size hK
    | false =>
      rw [hc] at hK
      have : s.toList = [] := by simpa using hK
      rw [hemp this]; decide
  · intro h0
    have h13 := hiff.2 h0
    unfold okK at hK
    subst h13
    exact hemp (by simpa using hK)
theorem read_ok0N {kk g f t i e a b : Nat} (hk : kk < 16) (hb : g ≤ 1073741824 ∧ f ≤ 1073741824 ∧ t ≤ 1073741824 ∧ i ≤ 1073741824 ∧ e ≤ 1073741824 ∧ a ≤ 1073741824 ∧ b ≤ 1073741824) (hc : chkB kk g f t i e a b (ByteArray.mk #[]) 0 = true) {L : List Bool} (hL : L = (((wrL kk g f t i e a b 7) ++ Bt.codeB 0) ++ Bt.codeB 0)) :
    CallOk Tryz.prog 20 [.slice (some ⟨0, 0, none⟩) (pn L + 4) 0] [rowB (byteV (Crc.sealed (Bt.pack L)))] (.tuple #[msA kk g f t i e a b (ByteArray.mk #[]) (.slice none 0 0), .int .i64 0]) [rowB (byteV (Crc.sealed (Bt.pack L)))] 1 := by
  refine CallOk.view (read_raw0N hk hb hc hL) (Views.canon [] (by simp [rdW]) (by simp) (by simp [rdW]) rfl (fun i b2 hi hb => ?_) (fun j i b2 hj hb => ?_) (renF_get rfl))
  · match i, hi with
    | 0, _ => injection hb with hb; subst hb; exact ⟨_, rfl, renA_row _ _ _ _⟩
    | n + 1, hi => exact absurd hi (by simp)
  · simp at hj
theorem read_ok0R {kk g f t i e a b : Nat} {x : List Nat} (hk : kk < 16) (hb : g ≤ 1073741824 ∧ f ≤ 1073741824 ∧ t ≤ 1073741824 ∧ i ≤ 1073741824 ∧ e ≤ 1073741824 ∧ a ≤ 1073741824 ∧ b ≤ 1073741824) (hc : chkB kk g f t i e a b (ByteArray.mk #[]) x.length = true) (hxn : x ≠ []) (hx : ∀ b ∈ x, b < 256) (hxl : x.length ≤ 64) {L : List Bool} (hL : L = ((((wrL kk g f t i e a b 7) ++ Bt.codeB 0) ++ Bt.codeB x.length) ++ Bt.bytesB x)) :
    CallOk Tryz.prog 20 [.slice (some ⟨0, 0, none⟩) (pn L + 4) 0] [rowB (byteV (Crc.sealed (Bt.pack L)))] (.tuple #[msA kk g f t i e a b (ByteArray.mk #[]) (.slice (some ⟨1, 0, none⟩) x.length 0), .int .i64 0]) [rowB (byteV (Crc.sealed (Bt.pack L))), rowB (byteV x)] 1 := by
  refine CallOk.view (read_raw0R hk hb hc hxn hx hxl hL) (Views.canon [5] (by simp [rdW]) (by simp) (by simp [rdW]) rfl (fun i b2 hi hb => ?_) (fun j i b2 hj hb => ?_) (renF_get rfl))
  · match i, hi with
    | 0, _ => injection hb with hb; subst hb; exact ⟨_, rfl, renA_row _ _ _ _⟩
    | n + 1, hi => exact absurd hi (by simp)
  · match j, hj with
    | 0, hj =>
      injection hj with hj
      subst hj
      injection hb with hb
      subst hb
      exact ⟨_, rfl, renA_row _ _ _ _⟩
theorem read_ok1N {kk g f t i e a b : Nat} {s : ByteArray} (hk : kk < 16) (hb : g ≤ 1073741824 ∧ f ≤ 1073741824 ∧ t ≤ 1073741824 ∧ i ≤ 1073741824 ∧ e ≤ 1073741824 ∧ a ≤ 1073741824 ∧ b ≤ 1073741824) (hc : chkB kk g f t i e a b s 0 = true) (hs : s.size ≤ 64) (hsn : nmX s ≠ []) {L : List Bool} (hL : L = ((((wrL kk g f t i e a b 7) ++ Bt.codeB s.size) ++ Bt.bytesB (nmX s)) ++ Bt.codeB 0)) :
    CallOk Tryz.prog 20 [.slice (some ⟨0, 0, none⟩) (pn L + 4) 0] [rowB (byteV (Crc.sealed (Bt.pack L)))] (.tuple #[msA kk g f t i e a b s (.slice none 0 0), .int .i64 0]) [rowB (byteV (Crc.sealed (Bt.pack L)))] 1 := by
  refine CallOk.view (read_raw1N hk hb hc hs hsn hL) (Views.canon [] (by simp [rdW]) (by simp) (by simp [rdW]) rfl (fun i b2 hi hb => ?_) (fun j i b2 hj hb => ?_) (renF_get rfl))
  · match i, hi with
    | 0, _ => injection hb with hb; subst hb; exact ⟨_, rfl, renA_row _ _ _ _⟩
    | n + 1, hi => exact absurd hi (by simp)
  · simp at hj
end Go.Proofs.YtpgmabpaiijipaaGreatDoor
namespace Go.Proofs.YtpgmabpaiijipaaGreatDoor.Den
open Go
def isBlk : Code → Bool
  | .block _ _ => true
  | .scope _ => true
  | _ => false
def inC : Code → Code
  | .block _ b => b
  | .scope b => b
  | c => c
def elseC : Code → Code
  | .cond _ _ b => b
  | _ => .skip
section
variable {P : Program} {nt : Nat}
theorem WP.inB {c : Code} (hc : isBlk c = true) {s : St} {x : Ex} {s' : St} (hx : x = .normal ∨ x = .ret) (h : WP P nt (inC c) s x s') : WP P nt c s x s' := by
  unfold isBlk at hc
  split at hc
  · refine fun B Ds ρ0 H0 w0 ρ a w Q hR hF hM hQ => wpIn_block (h B Ds ρ0 H0 w0 ρ a w _ hR hF hM fun ρ1 D1 a1 w1 g p q m k => ?_)
    have := hQ ρ1 D1 a1 w1 g p q m k
    rcases hx with rfl | rfl
    · exact this
    · exact this
  · refine fun B Ds ρ0 H0 w0 ρ a w Q hR hF hM hQ => wpIn_scope (h B Ds ρ0 H0 w0 ρ a w _ hR hF hM fun ρ1 D1 a1 w1 g p q m k => ?_)
    have := hQ ρ1 D1 a1 w1 g p q m k
    rcases hx with rfl | rfl
    · exact this
    · exact this
  · simp at hc
end
end Go.Proofs.YtpgmabpaiijipaaGreatDoor.Den
