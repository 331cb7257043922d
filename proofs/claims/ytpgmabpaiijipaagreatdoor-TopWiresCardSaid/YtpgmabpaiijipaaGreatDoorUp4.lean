/-
  up(): calls at closed arguments, worked out by the evaluator.
-/
import Derived.Test.YtpgmabpaiijipaaGreatDoorUp3
namespace Go.Proofs.YtpgmabpaiijipaaGreatDoor
open Go Den
set_option maxRecDepth 100000
noncomputable def tRh : Tld := ⟨116, [.agg #[.int .i64 2, .slice (some ⟨0, 0, none⟩) 1 0, .slice none 0 0], .int .i64 0, .int .i64 1], [⟨true, some 13, [.int .i64 1, .int .i64 1, .int .i64 1, .int .i64 1, .int .i64 0, .int .i64 1, .int .i64 0, .int .i64 0, .int .i64 0, .string ⟨#[49]⟩, .slice none 0 0, .int .i64 4, .int .i64 5]⟩], .tuple #[.agg #[.int .i64 2, .slice (some ⟨1, 0, none⟩) 1 0, .slice (some ⟨2, 0, none⟩) 1 0], .bool true, .int .i64 0], [⟨true, some 13, [.int .i64 1, .int .i64 1, .int .i64 1, .int .i64 1, .int .i64 0, .int .i64 1, .int .i64 0, .int .i64 0, .int .i64 0, .string ⟨#[49]⟩, .slice none 0 0, .int .i64 4, .int .i64 5]⟩,
  ⟨true, some 13, [.int .i64 1, .int .i64 1, .int .i64 1, .int .i64 1, .int .i64 0, .int .i64 1, .int .i64 0, .int .i64 0, .int .i64 0, .string ⟨#[49]⟩, .slice none 0 0, .int .i64 4, .int .i64 5]⟩,
  ⟨true, some 3, [.int .i64 0, .int .i64 0, .slice (some ⟨3, 0, none⟩) 1 0]⟩,
  ⟨true, some 1, [.int .i64 1]⟩], 1⟩
theorem tRh_run : evG Tryz.prog ext 400 (tellT []) 30 tRh.f tRh.args tRh.H = some (tRh.v, tRh.H', tRh.l) := by kernel_rfl
theorem tRh_ok : CallOk Tryz.prog tRh.f tRh.args tRh.H tRh.v tRh.H' tRh.l :=
  evG_sound progOk extSound 400 (tellT_sound _ (by intro t ht; simp at ht)) 30 _ _ _ _ _ _ tRh_run
noncomputable def tAn : Tld := ⟨175, [.agg #[.int .i64 2, .slice (some ⟨0, 0, none⟩) 1 0, .slice (some ⟨1, 0, none⟩) 1 0], .int .i64 1], [⟨true, some 13, [.int .i64 1, .int .i64 1, .int .i64 1, .int .i64 1, .int .i64 0, .int .i64 1, .int .i64 0, .int .i64 0, .int .i64 0, .string ⟨#[49]⟩, .slice none 0 0, .int .i64 4, .int .i64 5]⟩, ⟨true, some 3, [.int .i64 0, .int .i64 0, .slice (some ⟨2, 0, none⟩) 1 0]⟩, ⟨true, some 1, [.int .i64 1]⟩], .tuple #[.agg #[.int .i64 2, .slice (some ⟨3, 0, some 0⟩) 0 0, .slice (some ⟨4, 0, none⟩) 1 0], .bool true, .int .i64 0], [⟨true, some 13, [.int .i64 1, .int .i64 1, .int .i64 1, .int .i64 1, .int .i64 0, .int .i64 1, .int .i64 0, .int .i64 0, .int .i64 0, .string ⟨#[49]⟩, .slice none 0 0, .int .i64 4, .int .i64 5]⟩,
  ⟨true, some 3, [.int .i64 0, .int .i64 0, .slice (some ⟨2, 0, none⟩) 1 0]⟩,
  ⟨true, some 1, [.int .i64 1]⟩,
  ⟨true, some 13, List.flatten [List.replicate 9 (.int .i64 0), [.string ⟨#[]⟩, .slice none 0 0, .int .i64 0, .int .i64 0]]⟩,
  ⟨true, some 3, [.int .i64 0, .int .i64 0, .slice (some ⟨5, 0, none⟩) 1 0]⟩,
  ⟨true, some 1, [.int .i64 1]⟩], 3⟩
theorem tAn_run : evG Tryz.prog ext 400 (tellT []) 30 tAn.f tAn.args tAn.H = some (tAn.v, tAn.H', tAn.l) := by kernel_rfl
theorem tAn_ok : CallOk Tryz.prog tAn.f tAn.args tAn.H tAn.v tAn.H' tAn.l :=
  evG_sound progOk extSound 400 (tellT_sound _ (by intro t ht; simp at ht)) 30 _ _ _ _ _ _ tAn_run
noncomputable def tTr2 : Tld := ⟨64, [.agg (Array.mk (List.flatten [[.int .i64 1, .int .i64 1, .string ⟨#[49]⟩, .int .i64 1, .int .i64 0, .int .i64 0, .int .i64 0, .int .i64 0, .int .i64 2, .slice (some ⟨0, 0, none⟩) 1 0, .slice none 0 0], List.replicate 41 (.int .i64 0), [.bool false, .bool false, .int .u32 1, .int .i64 0, .int .i64 0, .int .i64 0, .bool false, .int .i64 0, .int .i64 2, .int .i64 0, .slice none 0 0], List.replicate 22 (.int .i64 0), [.bool false, .bool false, .int .u32 1, .bool false, .int .i64 0, .int .i64 0]])), .agg #[.int .i64 15, .int .i64 1, .int .i64 0, .int .i64 1, .int .i64 1, .int .i64 0, .int .i64 0, .int .i64 0, .string ⟨#[]⟩, .slice none 0 0]], [⟨true, some 13, [.int .i64 1, .int .i64 1, .int .i64 1, .int .i64 1, .int .i64 0, .int .i64 1, .int .i64 0, .int .i64 0, .int .i64 0, .string ⟨#[49]⟩, .slice none 0 0, .int .i64 4, .int .i64 5]⟩], .tuple #[.agg (Array.mk (List.flatten [[.int .i64 1, .int .i64 1, .string ⟨#[49]⟩, .int .i64 2, .int .i64 0, .int .i64 0, .int .i64 0, .int .i64 0, .int .i64 2, .slice (some ⟨1, 0, some 0⟩) 0 0, .slice (some ⟨2, 0, none⟩) 1 0], List.replicate 41 (.int .i64 0), [.bool false, .bool false, .int .u32 1, .int .i64 0, .int .i64 0, .int .i64 0, .bool false, .int .i64 0, .int .i64 2, .int .i64 0, .slice none 0 0], List.replicate 22 (.int .i64 0), [.bool false, .bool false, .int .u32 1, .bool false, .int .i64 0, .int .i64 0]])), .slice (some ⟨3, 0, none⟩) 1 0, .int .i64 0], [⟨true, some 13, [.int .i64 1, .int .i64 1, .int .i64 1, .int .i64 1, .int .i64 0, .int .i64 1, .int .i64 0, .int .i64 0, .int .i64 0, .string ⟨#[49]⟩, .slice none 0 0, .int .i64 4, .int .i64 5]⟩,
  ⟨true, some 13, List.flatten [List.replicate 9 (.int .i64 0), [.string ⟨#[]⟩, .slice none 0 0, .int .i64 0, .int .i64 0]]⟩,
  ⟨true, some 3, [.int .i64 0, .int .i64 0, .slice (some ⟨4, 0, none⟩) 1 0]⟩,
  ⟨true, some 10, [.int .i64 11, .int .i64 1, .int .i64 1, .int .i64 0, .int .i64 1, .int .i64 0, .int .i64 0, .int .i64 0, .string ⟨#[]⟩, .slice none 0 0]⟩,
  ⟨true, some 1, [.int .i64 1]⟩], 1⟩
theorem tTr2_run : evG Tryz.prog ext 400 (tellT [tDc, tTc2, tTof2, tRh, tAn]) 30 tTr2.f tTr2.args tTr2.H = some (tTr2.v, tTr2.H', tTr2.l) := by kernel_rfl
theorem tTr2_ok : CallOk Tryz.prog tTr2.f tTr2.args tTr2.H tTr2.v tTr2.H' tTr2.l :=
  evG_sound progOk extSound 400 (tellT_sound _ (by
  intro t ht
  simp only [List.mem_cons, List.not_mem_nil, or_false] at ht
  rcases ht with rfl | rfl | rfl | rfl | rfl
  · exact tDc_ok
  · exact tTc2_ok
  · exact tTof2_ok
  · exact tRh_ok
  · exact tAn_ok)) 30 _ _ _ _ _ _ tTr2_run
noncomputable def tD3 : Tld := ⟨63, [.pointer (some ⟨0, 0, none⟩), .agg #[.int .i64 3, .int .i64 0, .int .i64 0, .int .i64 0, .int .i64 0, .int .i64 0, .int .i64 0]], [⟨true, none, [.int .i64 0, .slice (some ⟨1, 0, none⟩) 1 0, .slice (some ⟨2, 0, none⟩) 1 0, .slice (some ⟨3, 0, none⟩) 1 0, .slice (some ⟨4, 0, none⟩) 1 1, .int .i64 21, .slice (some ⟨5, 0, none⟩) 1 1]⟩,
  ⟨true, some 10, [.int .i64 1, .int .i64 0, .int .i64 0, .int .i64 0, .int .i64 0, .int .i64 0, .int .i64 0, .int .i64 0, .slice none 0 0, .slice (some ⟨6, 0, none⟩) 1 0]⟩,
  ⟨true, some 5, [.int .i64 1, .string ⟨#[49]⟩, .int .i64 2, .slice (some ⟨7, 0, none⟩) 1 0, .slice (some ⟨8, 0, none⟩) 1 0]⟩,
  ⟨true, some 91, List.flatten [[.int .i64 1, .int .i64 1, .string ⟨#[49]⟩, .int .i64 1, .int .i64 0, .int .i64 0, .int .i64 0, .int .i64 0, .int .i64 2, .slice (some ⟨9, 0, none⟩) 1 0, .slice none 0 0], List.replicate 41 (.int .i64 0), [.bool false, .bool false, .int .u32 1, .int .i64 0, .int .i64 0, .int .i64 0, .bool false, .int .i64 0, .int .i64 2, .int .i64 0, .slice none 0 0], List.replicate 22 (.int .i64 0), [.bool false, .bool false, .int .u32 1, .bool false, .int .i64 0, .int .i64 0]]⟩,
  ⟨true, none, List.replicate 16 (.int .i64 0)⟩,
  ⟨true, none, [.int .i64 1, .slice (some ⟨10, 0, none⟩) 7 0]⟩,
  ⟨true, some 1, [.int .i64 1]⟩,
  ⟨true, some 13, [.int .i64 1, .int .i64 15, .int .i64 1, .int .i64 0, .int .i64 1, .int .i64 1, .int .i64 0, .int .i64 0, .int .i64 0, .string ⟨#[]⟩, .slice none 0 0, .int .i64 4, .int .i64 5]⟩,
  ⟨true, some 3, [.int .i64 1, .int .i64 0, .slice (some ⟨11, 0, none⟩) 1 0]⟩,
  ⟨true, some 13, [.int .i64 1, .int .i64 1, .int .i64 1, .int .i64 1, .int .i64 0, .int .i64 1, .int .i64 0, .int .i64 0, .int .i64 0, .string ⟨#[49]⟩, .slice none 0 0, .int .i64 4, .int .i64 5]⟩,
  ⟨true, some 1, [.int .u8 245, .int .u8 75, .int .u8 224, .int .u8 159, .int .u8 28, .int .u8 201, .int .u8 255]⟩,
  ⟨true, some 1, [.int .i64 1]⟩], .int .i64 0, [⟨true, none, [.int .i64 0, .slice (some ⟨1, 0, none⟩) 1 0, .slice (some ⟨2, 0, none⟩) 1 0, .slice (some ⟨3, 0, none⟩) 1 0, .slice (some ⟨4, 0, none⟩) 1 1, .int .i64 21, .slice (some ⟨12, 0, none⟩) 1 1]⟩,
  ⟨true, some 10, [.int .i64 1, .int .i64 0, .int .i64 0, .int .i64 0, .int .i64 0, .int .i64 0, .int .i64 0, .int .i64 0, .slice none 0 0, .slice (some ⟨6, 0, none⟩) 1 0]⟩,
  ⟨true, some 5, [.int .i64 1, .string ⟨#[49]⟩, .int .i64 2, .slice (some ⟨7, 0, none⟩) 1 0, .slice (some ⟨8, 0, none⟩) 1 0]⟩,
  ⟨true, some 91, List.flatten [[.int .i64 1, .int .i64 1, .string ⟨#[49]⟩, .int .i64 2, .int .i64 0, .int .i64 0, .int .i64 0, .int .i64 0, .int .i64 2, .slice (some ⟨13, 0, some 0⟩) 0 0, .slice (some ⟨14, 0, none⟩) 1 0], List.replicate 41 (.int .i64 0), [.bool false, .bool false, .int .u32 1, .int .i64 0, .int .i64 0, .int .i64 0, .bool false, .int .i64 0, .int .i64 2, .int .i64 0, .slice none 0 0], List.replicate 22 (.int .i64 0), [.bool false, .bool false, .int .u32 1, .bool false, .int .i64 0, .int .i64 0]]⟩,
  ⟨true, none, List.replicate 16 (.int .i64 0)⟩,
  ⟨true, none, [.int .i64 1, .slice (some ⟨10, 0, none⟩) 7 0]⟩,
  ⟨true, some 1, [.int .i64 1]⟩,
  ⟨true, some 13, [.int .i64 1, .int .i64 15, .int .i64 1, .int .i64 0, .int .i64 1, .int .i64 1, .int .i64 0, .int .i64 0, .int .i64 0, .string ⟨#[]⟩, .slice none 0 0, .int .i64 4, .int .i64 5]⟩,
  ⟨true, some 3, [.int .i64 1, .int .i64 0, .slice (some ⟨11, 0, none⟩) 1 0]⟩,
  ⟨true, some 13, [.int .i64 1, .int .i64 1, .int .i64 1, .int .i64 1, .int .i64 0, .int .i64 1, .int .i64 0, .int .i64 0, .int .i64 0, .string ⟨#[49]⟩, .slice none 0 0, .int .i64 4, .int .i64 5]⟩,
  ⟨true, some 1, [.int .u8 245, .int .u8 75, .int .u8 224, .int .u8 159, .int .u8 28, .int .u8 201, .int .u8 255]⟩,
  ⟨true, some 1, [.int .i64 1]⟩,
  ⟨true, none, [.int .i64 0, .slice (some ⟨15, 0, none⟩) 7 0]⟩,
  ⟨true, some 13, List.flatten [List.replicate 9 (.int .i64 0), [.string ⟨#[]⟩, .slice none 0 0, .int .i64 0, .int .i64 0]]⟩,
  ⟨true, some 3, [.int .i64 0, .int .i64 0, .slice (some ⟨16, 0, none⟩) 1 0]⟩,
  ⟨true, some 1, [.int .u8 180, .int .u8 171, .int .u8 224, .int .u8 132, .int .u8 8, .int .u8 239, .int .u8 208]⟩,
  ⟨true, some 1, [.int .i64 1]⟩], 0⟩
theorem tD3_run : evG Tryz.prog ext 400 (tellT [tRd2, tTr2, tWr3]) 30 tD3.f tD3.args tD3.H = some (tD3.v, tD3.H', tD3.l) := by kernel_rfl
theorem tD3_ok : CallOk Tryz.prog tD3.f tD3.args tD3.H tD3.v tD3.H' tD3.l :=
  evG_sound progOk extSound 400 (tellT_sound _ (by
  intro t ht
  simp only [List.mem_cons, List.not_mem_nil, or_false] at ht
  rcases ht with rfl | rfl | rfl
  · exact tRd2_ok
  · exact tTr2_ok
  · exact tWr3_ok)) 30 _ _ _ _ _ _ tD3_run
noncomputable def tCl : Tld := ⟨24, [.pointer (some ⟨0, 0, none⟩), .int .i64 0], [⟨true, none, [.int .i64 0, .slice (some ⟨1, 0, none⟩) 1 0, .slice (some ⟨2, 0, none⟩) 1 0, .slice (some ⟨3, 0, none⟩) 1 0, .slice (some ⟨4, 0, none⟩) 1 1, .int .i64 21, .slice (some ⟨5, 0, none⟩) 1 1]⟩,
  ⟨true, some 10, [.int .i64 1, .int .i64 0, .int .i64 0, .int .i64 0, .int .i64 0, .int .i64 0, .int .i64 0, .int .i64 0, .slice none 0 0, .slice (some ⟨6, 0, none⟩) 1 0]⟩,
  ⟨true, some 5, [.int .i64 1, .string ⟨#[49]⟩, .int .i64 2, .slice (some ⟨7, 0, none⟩) 1 0, .slice (some ⟨8, 0, none⟩) 1 0]⟩,
  ⟨true, some 91, List.flatten [[.int .i64 1, .int .i64 1, .string ⟨#[49]⟩, .int .i64 2, .int .i64 0, .int .i64 0, .int .i64 0, .int .i64 0, .int .i64 2, .slice (some ⟨9, 0, some 0⟩) 0 0, .slice (some ⟨10, 0, none⟩) 1 0], List.replicate 41 (.int .i64 0), [.bool false, .bool false, .int .u32 1, .int .i64 0, .int .i64 0, .int .i64 0, .bool false, .int .i64 0, .int .i64 2, .int .i64 0, .slice none 0 0], List.replicate 22 (.int .i64 0), [.bool false, .bool false, .int .u32 1, .bool false, .int .i64 0, .int .i64 0]]⟩,
  ⟨true, none, List.replicate 16 (.int .i64 0)⟩,
  ⟨true, none, [.int .i64 0, .slice (some ⟨11, 0, none⟩) 7 0]⟩,
  ⟨true, some 1, [.int .i64 1]⟩,
  ⟨true, some 13, [.int .i64 1, .int .i64 15, .int .i64 1, .int .i64 0, .int .i64 1, .int .i64 1, .int .i64 0, .int .i64 0, .int .i64 0, .string ⟨#[]⟩, .slice none 0 0, .int .i64 4, .int .i64 5]⟩,
  ⟨true, some 3, [.int .i64 1, .int .i64 0, .slice (some ⟨12, 0, none⟩) 1 0]⟩,
  ⟨true, some 13, List.flatten [List.replicate 9 (.int .i64 0), [.string ⟨#[]⟩, .slice none 0 0, .int .i64 0, .int .i64 0]]⟩,
  ⟨true, some 3, [.int .i64 0, .int .i64 0, .slice (some ⟨13, 0, none⟩) 1 0]⟩,
  ⟨true, some 1, [.int .u8 180, .int .u8 171, .int .u8 224, .int .u8 132, .int .u8 8, .int .u8 239, .int .u8 208]⟩,
  ⟨true, some 1, [.int .i64 1]⟩,
  ⟨true, some 1, [.int .i64 1]⟩], .tuple #[.agg (Array.mk (List.flatten [[.int .i64 1, .int .i64 1, .string ⟨#[49]⟩, .int .i64 2, .int .i64 0, .int .i64 0, .int .i64 0, .int .i64 0, .int .i64 2, .slice (some ⟨0, 0, some 1⟩) 0 0, .slice (some ⟨14, 0, none⟩) 1 0], List.replicate 41 (.int .i64 0), [.bool false, .bool false, .int .u32 1, .int .i64 0, .int .i64 0, .int .i64 0, .bool false, .int .i64 0, .int .i64 2, .int .i64 0, .slice none 0 0], List.replicate 22 (.int .i64 0), [.bool false, .bool false, .int .u32 1, .bool false, .int .i64 0, .int .i64 0]])), .bool true], [⟨true, none, [.int .i64 0, .slice (some ⟨1, 0, none⟩) 1 0, .slice (some ⟨2, 0, none⟩) 1 0, .slice (some ⟨3, 0, none⟩) 1 0, .slice (some ⟨4, 0, none⟩) 1 1, .int .i64 21, .slice (some ⟨5, 0, none⟩) 1 1]⟩,
  ⟨true, some 10, [.int .i64 1, .int .i64 0, .int .i64 0, .int .i64 0, .int .i64 0, .int .i64 0, .int .i64 0, .int .i64 0, .slice none 0 0, .slice (some ⟨6, 0, none⟩) 1 0]⟩,
  ⟨true, some 5, [.int .i64 1, .string ⟨#[49]⟩, .int .i64 2, .slice (some ⟨7, 0, none⟩) 1 0, .slice (some ⟨8, 0, none⟩) 1 0]⟩,
  ⟨true, some 91, List.flatten [[.int .i64 1, .int .i64 1, .string ⟨#[49]⟩, .int .i64 2, .int .i64 0, .int .i64 0, .int .i64 0, .int .i64 0, .int .i64 2, .slice (some ⟨9, 0, some 0⟩) 0 0, .slice (some ⟨10, 0, none⟩) 1 0], List.replicate 41 (.int .i64 0), [.bool false, .bool false, .int .u32 1, .int .i64 0, .int .i64 0, .int .i64 0, .bool false, .int .i64 0, .int .i64 2, .int .i64 0, .slice none 0 0], List.replicate 22 (.int .i64 0), [.bool false, .bool false, .int .u32 1, .bool false, .int .i64 0, .int .i64 0]]⟩,
  ⟨true, none, List.replicate 16 (.int .i64 0)⟩,
  ⟨true, none, [.int .i64 0, .slice (some ⟨11, 0, none⟩) 7 0]⟩,
  ⟨true, some 1, [.int .i64 1]⟩,
  ⟨true, some 13, [.int .i64 1, .int .i64 15, .int .i64 1, .int .i64 0, .int .i64 1, .int .i64 1, .int .i64 0, .int .i64 0, .int .i64 0, .string ⟨#[]⟩, .slice none 0 0, .int .i64 4, .int .i64 5]⟩,
  ⟨true, some 3, [.int .i64 1, .int .i64 0, .slice (some ⟨12, 0, none⟩) 1 0]⟩,
  ⟨true, some 13, List.flatten [List.replicate 9 (.int .i64 0), [.string ⟨#[]⟩, .slice none 0 0, .int .i64 0, .int .i64 0]]⟩,
  ⟨true, some 3, [.int .i64 0, .int .i64 0, .slice (some ⟨13, 0, none⟩) 1 0]⟩,
  ⟨true, some 1, [.int .u8 180, .int .u8 171, .int .u8 224, .int .u8 132, .int .u8 8, .int .u8 239, .int .u8 208]⟩,
  ⟨true, some 1, [.int .i64 1]⟩,
  ⟨true, some 1, [.int .i64 1]⟩,
  ⟨true, some 3, [.int .i64 0, .int .i64 0, .slice (some ⟨15, 0, none⟩) 1 0]⟩,
  ⟨true, some 1, [.int .i64 1]⟩], 14⟩
theorem tCl_run : evG Tryz.prog ext 400 (tellT [tDc]) 30 tCl.f tCl.args tCl.H = some (tCl.v, tCl.H', tCl.l) := by kernel_rfl
theorem tCl_ok : CallOk Tryz.prog tCl.f tCl.args tCl.H tCl.v tCl.H' tCl.l :=
  evG_sound progOk extSound 400 (tellT_sound _ (by intro t ht; simp only [List.mem_cons, List.not_mem_nil, or_false] at ht; subst ht; exact tDc_ok)) 30 _ _ _ _ _ _ tCl_run
noncomputable def tUp : Tld := ⟨5, [], [], .bool true, [], 0⟩
theorem tUp_run : evG Tryz.prog ext 400 (tellT [tWn, tD1, tD2, tD3, tCl]) 30 tUp.f tUp.args tUp.H = some (tUp.v, tUp.H', tUp.l) := by kernel_rfl
theorem tUp_ok : CallOk Tryz.prog tUp.f tUp.args tUp.H tUp.v tUp.H' tUp.l :=
  evG_sound progOk extSound 400 (tellT_sound _ (by
  intro t ht
  simp only [List.mem_cons, List.not_mem_nil, or_false] at ht
  rcases ht with rfl | rfl | rfl | rfl | rfl
  · exact tWn_ok
  · exact tD1_ok
  · exact tD2_ok
  · exact tD3_ok
  · exact tCl_ok)) 30 _ _ _ _ _ _ tUp_run
end Go.Proofs.YtpgmabpaiijipaaGreatDoor
