/-
  up(): calls at closed arguments, worked out by the evaluator.
-/
import Derived.Test.YtpgmabpaiijipaaGreatDoorUp2
namespace Go.Proofs.YtpgmabpaiijipaaGreatDoor
open Go Den
set_option maxRecDepth 100000
noncomputable def tSr1 : Tld := ⟨166, [.agg #[.int .i64 0, .slice none 0 0, .slice none 0 0], .agg #[.int .i64 1, .int .i64 1, .int .i64 1, .int .i64 0, .int .i64 1, .int .i64 0, .int .i64 0, .int .i64 0, .string ⟨#[49]⟩, .slice none 0 0]], [], .tuple #[.agg #[.int .i64 0, .slice (some ⟨0, 0, none⟩) 1 0, .slice (some ⟨1, 0, none⟩) 1 0], .slice (some ⟨2, 0, none⟩) 1 0, .int .i64 0], [⟨true, some 10, [.int .i64 1, .int .i64 0, .int .i64 0, .int .i64 0, .int .i64 0, .int .i64 0, .int .i64 0, .int .i64 0, .slice none 0 0, .slice (some ⟨3, 0, none⟩) 1 0]⟩,
  ⟨true, some 5, [.int .i64 1, .string ⟨#[49]⟩, .int .i64 2, .slice (some ⟨4, 0, none⟩) 1 0, .slice (some ⟨5, 0, none⟩) 1 0]⟩,
  ⟨true, some 10, [.int .i64 15, .int .i64 1, .int .i64 0, .int .i64 1, .int .i64 1, .int .i64 0, .int .i64 0, .int .i64 0, .string ⟨#[]⟩, .slice none 0 0]⟩,
  ⟨true, some 1, [.int .i64 1]⟩,
  ⟨true, some 13, [.int .i64 1, .int .i64 15, .int .i64 1, .int .i64 0, .int .i64 1, .int .i64 1, .int .i64 0, .int .i64 0, .int .i64 0, .string ⟨#[]⟩, .slice none 0 0, .int .i64 4, .int .i64 5]⟩,
  ⟨true, some 3, [.int .i64 1, .int .i64 0, .slice (some ⟨6, 0, none⟩) 1 0]⟩,
  ⟨true, some 1, [.int .i64 1]⟩], 0⟩
theorem tSr1_run : evG Tryz.prog ext 400 (tellT []) 30 tSr1.f tSr1.args tSr1.H = some (tSr1.v, tSr1.H', tSr1.l) := by kernel_rfl
theorem tSr1_ok : CallOk Tryz.prog tSr1.f tSr1.args tSr1.H tSr1.v tSr1.H' tSr1.l :=
  evG_sound progOk extSound 400 (tellT_sound _ (by intro t ht; simp at ht)) 30 _ _ _ _ _ _ tSr1_run
noncomputable def tWr2 : Tld := ⟨14, [.agg #[.int .i64 15, .int .i64 1, .int .i64 0, .int .i64 1, .int .i64 1, .int .i64 0, .int .i64 0, .int .i64 0, .string ⟨#[]⟩, .slice none 0 0]], [], .tuple #[.slice (some ⟨0, 0, none⟩) 7 0, .int .i64 0], [⟨true, some 1, [.int .u8 245, .int .u8 75, .int .u8 224, .int .u8 159, .int .u8 28, .int .u8 201, .int .u8 255]⟩], 0⟩
theorem tWr2_run : evG Tryz.prog ext 400 (tellT [toldGet]) 30 tWr2.f tWr2.args tWr2.H = some (tWr2.v, tWr2.H', tWr2.l) := by kernel_rfl
theorem tWr2_ok : CallOk Tryz.prog tWr2.f tWr2.args tWr2.H tWr2.v tWr2.H' tWr2.l :=
  evG_sound progOk extSound 400 (tellT_sound _ (by intro t ht; simp only [List.mem_cons, List.not_mem_nil, or_false] at ht; subst ht; exact get_ok)) 30 _ _ _ _ _ _ tWr2_run
noncomputable def tD2 : Tld := ⟨63, [.pointer (some ⟨0, 0, none⟩), .agg #[.int .i64 3, .int .i64 0, .int .i64 0, .int .i64 0, .int .i64 0, .int .i64 0, .int .i64 0]], [⟨true, none, [.int .i64 0, .slice none 0 0, .slice none 0 0, .slice (some ⟨1, 0, none⟩) 1 0, .slice (some ⟨2, 0, none⟩) 1 1, .int .i64 21, .slice (some ⟨3, 0, none⟩) 1 1]⟩,
  ⟨true, some 91, List.flatten [[.int .i64 1, .int .i64 1, .string ⟨#[49]⟩, .int .i64 1, .int .i64 0, .int .i64 0, .int .i64 0, .int .i64 0, .int .i64 2, .slice (some ⟨4, 0, none⟩) 1 0, .slice none 0 0], List.replicate 41 (.int .i64 0), [.bool false, .bool false, .int .u32 1, .int .i64 0, .int .i64 0, .int .i64 0, .bool false, .int .i64 0, .int .i64 2, .int .i64 0, .slice none 0 0], List.replicate 22 (.int .i64 0), [.bool false, .bool false, .int .u32 1, .bool false, .int .i64 0, .int .i64 0]]⟩,
  ⟨true, none, List.replicate 16 (.int .i64 0)⟩,
  ⟨true, none, [.int .i64 0, .slice (some ⟨5, 0, none⟩) 8 0]⟩,
  ⟨true, some 13, [.int .i64 1, .int .i64 1, .int .i64 1, .int .i64 1, .int .i64 0, .int .i64 1, .int .i64 0, .int .i64 0, .int .i64 0, .string ⟨#[49]⟩, .slice none 0 0, .int .i64 4, .int .i64 5]⟩,
  ⟨true, some 1, [.int .u8 20, .int .u8 171, .int .u8 163, .int .u8 24, .int .u8 41, .int .u8 218, .int .u8 84, .int .u8 189]⟩], .int .i64 0, [⟨true, none, [.int .i64 0, .slice (some ⟨6, 0, none⟩) 1 0, .slice (some ⟨7, 0, none⟩) 1 0, .slice (some ⟨1, 0, none⟩) 1 0, .slice (some ⟨2, 0, none⟩) 1 1, .int .i64 21, .slice (some ⟨8, 0, none⟩) 1 1]⟩,
  ⟨true, some 91, List.flatten [[.int .i64 1, .int .i64 1, .string ⟨#[49]⟩, .int .i64 1, .int .i64 0, .int .i64 0, .int .i64 0, .int .i64 0, .int .i64 2, .slice (some ⟨4, 0, none⟩) 1 0, .slice none 0 0], List.replicate 41 (.int .i64 0), [.bool false, .bool false, .int .u32 1, .int .i64 0, .int .i64 0, .int .i64 0, .bool false, .int .i64 0, .int .i64 2, .int .i64 0, .slice none 0 0], List.replicate 22 (.int .i64 0), [.bool false, .bool false, .int .u32 1, .bool false, .int .i64 0, .int .i64 0]]⟩,
  ⟨true, none, List.replicate 16 (.int .i64 0)⟩,
  ⟨true, none, [.int .i64 0, .slice (some ⟨5, 0, none⟩) 8 0]⟩,
  ⟨true, some 13, [.int .i64 1, .int .i64 1, .int .i64 1, .int .i64 1, .int .i64 0, .int .i64 1, .int .i64 0, .int .i64 0, .int .i64 0, .string ⟨#[49]⟩, .slice none 0 0, .int .i64 4, .int .i64 5]⟩,
  ⟨true, some 1, [.int .u8 20, .int .u8 171, .int .u8 163, .int .u8 24, .int .u8 41, .int .u8 218, .int .u8 84, .int .u8 189]⟩,
  ⟨true, some 10, [.int .i64 1, .int .i64 0, .int .i64 0, .int .i64 0, .int .i64 0, .int .i64 0, .int .i64 0, .int .i64 0, .slice none 0 0, .slice (some ⟨9, 0, none⟩) 1 0]⟩,
  ⟨true, some 5, [.int .i64 1, .string ⟨#[49]⟩, .int .i64 2, .slice (some ⟨10, 0, none⟩) 1 0, .slice (some ⟨11, 0, none⟩) 1 0]⟩,
  ⟨true, none, [.int .i64 1, .slice (some ⟨12, 0, none⟩) 7 0]⟩,
  ⟨true, some 1, [.int .i64 1]⟩,
  ⟨true, some 13, [.int .i64 1, .int .i64 15, .int .i64 1, .int .i64 0, .int .i64 1, .int .i64 1, .int .i64 0, .int .i64 0, .int .i64 0, .string ⟨#[]⟩, .slice none 0 0, .int .i64 4, .int .i64 5]⟩,
  ⟨true, some 3, [.int .i64 1, .int .i64 0, .slice (some ⟨13, 0, none⟩) 1 0]⟩,
  ⟨true, some 1, [.int .u8 245, .int .u8 75, .int .u8 224, .int .u8 159, .int .u8 28, .int .u8 201, .int .u8 255]⟩,
  ⟨true, some 1, [.int .i64 1]⟩], 0⟩
theorem tD2_run : evG Tryz.prog ext 400 (tellT [tRd1, tSr1, tWr2]) 30 tD2.f tD2.args tD2.H = some (tD2.v, tD2.H', tD2.l) := by kernel_rfl
theorem tD2_ok : CallOk Tryz.prog tD2.f tD2.args tD2.H tD2.v tD2.H' tD2.l :=
  evG_sound progOk extSound 400 (tellT_sound _ (by
  intro t ht
  simp only [List.mem_cons, List.not_mem_nil, or_false] at ht
  rcases ht with rfl | rfl | rfl
  · exact tRd1_ok
  · exact tSr1_ok
  · exact tWr2_ok)) 30 _ _ _ _ _ _ tD2_run
theorem op2_run (kk : Nat) : evG Tryz.prog ext 400 (tellT [toldGet]) 30 15 ([.slice (some ⟨0, 0, none⟩) 7 (kk + 7)]) ([⟨true, none, [.int .u8 245, .int .u8 75, .int .u8 224, .int .u8 159, .int .u8 28, .int .u8 201, .int .u8 255]⟩]) = some (.tuple #[.slice (some ⟨1, 0, none⟩) 3 0, .int .i64 0], [⟨true, none, [.int .u8 245, .int .u8 75, .int .u8 224, .int .u8 159, .int .u8 28, .int .u8 201, .int .u8 255]⟩,
  ⟨true, some 1, [.int .u8 245, .int .u8 75, .int .u8 224]⟩], 1) := by kernel_rfl
noncomputable def tOpU2 : Tld := ⟨15, [.slice (some ⟨0, 0, none⟩) 7 0], [⟨true, some 1, [.int .u8 245, .int .u8 75, .int .u8 224, .int .u8 159, .int .u8 28, .int .u8 201, .int .u8 255]⟩], .tuple #[.slice (some ⟨1, 0, none⟩) 3 0, .int .i64 0], [⟨true, some 1, [.int .u8 245, .int .u8 75, .int .u8 224, .int .u8 159, .int .u8 28, .int .u8 201, .int .u8 255]⟩,
  ⟨true, some 1, [.int .u8 245, .int .u8 75, .int .u8 224]⟩], 1⟩
theorem tOpU2_ok : CallOk Tryz.prog tOpU2.f tOpU2.args tOpU2.H tOpU2.v tOpU2.H' tOpU2.l :=
  CallOk.anyCap (by omega) (by omega) fun kk => evG_sound progOk extSound 400 (tellT_sound _ (by intro t ht; simp only [List.mem_cons, List.not_mem_nil, or_false] at ht; subst ht; exact get_ok)) 30 _ _ _ _ _ _ (op2_run kk)
noncomputable def tRd2 : Tld := ⟨20, [.slice (some ⟨0, 0, none⟩) 7 0], [⟨true, some 1, [.int .u8 245, .int .u8 75, .int .u8 224, .int .u8 159, .int .u8 28, .int .u8 201, .int .u8 255]⟩], .tuple #[.agg #[.int .i64 15, .int .i64 1, .int .i64 0, .int .i64 1, .int .i64 1, .int .i64 0, .int .i64 0, .int .i64 0, .string ⟨#[]⟩, .slice none 0 0], .int .i64 0], [⟨true, some 1, [.int .u8 245, .int .u8 75, .int .u8 224, .int .u8 159, .int .u8 28, .int .u8 201, .int .u8 255]⟩], 1⟩
theorem tRd2_run : evG Tryz.prog ext 400 (tellT [tOpU2, tWr2]) 30 tRd2.f tRd2.args tRd2.H = some (tRd2.v, tRd2.H', tRd2.l) := by kernel_rfl
theorem tRd2_ok : CallOk Tryz.prog tRd2.f tRd2.args tRd2.H tRd2.v tRd2.H' tRd2.l :=
  evG_sound progOk extSound 400 (tellT_sound _ (by
  intro t ht
  simp only [List.mem_cons, List.not_mem_nil, or_false] at ht
  rcases ht with rfl | rfl
  · exact tOpU2_ok
  · exact tWr2_ok)) 30 _ _ _ _ _ _ tRd2_run
noncomputable def tWr3 : Tld := ⟨14, [.agg #[.int .i64 11, .int .i64 1, .int .i64 1, .int .i64 0, .int .i64 1, .int .i64 0, .int .i64 0, .int .i64 0, .string ⟨#[]⟩, .slice none 0 0]], [], .tuple #[.slice (some ⟨0, 0, none⟩) 7 0, .int .i64 0], [⟨true, some 1, [.int .u8 180, .int .u8 171, .int .u8 224, .int .u8 132, .int .u8 8, .int .u8 239, .int .u8 208]⟩], 0⟩
theorem tWr3_run : evG Tryz.prog ext 400 (tellT [toldGet]) 30 tWr3.f tWr3.args tWr3.H = some (tWr3.v, tWr3.H', tWr3.l) := by kernel_rfl
theorem tWr3_ok : CallOk Tryz.prog tWr3.f tWr3.args tWr3.H tWr3.v tWr3.H' tWr3.l :=
  evG_sound progOk extSound 400 (tellT_sound _ (by intro t ht; simp only [List.mem_cons, List.not_mem_nil, or_false] at ht; subst ht; exact get_ok)) 30 _ _ _ _ _ _ tWr3_run
noncomputable def tTc2 : Tld := ⟨110, [.agg (Array.mk (List.flatten [[.int .i64 1, .int .i64 1, .string ⟨#[49]⟩, .int .i64 1, .int .i64 0, .int .i64 0, .int .i64 0, .int .i64 0, .int .i64 2, .slice (some ⟨0, 0, none⟩) 1 0, .slice none 0 0], List.replicate 41 (.int .i64 0), [.bool false, .bool false, .int .u32 1, .int .i64 0, .int .i64 0, .int .i64 0, .bool false, .int .i64 0, .int .i64 2, .int .i64 0, .slice none 0 0], List.replicate 22 (.int .i64 0), [.bool false, .bool false, .int .u32 1, .bool false, .int .i64 0, .int .i64 0]]))], [⟨true, some 13, [.int .i64 1, .int .i64 1, .int .i64 1, .int .i64 1, .int .i64 0, .int .i64 1, .int .i64 0, .int .i64 0, .int .i64 0, .string ⟨#[49]⟩, .slice none 0 0, .int .i64 4, .int .i64 5]⟩], .int .i64 0, [⟨true, some 13, [.int .i64 1, .int .i64 1, .int .i64 1, .int .i64 1, .int .i64 0, .int .i64 1, .int .i64 0, .int .i64 0, .int .i64 0, .string ⟨#[49]⟩, .slice none 0 0, .int .i64 4, .int .i64 5]⟩], 1⟩
theorem tTc2_run : evG Tryz.prog ext 400 (tellT [tDc]) 30 tTc2.f tTc2.args tTc2.H = some (tTc2.v, tTc2.H', tTc2.l) := by kernel_rfl
theorem tTc2_ok : CallOk Tryz.prog tTc2.f tTc2.args tTc2.H tTc2.v tTc2.H' tTc2.l :=
  evG_sound progOk extSound 400 (tellT_sound _ (by intro t ht; simp only [List.mem_cons, List.not_mem_nil, or_false] at ht; subst ht; exact tDc_ok)) 30 _ _ _ _ _ _ tTc2_run
noncomputable def tTof2 : Tld := ⟨111, [.agg (Array.mk (List.flatten [[.int .i64 1, .int .i64 1, .string ⟨#[49]⟩, .int .i64 1, .int .i64 0, .int .i64 0, .int .i64 0, .int .i64 0, .int .i64 2, .slice (some ⟨0, 0, none⟩) 1 0, .slice none 0 0], List.replicate 41 (.int .i64 0), [.bool false, .bool false, .int .u32 1, .int .i64 0, .int .i64 0, .int .i64 0, .bool false, .int .i64 0, .int .i64 2, .int .i64 0, .slice none 0 0], List.replicate 22 (.int .i64 0), [.bool false, .bool false, .int .u32 1, .bool false, .int .i64 0, .int .i64 0]]))], [⟨true, some 13, [.int .i64 1, .int .i64 1, .int .i64 1, .int .i64 1, .int .i64 0, .int .i64 1, .int .i64 0, .int .i64 0, .int .i64 0, .string ⟨#[49]⟩, .slice none 0 0, .int .i64 4, .int .i64 5]⟩], .pointer (some ⟨1, 0, none⟩), [⟨true, some 13, [.int .i64 1, .int .i64 1, .int .i64 1, .int .i64 1, .int .i64 0, .int .i64 1, .int .i64 0, .int .i64 0, .int .i64 0, .string ⟨#[49]⟩, .slice none 0 0, .int .i64 4, .int .i64 5]⟩,
  ⟨true, none, List.flatten [[.int .i64 1, .int .i64 1, .string ⟨#[49]⟩, .int .i64 1, .int .i64 0, .int .i64 0, .int .i64 0, .int .i64 0, .int .i64 2, .slice (some ⟨2, 0, none⟩) 1 0, .slice none 0 0], List.replicate 41 (.int .i64 0), [.bool false, .bool false, .int .u32 1, .int .i64 0, .int .i64 0, .int .i64 0, .bool false, .int .i64 0, .int .i64 2, .int .i64 0, .slice none 0 0], List.replicate 22 (.int .i64 0), [.bool false, .bool false, .int .u32 1, .bool false, .int .i64 0, .int .i64 0, .slice none 0 0, .int .i64 0]]⟩,
  ⟨true, some 13, [.int .i64 1, .int .i64 1, .int .i64 1, .int .i64 1, .int .i64 0, .int .i64 1, .int .i64 0, .int .i64 0, .int .i64 0, .string ⟨#[49]⟩, .slice none 0 0, .int .i64 4, .int .i64 5]⟩], 1⟩
theorem tTof2_run : evG Tryz.prog ext 400 (tellT [tDc, tTc2]) 30 tTof2.f tTof2.args tTof2.H = some (tTof2.v, tTof2.H', tTof2.l) := by kernel_rfl
theorem tTof2_ok : CallOk Tryz.prog tTof2.f tTof2.args tTof2.H tTof2.v tTof2.H' tTof2.l :=
  evG_sound progOk extSound 400 (tellT_sound _ (by
  intro t ht
  simp only [List.mem_cons, List.not_mem_nil, or_false] at ht
  rcases ht with rfl | rfl
  · exact tDc_ok
  · exact tTc2_ok)) 30 _ _ _ _ _ _ tTof2_run
end Go.Proofs.YtpgmabpaiijipaaGreatDoor
