/-
  up(): calls at closed arguments, worked out by the evaluator.
-/
import Derived.Test.YtpgmabpaiijipaaGreatDoorUp1
namespace Go.Proofs.YtpgmabpaiijipaaGreatDoor
open Go Den
set_option maxRecDepth 100000
noncomputable def tTd : Tld := ⟨161, [.agg (Array.mk (List.flatten [[.int .i64 1, .int .i64 1, .string ⟨#[49]⟩, .int .i64 0, .int .i64 0, .int .i64 0, .int .i64 0, .int .i64 0, .int .i64 1, .slice none 0 0, .slice none 0 0], List.replicate 41 (.int .i64 0), [.bool false, .bool false, .int .u32 1, .int .i64 0, .int .i64 0, .int .i64 0, .bool false, .int .i64 0, .int .i64 2, .int .i64 0, .slice none 0 0], List.replicate 22 (.int .i64 0), [.bool false, .bool false, .int .u32 1, .bool false, .int .i64 0, .int .i64 0]])), .int .i64 1, .int .i64 0], [], .tuple #[.agg (Array.mk (List.flatten [[.int .i64 1, .int .i64 1, .string ⟨#[49]⟩, .int .i64 1, .int .i64 0, .int .i64 0, .int .i64 0, .int .i64 0, .int .i64 2, .slice (some ⟨0, 0, none⟩) 1 0, .slice none 0 0], List.replicate 41 (.int .i64 0), [.bool false, .bool false, .int .u32 1, .int .i64 0, .int .i64 0, .int .i64 0, .bool false, .int .i64 0, .int .i64 2, .int .i64 0, .slice none 0 0], List.replicate 22 (.int .i64 0), [.bool false, .bool false, .int .u32 1, .bool false, .int .i64 0, .int .i64 0]])), .slice (some ⟨1, 0, none⟩) 1 0, .int .i64 0], [⟨true, some 13, [.int .i64 1, .int .i64 1, .int .i64 1, .int .i64 1, .int .i64 0, .int .i64 1, .int .i64 0, .int .i64 0, .int .i64 0, .string ⟨#[49]⟩, .slice none 0 0, .int .i64 4, .int .i64 5]⟩,
  ⟨true, some 10, [.int .i64 1, .int .i64 1, .int .i64 1, .int .i64 0, .int .i64 1, .int .i64 0, .int .i64 0, .int .i64 0, .string ⟨#[49]⟩, .slice none 0 0]⟩], 0⟩
theorem tTd_run : evG Tryz.prog ext 400 (tellT [tDc, tPo, tTc, tTof]) 30 tTd.f tTd.args tTd.H = some (tTd.v, tTd.H', tTd.l) := by kernel_rfl
theorem tTd_ok : CallOk Tryz.prog tTd.f tTd.args tTd.H tTd.v tTd.H' tTd.l :=
  evG_sound progOk extSound 400 (tellT_sound _ (by
  intro t ht
  simp only [List.mem_cons, List.not_mem_nil, or_false] at ht
  rcases ht with rfl | rfl | rfl | rfl
  · exact tDc_ok
  · exact tPo_ok
  · exact tTc_ok
  · exact tTof_ok)) 30 _ _ _ _ _ _ tTd_run
noncomputable def tWn : Tld := ⟨62, [.int .i64 1, .int .i64 21], [], .tuple #[.pointer (some ⟨0, 0, none⟩), .int .i64 0], [⟨true, none, [.int .i64 0, .slice none 0 0, .slice none 0 0, .slice (some ⟨1, 0, none⟩) 1 0, .slice (some ⟨2, 0, none⟩) 1 1, .int .i64 21, .slice none 0 0]⟩,
  ⟨true, some 91, List.flatten [[.int .i64 1, .int .i64 1, .string ⟨#[49]⟩, .int .i64 0, .int .i64 0, .int .i64 0, .int .i64 0, .int .i64 0, .int .i64 1, .slice none 0 0, .slice none 0 0], List.replicate 41 (.int .i64 0), [.bool false, .bool false, .int .u32 1, .int .i64 0, .int .i64 0, .int .i64 0, .bool false, .int .i64 0, .int .i64 2, .int .i64 0, .slice none 0 0], List.replicate 22 (.int .i64 0), [.bool false, .bool false, .int .u32 1, .bool false, .int .i64 0, .int .i64 0]]⟩,
  ⟨true, none, List.replicate 16 (.int .i64 0)⟩], 0⟩
theorem tWn_run : evG Tryz.prog ext 400 (tellT [tDc, tTc]) 30 tWn.f tWn.args tWn.H = some (tWn.v, tWn.H', tWn.l) := by kernel_rfl
theorem tWn_ok : CallOk Tryz.prog tWn.f tWn.args tWn.H tWn.v tWn.H' tWn.l :=
  evG_sound progOk extSound 400 (tellT_sound _ (by
  intro t ht
  simp only [List.mem_cons, List.not_mem_nil, or_false] at ht
  rcases ht with rfl | rfl
  · exact tDc_ok
  · exact tTc_ok)) 30 _ _ _ _ _ _ tWn_run
noncomputable def tWr1 : Tld := ⟨14, [.agg #[.int .i64 1, .int .i64 1, .int .i64 1, .int .i64 0, .int .i64 1, .int .i64 0, .int .i64 0, .int .i64 0, .string ⟨#[49]⟩, .slice none 0 0]], [], .tuple #[.slice (some ⟨0, 0, none⟩) 8 0, .int .i64 0], [⟨true, some 1, [.int .u8 20, .int .u8 171, .int .u8 163, .int .u8 24, .int .u8 41, .int .u8 218, .int .u8 84, .int .u8 189]⟩], 0⟩
theorem tWr1_run : evG Tryz.prog ext 400 (tellT [toldGet]) 30 tWr1.f tWr1.args tWr1.H = some (tWr1.v, tWr1.H', tWr1.l) := by kernel_rfl
theorem tWr1_ok : CallOk Tryz.prog tWr1.f tWr1.args tWr1.H tWr1.v tWr1.H' tWr1.l :=
  evG_sound progOk extSound 400 (tellT_sound _ (by intro t ht; simp only [List.mem_cons, List.not_mem_nil, or_false] at ht; subst ht; exact get_ok)) 30 _ _ _ _ _ _ tWr1_run
noncomputable def tD1 : Tld := ⟨63, [.pointer (some ⟨0, 0, none⟩), .agg #[.int .i64 1, .int .i64 0, .int .i64 1, .int .i64 0, .int .i64 0, .int .i64 0, .int .i64 0]], [⟨true, none, [.int .i64 0, .slice none 0 0, .slice none 0 0, .slice (some ⟨1, 0, none⟩) 1 0, .slice (some ⟨2, 0, none⟩) 1 1, .int .i64 21, .slice none 0 0]⟩,
  ⟨true, some 91, List.flatten [[.int .i64 1, .int .i64 1, .string ⟨#[49]⟩, .int .i64 0, .int .i64 0, .int .i64 0, .int .i64 0, .int .i64 0, .int .i64 1, .slice none 0 0, .slice none 0 0], List.replicate 41 (.int .i64 0), [.bool false, .bool false, .int .u32 1, .int .i64 0, .int .i64 0, .int .i64 0, .bool false, .int .i64 0, .int .i64 2, .int .i64 0, .slice none 0 0], List.replicate 22 (.int .i64 0), [.bool false, .bool false, .int .u32 1, .bool false, .int .i64 0, .int .i64 0]]⟩,
  ⟨true, none, List.replicate 16 (.int .i64 0)⟩], .int .i64 0, [⟨true, none, [.int .i64 0, .slice none 0 0, .slice none 0 0, .slice (some ⟨1, 0, none⟩) 1 0, .slice (some ⟨2, 0, none⟩) 1 1, .int .i64 21, .slice (some ⟨3, 0, none⟩) 1 1]⟩,
  ⟨true, some 91, List.flatten [[.int .i64 1, .int .i64 1, .string ⟨#[49]⟩, .int .i64 1, .int .i64 0, .int .i64 0, .int .i64 0, .int .i64 0, .int .i64 2, .slice (some ⟨4, 0, none⟩) 1 0, .slice none 0 0], List.replicate 41 (.int .i64 0), [.bool false, .bool false, .int .u32 1, .int .i64 0, .int .i64 0, .int .i64 0, .bool false, .int .i64 0, .int .i64 2, .int .i64 0, .slice none 0 0], List.replicate 22 (.int .i64 0), [.bool false, .bool false, .int .u32 1, .bool false, .int .i64 0, .int .i64 0]]⟩,
  ⟨true, none, List.replicate 16 (.int .i64 0)⟩,
  ⟨true, none, [.int .i64 0, .slice (some ⟨5, 0, none⟩) 8 0]⟩,
  ⟨true, some 13, [.int .i64 1, .int .i64 1, .int .i64 1, .int .i64 1, .int .i64 0, .int .i64 1, .int .i64 0, .int .i64 0, .int .i64 0, .string ⟨#[49]⟩, .slice none 0 0, .int .i64 4, .int .i64 5]⟩,
  ⟨true, some 1, [.int .u8 20, .int .u8 171, .int .u8 163, .int .u8 24, .int .u8 41, .int .u8 218, .int .u8 84, .int .u8 189]⟩], 0⟩
theorem tD1_run : evG Tryz.prog ext 400 (tellT [tTd, tWr1]) 30 tD1.f tD1.args tD1.H = some (tD1.v, tD1.H', tD1.l) := by kernel_rfl
theorem tD1_ok : CallOk Tryz.prog tD1.f tD1.args tD1.H tD1.v tD1.H' tD1.l :=
  evG_sound progOk extSound 400 (tellT_sound _ (by
  intro t ht
  simp only [List.mem_cons, List.not_mem_nil, or_false] at ht
  rcases ht with rfl | rfl
  · exact tTd_ok
  · exact tWr1_ok)) 30 _ _ _ _ _ _ tD1_run
theorem op1_run (kk : Nat) : evG Tryz.prog ext 400 (tellT [toldGet]) 30 15 ([.slice (some ⟨0, 0, none⟩) 8 (kk + 8)]) ([⟨true, none, [.int .u8 20, .int .u8 171, .int .u8 163, .int .u8 24, .int .u8 41, .int .u8 218, .int .u8 84, .int .u8 189]⟩]) = some (.tuple #[.slice (some ⟨1, 0, none⟩) 4 0, .int .i64 0], [⟨true, none, [.int .u8 20, .int .u8 171, .int .u8 163, .int .u8 24, .int .u8 41, .int .u8 218, .int .u8 84, .int .u8 189]⟩,
  ⟨true, some 1, [.int .u8 20, .int .u8 171, .int .u8 163, .int .u8 24]⟩], 1) := by kernel_rfl
noncomputable def tOpU1 : Tld := ⟨15, [.slice (some ⟨0, 0, none⟩) 8 0], [⟨true, some 1, [.int .u8 20, .int .u8 171, .int .u8 163, .int .u8 24, .int .u8 41, .int .u8 218, .int .u8 84, .int .u8 189]⟩], .tuple #[.slice (some ⟨1, 0, none⟩) 4 0, .int .i64 0], [⟨true, some 1, [.int .u8 20, .int .u8 171, .int .u8 163, .int .u8 24, .int .u8 41, .int .u8 218, .int .u8 84, .int .u8 189]⟩,
  ⟨true, some 1, [.int .u8 20, .int .u8 171, .int .u8 163, .int .u8 24]⟩], 1⟩
theorem tOpU1_ok : CallOk Tryz.prog tOpU1.f tOpU1.args tOpU1.H tOpU1.v tOpU1.H' tOpU1.l :=
  CallOk.anyCap (by omega) (by omega) fun kk => evG_sound progOk extSound 400 (tellT_sound _ (by intro t ht; simp only [List.mem_cons, List.not_mem_nil, or_false] at ht; subst ht; exact get_ok)) 30 _ _ _ _ _ _ (op1_run kk)
noncomputable def tRd1 : Tld := ⟨20, [.slice (some ⟨0, 0, none⟩) 8 0], [⟨true, some 1, [.int .u8 20, .int .u8 171, .int .u8 163, .int .u8 24, .int .u8 41, .int .u8 218, .int .u8 84, .int .u8 189]⟩], .tuple #[.agg #[.int .i64 1, .int .i64 1, .int .i64 1, .int .i64 0, .int .i64 1, .int .i64 0, .int .i64 0, .int .i64 0, .string ⟨#[49]⟩, .slice none 0 0], .int .i64 0], [⟨true, some 1, [.int .u8 20, .int .u8 171, .int .u8 163, .int .u8 24, .int .u8 41, .int .u8 218, .int .u8 84, .int .u8 189]⟩], 1⟩
theorem tRd1_run : evG Tryz.prog ext 400 (tellT [tOpU1, tWr1]) 30 tRd1.f tRd1.args tRd1.H = some (tRd1.v, tRd1.H', tRd1.l) := by kernel_rfl
theorem tRd1_ok : CallOk Tryz.prog tRd1.f tRd1.args tRd1.H tRd1.v tRd1.H' tRd1.l :=
  evG_sound progOk extSound 400 (tellT_sound _ (by
  intro t ht
  simp only [List.mem_cons, List.not_mem_nil, or_false] at ht
  rcases ht with rfl | rfl
  · exact tOpU1_ok
  · exact tWr1_ok)) 30 _ _ _ _ _ _ tRd1_run
end Go.Proofs.YtpgmabpaiijipaaGreatDoor
