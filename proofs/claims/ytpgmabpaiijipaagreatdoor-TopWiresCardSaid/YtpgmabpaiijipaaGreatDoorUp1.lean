/-
  up(): calls at closed arguments, worked out by the evaluator.
-/
import Derived.Test.YtpgmabpaiijipaaGreatDoorOn3
import Derived.Test.YtpgmabpaiijipaaGreatDoorZ08
namespace Go.Proofs.YtpgmabpaiijipaaGreatDoor
open Go Den
set_option maxRecDepth 100000
noncomputable def tDc : Tld := ⟨223, [.agg (Array.mk (List.flatten [List.replicate 22 (.int .i64 0), [.bool false, .bool false, .int .u32 1]]))], [], .int .i64 0, [], 0⟩
theorem tDc_run : evG Tryz.prog ext 400 (tellT []) 30 tDc.f tDc.args tDc.H = some (tDc.v, tDc.H', tDc.l) := by kernel_rfl
theorem tDc_ok : CallOk Tryz.prog tDc.f tDc.args tDc.H tDc.v tDc.H' tDc.l :=
  evG_sound progOk extSound 400 (tellT_sound _ (by intro t ht; simp at ht)) 30 _ _ _ _ _ _ tDc_run
noncomputable def tTc : Tld := ⟨110, [.agg (Array.mk (List.flatten [[.int .i64 1, .int .i64 1, .string ⟨#[49]⟩, .int .i64 0, .int .i64 0, .int .i64 0, .int .i64 0, .int .i64 0, .int .i64 1, .slice none 0 0, .slice none 0 0], List.replicate 41 (.int .i64 0), [.bool false, .bool false, .int .u32 1, .int .i64 0, .int .i64 0, .int .i64 0, .bool false, .int .i64 0, .int .i64 2, .int .i64 0, .slice none 0 0], List.replicate 22 (.int .i64 0), [.bool false, .bool false, .int .u32 1, .bool false, .int .i64 0, .int .i64 0]]))], [], .int .i64 0, [], 0⟩
theorem tTc_run : evG Tryz.prog ext 400 (tellT [tDc]) 30 tTc.f tTc.args tTc.H = some (tTc.v, tTc.H', tTc.l) := by kernel_rfl
theorem tTc_ok : CallOk Tryz.prog tTc.f tTc.args tTc.H tTc.v tTc.H' tTc.l :=
  evG_sound progOk extSound 400 (tellT_sound _ (by intro t ht; simp only [List.mem_cons, List.not_mem_nil, or_false] at ht; subst ht; exact tDc_ok)) 30 _ _ _ _ _ _ tTc_run
noncomputable def tTof : Tld := ⟨111, [.agg (Array.mk (List.flatten [[.int .i64 1, .int .i64 1, .string ⟨#[49]⟩, .int .i64 0, .int .i64 0, .int .i64 0, .int .i64 0, .int .i64 0, .int .i64 1, .slice none 0 0, .slice none 0 0], List.replicate 41 (.int .i64 0), [.bool false, .bool false, .int .u32 1, .int .i64 0, .int .i64 0, .int .i64 0, .bool false, .int .i64 0, .int .i64 2, .int .i64 0, .slice none 0 0], List.replicate 22 (.int .i64 0), [.bool false, .bool false, .int .u32 1, .bool false, .int .i64 0, .int .i64 0]]))], [], .pointer (some ⟨0, 0, none⟩), [⟨true, none, List.flatten [[.int .i64 1, .int .i64 1, .string ⟨#[49]⟩, .int .i64 0, .int .i64 0, .int .i64 0, .int .i64 0, .int .i64 0, .int .i64 1, .slice none 0 0, .slice none 0 0], List.replicate 41 (.int .i64 0), [.bool false, .bool false, .int .u32 1, .int .i64 0, .int .i64 0, .int .i64 0, .bool false, .int .i64 0, .int .i64 2, .int .i64 0, .slice none 0 0], List.replicate 22 (.int .i64 0), [.bool false, .bool false, .int .u32 1, .bool false, .int .i64 0, .int .i64 0, .slice none 0 0, .int .i64 0]]⟩], 0⟩
theorem tTof_run : evG Tryz.prog ext 400 (tellT [tDc, tTc]) 30 tTof.f tTof.args tTof.H = some (tTof.v, tTof.H', tTof.l) := by kernel_rfl
theorem tTof_ok : CallOk Tryz.prog tTof.f tTof.args tTof.H tTof.v tTof.H' tTof.l :=
  evG_sound progOk extSound 400 (tellT_sound _ (by
  intro t ht
  simp only [List.mem_cons, List.not_mem_nil, or_false] at ht
  rcases ht with rfl | rfl
  · exact tDc_ok
  · exact tTc_ok)) 30 _ _ _ _ _ _ tTof_run
noncomputable def tPo : Tld := ⟨292, [.agg #[.int .i64 1, .slice none 0 0, .slice none 0 0], .agg #[.int .i64 1, .int .i64 1, .int .i64 1, .int .i64 0, .int .i64 0, .int .i64 0, .int .i64 0, .int .i64 0, .string ⟨#[49]⟩, .slice none 0 0], .int .i64 0], [], .tuple #[.agg #[.int .i64 2, .slice (some ⟨0, 0, none⟩) 1 0, .slice none 0 0], .agg #[.int .i64 1, .int .i64 1, .int .i64 1, .int .i64 0, .int .i64 1, .int .i64 0, .int .i64 0, .int .i64 0, .string ⟨#[49]⟩, .slice none 0 0], .int .i64 0], [⟨true, some 13, [.int .i64 1, .int .i64 1, .int .i64 1, .int .i64 1, .int .i64 0, .int .i64 1, .int .i64 0, .int .i64 0, .int .i64 0, .string ⟨#[49]⟩, .slice none 0 0, .int .i64 4, .int .i64 5]⟩], 0⟩
theorem tPo_run : evG Tryz.prog ext 400 (tellT []) 30 tPo.f tPo.args tPo.H = some (tPo.v, tPo.H', tPo.l) := by kernel_rfl
theorem tPo_ok : CallOk Tryz.prog tPo.f tPo.args tPo.H tPo.v tPo.H' tPo.l :=
  evG_sound progOk extSound 400 (tellT_sound _ (by intro t ht; simp at ht)) 30 _ _ _ _ _ _ tPo_run
end Go.Proofs.YtpgmabpaiijipaaGreatDoor
