/-
  Chapter 05: Clip, and the reference's; the law FixedSats as a call, its samples a slice of any length.
-/
import Derived.Test.YtfbjpenbpbpcaaaFs1
import Derived.Test.YtfbjpenbpbpcaaaOuW
namespace Go.Proofs.Ytfbjpenbpbpcaaa
open Go Den
set_option maxRecDepth 100000
set_option linter.unusedSimpArgs false
set_option linter.unusedVariables false

def zero16 : List Int := [0, 0, 0, 0, 0, 0, 0, 0, 0, 0, 0, 0, 0, 0, 0, 0]
def clipV (cs : List Int) (e : Int) : Value := .tuple #[.agg (ints cs).toArray, .int .i64 e]

theorem clip_bad (n c : Nat) (h : n ≠ 16) (B : Blk) : CallOk Try.prog 61 [.slice (some ⟨0, 0, none⟩) n c] [B] (clipV zero16 1) [B] 1 :=
  CallOk.still (fnL_ok (N := 300) (pre := noPre) (C := noC) (L := noLoops) (os := [(0, true)]) (v := clipV zero16 1) (H' := [B, ⟨true, none, ints zero16⟩]) (l := 1) (ob := [((n : Int) != 16, true)]) progOk extSound noC_sound noLoops_ok (by kernel_rfl) (by simp [Holds]; omega)) rfl rfl
theorem rclip_bad (n c : Nat) (h : n ≠ 16) (B A : Blk) : CallOk Try.prog 62 [.slice (some ⟨0, 0, none⟩) n c] [B, A] (clipV zero16 1) [B, A] 2 :=
  CallOk.still (fnL_ok (N := 300) (pre := noPre) (C := noC) (L := noLoops) (os := [(0, true)]) (v := clipV zero16 1) (H' := [B, A, ⟨true, none, ints zero16⟩, ⟨true, none, ints zero16⟩]) (l := 2) (ob := [((n : Int) != 16, true)]) progOk extSound noC_sound noLoops_ok (by kernel_rfl) (by simp [Holds]; omega)) rfl rfl
theorem clip_none : CallOk Try.prog 61 [.slice none 0 0] [] (clipV zero16 1) [] 0 :=
  pf_ok (N := 300) (L := noLoops) (os := []) (ob := []) noC_sound noLoops_ok (by kernel_rfl) (by simp [Holds]) rfl
theorem rclip_none : CallOk Try.prog 62 [.slice none 0 0] [] (clipV zero16 1) [] 0 :=
  pf_ok (N := 300) (L := noLoops) (os := []) (ob := []) noC_sound noLoops_ok (by kernel_rfl) (by simp [Holds]) rfl

set_option maxHeartbeats 4000000 in
theorem clip_good (x0 x1 x2 x3 x4 x5 x6 x7 x8 x9 x10 x11 x12 x13 x14 x15 : Int) (c : Nat) (o : Bool) (g : Option Nat) : CallOk Try.prog 61 [.slice (some ⟨0, 0, none⟩) 16 c] [⟨o, g, ints [x0, x1, x2, x3, x4, x5, x6, x7, x8, x9, x10, x11, x12, x13, x14, x15]⟩] (clipV [satZ x0 16, satZ x1 16, satZ x2 16, satZ x3 16, satZ x4 16, satZ x5 16, satZ x6 16, satZ x7 16, satZ x8 16, satZ x9 16, satZ x10 16, satZ x11 16, satZ x12 16, satZ x13 16, satZ x14 16, satZ x15 16] 0) [⟨o, g, ints [x0, x1, x2, x3, x4, x5, x6, x7, x8, x9, x10, x11, x12, x13, x14, x15]⟩] 1 :=
  CallOk.still (fnL_ok (N := 300) (pre := fx3Pre) (C := fx3) (L := noLoops) (os := []) (v := clipV [satZ x0 16, satZ x1 16, satZ x2 16, satZ x3 16, satZ x4 16, satZ x5 16, satZ x6 16, satZ x7 16, satZ x8 16, satZ x9 16, satZ x10 16, satZ x11 16, satZ x12 16, satZ x13 16, satZ x14 16, satZ x15 16] 0) (H' := [⟨o, g, ints [x0, x1, x2, x3, x4, x5, x6, x7, x8, x9, x10, x11, x12, x13, x14, x15]⟩, ⟨true, none, ints [satZ x0 16, satZ x1 16, satZ x2 16, satZ x3 16, satZ x4 16, satZ x5 16, satZ x6 16, satZ x7 16, satZ x8 16, satZ x9 16, satZ x10 16, satZ x11 16, satZ x12 16, satZ x13 16, satZ x14 16, satZ x15 16]⟩]) (l := 1) (ob := []) progOk extSound fx3_sound noLoops_ok (by kernel_rfl) (by simp [Holds])) rfl rfl
set_option maxHeartbeats 4000000 in
theorem rclip_good (x0 x1 x2 x3 x4 x5 x6 x7 x8 x9 x10 x11 x12 x13 x14 x15 : Int) (c : Nat) (o : Bool) (g : Option Nat) (A : Blk) : CallOk Try.prog 62 [.slice (some ⟨0, 0, none⟩) 16 c] [⟨o, g, ints [x0, x1, x2, x3, x4, x5, x6, x7, x8, x9, x10, x11, x12, x13, x14, x15]⟩, A] (clipV [satZ x0 16, satZ x1 16, satZ x2 16, satZ x3 16, satZ x4 16, satZ x5 16, satZ x6 16, satZ x7 16, satZ x8 16, satZ x9 16, satZ x10 16, satZ x11 16, satZ x12 16, satZ x13 16, satZ x14 16, satZ x15 16] 0) [⟨o, g, ints [x0, x1, x2, x3, x4, x5, x6, x7, x8, x9, x10, x11, x12, x13, x14, x15]⟩, A] 2 :=
  CallOk.still (fnL_ok (N := 300) (pre := fx3Pre) (C := fx3) (L := noLoops) (os := []) (v := clipV [satZ x0 16, satZ x1 16, satZ x2 16, satZ x3 16, satZ x4 16, satZ x5 16, satZ x6 16, satZ x7 16, satZ x8 16, satZ x9 16, satZ x10 16, satZ x11 16, satZ x12 16, satZ x13 16, satZ x14 16, satZ x15 16] 0) (H' := [⟨o, g, ints [x0, x1, x2, x3, x4, x5, x6, x7, x8, x9, x10, x11, x12, x13, x14, x15]⟩, A, ⟨true, none, ints [satZ x0 16, satZ x1 16, satZ x2 16, satZ x3 16, satZ x4 16, satZ x5 16, satZ x6 16, satZ x7 16, satZ x8 16, satZ x9 16, satZ x10 16, satZ x11 16, satZ x12 16, satZ x13 16, satZ x14 16, satZ x15 16]⟩, ⟨true, none, ints [satZ x0 16, satZ x1 16, satZ x2 16, satZ x3 16, satZ x4 16, satZ x5 16, satZ x6 16, satZ x7 16, satZ x8 16, satZ x9 16, satZ x10 16, satZ x11 16, satZ x12 16, satZ x13 16, satZ x14 16, satZ x15 16]⟩]) (l := 2) (ob := []) progOk extSound fx3_sound noLoops_ok (by kernel_rfl) (by simp [Holds])) rfl rfl

def fsT (cs : List Int) (e s : Int) : Tale := fun f args H => match f with
  | 61 => some (clipV cs e, H, H.length)
  | 62 => some (clipV cs e, H, H.length)
  | 56 => some (.int .i64 s, H, H.length)
  | 64 => some (.int .i64 s, H, H.length)
  | _ => none
theorem fs_sound (cs : List Int) (e s : Int) : Sound Try.prog (strict (nmPre (tellHPre (fsT cs e s) fx3Pre)) (nbC [] (allT [37, 46, 51, 56]) (tellH (fsT cs e s) fx3))) := nb_sound [] _ (tellH_sound _ fx3_sound)

/-- The law over what its callees come to. -/
theorem sats_run (c0 c1 c2 c3 c4 c5 c6 c7 c8 c9 c10 c11 c12 c13 c14 c15 e s v b : Int) (n c : Nat) (hn : n ≤ 1000) (B : Blk)
    (h1 : CallOk Try.prog 61 [.slice (some ⟨0, 0, none⟩) n c] [B] (clipV [c0, c1, c2, c3, c4, c5, c6, c7, c8, c9, c10, c11, c12, c13, c14, c15] e) [B] 1)
    (h2 : ∀ A, CallOk Try.prog 62 [.slice (some ⟨0, 0, none⟩) n c] [B, A] (clipV [c0, c1, c2, c3, c4, c5, c6, c7, c8, c9, c10, c11, c12, c13, c14, c15] e) [B, A] 2)
    (h3 : ∀ R, CallOk Try.prog 56 [.int .i64 b, .slice (some ⟨0, 0, none⟩) n c] (B :: R) (.int .i64 s) (B :: R) (R.length + 1))
    (h4 : ∀ R, CallOk Try.prog 64 [.int .i64 b, .slice (some ⟨0, 0, none⟩) n c] (B :: R) (.int .i64 s) (B :: R) (R.length + 1)) :
    CallOk Try.prog 14 [.int .i64 v, .int .i64 b, .slice (some ⟨0, 0, none⟩) n c] [B] (.bool true) [B] 1 := by
  refine CallOk.still (fnL_ok (N := 300) (L := noLoops) (os := [(2, false), (0, true), (0, true), (12, true), (3, true)]) (v := .bool true) (H' := [B, ⟨true, none, ints [c0, c1, c2, c3, c4, c5, c6, c7, c8, c9, c10, c11, c12, c13, c14, c15]⟩, ⟨true, none, ints [c0, c1, c2, c3, c4, c5, c6, c7, c8, c9, c10, c11, c12, c13, c14, c15]⟩]) (l := 1)
    (ob := [(e == e, true), (decide (([c0, c1, c2, c3, c4, c5, c6, c7, c8, c9, c10, c11, c12, c13, c14, c15] : List Int) = [c0, c1, c2, c3, c4, c5, c6, c7, c8, c9, c10, c11, c12, c13, c14, c15]), true), (s == s, true), (tellHPre (fsT [c0, c1, c2, c3, c4, c5, c6, c7, c8, c9, c10, c11, c12, c13, c14, c15] e s) fx3Pre 64 [.int .i64 b, .slice (some ⟨0, 0, none⟩) n c] [B, ⟨true, none, ints [c0, c1, c2, c3, c4, c5, c6, c7, c8, c9, c10, c11, c12, c13, c14, c15]⟩, ⟨true, none, ints [c0, c1, c2, c3, c4, c5, c6, c7, c8, c9, c10, c11, c12, c13, c14, c15]⟩], true),
      (tellHPre (fsT [c0, c1, c2, c3, c4, c5, c6, c7, c8, c9, c10, c11, c12, c13, c14, c15] e s) fx3Pre 56 [.int .i64 b, .slice (some ⟨0, 0, none⟩) n c] [B, ⟨true, none, ints [c0, c1, c2, c3, c4, c5, c6, c7, c8, c9, c10, c11, c12, c13, c14, c15]⟩, ⟨true, none, ints [c0, c1, c2, c3, c4, c5, c6, c7, c8, c9, c10, c11, c12, c13, c14, c15]⟩], true), (satZ v b == satZ v b, true),
      (tellHPre (fsT [c0, c1, c2, c3, c4, c5, c6, c7, c8, c9, c10, c11, c12, c13, c14, c15] e s) fx3Pre 62 [.slice (some ⟨0, 0, none⟩) n c] [B, ⟨true, none, ints [c0, c1, c2, c3, c4, c5, c6, c7, c8, c9, c10, c11, c12, c13, c14, c15]⟩], true), (tellHPre (fsT [c0, c1, c2, c3, c4, c5, c6, c7, c8, c9, c10, c11, c12, c13, c14, c15] e s) fx3Pre 61 [.slice (some ⟨0, 0, none⟩) n c] [B], true), (decide ((n : Int) > 1000), false)])
    progOk extSound (fs_sound [c0, c1, c2, c3, c4, c5, c6, c7, c8, c9, c10, c11, c12, c13, c14, c15] e s) noLoops_ok (by kernel_rfl) ?_) rfl rfl
  rw [tellH_ok rfl (h4 _), tellH_ok rfl (h3 _), tellH_ok rfl (h2 _), tellH_ok rfl h1]
  simp [Holds]
  omega
theorem sats_none (v b : Int) : CallOk Try.prog 14 [.int .i64 v, .int .i64 b, .slice none 0 0] [] (.bool true) [] 0 := by
  refine CallOk.still (H := []) (fnL_ok (N := 300) (L := noLoops) (os := [(3, true), (0, true), (12, true), (3, true)]) (v := .bool true) (H' := [⟨true, none, ints zero16⟩, ⟨true, none, ints zero16⟩]) (l := 0)
    (ob := [((1 : Int) == 1, true), (decide (zero16 = zero16), true), ((0 : Int) == 0, true), (tellHPre (fsT zero16 1 0) fx3Pre 64 [.int .i64 b, .slice none 0 0] [], true),
      (tellHPre (fsT zero16 1 0) fx3Pre 56 [.int .i64 b, .slice none 0 0] [], true), (satZ v b == satZ v b, true),
      (tellHPre (fsT zero16 1 0) fx3Pre 62 [.slice none 0 0] [], true), (tellHPre (fsT zero16 1 0) fx3Pre 61 [.slice none 0 0] [], true)])
    progOk extSound (fs_sound zero16 1 0) noLoops_ok (by kernel_rfl) ?_) rfl rfl
  rw [tellH_ok rfl (add_none 64 (.inr rfl) b _), tellH_ok rfl (add_none 56 (.inl rfl) b _), tellH_ok rfl rclip_none, tellH_ok rfl clip_none]
  simp [Holds]
theorem sats_many (v b : Int) (n c : Nat) (hn : 1000 < n) (B : Blk) : CallOk Try.prog 14 [.int .i64 v, .int .i64 b, .slice (some ⟨0, 0, none⟩) n c] [B] (.bool true) [B] 1 :=
  CallOk.still (fnL_ok (N := 300) (pre := fx3Pre) (C := fx3) (L := noLoops) (os := [(2, true)]) (v := .bool true) (H' := [B]) (l := 1) (ob := [(decide ((n : Int) > 1000), true)]) progOk extSound fx3_sound noLoops_ok (by kernel_rfl) (by simp [Holds]; omega)) rfl rfl

theorem sats_call (v b : Int) (l : List Int) (c : Nat) : CallOk Try.prog 14 [.int .i64 v, .int .i64 b, .slice (some ⟨0, 0, none⟩) l.length c] [⟨false, none, ints l⟩] (.bool true) [⟨false, none, ints l⟩] 1 := by
  by_cases hn : l.length ≤ 1000
  · have h3 := fun R => add_ok 56 (.inl rfl) b l false none R c (by omega)
    have h4 := fun R => add_ok 64 (.inr rfl) b l false none R c (by omega)
    by_cases h16 : l.length = 16
    · match l, h16 with
      | [x0, x1, x2, x3, x4, x5, x6, x7, x8, x9, x10, x11, x12, x13, x14, x15], _ => exact sats_run (satZ x0 16) (satZ x1 16) (satZ x2 16) (satZ x3 16) (satZ x4 16) (satZ x5 16) (satZ x6 16) (satZ x7 16) (satZ x8 16) (satZ x9 16) (satZ x10 16) (satZ x11 16) (satZ x12 16) (satZ x13 16) (satZ x14 16) (satZ x15 16) 0 (addZ b [x0, x1, x2, x3, x4, x5, x6, x7, x8, x9, x10, x11, x12, x13, x14, x15] 0) v b 16 c (by omega) _ (clip_good x0 x1 x2 x3 x4 x5 x6 x7 x8 x9 x10 x11 x12 x13 x14 x15 c _ _) (fun A => rclip_good x0 x1 x2 x3 x4 x5 x6 x7 x8 x9 x10 x11 x12 x13 x14 x15 c _ _ A) h3 h4
    · exact sats_run 0 0 0 0 0 0 0 0 0 0 0 0 0 0 0 0 1 (addZ b l 0) v b l.length c hn _ (clip_bad _ c h16 _) (fun A => rclip_bad _ c h16 _ A) h3 h4
  · exact sats_many v b _ c (by omega) _

end Go.Proofs.Ytfbjpenbpbpcaaa

