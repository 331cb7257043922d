/-
  Chapter 07: the contracts of lapped.Back and of the reference's, joined; in a greater heap.
-/
import Derived.Test.YtfbjpenbpbpcaaaLa5
namespace Go.Proofs.Ytfbjpenbpbpcaaa
open Go Den
set_option maxRecDepth 100000
set_option linter.unusedSimpArgs false
set_option linter.unusedVariables false

theorem least_bad (p : Nat → Prop) [DecidablePred p] : ∀ n, (∀ i, i < n → p i) ∨ ∃ m, m < n ∧ ¬ p m ∧ ∀ i, i < m → p i
  | 0 => .inl fun i hi => by omega
  | n + 1 => by
    rcases least_bad p n with h | ⟨m, h1, h2, h3⟩
    · by_cases hp : p n
      · exact .inl fun i hi => by
          by_cases e : i = n
          · rw [e]; exact hp
          · exact h i (by omega)
      · exact .inr ⟨n, by omega, hp, h⟩
    · exact .inr ⟨m, by omega, h2, h3⟩

theorem good88 (ow : Bool) (gr : Option Nat) (L : List Int) (t0 : Nat → Int) (n c : Nat) (hL : L.length = n * 16) (hn : n ≤ 1000) (h : ∀ i, i < n → okR L t0 i) : WP Try.prog 44 (.loop (loopAt Try.prog 88 0)) (S88 ow gr L t0 n c 0) (.exit 0) (S88 ow gr L t0 n c n) :=
  WP.loop_gc (S88 ow gr L t0 n c) (T88 ow gr L t0 n c) n (by simp) (fun i hi => step88 ow gr L t0 n c hL hn i hi (h i hi)) (fun i hi => gc88 ow gr L t0 n c i) (end88 ow gr L t0 n c)
theorem fail88 (ow : Bool) (gr : Option Nat) (L : List Int) (t0 : Nat → Int) (n c : Nat) (hL : L.length = n * 16) (hn : n ≤ 1000) {m : Nat} (hm : m < n) (hb : ¬ okR L t0 m) (h : ∀ i, i < m → okR L t0 i) :
    ∃ e T R, e = 1 ∧ WP Try.prog 44 (.loop (loopAt Try.prog 88 0)) (S88 ow gr L t0 n c 0) .ret ⟨[(4, .slice none 0 0), (5, lpt 2), (6, .int .i64 e)], ⟨ow, gr, ints L⟩ :: T :: lbk zr16 :: R, 1⟩ := by
  obtain ⟨e, T, R, he, hw⟩ := bad88 ow gr L t0 n c hL m hm hb
  exact ⟨e, T, R, he, WP.loop_gc (S88 ow gr L t0 n c) (T88 ow gr L t0 n c) m (by simp) (fun i hi => step88 ow gr L t0 n c hL hn i (by omega) (h i hi)) (fun i hi => gc88 ow gr L t0 n c i) hw⟩

noncomputable def nG88 (ow : Bool) (gr : Option Nat) (L : List Int) (t0 : Nat → Int) (n c : Nat) : Loops := { loop := sumL 3 (S88 ow gr L t0 n c 0) (.exit 0) (S88 ow gr L t0 n c n) }
noncomputable def nB88 (ow : Bool) (gr : Option Nat) (L : List Int) (t0 : Nat → Int) (n c : Nat) (e : Int) (T : Blk) (R : Heap) : Loops := { loop := sumL 3 (S88 ow gr L t0 n c 0) .ret ⟨[(4, .slice none 0 0), (5, lpt 2), (6, .int .i64 e)], ⟨ow, gr, ints L⟩ :: T :: lbk zr16 :: R, 1⟩ }
noncomputable def ob88 (ow : Bool) (gr : Option Nat) (L : List Int) (t0 : Nat → Int) (n c : Nat) : Obs := [(cdec ((S88 ow gr L t0 n c 0).F = (S88 ow gr L t0 n c 0).F), true), (cdec ((S88 ow gr L t0 n c 0).H = (S88 ow gr L t0 n c 0).H), true), (cdec ((S88 ow gr L t0 n c 0).lo = (S88 ow gr L t0 n c 0).lo), true)]
theorem ob88_ok (ow : Bool) (gr : Option Nat) (L : List Int) (t0 : Nat → Int) (n c : Nat) : Holds (ob88 ow gr L t0 n c) := by
  simp only [Holds, ob88, List.mem_cons, List.not_mem_nil, or_false, forall_eq_or_imp, forall_eq]
  exact ⟨cdec_iff.2 trivial, cdec_iff.2 trivial, cdec_iff.2 trivial⟩
theorem run88_g (ow : Bool) (gr : Option Nat) (L : List Int) (t0 : Nat → Int) (k c : Nat) : evFnL Try.prog ext 300 noPre noC (nG88 ow gr L t0 (k + 1) c) [] 88 [.agg (ints (T16 t0)).toArray, .slice (some ⟨0, 0, none⟩) (k + 1) c] [⟨ow, gr, ints L⟩] =
  some ((.tuple #[.slice (some ⟨3, 0, none⟩) (k + 1) 0, .agg (ints (T16 (tgR L t0 (k + 1)))).toArray, .int .i64 0], [⟨ow, gr, ints L⟩, lbk (T16 (tgR L t0 (k + 1))), lbk (T16 (tgR L t0 (k + 1))), ⟨true, some 16, ints (plR L t0 (k + 1))⟩], 1), ob88 ow gr L t0 (k + 1) c) := by kernel_rfl
theorem run88_b (ow : Bool) (gr : Option Nat) (L : List Int) (t0 : Nat → Int) (n c : Nat) (e : Int) (T : Blk) (R : Heap) : evFnL Try.prog ext 300 noPre noC (nB88 ow gr L t0 n c e T R) [] 88 [.agg (ints (T16 t0)).toArray, .slice (some ⟨0, 0, none⟩) n c] [⟨ow, gr, ints L⟩] =
  some ((.tuple #[.slice none 0 0, .agg (ints zr16).toArray, .int .i64 e], ⟨ow, gr, ints L⟩ :: T :: lbk zr16 :: R, 1), ob88 ow gr L t0 n c) := by kernel_rfl
theorem nG88_ok (ow : Bool) (gr : Option Nat) (L : List Int) (t0 : Nat → Int) (n c : Nat) (hL : L.length = n * 16) (hn : n ≤ 1000) (h : ∀ i, i < n → okR L t0 i) : LoopsOk Try.prog 44 (nG88 ow gr L t0 n c) (bodyOf Try.prog 88) :=
  LoopsOk.sum rfl (fun b hb _ => by
    rw [loops88] at hb
    simp only [List.mem_singleton] at hb
    subst hb
    exact good88 ow gr L t0 n c hL hn h)
theorem back88_g (ow : Bool) (gr : Option Nat) (L : List Int) (t0 : Nat → Int) (k c : Nat) (hL : L.length = (k + 1) * 16) (hn : k + 1 ≤ 1000) (h : ∀ i, i < k + 1 → okR L t0 i) :
    CallOk Try.prog 88 [.agg (ints (T16 t0)).toArray, .slice (some ⟨0, 0, none⟩) (k + 1) c] [⟨ow, gr, ints L⟩] (.tuple #[.slice (some ⟨3, 0, none⟩) (k + 1) 0, .agg (ints (T16 (tgR L t0 (k + 1)))).toArray, .int .i64 0])
      [⟨ow, gr, ints L⟩, lbk (T16 (tgR L t0 (k + 1))), lbk (T16 (tgR L t0 (k + 1))), ⟨true, some 16, ints (plR L t0 (k + 1))⟩] 1 :=
  fnL_ok progOk extSound noC_sound (show LoopsOk _ (ntOf _ _ 2) _ _ by rw [nt88]; exact nG88_ok ow gr L t0 (k + 1) c hL hn h) (run88_g ow gr L t0 k c) (ob88_ok ow gr L t0 (k + 1) c)
theorem pf_bad : pf 3 (.tuple #[.slice none 0 0, .agg (ints zr16).toArray, .int .i64 1]) = true := by kernel_rfl
theorem back88_b (ow : Bool) (gr : Option Nat) (L : List Int) (t0 : Nat → Int) (n c : Nat) (hL : L.length = n * 16) (hn : n ≤ 1000) {m : Nat} (hm : m < n) (hb : ¬ okR L t0 m) (h : ∀ i, i < m → okR L t0 i) :
    CallOk Try.prog 88 [.agg (ints (T16 t0)).toArray, .slice (some ⟨0, 0, none⟩) n c] [⟨ow, gr, ints L⟩] (.tuple #[.slice none 0 0, .agg (ints zr16).toArray, .int .i64 1]) [⟨ow, gr, ints L⟩] 1 := by
  obtain ⟨e, T, R, rfl, hw⟩ := fail88 ow gr L t0 n c hL hn hm hb h
  exact CallOk.still (fnL_ok progOk extSound noC_sound (show LoopsOk _ (ntOf _ _ 2) _ _ by
    rw [nt88]
    exact LoopsOk.sum rfl (fun b hb _ => by
      rw [loops88] at hb
      simp only [List.mem_singleton] at hb
      subst hb
      exact hw)) (run88_b ow gr L t0 n c 1 T R) (ob88_ok ow gr L t0 n c)) rfl pf_bad

theorem good89 (ow : Bool) (gr : Option Nat) (L : List Int) (t0 : Nat → Int) (n c : Nat) (hL : L.length = n * 16) (hn : n ≤ 1000) (h : ∀ i, i < n → okR L t0 i) : WP Try.prog 48 (.loop (loopAt Try.prog 89 0)) (S89 ow gr L t0 n c 0) (.exit 0) (S89 ow gr L t0 n c n) :=
  WP.loop_gc (S89 ow gr L t0 n c) (T89 ow gr L t0 n c) n (by simp) (fun i hi => step89 ow gr L t0 n c hL hn i hi (h i hi)) (fun i hi => gc89 ow gr L t0 n c i) (end89 ow gr L t0 n c)
theorem fail89 (ow : Bool) (gr : Option Nat) (L : List Int) (t0 : Nat → Int) (n c : Nat) (hL : L.length = n * 16) (hn : n ≤ 1000) {m : Nat} (hm : m < n) (hb : ¬ okR L t0 m) (h : ∀ i, i < m → okR L t0 i) :
    ∃ e T R, e = 1 ∧ WP Try.prog 48 (.loop (loopAt Try.prog 89 0)) (S89 ow gr L t0 n c 0) .ret ⟨[(4, .slice none 0 0), (5, lpt 2), (6, .int .i64 e)], ⟨ow, gr, ints L⟩ :: T :: lbk zr16 :: R, 1⟩ := by
  obtain ⟨e, T, R, he, hw⟩ := bad89 ow gr L t0 n c hL m hm hb
  exact ⟨e, T, R, he, WP.loop_gc (S89 ow gr L t0 n c) (T89 ow gr L t0 n c) m (by simp) (fun i hi => step89 ow gr L t0 n c hL hn i (by omega) (h i hi)) (fun i hi => gc89 ow gr L t0 n c i) hw⟩

noncomputable def nG89 (ow : Bool) (gr : Option Nat) (L : List Int) (t0 : Nat → Int) (n c : Nat) : Loops := { loop := sumL 3 (S89 ow gr L t0 n c 0) (.exit 0) (S89 ow gr L t0 n c n) }
noncomputable def nB89 (ow : Bool) (gr : Option Nat) (L : List Int) (t0 : Nat → Int) (n c : Nat) (e : Int) (T : Blk) (R : Heap) : Loops := { loop := sumL 3 (S89 ow gr L t0 n c 0) .ret ⟨[(4, .slice none 0 0), (5, lpt 2), (6, .int .i64 e)], ⟨ow, gr, ints L⟩ :: T :: lbk zr16 :: R, 1⟩ }
noncomputable def ob89 (ow : Bool) (gr : Option Nat) (L : List Int) (t0 : Nat → Int) (n c : Nat) : Obs := [(cdec ((S89 ow gr L t0 n c 0).F = (S89 ow gr L t0 n c 0).F), true), (cdec ((S89 ow gr L t0 n c 0).H = (S89 ow gr L t0 n c 0).H), true), (cdec ((S89 ow gr L t0 n c 0).lo = (S89 ow gr L t0 n c 0).lo), true)]
theorem ob89_ok (ow : Bool) (gr : Option Nat) (L : List Int) (t0 : Nat → Int) (n c : Nat) : Holds (ob89 ow gr L t0 n c) := by
  simp only [Holds, ob89, List.mem_cons, List.not_mem_nil, or_false, forall_eq_or_imp, forall_eq]
  exact ⟨cdec_iff.2 trivial, cdec_iff.2 trivial, cdec_iff.2 trivial⟩
theorem run89_g (ow : Bool) (gr : Option Nat) (L : List Int) (t0 : Nat → Int) (k c : Nat) : evFnL Try.prog ext 300 noPre noC (nG89 ow gr L t0 (k + 1) c) [] 89 [.agg (ints (T16 t0)).toArray, .slice (some ⟨0, 0, none⟩) (k + 1) c] [⟨ow, gr, ints L⟩] =
  some ((.tuple #[.slice (some ⟨3, 0, none⟩) (k + 1) 0, .agg (ints (T16 (tgR L t0 (k + 1)))).toArray, .int .i64 0], [⟨ow, gr, ints L⟩, lbk (T16 (tgR L t0 (k + 1))), lbk (T16 (tgR L t0 (k + 1))), ⟨true, some 16, ints (plR L t0 (k + 1))⟩], 1), ob89 ow gr L t0 (k + 1) c) := by kernel_rfl
theorem run89_b (ow : Bool) (gr : Option Nat) (L : List Int) (t0 : Nat → Int) (n c : Nat) (e : Int) (T : Blk) (R : Heap) : evFnL Try.prog ext 300 noPre noC (nB89 ow gr L t0 n c e T R) [] 89 [.agg (ints (T16 t0)).toArray, .slice (some ⟨0, 0, none⟩) n c] [⟨ow, gr, ints L⟩] =
  some ((.tuple #[.slice none 0 0, .agg (ints zr16).toArray, .int .i64 e], ⟨ow, gr, ints L⟩ :: T :: lbk zr16 :: R, 1), ob89 ow gr L t0 n c) := by kernel_rfl
theorem nG89_ok (ow : Bool) (gr : Option Nat) (L : List Int) (t0 : Nat → Int) (n c : Nat) (hL : L.length = n * 16) (hn : n ≤ 1000) (h : ∀ i, i < n → okR L t0 i) : LoopsOk Try.prog 48 (nG89 ow gr L t0 n c) (bodyOf Try.prog 89) :=
  LoopsOk.sum rfl (fun b hb _ => by
    rw [loops89] at hb
    simp only [List.mem_singleton] at hb
    subst hb
    exact good89 ow gr L t0 n c hL hn h)
theorem back89_g (ow : Bool) (gr : Option Nat) (L : List Int) (t0 : Nat → Int) (k c : Nat) (hL : L.length = (k + 1) * 16) (hn : k + 1 ≤ 1000) (h : ∀ i, i < k + 1 → okR L t0 i) :
    CallOk Try.prog 89 [.agg (ints (T16 t0)).toArray, .slice (some ⟨0, 0, none⟩) (k + 1) c] [⟨ow, gr, ints L⟩] (.tuple #[.slice (some ⟨3, 0, none⟩) (k + 1) 0, .agg (ints (T16 (tgR L t0 (k + 1)))).toArray, .int .i64 0])
      [⟨ow, gr, ints L⟩, lbk (T16 (tgR L t0 (k + 1))), lbk (T16 (tgR L t0 (k + 1))), ⟨true, some 16, ints (plR L t0 (k + 1))⟩] 1 :=
  fnL_ok progOk extSound noC_sound (show LoopsOk _ (ntOf _ _ 2) _ _ by rw [nt89]; exact nG89_ok ow gr L t0 (k + 1) c hL hn h) (run89_g ow gr L t0 k c) (ob89_ok ow gr L t0 (k + 1) c)
theorem back89_b (ow : Bool) (gr : Option Nat) (L : List Int) (t0 : Nat → Int) (n c : Nat) (hL : L.length = n * 16) (hn : n ≤ 1000) {m : Nat} (hm : m < n) (hb : ¬ okR L t0 m) (h : ∀ i, i < m → okR L t0 i) :
    CallOk Try.prog 89 [.agg (ints (T16 t0)).toArray, .slice (some ⟨0, 0, none⟩) n c] [⟨ow, gr, ints L⟩] (.tuple #[.slice none 0 0, .agg (ints zr16).toArray, .int .i64 1]) [⟨ow, gr, ints L⟩] 1 := by
  obtain ⟨e, T, R, rfl, hw⟩ := fail89 ow gr L t0 n c hL hn hm hb h
  exact CallOk.still (fnL_ok progOk extSound noC_sound (show LoopsOk _ (ntOf _ _ 2) _ _ by
    rw [nt89]
    exact LoopsOk.sum rfl (fun b hb _ => by
      rw [loops89] at hb
      simp only [List.mem_singleton] at hb
      subst hb
      exact hw)) (run89_b ow gr L t0 n c 1 T R) (ob89_ok ow gr L t0 n c)) rfl pf_bad

theorem mapAll_self {φ : Value → Option Value} {l : List Value} (h : ∀ v ∈ l, φ v = some v) : mapAll φ l = some l := by
  induction l with
  | nil => rfl
  | cons x l ih => simp only [mapAll, h x (by simp), ih fun v hv => h v (by simp [hv]), Option.map_some]
theorem ren_ints (φ : Nat → Option Nat) (n : Nat) (l : List Int) : mapAll (ren φ n) (ints l) = some (ints l) :=
  mapAll_self fun v hv => by obtain ⟨x, _, rfl⟩ := List.mem_map.1 hv; cases n <;> rfl
theorem renB_ints (φ : Nat → Option Nat) (o : Bool) (g : Option Nat) (l : List Int) : renB φ ⟨o, g, ints l⟩ = some ⟨o, g, ints l⟩ := by
  unfold renB
  rw [ren_ints]

/-- Back in a heap with more blocks behind the row's. -/
theorem CallOk.under {f : FuncId} {t u : List Int} {n c m : Nat} {ow : Bool} {gr : Option Nat} {L O : List Int} {X Y : Blk} {g : Option Nat} {e : Int}
    (h : CallOk Try.prog f [.agg (ints t).toArray, .slice (some ⟨0, 0, none⟩) n c] [⟨ow, gr, ints L⟩] (.tuple #[.slice (some ⟨3, 0, none⟩) m 0, .agg (ints u).toArray, .int .i64 e]) [⟨ow, gr, ints L⟩, X, Y, ⟨true, g, ints O⟩] 1)
    (hL : L ≠ []) {R : Heap} (hR : ∀ b ∈ R, b.cells ≠ []) :
    CallOk Try.prog f [.agg (ints t).toArray, .slice (some ⟨0, 0, none⟩) n c] (⟨ow, gr, ints L⟩ :: R) (.tuple #[.slice (some ⟨R.length + 1, 0, none⟩) m 0, .agg (ints u).toArray, .int .i64 e]) (⟨ow, gr, ints L⟩ :: (R ++ [⟨true, g, ints O⟩])) (R.length + 1) := by
  have hf := h.frame (args := [.agg (ints t).toArray, .slice (some ⟨0, 0, none⟩) n c]) (H := ⟨ow, gr, ints L⟩ :: R) (e := [0]) (sel := [3]) (v := .tuple #[.slice (some ⟨R.length + 1, 0, none⟩) m 0, .agg (ints u).toArray, .int .i64 e])
    (olds := [⟨ow, gr, ints L⟩]) (news := [⟨true, g, ints O⟩]) (l := R.length + 1) (ψ := fun b => if b = 0 then some 0 else none) (φ := fun b => if b = 0 then some 0 else if b = 3 then some (R.length + 1) else none)
    (by simp) rfl (fun b c hb => by
      split at hb
      · rename_i h0; injection hb with hb; subst hb; subst h0; rfl
      · simp at hb) ?_ (fun i k hi => ?_) (fun i b hb => .inl ?_) (by simp) (fun j i hj => ?_) (fun b c hb => ?_) ?_ ?_ ?_ (fun j x hj hlj => ?_)
  · simpa [putAll] using hf
  · simp only [mapAll, ren, ren_ints, Option.map_some, ren0, if_true]
  · match i, hi with
    | 0, hi => injection hi with hi; subst hi; exact ⟨_, _, rfl, rfl, renB_ints _ _ _ _⟩
  · cases i with
    | zero =>
      simp at hb
      subst hb
      intro hh
      exact hL (by simpa [ints] using hh)
    | succ i => exact hR b (List.mem_of_getElem? (by simpa using hb))
  · match j, hj with
    | 0, hj => injection hj with hj; subst hj; simp
  · split at hb
    · rename_i h0; injection hb with hb; subst hb; subst h0; exact .inl ⟨by simp, rfl⟩
    · split at hb
      · rename_i h3; injection hb with hb; subst hb; subst h3; exact .inr ⟨0, by simp, rfl⟩
      · simp at hb
  · simp [ren, mapAll, ren_ints, ren0, isFlat]
  · simp only [List.take, List.length_cons, List.length_nil, mapAll, renB_ints, Option.map_some]
  · simp [mapAll, renB_ints]
  · match j, hj with
    | 0, hj => omega

end Go.Proofs.Ytfbjpenbpbpcaaa

