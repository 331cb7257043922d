/- Parts of the proof, joined: Den18, Sy, Bt0, Tk0, Ad1, Tk1, Tk2, Ad2, Ad3, Ad4, Fr2, Bi1, Bt1, Ln, Bi2, Tk3, Tk4, Jn0, JnR, Gt1. -/
import Derived.Test.YtpgmabpaiijipaaGreatDoorZ05
import Derived.Test.YtpgmabpaiijipaaGreatDoorBase
namespace Go.Proofs.YtpgmabpaiijipaaGreatDoor.Den
open Go
theorem CallOk.anyCap {P : Program} {f : FuncId} {n sz : Nat} {own : Bool} {cells : List Value} {v : Value} {news : Heap} (hn : 0 < n) (hsz : 0 < sz)
    (h : ∀ k, CallOk P f [.slice (some ⟨0, 0, none⟩) n (k + n)] [⟨own, none, cells⟩] v (⟨own, none, cells⟩ :: news) 1) :
    CallOk P f [.slice (some ⟨0, 0, none⟩) n 0] [⟨own, some sz, cells⟩] v (⟨own, some sz, cells⟩ :: news) 1 := by
  intro ρ w args' hva hs
  have hlive : live ⟨own, some sz, cells⟩ = true := by
    unfold live
    cases sz with
    | zero => omega
    | succ m => rfl
  have hlen := hva.1
  obtain ⟨x, hargs⟩ : ∃ x, args'.toList = [x] := by
    match args'.toList, hlen with
    | [x], _ => exact ⟨x, rfl⟩
  have hx := hva.2 0 _ x rfl (by rw [hargs]; rfl)
  obtain ⟨e, he⟩ : ∃ e, ρ[0]? = some e := get_lt (by rw [hs.len]; simp)
  have hbr := hs.blk 0 e _ he rfl
  obtain ⟨c, el, fz, b1, b2, b3, b4⟩ := hbr.row hlive
  have hs0 : SR ρ [⟨own, none, cells⟩] w := by
    refine ⟨⟨by simpa using hs.len, ?_, ?_⟩, hs.gl.tabs, ?_⟩
    · intro i e' b hi hb
      cases i with
      | zero =>
        simp at hb
        subst hb
        rw [he] at hi
        injection hi with hi
        subst hi
        exact .inl ⟨rfl, c, el, fz, b1, b2, b3, fun sz h => by simp at h⟩
      | succ i => simp at hb
    · intro i j e1 e2 b b' hij _ _ hb hb'
      have h1 := (List.getElem?_eq_some_iff.1 hb).1
      have h2 := (List.getElem?_eq_some_iff.1 hb').1
      simp at h1 h2
      omega
    · intro i e' b hi hb ho
      cases i with
      | zero =>
        simp at hb
        subst hb
        exact hs.gl.away 0 e' _ hi rfl ho
      | succ i => simp at hb
  have main : ∀ (k : Nat), x = .slice (some ⟨e.r, e.d, none⟩) n (k + n) → Calls P f args' w fun e w' => ∃ ρ' v', e = .returned v' ∧ VR ρ' v v' ∧ Rel ρ [⟨own, some sz, cells⟩] w ρ' (⟨own, some sz, cells⟩ :: news) 1 w' := by
    intro k hxk
    refine (h k ρ w args' ⟨by simpa using hlen, fun i v1 v1' p q => ?_⟩ hs0).mono ?_
    · cases i with
      | zero =>
        rw [hargs] at q
        simp at p q
        subst p q
        rw [hxk]
        exact VR.slice (e := e) (o := 0) he (by omega)
      | succ i => simp at p
    · rintro ex w' ⟨ρ', v', rfl, hv, hR⟩
      refine ⟨ρ', v', rfl, hv, ?_⟩
      have hkeep : w'.heap[e.r]? = w.heap[e.r]? := hR.keep e.r hbr.lt fun j e0 b0 _ hb0 _ hl => by
        have := (List.getElem?_eq_some_iff.1 hb0).1
        simp at this
        omega
      refine ⟨hs.gl, hs.len, hR.pre, ⟨by simpa using hR.sr.len, ?_, ?_⟩, by simp, ?_, fun i e1 hi he1 => ?_, hR.os, hR.tape, hR.output, hR.size, fun k' hk' hh => hR.keep k' hk' fun j e0 b0 _ hb0 _ hl => ?_⟩
      · intro i e1 b hi hb
        cases i with
        | zero =>
          simp at hb
          subst hb
          have := prefix_get hR.pre he
          rw [hi] at this
          injection this with this
          subst this
          exact (hbr.at hkeep).mono hR.pre
        | succ i => exact hR.sr.blk (i + 1) e1 b hi (by simpa using hb)
      · intro i j e1 e2 b b' hij hi hj hb hb' ho hc
        have up : ∀ (i : Nat) (b : Blk), (⟨own, some sz, cells⟩ :: news : Heap)[i]? = some b → ∃ b2, (⟨own, none, cells⟩ :: news : Heap)[i]? = some b2 ∧ b2.own = b.own ∧ b2.cells = b.cells := by
          intro i b hb
          cases i with
          | zero => simp at hb; subst hb; exact ⟨_, rfl, rfl, rfl⟩
          | succ i => exact ⟨b, by simpa using hb, rfl, rfl⟩
        obtain ⟨c1, g1, g2, g3⟩ := up i b hb
        obtain ⟨c2, g4, g5, g6⟩ := up j b' hb'
        exact hR.sr.inj i j e1 e2 c1 c2 hij hi hj g1 g4 (by rw [g2]; exact ho) (by rw [g6]; exact hc)
      · intro i b hi hb ho
        have : i = 0 := by simp at hi; exact hi
        subst this
        simp at hb
        subst hb
        exact ⟨_, rfl, ho⟩
      · rcases hR.new i e1 (by simpa using hi) he1 with h1 | ⟨j, _, _, _, hb0, _, hl, _⟩
        · exact .inl h1
        · have := (List.getElem?_eq_some_iff.1 hb0).1
          simp at this
          omega
      · have := (List.getElem?_eq_some_iff.1 hb0).1
        simp at this
        omega
  cases hx with
  | flat hf => simp [isFlat] at hf
  | slice _ hl => omega
  | sliceU he' h0 hl =>
    rename_i e2
    have : e2 = e := by rw [he] at he'; injection he' with h; exact h.symm
    subst this
    exact main (e2.k - n) (by rw [show e2.k - n + n = e2.k by omega])
end Go.Proofs.YtpgmabpaiijipaaGreatDoor.Den
namespace Go.Proofs.YtpgmabpaiijipaaGreatDoor
open Go Den
set_option maxRecDepth 100000
set_option linter.unusedSimpArgs false
set_option linter.unusedVariables false
def noC : Oracle := fun _ _ _ => none
def noPre : Pre := fun _ _ _ => true
theorem noC_sound : Sound Tryz.prog (strict noPre noC) := Sound.strict fun f args H v H' l _ h => by simp [noC] at h
noncomputable def over (B : Oracle) : Nat → Oracle
  | 0 => B
  | n + 1 => orElse B (evFn Tryz.prog ext 300 (over B n))
theorem over_sound {B : Oracle} (hB : Sound Tryz.prog B) : ∀ n, Sound Tryz.prog (over B n)
  | 0 => hB
  | n + 1 => hB.or (evFn_sound progOk extSound (over_sound hB n) 300)
theorem plain_sound {C : Oracle} (hC : Sound Tryz.prog C) : Sound Tryz.prog (strict noPre C) := by
  intro f args H v H' l h
  exact hC f args H v H' l (by simpa [strict, noPre] using h)
def nmPre (pre : Pre) : Pre := fun f args H => match Nat.beq f 1000001 with
  | true => false
  | false => pre f args H
def nmAt (t : Int) : List (Nat × Int) → Option Int
  | [] => none
  | (u, y) :: l => match decide ((u : Int) = t) with
    | true => some y
    | false => nmAt t l
def nmC (l : List (Nat × Int)) (C : Oracle) : Oracle := fun f args H => match Nat.beq f 1000001 with
  | true => match args with
    | [.int _ t] => match nmAt t l with
      | some y => some (.int .i64 y, [], 0)
      | none => none
    | _ => none
  | false => C f args H
theorem nm_sound {pre : Pre} {C : Oracle} (l : List (Nat × Int)) (h : Sound Tryz.prog (strict pre C)) : Sound Tryz.prog (strict (nmPre pre) (nmC l C)) := by
  intro f args H v H' n hc
  unfold strict at hc
  split at hc
  · rename_i hp
    unfold nmPre at hp
    unfold nmC at hc
    split at hp
    · simp at hp
    · rename_i hf
      rw [hf] at hc
      exact h f args H v H' n (by unfold strict; rw [hp]; exact hc)
  · simp at hc
theorem of_list {α : Type} {f g : Nat → α} {n m : Nat} (h : (List.range' m n).map f = (List.range' m n).map g) {i : Nat} (h1 : m ≤ i) (h2 : i < m + n) : f i = g i := by
  have hi : (List.range' m n)[i - m]? = some i := by rw [List.getElem?_range' (by omega)]; simp; omega
  have := congrArg (fun l : List α => l[i - m]?) h
  simpa [hi] using this
def nbAt (t : Int) : List (Nat × Bool) → Option Bool
  | [] => none
  | (u, y) :: l => match decide ((u : Int) = t) with
    | true => some y
    | false => nbAt t l
def nbC (l : List (Nat × Int)) (bs : List (Nat × Bool)) (C : Oracle) : Oracle := fun f args H => match Nat.beq f 1000001 with
  | true => match args with
    | [.int _ t] => match nbAt t bs with
      | some y => some (.bool y, [], 0)
      | none => match nmAt t l with
        | some y => some (.int .i64 y, [], 0)
        | none => none
    | _ => none
  | false => C f args H
theorem nb_sound {pre : Pre} {C : Oracle} (l : List (Nat × Int)) (bs : List (Nat × Bool)) (h : Sound Tryz.prog (strict pre C)) : Sound Tryz.prog (strict (nmPre pre) (nbC l bs C)) := by
  intro f args H v H' n hc
  unfold strict at hc
  split at hc
  · rename_i hp
    unfold nmPre at hp
    unfold nbC at hc
    split at hp
    · simp at hp
    · rename_i hf
      rw [hf] at hc
      exact h f args H v H' n (by unfold strict; rw [hp]; exact hc)
  · simp at hc
def symPre (ks : List Nat) (pre : Pre) : Pre := fun f args H => (match Nat.beq f 1000000 with
  | true => match args with
    | [.int _ t] => !(ks.any fun u => decide ((u : Int) = t))
    | _ => true
  | false => true) && pre f args H
theorem sym_sound {pre : Pre} {C : Oracle} (ks : List Nat) (h : Sound Tryz.prog (strict pre C)) : Sound Tryz.prog (strict (symPre ks pre) C) := by
  intro f args H v H' n hc
  unfold strict at hc
  split at hc
  · rename_i hp
    unfold symPre at hp
    simp only [Bool.and_eq_true] at hp
    exact h f args H v H' n (by unfold strict; rw [hp.2]; exact hc)
  · simp at hc
theorem strict_or {pre : Pre} {A B : Oracle} (hA : Sound Tryz.prog A) (hB : Sound Tryz.prog (strict pre B)) : Sound Tryz.prog (strict pre (orElse A B)) := by
  intro f args H v H' l h
  unfold strict at h
  split at h
  · rename_i hp
    unfold orElse at h
    split at h
    · rename_i r hr
      injection h with h
      subst h
      exact hA f args H v H' l hr
    · exact hB f args H v H' l (by unfold strict; rw [hp]; exact h)
  · simp at h
abbrev Tale := FuncId → List Value → Heap → Option (Value × Heap × Nat)
def tellH (T : Tale) (B : Oracle) : Oracle := fun f args H => match T f args H with
  | some r => some r
  | none => B f args H
noncomputable def tellHPre (T : Tale) (pre : Pre) : Pre := fun f args H => match T f args H with
  | some r => cdec (CallOk Tryz.prog f args H r.1 r.2.1 r.2.2)
  | none => pre f args H
theorem tellH_sound {pre : Pre} {B : Oracle} (T : Tale) (h : Sound Tryz.prog (strict pre B)) : Sound Tryz.prog (strict (tellHPre T pre) (tellH T B)) := by
  intro f args H v H' n hc
  unfold strict at hc
  split at hc
  case h_2 => simp at hc
  rename_i hp
  unfold tellHPre at hp
  unfold tellH at hc
  split at hc
  · rename_i r ht
    simp only [Option.some.injEq] at hc
    subst hc
    simp only [ht] at hp
    exact cdec_iff.1 hp
  · rename_i ht
    simp only [ht] at hp
    exact h f args H v H' n (by unfold strict; rw [hp]; exact hc)
theorem tellH_ok {T : Tale} {pre : Pre} {f : FuncId} {args : List Value} {H : Heap} {r : Value × Heap × Nat} (h : T f args H = some r) (hc : CallOk Tryz.prog f args H r.1 r.2.1 r.2.2) : tellHPre T pre f args H = true := by
  unfold tellHPre
  simp only [h]
  exact cdec_iff.2 hc
end Go.Proofs.YtpgmabpaiijipaaGreatDoor
namespace Go.Proofs.YtpgmabpaiijipaaGreatDoor.Bt
set_option linter.unusedVariables false
def val : List Bool → Nat
  | [] => 0
  | b :: l => (if b then 2 ^ l.length else 0) + val l
theorem val_lt : ∀ l : List Bool, val l < 2 ^ l.length := by
  intro l
  induction l with
  | nil => simp [val]
  | cons b l ih =>
    simp only [val, List.length_cons, Nat.pow_succ]
    split <;> omega
theorem val_append : ∀ l m : List Bool, val (l ++ m) = val l * 2 ^ m.length + val m := by
  intro l m
  induction l with
  | nil => simp [val]
  | cons b l ih =>
    simp only [List.cons_append, val, ih, List.length_append]
    split
    · rw [Nat.pow_add, Nat.add_mul, Nat.add_assoc]
    · simp
def be : Nat → Nat → List Bool
  | 0, _ => []
  | w + 1, v => (v / 2 ^ w % 2 == 1) :: be w v
@[simp] theorem be_length (w v : Nat) : (be w v).length = w := by
  induction w with
  | zero => rfl
  | succ w ih => simp [be, ih]
theorem val_be (w v : Nat) : val (be w v) = v % 2 ^ w := by
  induction w with
  | zero => simp [be, val, Nat.mod_one]
  | succ w ih =>
    simp only [be, val, be_length, ih, Nat.pow_succ]
    rw [Nat.mod_mul]
    rcases Nat.mod_two_eq_zero_or_one (v / 2 ^ w) with h | h
    · simp [h]
    · simp [h]; omega
theorem be_append (a b v : Nat) : be (a + b) v = be a (v / 2 ^ b) ++ be b v := by
  induction a with
  | zero => simp [be]
  | succ a ih =>
    rw [show a + 1 + b = (a + b) + 1 by omega]
    simp only [be, ih, List.cons_append]
    rw [Nat.div_div_eq_div_mul, ← Nat.pow_add, Nat.add_comm b a]
theorem be_mod (w v : Nat) {k : Nat} (h : w ≤ k) : be w (v % 2 ^ k) = be w v := by
  induction w with
  | zero => rfl
  | succ w ih =>
    simp only [be]
    rw [ih (by omega)]
    congr 2
    have : v % 2 ^ k / 2 ^ w % 2 = v / 2 ^ w % 2 := by
      obtain ⟨d, rfl⟩ : ∃ d, k = w + 1 + d := ⟨k - (w + 1), by omega⟩
      rw [show w + 1 + d = w + (1 + d) by omega, Nat.pow_add, Nat.mod_mul_right_div_self, Nat.pow_add, Nat.pow_one, Nat.mod_mul_right_mod]
    rw [this]
def byte (l : List Bool) : Nat := val l * 2 ^ (8 - l.length)
theorem byte_lt {l : List Bool} (h : l.length ≤ 8) : byte l < 256 := by
  have h1 := val_lt l
  unfold byte
  have : val l * 2 ^ (8 - l.length) < 2 ^ l.length * 2 ^ (8 - l.length) := Nat.mul_lt_mul_of_pos_right h1 (Nat.pow_pos (by omega))
  rwa [← Nat.pow_add, show l.length + (8 - l.length) = 8 by omega] at this
def pack (l : List Bool) : List Nat :=
  if h : l = [] then [] else byte (l.take 8) :: pack (l.drop 8)
termination_by l.length
decreasing_by
  have : 0 < l.length := List.length_pos_iff.2 h
  simp; omega
@[simp] theorem pack_nil : pack [] = [] := by unfold pack; simp
theorem pack_cons {l : List Bool} (h : l ≠ []) : pack l = byte (l.take 8) :: pack (l.drop 8) := by
  rw [pack]; simp [h]
theorem pack_length : ∀ (n : Nat) (l : List Bool), l.length ≤ n → (pack l).length = (l.length + 7) / 8 := by
  intro n
  induction n with
  | zero =>
    intro l h
    have : l = [] := List.length_eq_zero_iff.1 (by omega)
    subst this
    simp
  | succ n ih =>
    intro l h
    by_cases hl : l = []
    · subst hl; simp
    · have hp : 0 < l.length := List.length_pos_iff.2 hl
      rw [pack_cons hl, List.length_cons, ih _ (by simp; omega), List.length_drop]
      omega
theorem pack_len (l : List Bool) : (pack l).length = (l.length + 7) / 8 := pack_length _ l (Nat.le_refl _)
theorem pack_lt : ∀ (n : Nat) (l : List Bool), l.length ≤ n → ∀ x ∈ pack l, x < 256 := by
  intro n
  induction n with
  | zero =>
    intro l h
    have : l = [] := List.length_eq_zero_iff.1 (by omega)
    subst this
    simp
  | succ n ih =>
    intro l h x hx
    by_cases hl : l = []
    · subst hl; simp at hx
    · have hp : 0 < l.length := List.length_pos_iff.2 hl
      rw [pack_cons hl] at hx
      rcases List.mem_cons.1 hx with rfl | hx
      · exact byte_lt (by simp; omega)
      · exact ih _ (by simp; omega) x hx
theorem pack_append8 : ∀ (n : Nat) (l m : List Bool), l.length = 8 * n → pack (l ++ m) = pack l ++ pack m := by
  intro n
  induction n with
  | zero =>
    intro l m h
    have : l = [] := List.length_eq_zero_iff.1 (by omega)
    subst this
    simp
  | succ n ih =>
    intro l m h
    have hl : l ≠ [] := by intro e; rw [e] at h; simp at h
    rw [pack_cons (by simp [hl]), pack_cons hl, List.cons_append]
    rw [List.take_append_of_le_length (by omega), List.drop_append_of_le_length (by omega), ih _ _ (by simp; omega)]
theorem pack_short {l : List Bool} (h : l ≠ []) (h8 : l.length ≤ 8) : pack l = [byte l] := by
  rw [pack_cons h, List.take_of_length_le h8, List.drop_eq_nil_iff.2 h8, pack_nil]
theorem split8 (l : List Bool) : ∃ l0 r, l = l0 ++ r ∧ l0.length = 8 * (l.length / 8) ∧ r.length = l.length % 8 :=
  ⟨l.take (8 * (l.length / 8)), l.drop (8 * (l.length / 8)), (List.take_append_drop _ _).symm, by simp; omega, by simp; omega⟩
theorem or_add (a b n : Nat) (h : b < 2 ^ n) : a * 2 ^ n ||| b = a * 2 ^ n + b := by
  rw [Nat.mul_comm]; exact (Nat.two_pow_add_eq_or_of_lt h a).symm
theorem pack_more {l m : List Bool} (hr : l.length % 8 ≠ 0) (hm : m.length ≤ 8 - l.length % 8) :
    ∃ B b, pack l = B ++ [b] ∧ B.length = l.length / 8 ∧ pack (l ++ m) = B ++ [b ||| (val m * 2 ^ (8 - l.length % 8 - m.length))] ∧ b < 256 := by
  obtain ⟨l0, r, hl, h1, h2⟩ := split8 l
  have hrne : r ≠ [] := by intro e; rw [e] at h2; simp at h2; omega
  have hr8 : r.length < 8 := by omega
  have e1 : pack l = pack l0 ++ [byte r] := by
    conv => lhs; rw [hl]
    rw [pack_append8 _ l0 r h1, pack_short hrne (by omega)]
  have e2 : pack (l ++ m) = pack l0 ++ [byte (r ++ m)] := by
    conv => lhs; rw [hl]
    rw [List.append_assoc, pack_append8 _ l0 (r ++ m) h1, pack_short (l := r ++ m) (by simp [hrne]) (by simp; omega)]
  refine ⟨pack l0, byte r, e1, by rw [pack_len, h1]; omega, ?_, byte_lt (by omega)⟩
  rw [e2]
  congr 2
  unfold byte
  rw [val_append, List.length_append, ← h2]
  have hv := val_lt m
  have hlt : val m * 2 ^ (8 - r.length - m.length) < 2 ^ (8 - r.length) := by
    have : val m * 2 ^ (8 - r.length - m.length) < 2 ^ m.length * 2 ^ (8 - r.length - m.length) := Nat.mul_lt_mul_of_pos_right hv (Nat.pow_pos (by omega))
    rwa [← Nat.pow_add, show m.length + (8 - r.length - m.length) = 8 - r.length by omega] at this
  rw [or_add _ _ _ hlt, Nat.add_mul, Nat.mul_assoc, ← Nat.pow_add]
  rw [show m.length + (8 - (r.length + m.length)) = 8 - r.length by omega, show 8 - (r.length + m.length) = 8 - r.length - m.length by omega]
theorem pack_next {l m : List Bool} (hr : l.length % 8 = 0) (hm : m.length ≤ 8) (hne : m ≠ []) : pack (l ++ m) = pack l ++ [0 ||| (val m * 2 ^ (8 - m.length))] := by
  rw [pack_append8 (l.length / 8) l m (by omega), pack_short hne hm, Nat.zero_or]; rfl
theorem pack_get : ∀ (n : Nat) (l : List Bool) (i : Nat), l.length ≤ n → 8 * i < l.length → (pack l)[i]? = some (byte ((l.drop (8 * i)).take 8)) := by
  intro n
  induction n with
  | zero => intro l i h hi; omega
  | succ n ih =>
    intro l i h hi
    have hl : l ≠ [] := by intro e; rw [e] at hi; simp at hi
    have hp : 0 < l.length := List.length_pos_iff.2 hl
    rw [pack_cons hl]
    cases i with
    | zero => simp
    | succ i =>
      rw [List.getElem?_cons_succ, ih _ i (by simp; omega) (by simp; omega), List.drop_drop]
      rw [show 8 + 8 * i = 8 * (i + 1) by omega]
theorem byte_part {l : List Bool} {at' k : Nat} (h : at' + k ≤ l.length) (hk : k ≤ 8 - at' % 8) :
    byte ((l.drop (8 * (at' / 8))).take 8) / 2 ^ (8 - at' % 8 - k) % 2 ^ k = val ((l.drop at').take k) := by
  generalize hL : (l.drop (8 * (at' / 8))).take 8 = L
  have hlen : L.length ≤ 8 := by rw [← hL]; simp; omega
  have hm : (l.drop at').take k = (L.drop (at' % 8)).take k := by
    rw [← hL, List.drop_take, List.drop_drop, List.take_take, show 8 * (at' / 8) + at' % 8 = at' by omega, Nat.min_eq_left (by omega)]
  rw [hm]
  have hlk : at' % 8 + k ≤ L.length := by rw [← hL]; simp; omega
  have e : L = L.take (at' % 8) ++ ((L.drop (at' % 8)).take k ++ L.drop (at' % 8 + k)) := by
    rw [← List.drop_drop, List.take_append_drop, List.take_append_drop]
  generalize ha : L.take (at' % 8) = a at e
  generalize hz : L.drop (at' % 8 + k) = z at e
  generalize hmm : (L.drop (at' % 8)).take k = m at e ⊢
  have la : a.length = at' % 8 := by rw [← ha]; simp; omega
  have lm : m.length = k := by rw [← hmm]; simp; omega
  have lz : z.length = L.length - (at' % 8 + k) := by rw [← hz]; simp
  have hv := val_lt z
  have hvm := val_lt m
  rw [lm] at hvm
  unfold byte
  conv => lhs; rw [e]
  rw [val_append, val_append, List.length_append, List.length_append, List.length_append, la, lm]
  generalize hw : 8 - (at' % 8 + (k + z.length)) = w
  have hexp : 8 - at' % 8 - k = z.length + w := by omega
  rw [hexp]
  have hs : (val a * 2 ^ (k + z.length) + (val m * 2 ^ z.length + val z)) * 2 ^ w = (val a * 2 ^ k + val m) * 2 ^ (z.length + w) + val z * 2 ^ w := by
    rw [Nat.pow_add, Nat.pow_add]
    simp only [Nat.add_mul, Nat.mul_assoc, Nat.add_assoc]
  rw [hs]
  have hlt : val z * 2 ^ w < 2 ^ (z.length + w) := by
    rw [Nat.pow_add]
    exact Nat.mul_lt_mul_of_pos_right hv (Nat.pow_pos (by omega))
  rw [Nat.add_comm, Nat.add_mul_div_right _ _ (Nat.pow_pos (by omega)), Nat.div_eq_of_lt hlt, Nat.zero_add, Nat.add_comm, Nat.add_mul_mod_self_right, Nat.mod_eq_of_lt hvm]
theorem pack_tail {l : List Bool} (h : l.length % 8 ≠ 0) : ∃ B b, pack l = B ++ [b] ∧ b * 2 ^ (l.length % 8) % 256 = 0 ∧ b < 256 := by
  obtain ⟨B, b, h1, _, _, h2⟩ := pack_more (m := []) h (by simp)
  obtain ⟨l0, r, hl, g1, g2⟩ := split8 l
  have hrne : r ≠ [] := by intro e; rw [e] at g2; simp at g2; omega
  have e1 : pack l = pack l0 ++ [byte r] := by
    conv => lhs; rw [hl]
    rw [pack_append8 _ l0 r g1, pack_short hrne (by omega)]
  refine ⟨pack l0, byte r, e1, ?_, byte_lt (by omega)⟩
  unfold byte
  rw [← g2, Nat.mul_assoc, ← Nat.pow_add, show 8 - r.length + r.length = 8 by omega]
  omega
end Go.Proofs.YtpgmabpaiijipaaGreatDoor.Bt
namespace Go.Proofs.YtpgmabpaiijipaaGreatDoor
open Go
set_option maxRecDepth 100000
theorem and_part : ∀ x : Nat, x < 256 → ∀ k : Nat, k < 9 → IntKind.wrap .u8 (BitVec.toNat (BitVec.ofInt (IntKind.bits .u8) (x : Int) &&& BitVec.ofInt (IntKind.bits .u8) (IntKind.wrap .u8 (IntKind.wrap .u8 (1 * 2 ^ min k (IntKind.bits .u8)) - 1)))) = ((x % 2 ^ k : Nat) : Int) := by
  decide +kernel
theorem wrap_u64 {n : Nat} (h : n < 18446744073709551616) : IntKind.wrap .u64 (n : Int) = (n : Int) := by
  have e1 : (2 : Int) ^ IntKind.u64.bits = 18446744073709551616 := rfl
  have e2 : IntKind.u64.signed = false := rfl
  simp only [IntKind.wrap, e1, e2]
  simp
  omega
theorem or_part {v p k : Nat} (hk : k ≤ 64) (hp : p < 2 ^ k) (hv : v * 2 ^ k + p < 18446744073709551616) :
    IntKind.wrap .u64 (BitVec.toNat (BitVec.ofInt (IntKind.bits .u64) (IntKind.wrap .u64 ((v : Int) * 2 ^ min k (IntKind.bits .u64))) ||| BitVec.ofInt (IntKind.bits .u64) (IntKind.wrap .u64 (p : Int)))) = ((v * 2 ^ k + p : Nat) : Int) := by
  have e0 : min k (IntKind.bits .u64) = k := Nat.min_eq_left hk
  have e1 : (v : Int) * 2 ^ k = ((v * 2 ^ k : Nat) : Int) := by push_cast; rfl
  have e3 : (2 : Nat) ^ IntKind.u64.bits = 18446744073709551616 := rfl
  rw [e0, e1, wrap_u64 (n := v * 2 ^ k) (by omega), wrap_u64 (n := p) (by omega)]
  have h1 : BitVec.toNat (BitVec.ofInt (IntKind.bits .u64) ((v * 2 ^ k : Nat) : Int)) = v * 2 ^ k := by
    rw [BitVec.ofInt_natCast, BitVec.toNat_ofNat, e3]
    exact Nat.mod_eq_of_lt (by omega)
  have h2 : BitVec.toNat (BitVec.ofInt (IntKind.bits .u64) (p : Int)) = p := by
    rw [BitVec.ofInt_natCast, BitVec.toNat_ofNat, e3]
    exact Nat.mod_eq_of_lt (by omega)
  rw [BitVec.toNat_or, h1, h2, Bt.or_add _ _ _ hp, wrap_u64 hv]
end Go.Proofs.YtpgmabpaiijipaaGreatDoor
namespace Go.Proofs.YtpgmabpaiijipaaGreatDoor
open Go Den
set_option maxRecDepth 100000
set_option linter.unusedSimpArgs false
def spB : Blk := ⟨false, none, []⟩
def bitsB (g len : Nat) (N : Int) : Blk := ⟨true, none, [.slice (some ⟨g, 0, none⟩) len 0, .int .i64 N]⟩
def resB : Blk := ⟨true, none, [.slice none 0 0, .int .i64 0]⟩
def rowB (l : List Value) : Blk := ⟨true, some 1, l⟩
def adF (v w : Int) : Slots := [(1, .int .u64 v), (2, .int .i64 w), (3, .pointer (some ⟨1, 0, none⟩)), (6, .pointer (some ⟨2, 0, none⟩))]
def adH (l : List Value) (len : Nat) (N : Int) : Heap := [spB, bitsB 3 len N, resB, rowB l]
noncomputable def adPre : Pre := nmPre (symPre [20, 37, 42, 50] noPre)
theorem ad_sound (l : List (Nat × Int)) : Sound Tryz.prog (strict adPre (nbC l [] noC)) := nb_sound l [] (sym_sound [20, 37, 42, 50] noC_sound)
def adOb (v w N f k i sv p y N' w' : Int) (l : List Value) (len : Nat) : Obs :=
  [(decide (IntKind.wrap .i64 (w - k) = w'), true), (decide (IntKind.wrap .i64 (N + k) = N'), true),
   (live (rowB l) && (true && decide (0 + Int.toNat i + 1 ≤ l.length)), true),
   (decide (0 ≤ i ∧ i < (len : Int)), true),
   (decide (IntKind.wrap .u8 ↑(BitVec.toNat (BitVec.ofInt (IntKind.bits .u8) (intAt l (0 + Int.toNat i)) ||| BitVec.ofInt (IntKind.bits .u8) (IntKind.wrap .u8 (p * 2 ^ min (Int.toNat (IntKind.wrap .i64 (f - k))) (IntKind.bits .u8))))) = y), true),
   (decide (IntKind.wrap .i64 (f - k) < 0), false),
   (live (rowB l) && isIntAt .u8 l (0 + Int.toNat i), true),
   (decide (0 ≤ i ∧ i < (len : Int)), true),
   (decide (IntKind.wrap .i64 ((len : Int) - 1) = i), true),
   (decide (IntKind.wrap .u8 (IntKind.wrap .u64 ↑(BitVec.toNat (BitVec.ofInt (IntKind.bits .u64) sv &&& BitVec.ofInt (IntKind.bits .u64) (IntKind.wrap .u64 (IntKind.wrap .u64 (1 * 2 ^ min (Int.toNat k) (IntKind.bits .u64)) - 1))))) = p), true),
   (decide (k < 0), false),
   (decide (Int.fdiv v (2 ^ min (Int.toNat (IntKind.wrap .i64 (w - k))) (IntKind.bits .u64)) = sv), true),
   (decide (IntKind.wrap .i64 (w - k) < 0), false)]
theorem add_more (v w N f k i sv p y N' w' : Int) (l : List Value) (len : Nat) :
    evL Tryz.prog ext adPre (nbC [(15, f), (8, k), (41, i), (30, sv), (35, p), (49, y), (54, N'), (2, w')] [] noC) noLoops 300 (ntOf Tryz.prog 91 3) (loopAt Tryz.prog 91 0) (adF v w) (adH l len N) 0 [(0,true),(0,false),(0,false),(0,false),(0,true),(0,true),(0,false),(0,true),(0,true)] [1, 2, 3, 6] =
      some (.normal, adF v w', adH (splice l (0 + Int.toNat i) [.int .u8 y]) len N', 0,
        adOb v w N f k i sv p y N' w' l len ++ [(decide ((if w < f then w else f) = k), true), (f == 0, false),
          (decide (IntKind.wrap .i64 ↑(BitVec.toNat (BitVec.ofInt (IntKind.bits .i64) (IntKind.wrap .i64 (0 - N)) &&& BitVec.ofInt (IntKind.bits .i64) 7)) = f), true), (decide (w > 0), true)]) := by kernel_rfl
theorem add_next (v w N k i sv p y N' w' : Int) (l : List Value) (len : Nat) :
    evL Tryz.prog ext adPre (nbC [(15, 0), (8, k), (41, i), (30, sv), (35, p), (49, y), (54, N'), (2, w')] [] noC) noLoops 300 (ntOf Tryz.prog 91 3) (loopAt Tryz.prog 91 0) (adF v w) (adH l len N) 0 [(0,true),(1,true),(0,false),(0,false),(0,true),(0,true),(0,false),(0,true),(0,true)] [1, 2, 3, 6] =
      some (.normal, adF v w', [spB, bitsB 5 (len + 1) N', resB, spB, ⟨true, none, [.int .u8 0]⟩, rowB (splice (l ++ [.int .u8 0]) (0 + Int.toNat i) [.int .u8 y])], 0,
        adOb v w N 8 k i sv p y N' w' (l ++ [.int .u8 0]) (len + 1) ++ [(decide ((if w < 8 then w else 8) = k), true),
          (live ⟨true, none, [.int .u8 0]⟩ && decide (0 < len ∧ l.length = len ∧ 0 + 1 ≤ List.length [Value.int .u8 0] ∧ len + 1 ≤ 140737488355328), true),
          (decide (IntKind.wrap .i64 ↑(BitVec.toNat (BitVec.ofInt (IntKind.bits .i64) (IntKind.wrap .i64 (0 - N)) &&& BitVec.ofInt (IntKind.bits .i64) 7)) = 0), true), (decide (w > 0), true)]) := by kernel_rfl
theorem add_out (v w N : Int) (l : List Value) (len : Nat) :
    evL Tryz.prog ext adPre (nbC [] [] noC) noLoops 300 (ntOf Tryz.prog 91 3) (loopAt Tryz.prog 91 0) (adF v w) (adH l len N) 0 [(0, false)] [1, 2, 3, 6] =
      some (.exit 0, adF v w, adH l len N, 0, [(decide (w > 0), false)]) := by kernel_rfl
theorem add_nil_run (v w sv p y : Int) : evFnL Tryz.prog ext 300 adPre (nbC [(8, w), (30, sv), (35, p), (49, y), (2, 0)] [] noC) noLoops [(0,true),(2,false),(0,false),(0,true),(0,true),(0,false)] 91 [.agg #[.slice none 0 0, .int .i64 0], .int .u64 v, .int .i64 w] [] =
  some ((.agg #[.slice (some ⟨3, 0, none⟩) 1 0, .int .i64 (IntKind.wrap .i64 (0 + w))], [bitsB 3 1 (IntKind.wrap .i64 (0 + w)), bitsB 3 1 (IntKind.wrap .i64 (0 + w)), ⟨true, none, [.int .u8 0]⟩, rowB [.int .u8 y]], 0),
    [(decide (IntKind.wrap .i64 (w - w) = 0), true),
     (decide (IntKind.wrap .u8 ↑(BitVec.toNat (BitVec.ofInt (IntKind.bits .u8) 0 ||| BitVec.ofInt (IntKind.bits .u8) (IntKind.wrap .u8 (p * 2 ^ min (Int.toNat (IntKind.wrap .i64 (8 - w))) (IntKind.bits .u8))))) = y), true),
     (decide (IntKind.wrap .i64 (8 - w) < 0), false), (true, true), (true, true),
   (decide (IntKind.wrap .u8 (IntKind.wrap .u64 ↑(BitVec.toNat (BitVec.ofInt (IntKind.bits .u64) sv &&& BitVec.ofInt (IntKind.bits .u64) (IntKind.wrap .u64 (IntKind.wrap .u64 (1 * 2 ^ min (Int.toNat w) (IntKind.bits .u64)) - 1))))) = p), true),
     (decide (w < 0), false), (decide (Int.fdiv v (2 ^ min (Int.toNat (IntKind.wrap .i64 (w - w))) (IntKind.bits .u64)) = sv), true), (decide (IntKind.wrap .i64 (w - w) < 0), false), (decide ((if w < 8 then w else 8) = w), true), (decide (w > 0), true)]) := by kernel_rfl
end Go.Proofs.YtpgmabpaiijipaaGreatDoor
namespace Go.Proofs.YtpgmabpaiijipaaGreatDoor
open Go Den
set_option maxRecDepth 100000
set_option linter.unusedSimpArgs false
def tkF (a w v : Int) : Slots := [(1, .int .i64 a), (2, .int .i64 w), (7, .int .u64 v), (3, .pointer (some ⟨1, 0, none⟩))]
def tkH (len cap : Nat) (N : Int) (b : Blk) : Heap := [b, ⟨true, none, [.slice (some ⟨0, 0, none⟩) len cap, .int .i64 N]⟩]
noncomputable def tkPre : Pre := nmPre (symPre [20, 23] noPre)
theorem tk_sound (l : List (Nat × Int)) : Sound Tryz.prog (strict tkPre (nbC l [] noC)) := nb_sound l [] (sym_sound [20, 23] noC_sound)
def tkV (v k x p : Int) : Int := IntKind.wrap .u64 (BitVec.toNat (BitVec.ofInt (IntKind.bits .u64) (IntKind.wrap .u64 (v * 2 ^ min (Int.toNat k) (IntKind.bits .u64))) |||
  BitVec.ofInt (IntKind.bits .u64) (IntKind.wrap .u64 (IntKind.wrap .u8 (BitVec.toNat (BitVec.ofInt (IntKind.bits .u8) (Int.fdiv x (2 ^ min (Int.toNat p) (IntKind.bits .u8))) &&&
    BitVec.ofInt (IntKind.bits .u8) (IntKind.wrap .u8 (IntKind.wrap .u8 (1 * 2 ^ min (Int.toNat k) (IntKind.bits .u8)) - 1))))))))
theorem tk_run (a w v N lf k : Int) (len cap : Nat) (b : Blk) :
    evL Tryz.prog ext tkPre (nbC [(8, lf), (9, k)] [] noC) noLoops 300 (ntOf Tryz.prog 152 3) (loopAt Tryz.prog 152 0) (tkF a w v) (tkH len cap N b) 1 [(0, true), (2, true), (0, true), (0, false), (0, false), (0, false)] [1, 2, 7, 3] =
      some (.normal, tkF (IntKind.wrap .i64 (a + k)) (IntKind.wrap .i64 (w - k)) (tkV v k (intAt b.cells (0 + Int.toNat (IntKind.wrap .i64 (Int.tdiv a 8)))) (IntKind.wrap .i64 (lf - k))), tkH len cap N b, 1,
        [(decide (k < 0), false), (decide (k < 0), false), (decide (IntKind.wrap .i64 (lf - k) < 0), false),
          (live b && isIntAt .u8 b.cells (0 + Int.toNat (IntKind.wrap .i64 (Int.tdiv a 8))), true),
          (decide (0 ≤ IntKind.wrap .i64 (Int.tdiv a 8) ∧ IntKind.wrap .i64 (Int.tdiv a 8) < (len : Int)), true),
          (decide ((if w < lf then w else lf) = k), true), (decide (IntKind.wrap .i64 (8 - Int.tmod a 8) = lf), true), (decide (w > 0), true)]) := by kernel_rfl
theorem tk_out (a w v N : Int) (len cap : Nat) (b : Blk) :
    evL Tryz.prog ext tkPre (nbC [] [] noC) noLoops 300 (ntOf Tryz.prog 152 3) (loopAt Tryz.prog 152 0) (tkF a w v) (tkH len cap N b) 1 [(0, false)] [1, 2, 7, 3] =
      some (.exit 0, tkF a w v, tkH len cap N b, 1, [(decide (w > 0), false)]) := by kernel_rfl
end Go.Proofs.YtpgmabpaiijipaaGreatDoor
namespace Go.Proofs.YtpgmabpaiijipaaGreatDoor
open Go Den
set_option maxRecDepth 100000
set_option linter.unusedSimpArgs false
def byteV (l : List Nat) : List Value := l.map fun (n : Nat) => Value.int .u8 (n : Int)
theorem byteV_get {l : List Nat} {o n : Nat} (h : l[o]? = some n) : isIntAt .u8 (byteV l) o = true ∧ intAt (byteV l) o = (n : Int) := by
  have : (byteV l)[o]? = some (.int .u8 (n : Int)) := by simp [byteV, h]
  exact ⟨by simp [isIntAt, this, eqK], by simp [intAt, this]⟩
theorem wrap_i64 {n : Int} (h : -9223372036854775808 ≤ n ∧ n < 9223372036854775808) : IntKind.wrap .i64 n = n := by
  have e1 : (2 : Int) ^ IntKind.i64.bits = 18446744073709551616 := rfl
  have e2 : (2 : Int) ^ (IntKind.i64.bits - 1) = 9223372036854775808 := rfl
  have e3 : IntKind.i64.signed = true := rfl
  simp only [IntKind.wrap, e1, e2, e3, Bool.true_and, decide_eq_true_eq, ge_iff_le]
  split <;> omega
theorem tkV_eq {v x k p : Nat} (hk : k ≤ 8) (hp : p ≤ 8) (hx : x < 256) (hv : v * 2 ^ k + x / 2 ^ p % 2 ^ k < 18446744073709551616) : tkV (v : Int) (k : Int) (x : Int) (p : Int) = ((v * 2 ^ k + x / 2 ^ p % 2 ^ k : Nat) : Int) := by
  have e8 : min (Int.toNat (p : Int)) (IntKind.bits .u8) = p := by
    rw [Int.toNat_natCast]; exact Nat.min_eq_left hp
  have e1 : Int.fdiv (x : Int) (2 ^ p) = ((x / 2 ^ p : Nat) : Int) := by
    have h2 : (2 : Int) ^ p = ((2 ^ p : Nat) : Int) := by push_cast; rfl
    rw [h2, Int.fdiv_eq_ediv_of_nonneg _ (Int.natCast_nonneg _)]
    rfl
  unfold tkV
  rw [e8, e1, Int.toNat_natCast]
  rw [and_part (x / 2 ^ p) (Nat.lt_of_le_of_lt (Nat.div_le_self _ _) hx) k (by omega)]
  exact or_part (by omega) (Nat.mod_lt _ (Nat.pow_pos (by omega))) hv
end Go.Proofs.YtpgmabpaiijipaaGreatDoor
namespace Go.Proofs.YtpgmabpaiijipaaGreatDoor
open Go
set_option maxRecDepth 100000
theorem ofInt_nat (w n : Nat) : BitVec.toNat (BitVec.ofInt w (n : Int)) = n % 2 ^ w := by
  rw [BitVec.ofInt_natCast, BitVec.toNat_ofNat]
theorem wrap_u8 {n : Nat} (h : n < 256) : IntKind.wrap .u8 (n : Int) = (n : Int) := by
  have e1 : (2 : Int) ^ IntKind.u8.bits = 256 := rfl
  have e2 : IntKind.u8.signed = false := rfl
  simp only [IntKind.wrap, e1, e2]
  simp
  omega
theorem neg_and7 {N : Nat} (h : N ≤ 1000000) : IntKind.wrap .i64 ↑(BitVec.toNat (BitVec.ofInt (IntKind.bits .i64) (IntKind.wrap .i64 (0 - (N : Int))) &&& BitVec.ofInt (IntKind.bits .i64) 7)) = (((8 - N % 8) % 8 : Nat) : Int) := by
  have e0 : IntKind.bits .i64 = 64 := rfl
  rw [wrap_i64 (n := 0 - (N : Int)) (by omega), e0, BitVec.toNat_and]
  have e1 : BitVec.toNat (BitVec.ofInt 64 7) = 2 ^ 3 - 1 := by decide
  have e2 : BitVec.toNat (BitVec.ofInt 64 (0 - (N : Int))) = ((0 - (N : Int)) % 18446744073709551616).toNat := by
    rw [BitVec.toNat_ofInt]; rfl
  rw [e1, Nat.and_two_pow_sub_one_eq_mod, e2]
  rw [wrap_i64 (by omega)]
  omega
theorem one_shl {k : Nat} (h : k ≤ 8) : IntKind.wrap .u64 (IntKind.wrap .u64 (1 * 2 ^ min (Int.toNat (k : Int)) (IntKind.bits .u64)) - 1) = ((2 ^ k - 1 : Nat) : Int) := by
  have : k < 9 := by omega
  rw [Int.toNat_natCast]
  revert this
  revert k
  intro k _ h
  have key : ∀ k : Nat, k < 9 → IntKind.wrap .u64 (IntKind.wrap .u64 (1 * 2 ^ min k (IntKind.bits .u64)) - 1) = ((2 ^ k - 1 : Nat) : Int) := by decide +kernel
  exact key k h
theorem part_eq {sv k : Nat} (hk : k ≤ 8) (hs : sv < 18446744073709551616) :
    IntKind.wrap .u8 (IntKind.wrap .u64 ↑(BitVec.toNat (BitVec.ofInt (IntKind.bits .u64) (sv : Int) &&& BitVec.ofInt (IntKind.bits .u64) (IntKind.wrap .u64 (IntKind.wrap .u64 (1 * 2 ^ min (Int.toNat (k : Int)) (IntKind.bits .u64)) - 1))))) = ((sv % 2 ^ k : Nat) : Int) := by
  have e0 : IntKind.bits .u64 = 64 := rfl
  have hp : 2 ^ k ≤ 2 ^ 8 := Nat.pow_le_pow_right (by omega) hk
  have hp0 : 0 < 2 ^ k := Nat.pow_pos (by omega)
  rw [one_shl hk, e0, BitVec.toNat_and, ofInt_nat, ofInt_nat]
  have e1 : sv % 2 ^ 64 = sv := Nat.mod_eq_of_lt hs
  have e2 : (2 ^ k - 1) % 2 ^ 64 = 2 ^ k - 1 := Nat.mod_eq_of_lt (by have : (2 : Nat) ^ 8 < 2 ^ 64 := by decide
                                                                     omega)
  have hm : sv % 2 ^ k < 2 ^ k := Nat.mod_lt _ hp0
  rw [e1, e2, Nat.and_two_pow_sub_one_eq_mod, wrap_u64 (by omega), wrap_u8 (by omega)]
theorem or_eq {x p t : Nat} (hx : x < 256) (ht : t ≤ 8) (hp : p * 2 ^ t < 256) :
    IntKind.wrap .u8 ↑(BitVec.toNat (BitVec.ofInt (IntKind.bits .u8) (x : Int) ||| BitVec.ofInt (IntKind.bits .u8) (IntKind.wrap .u8 ((p : Int) * 2 ^ min (Int.toNat (t : Int)) (IntKind.bits .u8))))) = ((x ||| p * 2 ^ t : Nat) : Int) := by
  have e0 : IntKind.bits .u8 = 8 := rfl
  have e1 : min (Int.toNat (t : Int)) (IntKind.bits .u8) = t := by rw [Int.toNat_natCast]; exact Nat.min_eq_left ht
  have e2 : (p : Int) * 2 ^ t = ((p * 2 ^ t : Nat) : Int) := by push_cast; rfl
  rw [e1, e2, wrap_u8 hp, e0, BitVec.toNat_or, ofInt_nat, ofInt_nat]
  have h1 : x % 2 ^ 8 = x := Nat.mod_eq_of_lt hx
  have h2 : (p * 2 ^ t) % 2 ^ 8 = p * 2 ^ t := Nat.mod_eq_of_lt hp
  rw [h1, h2]
  exact wrap_u8 (Nat.or_lt_two_pow (n := 8) hx hp)
theorem fdiv_eq {v s : Nat} (hs : s ≤ 64) : Int.fdiv (v : Int) (2 ^ min (Int.toNat (s : Int)) (IntKind.bits .u64)) = ((v / 2 ^ s : Nat) : Int) := by
  have e1 : min (Int.toNat (s : Int)) (IntKind.bits .u64) = s := by rw [Int.toNat_natCast]; exact Nat.min_eq_left hs
  have h2 : (2 : Int) ^ s = ((2 ^ s : Nat) : Int) := by push_cast; rfl
  rw [e1, h2, Int.fdiv_eq_ediv_of_nonneg _ (Int.natCast_nonneg _)]
  rfl
theorem byteV_append (l m : List Nat) : byteV (l ++ m) = byteV l ++ byteV m := by simp [byteV]
@[simp] theorem byteV_length (l : List Nat) : (byteV l).length = l.length := by simp [byteV]
theorem splice_last (B : List Nat) (b y : Nat) : Den.splice (byteV (B ++ [b])) B.length [.int .u8 (y : Int)] = byteV (B ++ [y]) := by
  unfold Den.splice
  rw [byteV_append, List.take_left' (by simp), List.drop_eq_nil_iff.2 (by simp [byteV]), byteV_append]
  simp [byteV]
theorem round_bits {v w k : Nat} (hk : k ≤ w) : Bt.be w v = Bt.be k (v / 2 ^ (w - k)) ++ Bt.be (w - k) v := by
  have := Bt.be_append k (w - k) v
  rwa [show k + (w - k) = w by omega] at this
end Go.Proofs.YtpgmabpaiijipaaGreatDoor
namespace Go.Proofs.YtpgmabpaiijipaaGreatDoor
open Go Den
set_option maxRecDepth 100000
set_option linter.unusedSimpArgs false
theorem mapAll_byteV (φ : Nat → Option Nat) (n : Nat) : ∀ l : List Nat, mapAll (Den.ren φ n) (byteV l) = some (byteV l) := by
  intro l
  induction l with
  | nil => rfl
  | cons x l ih =>
    have e : byteV (x :: l) = .int .u8 (x : Int) :: byteV l := rfl
    have h1 : Den.ren φ n (.int .u8 (x : Int)) = some (.int .u8 (x : Int)) := by cases n <;> rfl
    rw [e]
    simp only [mapAll, h1, ih, Option.map_some]
theorem renA_row (φ : Nat → Option Nat) (o : Bool) (g : Option Nat) (l : List Nat) : Den.renA φ ⟨o, g, byteV l⟩ = some ⟨o, g, byteV l⟩ := by
  unfold Den.renA
  rw [mapAll_byteV]
theorem ad_view0 (v w N : Int) (l : List Nat) (len : Nat) : Views 3 ⟨adF v w, [rowB (byteV l), bitsB 0 len N, resB], 1⟩ ⟨adF v w, adH (byteV l) len N, 0⟩ := by
  refine Views.spend (g := 0) (old := rowB (byteV l)) rfl rfl rfl rfl (fun i b2 hi hne hb => ?_) rfl (fun b2 hb => ?_) (renF_get rfl)
  · match i, hi with
    | 0, _ => exact (hne rfl).elim
    | 1, _ => injection hb with hb; subst hb; exact ⟨_, rfl, rfl⟩
    | 2, _ => injection hb with hb; subst hb; exact ⟨_, rfl, rfl⟩
    | n + 3, hi => simp at hi; omega
  · injection hb with hb
    subst hb
    exact renA_row _ _ _ _
theorem ad_view (v w N : Int) (l : List Nat) (len : Nat) : Views 3 ⟨adF v w, [spB, bitsB 5 len N, resB, spB, ⟨true, none, [.int .u8 0]⟩, rowB (byteV l)], 0⟩ ⟨adF v w, adH (byteV l) len N, 0⟩ := by
  refine Views.canon [5] (by simp) (by simp) (by simp) rfl (fun i b2 hi hb => ?_) (fun j i b2 hj hb => ?_) (renF_get rfl)
  · match i, hi with
    | 0, _ => injection hb with hb; subst hb; exact ⟨_, rfl, rfl⟩
    | 1, _ => injection hb with hb; subst hb; exact ⟨_, rfl, rfl⟩
    | 2, _ => injection hb with hb; subst hb; exact ⟨_, rfl, rfl⟩
    | n + 3, hi => omega
  · match j, hj with
    | 0, hj =>
      injection hj with hj
      subst hj
      injection hb with hb
      subst hb
      exact ⟨_, rfl, renA_row _ _ _ _⟩
def sofar (l : List Bool) (v w d : Nat) : List Bool := l ++ Bt.be d (v / 2 ^ (w - d))
theorem sofar_length (l : List Bool) (v w d : Nat) : (sofar l v w d).length = l.length + d := by simp [sofar]
theorem sofar_step {l : List Bool} {v w d k : Nat} (h : d + k ≤ w) : sofar l v w (d + k) = sofar l v w d ++ Bt.be k (v / 2 ^ (w - d - k)) := by
  unfold sofar
  rw [Bt.be_append, Nat.div_div_eq_div_mul, ← Nat.pow_add, List.append_assoc, show w - (d + k) + k = w - d by omega, show w - (d + k) = w - d - k by omega]
theorem ad_loop {l : List Bool} {v w : Nat} (hne : l ≠ []) (hl : l.length + w ≤ 65536) (hw : w ≤ 64) (hv : v < 18446744073709551616) :
    WP Tryz.prog (ntOf Tryz.prog 91 3) (.loop (loopAt Tryz.prog 91 0)) ⟨adF (v : Nat) (w : Nat), [rowB (byteV (Bt.pack l)), bitsB 0 ((l.length + 7) / 8) (l.length : Nat), resB], 1⟩ (.exit 0)
      ⟨adF (v : Nat) 0, adH (byteV (Bt.pack (l ++ Bt.be w v))) ((l.length + w + 7) / 8) ((l.length + w : Nat) : Int), 0⟩ := by
  have hpos : 0 < l.length := List.length_pos_iff.2 hne
  have hs0 : sofar l v w 0 = l := by simp [sofar, Bt.be]
  have hsw : sofar l v w w = l ++ Bt.be w v := by simp [sofar]
  refine WP.whileV (α := Nat) _ (fun d => ⟨adF (v : Nat) ((w - d : Nat) : Int), adH (byteV (Bt.pack (sofar l v w d))) ((l.length + d + 7) / 8) ((l.length + d : Nat) : Int), 0⟩) (fun d => d ≤ w) (fun d => w - d) (by simp) ?_ 0 (by omega) ?_
  · intro d hd
    by_cases h : d = w
    · subst h
      left
      have h0 : ((d - d : Nat) : Int) = 0 := by omega
      rw [h0, hsw]
      exact WP.run progOk extSound (ad_sound []) (by kernel_rfl) (LoopsOk.none (by kernel_rfl)) [1, 2, 3, 6] (add_out _ _ _ _ _) (by simp [Holds])
    · right
      have hlen := sofar_length l v w d
      generalize hL : sofar l v w d = L at hlen
      have hLne : L ≠ [] := by intro e; rw [e] at hlen; simp at hlen; omega
      have hsv : v / 2 ^ (w - d - (min (if L.length % 8 = 0 then 8 else 8 - L.length % 8) (w - d))) < 18446744073709551616 := Nat.lt_of_le_of_lt (Nat.div_le_self _ _) hv
      by_cases h8 : L.length % 8 = 0
      · rw [if_pos h8] at hsv
        obtain ⟨k, hk⟩ : ∃ k, k = min 8 (w - d) := ⟨_, rfl⟩
        rw [← hk] at hsv
        obtain ⟨sv, hsve⟩ : ∃ sv, sv = v / 2 ^ (w - d - k) := ⟨_, rfl⟩
        rw [← hsve] at hsv
        have hm : (Bt.be k sv).length = k := Bt.be_length k sv
        have hp := Bt.pack_next (l := L) (m := Bt.be k sv) h8 (by rw [hm]; omega) (by intro e; rw [e] at hm; simp at hm; omega)
        rw [Bt.val_be, hm] at hp
        have hplt : sv % 2 ^ k < 2 ^ k := Nat.mod_lt _ (Nat.pow_pos (by omega))
        have hyl : sv % 2 ^ k * 2 ^ (8 - k) < 256 := by
          have : sv % 2 ^ k * 2 ^ (8 - k) < 2 ^ k * 2 ^ (8 - k) := Nat.mul_lt_mul_of_pos_right hplt (Nat.pow_pos (by omega))
          rwa [← Nat.pow_add, show k + (8 - k) = 8 by omega] at this
        have hstep : sofar l v w (d + k) = L ++ Bt.be k sv := by rw [sofar_step (by omega), hL, hsve]
        have hplen : (Bt.pack L).length = L.length / 8 := by rw [Bt.pack_len]; omega
        refine ⟨d + k, _, by omega, by omega, WP.run progOk extSound (ad_sound _) (by kernel_rfl) (LoopsOk.none (by kernel_rfl)) [1, 2, 3, 6]
          (add_next (v : Nat) ((w - d : Nat) : Int) ((l.length + d : Nat) : Int) (k : Nat) ((L.length / 8 : Nat) : Int) (sv : Nat) ((sv % 2 ^ k : Nat) : Int) ((0 ||| sv % 2 ^ k * 2 ^ (8 - k) : Nat) : Int) ((l.length + (d + k) : Nat) : Int) ((w - (d + k) : Nat) : Int) (byteV (Bt.pack L)) ((l.length + d + 7) / 8)) ?_, ?_⟩
        · intro q hq
          have hrow : byteV (Bt.pack L) ++ [.int .u8 0] = byteV (Bt.pack L ++ [0]) := by rw [byteV_append]; rfl
          have hget : (Bt.pack L ++ [0])[L.length / 8]? = some 0 := by rw [← hplen, List.getElem?_append_right (Nat.le_refl _)]; simp
          obtain ⟨g1, g2⟩ := byteV_get hget
          have ek : IntKind.wrap .i64 ((8 : Int) - (k : Int)) = ((8 - k : Nat) : Int) := by rw [wrap_i64 (by omega)]; omega
          have es : IntKind.wrap .i64 (((w - d : Nat) : Int) - (k : Int)) = ((w - d - k : Nat) : Int) := by rw [wrap_i64 (by omega)]; omega
          simp only [adOb, hrow, Int.toNat_natCast, Nat.zero_add, g1, g2, ek, es, List.cons_append, List.nil_append, List.mem_cons, List.not_mem_nil, or_false] at hq
          rcases hq with rfl | rfl | rfl | rfl | rfl | rfl | rfl | rfl | rfl | rfl | rfl | rfl | rfl | rfl | rfl | rfl | rfl
          · simp only [decide_eq_true_eq]; omega
          · simp only [decide_eq_true_eq]; rw [wrap_i64 (by omega)]; omega
          · simp [live, rowB]; omega
          · simp only [decide_eq_true_eq]; omega
          · simp only [decide_eq_true_eq]
            exact or_eq (x := 0) (p := sv % 2 ^ k) (t := 8 - k) (by omega) (by omega) hyl
          · simp only [decide_eq_false_iff_not]; omega
          · rfl
          · simp only [decide_eq_true_eq]; omega
          · simp only [decide_eq_true_eq]; rw [wrap_i64 (by omega)]; omega
          · simp only [decide_eq_true_eq]
            exact part_eq (by omega) hsv
          · simp
          · simp only [decide_eq_true_eq, hsve]
            exact fdiv_eq (by omega)
          · simp only [decide_eq_false_iff_not]; omega
          · simp only [decide_eq_true_eq]; split <;> omega
          · simp [live]; omega
          · simp only [decide_eq_true_eq]
            rw [neg_and7 (by omega)]
            omega
          · simp only [decide_eq_true_eq]; omega
        · have hrow : splice (byteV (Bt.pack L) ++ [.int .u8 0]) (0 + Int.toNat ((L.length / 8 : Nat) : Int)) [.int .u8 ((0 ||| sv % 2 ^ k * 2 ^ (8 - k) : Nat) : Int)] = byteV (Bt.pack (sofar l v w (d + k))) := by
            have := splice_last (Bt.pack L) 0 (0 ||| sv % 2 ^ k * 2 ^ (8 - k))
            rw [byteV_append] at this
            rw [Int.toNat_natCast, Nat.zero_add, ← hplen, hstep, hp]
            exact this
          rw [hrow]
          have hlen2 : (l.length + d + 7) / 8 + 1 = (l.length + (d + k) + 7) / 8 := by omega
          rw [hlen2]
          exact ad_view _ _ _ _ _
      · rw [if_neg h8] at hsv
        obtain ⟨k, hk⟩ : ∃ k, k = min (8 - L.length % 8) (w - d) := ⟨_, rfl⟩
        rw [← hk] at hsv
        obtain ⟨sv, hsve⟩ : ∃ sv, sv = v / 2 ^ (w - d - k) := ⟨_, rfl⟩
        rw [← hsve] at hsv
        have hm : (Bt.be k sv).length = k := Bt.be_length k sv
        obtain ⟨B, b, hp1, hp2, hp3, hb⟩ := Bt.pack_more (l := L) (m := Bt.be k sv) h8 (by rw [hm]; omega)
        rw [Bt.val_be, hm] at hp3
        have hplt : sv % 2 ^ k < 2 ^ k := Nat.mod_lt _ (Nat.pow_pos (by omega))
        have hyl : sv % 2 ^ k * 2 ^ (8 - L.length % 8 - k) < 256 := by
          have h1 : sv % 2 ^ k * 2 ^ (8 - L.length % 8 - k) < 2 ^ k * 2 ^ (8 - L.length % 8 - k) := Nat.mul_lt_mul_of_pos_right hplt (Nat.pow_pos (by omega))
          rw [← Nat.pow_add] at h1
          have h2 : 2 ^ (k + (8 - L.length % 8 - k)) ≤ 2 ^ 8 := Nat.pow_le_pow_right (by omega) (by omega)
          omega
        have hstep : sofar l v w (d + k) = L ++ Bt.be k sv := by rw [sofar_step (by omega), hL, hsve]
        refine ⟨d + k, _, by omega, by omega, WP.run progOk extSound (ad_sound _) (by kernel_rfl) (LoopsOk.none (by kernel_rfl)) [1, 2, 3, 6]
          (add_more (v : Nat) ((w - d : Nat) : Int) ((l.length + d : Nat) : Int) ((8 - L.length % 8 : Nat) : Int) (k : Nat) ((L.length / 8 : Nat) : Int) (sv : Nat) ((sv % 2 ^ k : Nat) : Int) ((b ||| sv % 2 ^ k * 2 ^ (8 - L.length % 8 - k) : Nat) : Int) ((l.length + (d + k) : Nat) : Int) ((w - (d + k) : Nat) : Int) (byteV (Bt.pack L)) ((l.length + d + 7) / 8)) ?_, ?_⟩
        · intro q hq
          have hget : (Bt.pack L)[L.length / 8]? = some b := by rw [hp1, ← hp2, List.getElem?_append_right (Nat.le_refl _)]; simp
          obtain ⟨g1, g2⟩ := byteV_get hget
          have hplen : (Bt.pack L).length = L.length / 8 + 1 := by rw [hp1]; simp [hp2]
          have ek : IntKind.wrap .i64 (((8 - L.length % 8 : Nat) : Int) - (k : Int)) = ((8 - L.length % 8 - k : Nat) : Int) := by rw [wrap_i64 (by omega)]; omega
          have es : IntKind.wrap .i64 (((w - d : Nat) : Int) - (k : Int)) = ((w - d - k : Nat) : Int) := by rw [wrap_i64 (by omega)]; omega
          simp only [adOb, Int.toNat_natCast, Nat.zero_add, g1, g2, ek, es, List.cons_append, List.nil_append, List.mem_cons, List.not_mem_nil, or_false] at hq
          rcases hq with rfl | rfl | rfl | rfl | rfl | rfl | rfl | rfl | rfl | rfl | rfl | rfl | rfl | rfl | rfl | rfl | rfl
          · simp only [decide_eq_true_eq]; omega
          · simp only [decide_eq_true_eq]; rw [wrap_i64 (by omega)]; omega
          · simp [live, rowB]; omega
          · simp only [decide_eq_true_eq]; omega
          · simp only [decide_eq_true_eq]
            exact or_eq hb (by omega) hyl
          · simp only [decide_eq_false_iff_not]; omega
          · rfl
          · simp only [decide_eq_true_eq]; omega
          · simp only [decide_eq_true_eq]; rw [wrap_i64 (by omega)]; omega
          · simp only [decide_eq_true_eq]
            exact part_eq (by omega) hsv
          · simp
          · simp only [decide_eq_true_eq, hsve]
            exact fdiv_eq (by omega)
          · simp only [decide_eq_false_iff_not]; omega
          · simp only [decide_eq_true_eq]; split <;> omega
          · simp; omega
          · simp only [decide_eq_true_eq]
            rw [neg_and7 (by omega)]
            omega
          · simp only [decide_eq_true_eq]; omega
        · have hrow : splice (byteV (Bt.pack L)) (0 + Int.toNat ((L.length / 8 : Nat) : Int)) [.int .u8 ((b ||| sv % 2 ^ k * 2 ^ (8 - L.length % 8 - k) : Nat) : Int)] = byteV (Bt.pack (sofar l v w (d + k))) := by
            rw [Int.toNat_natCast, Nat.zero_add, hstep, hp3, hp1, ← hp2]
            exact splice_last B b _
          rw [hrow]
          have hlen2 : (l.length + d + 7) / 8 = (l.length + (d + k) + 7) / 8 := by omega
          rw [hlen2]
          exact Views.refl _ _
  · have := ad_view0 (v : Nat) (w : Nat) (l.length : Nat) (Bt.pack l) ((l.length + 7) / 8)
    rw [hs0]
    exact this
end Go.Proofs.YtpgmabpaiijipaaGreatDoor
namespace Go.Proofs.YtpgmabpaiijipaaGreatDoor
open Go Den
set_option maxRecDepth 100000
set_option linter.unusedSimpArgs false
def bitsV (g len : Nat) (N : Int) : Value := .agg #[.slice (some ⟨g, 0, none⟩) len 0, .int .i64 N]
def bitsV0 : Value := .agg #[.slice none 0 0, .int .i64 0]
theorem add_run (v w N N' : Int) (l l' : List Value) (len len' : Nat) :
    evFnL Tryz.prog ext 300 noPre noC { loop := sumL 1 ⟨adF v w, [rowB l, bitsB 0 len N, resB], 1⟩ (.exit 0) ⟨adF v 0, adH l' len' N', 0⟩ } [] 91 [bitsV 0 len N, .int .u64 v, .int .i64 w] [rowB l] =
      some ((bitsV 3 len' N', [spB, bitsB 3 len' N', bitsB 3 len' N', rowB l'], 0), [(cdec (adF v w = adF v w), true), (cdec ([rowB l, bitsB 0 len N, resB] = [rowB l, bitsB 0 len N, resB]), true), (cdec ((1 : Nat) = 1), true)]) := by kernel_rfl
def pk (l : List Bool) : Blk := rowB (byteV (Bt.pack l))
def pn (l : List Bool) : Nat := (l.length + 7) / 8
def pv (g : Nat) (l : List Bool) : Value := bitsV g (pn l) (l.length : Nat)
theorem add_ok {l : List Bool} {v w : Nat} (hne : l ≠ []) (hl : l.length + w ≤ 65536) (hw : w ≤ 64) (hv : v < 18446744073709551616) :
    CallOk Tryz.prog 91 [pv 0 l, .int .u64 (v : Nat), .int .i64 (w : Nat)] [pk l] (pv 3 (l ++ Bt.be w v)) [spB, bitsB 3 (pn (l ++ Bt.be w v)) ((l ++ Bt.be w v).length : Nat), bitsB 3 (pn (l ++ Bt.be w v)) ((l ++ Bt.be w v).length : Nat), pk (l ++ Bt.be w v)] 0 := by
  have e1 : (l ++ Bt.be w v).length = l.length + w := by simp
  unfold pv pk pn
  rw [e1]
  refine fnL_ok progOk extSound noC_sound ?_ (add_run (v : Nat) (w : Nat) (l.length : Nat) ((l.length + w : Nat) : Int) (byteV (Bt.pack l)) (byteV (Bt.pack (l ++ Bt.be w v))) ((l.length + 7) / 8) ((l.length + w + 7) / 8)) (by simp [Holds, cdec])
  refine LoopsOk.sum (hL := rfl) ?_
  intro b' hb' _
  have e : loopsOf (bodyOf Tryz.prog 91) = [loopAt Tryz.prog 91 0] := by kernel_rfl
  rw [e] at hb'
  simp only [List.mem_singleton] at hb'
  subst hb'
  exact ad_loop hne hl hw hv
theorem be_ne {w v : Nat} (h : 0 < w) : Bt.be w v ≠ [] := by
  intro e
  have := congrArg List.length e
  simp at this
  omega
theorem add_nil {v w : Nat} (hw0 : 0 < w) (hw : w ≤ 8) (hv : v < 18446744073709551616) :
    CallOk Tryz.prog 91 [bitsV0, .int .u64 (v : Nat), .int .i64 (w : Nat)] [] (pv 3 (Bt.be w v)) [bitsB 3 1 (w : Nat), bitsB 3 1 (w : Nat), ⟨true, none, [.int .u8 0]⟩, pk (Bt.be w v)] 0 := by
  have h0 : Bt.be w v ≠ [] := be_ne hw0
  have hp := Bt.pack_short (l := Bt.be w v) h0 (by simp; omega)
  have hb : Bt.byte (Bt.be w v) = v % 2 ^ w * 2 ^ (8 - w) := by unfold Bt.byte; rw [Bt.val_be]; simp
  have hlt := Bt.byte_lt (l := Bt.be w v) (by simp; omega)
  rw [hb] at hlt
  have e0 : IntKind.wrap .i64 (0 + (w : Int)) = (w : Int) := by rw [wrap_i64 (by omega)]; omega
  have ew : IntKind.wrap .i64 ((w : Int) - (w : Int)) = 0 := by rw [wrap_i64 (by omega)]; omega
  have ek : IntKind.wrap .i64 ((8 : Int) - (w : Int)) = ((8 - w : Nat) : Int) := by rw [wrap_i64 (by omega)]; omega
  have hr := add_nil_run (v : Nat) (w : Nat) (v : Nat) ((v % 2 ^ w : Nat) : Int) ((0 ||| v % 2 ^ w * 2 ^ (8 - w) : Nat) : Int)
  rw [e0, ew, ek] at hr
  have hpk : pk (Bt.be w v) = rowB [.int .u8 ((0 ||| v % 2 ^ w * 2 ^ (8 - w) : Nat) : Int)] := by
    unfold pk
    rw [hp, hb, Nat.zero_or]
    rfl
  have hpv : pv 3 (Bt.be w v) = .agg #[.slice (some ⟨3, 0, none⟩) 1 0, .int .i64 (w : Nat)] := by
    unfold pv bitsV pn
    rw [Bt.be_length, show (w + 7) / 8 = 1 by omega]
  rw [hpk, hpv]
  refine fnL_ok progOk extSound (ad_sound _) noLoops_ok hr ?_
  intro q hq
  simp only [List.mem_cons, List.not_mem_nil, or_false] at hq
  rcases hq with rfl | rfl | rfl | rfl | rfl | rfl | rfl | rfl | rfl | rfl | rfl
  · simp
  · simp only [decide_eq_true_eq]
    exact or_eq (x := 0) (p := v % 2 ^ w) (t := 8 - w) (by omega) (by omega) hlt
  · simp only [decide_eq_false_iff_not]; omega
  · rfl
  · rfl
  · simp only [decide_eq_true_eq]
    exact part_eq (by omega) hv
  · simp
  · simp only [decide_eq_true_eq]
    have := fdiv_eq (v := v) (s := 0) (by omega)
    simp at this ⊢
  · simp
  · simp only [decide_eq_true_eq]; split <;> omega
  · simp only [decide_eq_true_eq]; omega
end Go.Proofs.YtpgmabpaiijipaaGreatDoor
namespace Go.Proofs.YtpgmabpaiijipaaGreatDoor
open Go Den
noncomputable def toldPre (T : Tale) : Pre := fun f a Hs => match T f a Hs with
  | some r => cdec (CallOk Tryz.prog f a Hs r.1 r.2.1 r.2.2)
  | none => true
theorem toldPre_sound (T : Tale) : Sound Tryz.prog (strict (toldPre T) T) := by
  intro f args H v H' l h
  unfold strict at h
  split at h
  · rename_i hp
    unfold toldPre at hp
    simp only [h] at hp
    exact cdec_iff.1 hp
  · simp at h
def frameT (T : Nat → Tale) : Oracle := fun f args H => frameQ (T H.length) f args H
noncomputable def frameTPre (T : Nat → Tale) : Pre := fun f args H => frameQPre (toldPre (T H.length)) (T H.length) f args H
theorem frameT_sound (T : Nat → Tale) : Sound Tryz.prog (strict (frameTPre T) (frameT T)) := by
  intro f args H v H' l h
  exact frameQ_sound (toldPre_sound (T H.length)) f args H v H' l h
theorem frameT_ok {T : Nat → Tale} {f : FuncId} {args : List Value} {H : Heap} (e : List Nat) {a : List Value} {Hs : Heap} {v : Value} {Hs' : Heap} {ls : Nat} (hc : CallOk Tryz.prog f a Hs v Hs' ls)
    (h1 : RowsOk e 0 H) (h2 : RowsFlat Hs') (hcut : cutQ args H = some (e, a, Hs) := by kernel_rfl) (ht : T H.length f a Hs = some (v, Hs', ls) := by kernel_rfl) : frameTPre T f args H = true := by
  refine frameQPre_ok hcut ht ?_ h1 h2
  unfold toldPre
  simp only [ht]
  exact cdec_iff.2 hc
theorem tok {a b : Bool} (h : a = b) : ((a, b) : Bool × Bool).1 = ((a, b) : Bool × Bool).2 := h
theorem flat_row (o : Bool) (g : Option Nat) (l : List Nat) : Flat ⟨o, g, byteV l⟩ := fun φ => mapAll_byteV φ 3 l
theorem pack_ne {l : List Bool} (h : l ≠ []) : Bt.pack l ≠ [] := by
  rw [Bt.pack_cons h]; simp
theorem byteV_ne {l : List Nat} (h : l ≠ []) : byteV l ≠ [] := by
  unfold byteV
  simpa using h
theorem ro_row {e : List Nat} {i : Nat} {H : Heap} {o : Bool} {g : Option Nat} {l : List Nat} (hl : l ≠ []) (h : RowsOk e (i + 1) H) : RowsOk e i (⟨o, g, byteV l⟩ :: H) :=
  ⟨fun _ => ⟨flat_row o g l, .inl (byteV_ne hl)⟩, h⟩
theorem ro_pk {e : List Nat} {i : Nat} {H : Heap} {l : List Bool} (hl : l ≠ []) (h : RowsOk e (i + 1) H) : RowsOk e i (pk l :: H) := ro_row (pack_ne hl) h
theorem ro_in {e : List Nat} {i : Nat} {H : Heap} {b : Blk} (hb : opq b = false) (h : RowsOk e (i + 1) H) : RowsOk e i (b :: H) := ⟨fun hh => by rw [hb] at hh; simp at hh, h⟩
theorem ro_sp {e : List Nat} {i : Nat} {H : Heap} (hi : i ∉ e) (h : RowsOk e (i + 1) H) : RowsOk e i (spB :: H) := ⟨fun _ => ⟨fun _ => rfl, .inr ⟨rfl, rfl, hi⟩⟩, h⟩
theorem ro_nil {e : List Nat} {i : Nat} : RowsOk e i [] := trivial
theorem rf_row {H : Heap} {o : Bool} {g : Option Nat} {l : List Nat} (h : RowsFlat H) : RowsFlat (⟨o, g, byteV l⟩ :: H) := ⟨fun _ => flat_row o g l, h⟩
theorem rf_pk {H : Heap} {l : List Bool} (h : RowsFlat H) : RowsFlat (pk l :: H) := rf_row h
theorem rf_in {H : Heap} {b : Blk} (hb : opq b = false) (h : RowsFlat H) : RowsFlat (b :: H) := ⟨fun hh => by rw [hb] at hh; simp at hh, h⟩
theorem rf_sp {H : Heap} (h : RowsFlat H) : RowsFlat (spB :: H) := ⟨fun _ _ => rfl, h⟩
theorem rf_nil : RowsFlat [] := trivial
end Go.Proofs.YtpgmabpaiijipaaGreatDoor
namespace Go.Proofs.YtpgmabpaiijipaaGreatDoor
open Go Den
set_option maxRecDepth 100000
set_option linter.unusedSimpArgs false
theorem clone_run (n c : Nat) (o : Bool) (g : Option Nat) (l : List Value) : evFnL Tryz.prog ext 300 (symPre [6] noPre) noC noLoops [(1,true)] 51 [.slice (some ⟨0, 0, none⟩) n c] [⟨o, g, l⟩] =
  some ((.slice (some ⟨2, 0, none⟩) n 0, [⟨o, g, l⟩, ⟨true, none, []⟩, ⟨true, some 1, (l.drop 0).take (n * 1)⟩], 1),
    [(live ⟨o, g, l⟩ && decide ((Value.int .u8 0).cells.size = 1 ∧ 0 < 1 ∧ 0 < n ∧ 0 + n * 1 ≤ l.length ∧ n * 1 ≤ 140737488355328 ∧ n ≤ 9223372036854775807), true)]) := by kernel_rfl
theorem clone_ok {l : List Nat} {o : Bool} {g : Option Nat} {c : Nat} (hl : live ⟨o, g, byteV l⟩ = true) (hne : l ≠ []) (hb : l.length ≤ 1000000) :
    CallOk Tryz.prog 51 [.slice (some ⟨0, 0, none⟩) l.length c] [⟨o, g, byteV l⟩] (.slice (some ⟨2, 0, none⟩) l.length 0) [⟨o, g, byteV l⟩, ⟨true, none, []⟩, rowB (byteV l)] 1 := by
  have hpos : 0 < l.length := List.length_pos_iff.2 hne
  have hr := clone_run l.length c o g (byteV l)
  have e : (List.drop 0 (byteV l)).take (l.length * 1) = byteV l := by
    rw [List.drop_zero, Nat.mul_one, List.take_of_length_le (by simp)]
  rw [e] at hr
  refine fnL_ok progOk extSound (sym_sound [6] noC_sound) noLoops_ok hr ?_
  intro q hq
  simp only [List.mem_cons, List.not_mem_nil, or_false] at hq
  subst hq
  simp only [hl, Bool.true_and, decide_eq_true_eq]
  exact ⟨rfl, by omega, hpos, by simp, by omega, by omega⟩
theorem clone_nil : CallOk Tryz.prog 51 [.slice none 0 0] [] (.slice none 0 0) [] 0 :=
  fnL_ok (N := 300) (L := noLoops) (os := []) (ob := []) progOk extSound noC_sound noLoops_ok (by kernel_rfl) (by simp [Holds])
theorem clone_gone : CallOk Tryz.prog 51 [.slice (some ⟨0, 0, some 1⟩) 0 0] [] (.slice (some ⟨0, 0, some 1⟩) 0 0) [⟨true, none, []⟩] 0 :=
  fnL_ok (N := 300) (L := noLoops) (os := []) (ob := []) progOk extSound noC_sound noLoops_ok (by kernel_rfl) (by simp [Holds])
noncomputable def ckPre : Pre := nmPre (symPre [29, 34] noPre)
theorem ck_sound (l : List (Nat × Int)) (bs : List (Nat × Bool)) : Sound Tryz.prog (strict ckPre (nbC l bs noC)) := nb_sound l bs (sym_sound [29, 34] noC_sound)
theorem check_run0 (n c : Nat) (N q : Int) (b : Blk) : evFnL Tryz.prog ext 300 ckPre (nbC [(24, 0), (19, q)] [(7, false), (12, false), (21, false)] noC) noLoops [] 89 [.agg #[.slice (some ⟨0, 0, none⟩) n c, .int .i64 N]] [b] =
  some ((.int .i64 0, [b, ⟨true, none, [.slice (some ⟨0, 0, none⟩) n c, .int .i64 N]⟩], 1), [(decide (Int.tmod N 8 = 0), true), (bif false then true else (n : Int) != q, false), (decide (IntKind.wrap .i64 (Int.tdiv (IntKind.wrap .i64 (N + 7)) 8) = q), true), (bif false then true else decide (N > 65536), false), (decide (N < 0), false)]) := by kernel_rfl
theorem check_run1 (n c : Nat) (N q k i : Int) (b : Blk) : evFnL Tryz.prog ext 300 ckPre (nbC [(24, k), (19, q), (33, i)] [(7, false), (12, false), (21, false), (27, true), (39, false)] noC) noLoops [(21,true),(1,true),(2,false)] 89 [.agg #[.slice (some ⟨0, 0, none⟩) n c, .int .i64 N]] [b] =
  some ((.int .i64 0, [b, ⟨true, none, [.slice (some ⟨0, 0, none⟩) n c, .int .i64 N]⟩], 1), [(bif true then IntKind.wrap .u8 (intAt b.cells (0 + Int.toNat i) * 2 ^ min (Int.toNat k) (IntKind.bits .u8)) != 0 else false, false), (decide (k < 0), false), (live b && isIntAt .u8 b.cells (0 + Int.toNat i), true), (decide (0 ≤ i ∧ i < (n : Int)), true), (decide (IntKind.wrap .i64 ((n : Int) - 1) = i), true), (decide (k > 0), true), (decide (Int.tmod N 8 = k), true), (bif false then true else (n : Int) != q, false), (decide (IntKind.wrap .i64 (Int.tdiv (IntKind.wrap .i64 (N + 7)) 8) = q), true), (bif false then true else decide (N > 65536), false), (decide (N < 0), false)]) := by kernel_rfl
theorem check_ok {l : List Bool} {b : Blk} {c : Nat} (hlive : live b = true) (hc : b.cells = byteV (Bt.pack l)) (hl : l.length ≤ 65536) :
    CallOk Tryz.prog 89 [.agg #[.slice (some ⟨0, 0, none⟩) (pn l) c, .int .i64 (l.length : Nat)]] [b] (.int .i64 0) [b, ⟨true, none, [.slice (some ⟨0, 0, none⟩) (pn l) c, .int .i64 (l.length : Nat)]⟩] 1 := by
  have eq1 : IntKind.wrap .i64 (Int.tdiv (IntKind.wrap .i64 ((l.length : Int) + 7)) 8) = ((pn l : Nat) : Int) := by
    rw [wrap_i64 (n := (l.length : Int) + 7) (by omega)]
    have : Int.tdiv ((l.length : Int) + 7) 8 = (((l.length + 7) / 8 : Nat) : Int) := rfl
    rw [this, wrap_i64 (by omega)]
    rfl
  have hm : Int.tmod (l.length : Int) 8 = ((l.length % 8 : Nat) : Int) := rfl
  by_cases h8 : l.length % 8 = 0
  · refine fnL_ok progOk extSound (ck_sound _ _) noLoops_ok (check_run0 (pn l) c (l.length : Nat) ((pn l : Nat) : Int) b) ?_
    intro q hq
    simp only [List.mem_cons, List.not_mem_nil, or_false] at hq
    rcases hq with rfl | rfl | rfl | rfl | rfl
    · simp only [decide_eq_true_eq]; rw [hm]; omega
    · simp
    · simp only [decide_eq_true_eq]; exact eq1
    · simp; omega
    · simp
  · obtain ⟨B, x, hp, hx, hx2⟩ := Bt.pack_tail h8
    have hlen : (Bt.pack l).length = l.length / 8 + 1 := by rw [Bt.pack_len]; omega
    have hB : B.length = l.length / 8 := by rw [hp] at hlen; simpa using hlen
    have hget : (Bt.pack l)[l.length / 8]? = some x := by rw [hp, ← hB, List.getElem?_append_right (Nat.le_refl _)]; simp
    obtain ⟨g1, g2⟩ := byteV_get hget
    refine fnL_ok progOk extSound (ck_sound _ _) noLoops_ok (check_run1 (pn l) c (l.length : Nat) ((pn l : Nat) : Int) ((l.length % 8 : Nat) : Int) ((l.length / 8 : Nat) : Int) b) ?_
    intro q hq
    simp only [hc, Int.toNat_natCast, Nat.zero_add, g1, g2, List.mem_cons, List.not_mem_nil, or_false] at hq
    rcases hq with rfl | rfl | rfl | rfl | rfl | rfl | rfl | rfl | rfl | rfl | rfl
    · have e1 : min (l.length % 8) (IntKind.bits .u8) = l.length % 8 := Nat.min_eq_left (by show l.length % 8 ≤ 8; omega)
      have e2 : (x : Int) * 2 ^ (l.length % 8) = ((x * 2 ^ (l.length % 8) : Nat) : Int) := by push_cast; rfl
      have e3 : IntKind.wrap .u8 ((x * 2 ^ (l.length % 8) : Nat) : Int) = 0 := by
        have e1 : (2 : Int) ^ IntKind.u8.bits = 256 := rfl
        have e2 : IntKind.u8.signed = false := rfl
        simp only [IntKind.wrap, e1, e2, Bool.false_and, if_false, Bool.false_eq_true]
        omega
      simp only [e1, e2, e3]
      rfl
    · simp only [decide_eq_false_iff_not]; omega
    · simp [hlive]
    · simp only [decide_eq_true_eq]; unfold pn; omega
    · simp only [decide_eq_true_eq]; rw [wrap_i64 (by unfold pn; omega)]; unfold pn; omega
    · simp only [decide_eq_true_eq]; omega
    · simp only [decide_eq_true_eq]; exact hm
    · simp
    · simp only [decide_eq_true_eq]; exact eq1
    · simp; omega
    · simp
theorem check_nil : CallOk Tryz.prog 89 [bitsV0] [] (.int .i64 0) [⟨true, none, [.slice none 0 0, .int .i64 0]⟩] 0 :=
  fnL_ok (N := 300) (L := noLoops) (os := []) (ob := []) progOk extSound noC_sound noLoops_ok (by kernel_rfl) (by simp [Holds])
end Go.Proofs.YtpgmabpaiijipaaGreatDoor
namespace Go.Proofs.YtpgmabpaiijipaaGreatDoor.Bt
set_option linter.unusedVariables false
def bytesB : List Nat → List Bool
  | [] => []
  | x :: l => be 8 x ++ bytesB l
@[simp] theorem bytesB_length (l : List Nat) : (bytesB l).length = 8 * l.length := by
  induction l with
  | nil => rfl
  | cons x l ih => simp [bytesB, ih]; omega
theorem bytesB_append (l m : List Nat) : bytesB (l ++ m) = bytesB l ++ bytesB m := by
  induction l with
  | nil => rfl
  | cons x l ih => simp [bytesB, ih]
theorem pack_bytesB : ∀ {x : List Nat}, (∀ b ∈ x, b < 256) → pack (bytesB x) = x := by
  intro x
  induction x with
  | nil => intro _; simp [bytesB]
  | cons b x ih =>
    intro h
    have h8 : (be 8 b).length = 8 * 1 := by simp
    rw [bytesB, pack_append8 1 _ _ h8, ih fun y hy => h y (by simp [hy]), pack_short (by intro e; have := congrArg List.length e; simp at this) (by simp)]
    have : byte (be 8 b) = b := by
      unfold byte
      rw [val_be]
      have := h b (by simp)
      simp
      omega
    rw [this]; rfl
theorem be_val : ∀ l : List Bool, be l.length (val l) = l := by
  intro l
  induction l with
  | nil => rfl
  | cons b l ih =>
    have hv := val_lt l
    simp only [List.length_cons, be, val]
    have h1 : ((if b then 2 ^ l.length else 0) + val l) / 2 ^ l.length % 2 = if b then 1 else 0 := by
      cases b
      · simp [Nat.div_eq_of_lt hv]
      · simp only [if_true]
        rw [Nat.add_div_left _ (Nat.pow_pos (by omega)), Nat.div_eq_of_lt hv]
    have h2 : be l.length ((if b then 2 ^ l.length else 0) + val l) = be l.length (val l) := by
      rw [← be_mod l.length _ (Nat.le_refl _)]
      cases b
      · simp [Nat.mod_eq_of_lt hv]
      · simp [Nat.mod_eq_of_lt hv]
    rw [h1, h2, ih]
    cases b <;> simp
theorem val_zeros (n : Nat) : val (List.replicate n false) = 0 := by
  induction n with
  | zero => rfl
  | succ n ih => simp [List.replicate_succ, val, ih]
theorem be_byte {l : List Bool} (h : l.length ≤ 8) : be 8 (byte l) = l ++ List.replicate (8 - l.length) false := by
  have h1 : (l ++ List.replicate (8 - l.length) false).length = 8 := by simp; omega
  have h2 : val (l ++ List.replicate (8 - l.length) false) = byte l := by
    rw [val_append, val_zeros]; simp [byte]
  have := be_val (l ++ List.replicate (8 - l.length) false)
  rwa [h1, h2] at this
def pad (n : Nat) : Nat := (8 - n % 8) % 8
theorem bytesB_pack : ∀ (n : Nat) (l : List Bool), l.length ≤ n → bytesB (pack l) = l ++ List.replicate (pad l.length) false := by
  intro n
  induction n with
  | zero =>
    intro l h
    have : l = [] := List.length_eq_zero_iff.1 (by omega)
    subst this
    simp [bytesB, pad]
  | succ n ih =>
    intro l h
    by_cases hl : l = []
    · subst hl; simp [bytesB, pad]
    · have hp : 0 < l.length := List.length_pos_iff.2 hl
      rw [pack_cons hl, bytesB, ih _ (by simp; omega), be_byte (by simp; omega)]
      by_cases h8 : l.length ≤ 8
      · rw [List.take_of_length_le h8, List.drop_eq_nil_iff.2 h8]
        simp [pad]
        omega
      · have e1 : (l.take 8).length = 8 := by simp; omega
        rw [e1]
        simp only [Nat.sub_self, List.replicate_zero, List.append_nil]
        rw [← List.append_assoc, List.take_append_drop]
        congr 2
        simp [pad]
        omega
def cz (n : Nat) : Nat := Nat.log2 (n + 1)
def codeB (n : Nat) : List Bool := be (cz n) 0 ++ be (cz n + 1) (n + 1)
theorem cz_lo (n : Nat) : 2 ^ cz n ≤ n + 1 := Nat.log2_self_le (by omega)
theorem cz_hi (n : Nat) : n + 1 < 2 ^ (cz n + 1) := Nat.lt_log2_self
theorem cz_le {n k : Nat} (h : n + 1 < 2 ^ k) : cz n < k := (Nat.log2_lt (by omega)).2 h
theorem be_zero (k : Nat) : be k 0 = List.replicate k false := by
  induction k with
  | zero => rfl
  | succ k ih => simp [be, ih, List.replicate_succ]
@[simp] theorem codeB_length (n : Nat) : (codeB n).length = 2 * cz n + 1 := by
  simp [codeB]; omega
theorem be_head (n : Nat) : be (cz n + 1) (n + 1) = true :: be (cz n) (n + 1) := by
  have h1 := cz_lo n
  have h2 := cz_hi n
  simp only [be]
  have : (n + 1) / 2 ^ cz n = 1 := by
    rw [Nat.div_eq_of_lt_le]
    · omega
    · rw [Nat.pow_succ] at h2; omega
  rw [this]
  rfl
theorem codeB_eq (n : Nat) : codeB n = List.replicate (cz n) false ++ true :: be (cz n) (n + 1) := by
  rw [codeB, be_head, be_zero]
theorem drop_code {S : List Bool} {at' n : Nat} {rest : List Bool} (h : S.drop at' = codeB n ++ rest) : S.drop (at' + (2 * cz n + 1)) = rest := by
  rw [← List.drop_drop, h, ← codeB_length, List.drop_left]
theorem drop_be {S : List Bool} {at' w v : Nat} {rest : List Bool} (h : S.drop at' = be w v ++ rest) : S.drop (at' + w) = rest := by
  rw [← List.drop_drop, h, List.drop_left' (be_length w v)]
theorem val_take_be {S : List Bool} {at' w v : Nat} {rest : List Bool} (h : S.drop at' = be w v ++ rest) (hv : v < 2 ^ w) : val ((S.drop at').take w) = v := by
  rw [h]
  rw [List.take_left' (be_length w v), val_be, Nat.mod_eq_of_lt hv]
end Go.Proofs.YtpgmabpaiijipaaGreatDoor.Bt
namespace Go.Proofs.YtpgmabpaiijipaaGreatDoor
open Go Den
set_option maxRecDepth 100000
set_option linter.unusedSimpArgs false
set_option linter.unusedVariables false
def inI (v : Int) : Bool := decide (-9223372036854775808 ≤ v) && decide (v ≤ 9223372036854775807)
theorem inI_iff {v : Int} : inI v = true ↔ -9223372036854775808 ≤ v ∧ v ≤ 9223372036854775807 := by simp [inI]
def roundZ (v b : Int) : Int := if b < 1 then v else if b > 62 then 0 else (v + 2 ^ (b.toNat - 1)) / 2 ^ b.toNat
def withinZ (v l h : Int) : Int := if (if h < v then h else v) > l then (if h < v then h else v) else l
def mulZ (a b y : Int) : Int := roundZ (withinZ a (-2147483648) 2147483648 * withinZ b (-2147483648) 2147483648) y
def divQ (a b : Int) : Int := if b < 1 then 0 else if 0 ≤ a.tmod b then (if b ≤ 2 * a.tmod b then a.tdiv b + 1 else a.tdiv b) else (if b ≤ -2 * a.tmod b then a.tdiv b - 1 else a.tdiv b)
def divE (b : Int) : Int := if b < 1 then 1 else 0
theorem wrap_in {n : Int} (h : inI n = true) : IntKind.i64.wrap n = n := by
  rw [inI_iff] at h
  unfold IntKind.wrap
  simp [IntKind.bits, IntKind.signed]
  omega
theorem and_one (q : Int) : ((BitVec.ofInt (IntKind.bits .i64) q &&& BitVec.ofInt (IntKind.bits .i64) 1).toNat : Int) = q % 2 := by
  have h1 : (BitVec.ofInt (IntKind.bits .i64) 1).toNat = 1 := by decide
  rw [BitVec.toNat_and, h1, Nat.and_one_is_mod, BitVec.toNat_ofInt]
  show (((q % ((2 ^ 64 : Nat) : Int)).toNat % 2 : Nat) : Int) = q % 2
  have : ((2 ^ 64 : Nat) : Int) = 18446744073709551616 := by decide
  rw [this]
  omega
theorem pow_pos (n : Nat) : (0 : Int) < 2 ^ n := Int.pow_pos (by decide)
def lenZ (n : Int) : Int := if n ≤ 0 then 0 else ((Nat.log2 n.toNat + 1 : Nat) : Int)
theorem lenZ_eq {n : Int} {k : Nat} (h1 : (2 : Int) ^ k ≤ n) (h2 : n < 2 ^ (k + 1)) : lenZ n = k + 1 := by
  have p := pow_pos k
  unfold lenZ
  rw [if_neg (by omega)]
  obtain ⟨m, rfl⟩ : ∃ m : Nat, n = m := ⟨n.toNat, by omega⟩
  have c1 : ((2 ^ k : Nat) : Int) ≤ m := by simpa using h1
  have c2 : (m : Int) < ((2 ^ (k + 1) : Nat) : Int) := by simpa using h2
  have d1 : 2 ^ k ≤ m := by omega
  have d2 : m < 2 ^ (k + 1) := by omega
  have hm : m ≠ 0 := by have := Nat.pow_pos (a := 2) (n := k) (by decide); omega
  have e1 := (Nat.le_log2 hm).2 d1
  have e2 := (Nat.log2_lt hm).2 d2
  simp only [Int.toNat_natCast]
  omega
theorem lenZ_spec {n : Int} (h : 0 < n) : ∃ k : Nat, lenZ n = k + 1 ∧ (2 : Int) ^ k ≤ n ∧ n < 2 ^ (k + 1) := by
  obtain ⟨m, rfl⟩ : ∃ m : Nat, n = m := ⟨n.toNat, by omega⟩
  have hm : m ≠ 0 := by omega
  have e1 : 2 ^ m.log2 ≤ m := (Nat.le_log2 hm).1 (Nat.le_refl _)
  have e2 : m < 2 ^ (m.log2 + 1) := (Nat.log2_lt hm).1 (Nat.lt_succ_self _)
  have c1 : ((2 ^ m.log2 : Nat) : Int) ≤ m := by omega
  have c2 : (m : Int) < ((2 ^ (m.log2 + 1) : Nat) : Int) := by omega
  have d1 : (2 : Int) ^ m.log2 ≤ m := by simpa using c1
  have d2 : (m : Int) < (2 : Int) ^ (m.log2 + 1) := by simpa using c2
  exact ⟨m.log2, lenZ_eq d1 d2, d1, d2⟩
theorem lenZ_div {n : Int} {s : Nat} (h : 0 < n / 2 ^ s) : lenZ n = s + lenZ (n / 2 ^ s) := by
  obtain ⟨k, e, h1, h2⟩ := lenZ_spec h
  have p := pow_pos s
  have a1 := Int.mul_ediv_add_emod n (2 ^ s)
  have a2 := Int.emod_nonneg n (Int.ne_of_gt p)
  have a3 := Int.emod_lt_of_pos n p
  have b1 : (2 : Int) ^ s * 2 ^ k ≤ 2 ^ s * (n / 2 ^ s) := Int.mul_le_mul_of_nonneg_left h1 (Int.le_of_lt p)
  have b2 : (2 : Int) ^ s * (n / 2 ^ s + 1) ≤ 2 ^ s * 2 ^ (k + 1) := Int.mul_le_mul_of_nonneg_left h2 (Int.le_of_lt p)
  rw [← Int.pow_add] at b1 b2
  rw [Int.mul_add, Int.mul_one] at b2
  rw [e, lenZ_eq (k := s + k) (by omega) (by rw [show s + k + 1 = s + (k + 1) by omega]; omega)]
  omega
def len8 : ByteArray := ⟨#[0, 1, 2, 2, 3, 3, 3, 3, 4, 4, 4, 4, 4, 4, 4, 4, 5, 5, 5, 5, 5, 5, 5, 5, 5, 5, 5, 5, 5, 5, 5, 5, 6, 6, 6, 6, 6, 6, 6, 6, 6, 6, 6, 6, 6, 6, 6, 6, 6, 6, 6, 6, 6, 6, 6, 6, 6, 6, 6, 6, 6, 6, 6, 6, 7, 7, 7, 7, 7, 7, 7, 7, 7, 7, 7, 7, 7, 7, 7, 7, 7, 7, 7, 7, 7, 7, 7, 7, 7, 7, 7, 7, 7, 7, 7, 7, 7, 7, 7, 7, 7, 7, 7, 7, 7, 7, 7, 7, 7, 7, 7, 7, 7, 7, 7, 7, 7, 7, 7, 7, 7, 7, 7, 7, 7, 7, 7, 7, 8, 8, 8, 8, 8, 8, 8, 8, 8, 8, 8, 8, 8, 8, 8, 8, 8, 8, 8, 8, 8, 8, 8, 8, 8, 8, 8, 8, 8, 8, 8, 8, 8, 8, 8, 8, 8, 8, 8, 8, 8, 8, 8, 8, 8, 8, 8, 8, 8, 8, 8, 8, 8, 8, 8, 8, 8, 8, 8, 8, 8, 8, 8, 8, 8, 8, 8, 8, 8, 8, 8, 8, 8, 8, 8, 8, 8, 8, 8, 8, 8, 8, 8, 8, 8, 8, 8, 8, 8, 8, 8, 8, 8, 8, 8, 8, 8, 8, 8, 8, 8, 8, 8, 8, 8, 8, 8, 8, 8, 8, 8, 8, 8, 8, 8, 8, 8, 8, 8, 8, 8, 8, 8, 8, 8, 8, 8, 8]⟩
theorem len8_ok {x : Int} (h0 : 0 ≤ x) (h1 : x ≤ 255) : byteAt len8 x.toNat = lenZ x := by
  have h : (List.range 256).all (fun x => byteAt len8 x == lenZ x) = true := by kernel_rfl
  have := List.all_eq_true.1 h x.toNat (List.mem_range.2 (by omega))
  simp only [beq_iff_eq] at this
  rw [this, Int.toNat_of_nonneg h0]
def lenPre   : Pre := fun f args _ => match f, args with
  | 1000000, [.int .i64 k] => k != -1
  | _, _ => true
theorem lenSound : Sound Tryz.prog (strict lenPre noC) := Sound.strict fun f args H v H' l _ h => by simp [noC] at h
theorem shr_lit (x : Int) (k : Nat) (hk : k ≤ 63) : x.fdiv (2 ^ min (Int.toNat (k : Int)) (IntKind.bits .u64)) = x / 2 ^ k := by
  have e : min (Int.toNat (k : Int)) (IntKind.bits .u64) = k := by show min (Int.toNat (k : Int)) 64 = k; simp; omega
  rw [e, Int.fdiv_eq_ediv_of_nonneg _ (Int.le_of_lt (pow_pos _))]
theorem wrap8_in {n : Int} (h : 0 ≤ n) (h' : n ≤ 255) : IntKind.u8.wrap n = n := by
  unfold IntKind.wrap
  simp [IntKind.bits, IntKind.signed]
  omega
theorem len8_size : (len8.size : Int) = 256 := by kernel_rfl
theorem len64_ok (n : Int) (h0 : 0 ≤ n) (h1 : n ≤ 18446744073709551615) : CallOk Tryz.prog 70 [.int .u64 n] [] (.int .i64 (lenZ n)) [] 0 := by
  have s32 : ∀ x : Int, x.fdiv (2 ^ min (Int.toNat 32) (IntKind.bits .u64)) = x / 4294967296 := fun x => shr_lit x 32 (by decide)
  have s16 : ∀ x : Int, x.fdiv (2 ^ min (Int.toNat 16) (IntKind.bits .u64)) = x / 65536 := fun x => shr_lit x 16 (by decide)
  have s8 : ∀ x : Int, x.fdiv (2 ^ min (Int.toNat 8) (IntKind.bits .u64)) = x / 256 := fun x => shr_lit x 8 (by decide)
  have fin : ∀ (x y : Int), 0 ≤ x → x ≤ 255 → 0 ≤ y → y ≤ 56 → IntKind.i64.wrap (y + IntKind.i64.wrap (byteAt len8 (Int.toNat (IntKind.u8.wrap x)))) = y + lenZ x := by
    intro x y hx hx' hy hy'
    rw [wrap8_in hx hx', len8_ok hx hx']
    have : 0 ≤ lenZ x ∧ lenZ x ≤ 8 := by
      rcases Int.lt_or_le 0 x with h | h
      · obtain ⟨k, e, k1, _⟩ := lenZ_spec h
        have : k < 8 := by
          refine Nat.lt_of_not_le fun hk => ?_
          have : (2 : Nat) ^ 8 ≤ 2 ^ k := Nat.pow_le_pow_right (by decide) hk
          have : ((2 ^ 8 : Nat) : Int) ≤ ((2 ^ k : Nat) : Int) := Int.ofNat_le.2 this
          simp at this
          omega
        omega
      · unfold lenZ; rw [if_pos h]; omega
    rw [wrap_in (n := lenZ x) (inI_iff.2 (by omega)), wrap_in (n := y + lenZ x) (inI_iff.2 (by omega))]
  by_cases h0 : n ≥ 4294967296
  · skip
    by_cases h1 : (n / 4294967296) ≥ 65536
    · skip
      by_cases h2 : ((n / 4294967296) / 65536) ≥ 256
      · skip
        have h := evFnL_plain (N := 300) (pre := lenPre) (C := noC) (f := 70) (args := [.int .u64 n]) (H := []) (os := [(0, true), (1, true), (1, true), (1, true)]) (v := (.int .i64 (IntKind.wrap .i64 ((IntKind.wrap .i64 ((IntKind.wrap .i64 ((32 : Int) + 16)) + 8)) + IntKind.wrap .i64 (byteAt len8 (Int.toNat (IntKind.wrap .u8 (Int.fdiv (Int.fdiv (Int.fdiv n (2 ^ min (Int.toNat 32) (IntKind.bits .u64))) (2 ^ min (Int.toNat 16) (IntKind.bits .u64))) (2 ^ min (Int.toNat 8) (IntKind.bits .u64)))))))))) (H' := []) (l := 0)
          (ob := [(decide (0 ≤ (IntKind.wrap .u8 (Int.fdiv (Int.fdiv (Int.fdiv n (2 ^ min (Int.toNat 32) (IntKind.bits .u64))) (2 ^ min (Int.toNat 16) (IntKind.bits .u64))) (2 ^ min (Int.toNat 8) (IntKind.bits .u64)))) ∧ (IntKind.wrap .u8 (Int.fdiv (Int.fdiv (Int.fdiv n (2 ^ min (Int.toNat 32) (IntKind.bits .u64))) (2 ^ min (Int.toNat 16) (IntKind.bits .u64))) (2 ^ min (Int.toNat 8) (IntKind.bits .u64)))) < (len8.size : Int)), true), (decide ((Int.fdiv (Int.fdiv n (2 ^ min (Int.toNat 32) (IntKind.bits .u64))) (2 ^ min (Int.toNat 16) (IntKind.bits .u64))) ≥ 256), true), (decide ((Int.fdiv n (2 ^ min (Int.toNat 32) (IntKind.bits .u64))) ≥ 65536), true), (decide (n ≥ 4294967296), true)]) progOk extSound lenSound (by kernel_rfl) (by
            simp only [s32, s16, s8, len8_size]
            rw [wrap8_in (by omega) (by omega)]
            simp [Holds]; omega)
        simp only [s32, s16, s8] at h
        rw [show (IntKind.wrap .i64 ((IntKind.wrap .i64 ((32 : Int) + 16)) + 8)) = 56 by decide, fin _ _ (by omega) (by omega) (by omega) (by omega)] at h
        rw [lenZ_div (n := n) (s := 56) (by simp; omega)]
        simp only [show (2 : Int) ^ 56 = 72057594037927936 by decide]
        rw [show n / 72057594037927936 = (((n / 4294967296) / 65536) / 256) by omega]
        exact h
      · skip
        have h := evFnL_plain (N := 300) (pre := lenPre) (C := noC) (f := 70) (args := [.int .u64 n]) (H := []) (os := [(0, true), (1, true), (1, false), (0, true)]) (v := (.int .i64 (IntKind.wrap .i64 ((IntKind.wrap .i64 ((32 : Int) + 16)) + IntKind.wrap .i64 (byteAt len8 (Int.toNat (IntKind.wrap .u8 (Int.fdiv (Int.fdiv n (2 ^ min (Int.toNat 32) (IntKind.bits .u64))) (2 ^ min (Int.toNat 16) (IntKind.bits .u64)))))))))) (H' := []) (l := 0)
          (ob := [(decide (0 ≤ (IntKind.wrap .u8 (Int.fdiv (Int.fdiv n (2 ^ min (Int.toNat 32) (IntKind.bits .u64))) (2 ^ min (Int.toNat 16) (IntKind.bits .u64)))) ∧ (IntKind.wrap .u8 (Int.fdiv (Int.fdiv n (2 ^ min (Int.toNat 32) (IntKind.bits .u64))) (2 ^ min (Int.toNat 16) (IntKind.bits .u64)))) < (len8.size : Int)), true), (decide ((Int.fdiv (Int.fdiv n (2 ^ min (Int.toNat 32) (IntKind.bits .u64))) (2 ^ min (Int.toNat 16) (IntKind.bits .u64))) ≥ 256), false), (decide ((Int.fdiv n (2 ^ min (Int.toNat 32) (IntKind.bits .u64))) ≥ 65536), true), (decide (n ≥ 4294967296), true)]) progOk extSound lenSound (by kernel_rfl) (by
            simp only [s32, s16, s8, len8_size]
            rw [wrap8_in (by omega) (by omega)]
            simp [Holds]; omega)
        simp only [s32, s16, s8] at h
        rw [show (IntKind.wrap .i64 ((32 : Int) + 16)) = 48 by decide, fin _ _ (by omega) (by omega) (by omega) (by omega)] at h
        rw [lenZ_div (n := n) (s := 48) (by simp; omega)]
        simp only [show (2 : Int) ^ 48 = 281474976710656 by decide]
        rw [show n / 281474976710656 = ((n / 4294967296) / 65536) by omega]
        exact h
    · skip
      by_cases h2 : (n / 4294967296) ≥ 256
      · skip
        have h := evFnL_plain (N := 300) (pre := lenPre) (C := noC) (f := 70) (args := [.int .u64 n]) (H := []) (os := [(0, true), (1, false), (0, true), (1, true)]) (v := (.int .i64 (IntKind.wrap .i64 ((IntKind.wrap .i64 ((32 : Int) + 8)) + IntKind.wrap .i64 (byteAt len8 (Int.toNat (IntKind.wrap .u8 (Int.fdiv (Int.fdiv n (2 ^ min (Int.toNat 32) (IntKind.bits .u64))) (2 ^ min (Int.toNat 8) (IntKind.bits .u64)))))))))) (H' := []) (l := 0)
          (ob := [(decide (0 ≤ (IntKind.wrap .u8 (Int.fdiv (Int.fdiv n (2 ^ min (Int.toNat 32) (IntKind.bits .u64))) (2 ^ min (Int.toNat 8) (IntKind.bits .u64)))) ∧ (IntKind.wrap .u8 (Int.fdiv (Int.fdiv n (2 ^ min (Int.toNat 32) (IntKind.bits .u64))) (2 ^ min (Int.toNat 8) (IntKind.bits .u64)))) < (len8.size : Int)), true), (decide ((Int.fdiv n (2 ^ min (Int.toNat 32) (IntKind.bits .u64))) ≥ 256), true), (decide ((Int.fdiv n (2 ^ min (Int.toNat 32) (IntKind.bits .u64))) ≥ 65536), false), (decide (n ≥ 4294967296), true)]) progOk extSound lenSound (by kernel_rfl) (by
            simp only [s32, s16, s8, len8_size]
            rw [wrap8_in (by omega) (by omega)]
            simp [Holds]; omega)
        simp only [s32, s16, s8] at h
        rw [show (IntKind.wrap .i64 ((32 : Int) + 8)) = 40 by decide, fin _ _ (by omega) (by omega) (by omega) (by omega)] at h
        rw [lenZ_div (n := n) (s := 40) (by simp; omega)]
        simp only [show (2 : Int) ^ 40 = 1099511627776 by decide]
        rw [show n / 1099511627776 = ((n / 4294967296) / 256) by omega]
        exact h
      · skip
        have h := evFnL_plain (N := 300) (pre := lenPre) (C := noC) (f := 70) (args := [.int .u64 n]) (H := []) (os := [(0, true), (1, false), (0, false), (0, true)]) (v := (.int .i64 (IntKind.wrap .i64 ((32 : Int) + IntKind.wrap .i64 (byteAt len8 (Int.toNat (IntKind.wrap .u8 (Int.fdiv n (2 ^ min (Int.toNat 32) (IntKind.bits .u64)))))))))) (H' := []) (l := 0)
          (ob := [(decide (0 ≤ (IntKind.wrap .u8 (Int.fdiv n (2 ^ min (Int.toNat 32) (IntKind.bits .u64)))) ∧ (IntKind.wrap .u8 (Int.fdiv n (2 ^ min (Int.toNat 32) (IntKind.bits .u64)))) < (len8.size : Int)), true), (decide ((Int.fdiv n (2 ^ min (Int.toNat 32) (IntKind.bits .u64))) ≥ 256), false), (decide ((Int.fdiv n (2 ^ min (Int.toNat 32) (IntKind.bits .u64))) ≥ 65536), false), (decide (n ≥ 4294967296), true)]) progOk extSound lenSound (by kernel_rfl) (by
            simp only [s32, s16, s8, len8_size]
            rw [wrap8_in (by omega) (by omega)]
            simp [Holds]; omega)
        simp only [s32, s16, s8] at h
        rw [show (32 : Int) = 32 by decide, fin _ _ (by omega) (by omega) (by omega) (by omega)] at h
        rw [lenZ_div (n := n) (s := 32) (by simp; omega)]
        simp only [show (2 : Int) ^ 32 = 4294967296 by decide]
        rw [show n / 4294967296 = (n / 4294967296) by omega]
        exact h
  · skip
    by_cases h1 : n ≥ 65536
    · skip
      by_cases h2 : (n / 65536) ≥ 256
      · skip
        have h := evFnL_plain (N := 300) (pre := lenPre) (C := noC) (f := 70) (args := [.int .u64 n]) (H := []) (os := [(0, false), (0, true), (1, true), (1, true)]) (v := (.int .i64 (IntKind.wrap .i64 ((IntKind.wrap .i64 ((IntKind.wrap .i64 ((0 : Int) + 16)) + 8)) + IntKind.wrap .i64 (byteAt len8 (Int.toNat (IntKind.wrap .u8 (Int.fdiv (Int.fdiv n (2 ^ min (Int.toNat 16) (IntKind.bits .u64))) (2 ^ min (Int.toNat 8) (IntKind.bits .u64)))))))))) (H' := []) (l := 0)
          (ob := [(decide (0 ≤ (IntKind.wrap .u8 (Int.fdiv (Int.fdiv n (2 ^ min (Int.toNat 16) (IntKind.bits .u64))) (2 ^ min (Int.toNat 8) (IntKind.bits .u64)))) ∧ (IntKind.wrap .u8 (Int.fdiv (Int.fdiv n (2 ^ min (Int.toNat 16) (IntKind.bits .u64))) (2 ^ min (Int.toNat 8) (IntKind.bits .u64)))) < (len8.size : Int)), true), (decide ((Int.fdiv n (2 ^ min (Int.toNat 16) (IntKind.bits .u64))) ≥ 256), true), (decide (n ≥ 65536), true), (decide (n ≥ 4294967296), false)]) progOk extSound lenSound (by kernel_rfl) (by
            simp only [s32, s16, s8, len8_size]
            rw [wrap8_in (by omega) (by omega)]
            simp [Holds]; omega)
        simp only [s32, s16, s8] at h
        rw [show (IntKind.wrap .i64 ((IntKind.wrap .i64 ((0 : Int) + 16)) + 8)) = 24 by decide, fin _ _ (by omega) (by omega) (by omega) (by omega)] at h
        rw [lenZ_div (n := n) (s := 24) (by simp; omega)]
        simp only [show (2 : Int) ^ 24 = 16777216 by decide]
        rw [show n / 16777216 = ((n / 65536) / 256) by omega]
        exact h
      · skip
        have h := evFnL_plain (N := 300) (pre := lenPre) (C := noC) (f := 70) (args := [.int .u64 n]) (H := []) (os := [(0, false), (0, true), (1, false), (0, true)]) (v := (.int .i64 (IntKind.wrap .i64 ((IntKind.wrap .i64 ((0 : Int) + 16)) + IntKind.wrap .i64 (byteAt len8 (Int.toNat (IntKind.wrap .u8 (Int.fdiv n (2 ^ min (Int.toNat 16) (IntKind.bits .u64)))))))))) (H' := []) (l := 0)
          (ob := [(decide (0 ≤ (IntKind.wrap .u8 (Int.fdiv n (2 ^ min (Int.toNat 16) (IntKind.bits .u64)))) ∧ (IntKind.wrap .u8 (Int.fdiv n (2 ^ min (Int.toNat 16) (IntKind.bits .u64)))) < (len8.size : Int)), true), (decide ((Int.fdiv n (2 ^ min (Int.toNat 16) (IntKind.bits .u64))) ≥ 256), false), (decide (n ≥ 65536), true), (decide (n ≥ 4294967296), false)]) progOk extSound lenSound (by kernel_rfl) (by
            simp only [s32, s16, s8, len8_size]
            rw [wrap8_in (by omega) (by omega)]
            simp [Holds]; omega)
        simp only [s32, s16, s8] at h
        rw [show (IntKind.wrap .i64 ((0 : Int) + 16)) = 16 by decide, fin _ _ (by omega) (by omega) (by omega) (by omega)] at h
        rw [lenZ_div (n := n) (s := 16) (by simp; omega)]
        simp only [show (2 : Int) ^ 16 = 65536 by decide]
        rw [show n / 65536 = (n / 65536) by omega]
        exact h
    · skip
      by_cases h2 : n ≥ 256
      · skip
        have h := evFnL_plain (N := 300) (pre := lenPre) (C := noC) (f := 70) (args := [.int .u64 n]) (H := []) (os := [(0, false), (0, false), (0, true), (1, true)]) (v := (.int .i64 (IntKind.wrap .i64 ((IntKind.wrap .i64 ((0 : Int) + 8)) + IntKind.wrap .i64 (byteAt len8 (Int.toNat (IntKind.wrap .u8 (Int.fdiv n (2 ^ min (Int.toNat 8) (IntKind.bits .u64)))))))))) (H' := []) (l := 0)
          (ob := [(decide (0 ≤ (IntKind.wrap .u8 (Int.fdiv n (2 ^ min (Int.toNat 8) (IntKind.bits .u64)))) ∧ (IntKind.wrap .u8 (Int.fdiv n (2 ^ min (Int.toNat 8) (IntKind.bits .u64)))) < (len8.size : Int)), true), (decide (n ≥ 256), true), (decide (n ≥ 65536), false), (decide (n ≥ 4294967296), false)]) progOk extSound lenSound (by kernel_rfl) (by
            simp only [s32, s16, s8, len8_size]
            rw [wrap8_in (by omega) (by omega)]
            simp [Holds]; omega)
        simp only [s32, s16, s8] at h
        rw [show (IntKind.wrap .i64 ((0 : Int) + 8)) = 8 by decide, fin _ _ (by omega) (by omega) (by omega) (by omega)] at h
        rw [lenZ_div (n := n) (s := 8) (by simp; omega)]
        simp only [show (2 : Int) ^ 8 = 256 by decide]
        rw [show n / 256 = (n / 256) by omega]
        exact h
      · skip
        have h := evFnL_plain (N := 300) (pre := lenPre) (C := noC) (f := 70) (args := [.int .u64 n]) (H := []) (os := [(0, false), (0, false), (0, false), (0, true)]) (v := (.int .i64 (IntKind.wrap .i64 ((0 : Int) + IntKind.wrap .i64 (byteAt len8 (Int.toNat (IntKind.wrap .u8 n))))))) (H' := []) (l := 0)
          (ob := [(decide (0 ≤ (IntKind.wrap .u8 n) ∧ (IntKind.wrap .u8 n) < (len8.size : Int)), true), (decide (n ≥ 256), false), (decide (n ≥ 65536), false), (decide (n ≥ 4294967296), false)]) progOk extSound lenSound (by kernel_rfl) (by
            simp only [len8_size]
            rw [wrap8_in (by omega) (by omega)]
            simp [Holds]; omega)
        rw [fin _ _ (by omega) (by omega) (by omega) (by omega), Int.zero_add] at h
        exact h
end Go.Proofs.YtpgmabpaiijipaaGreatDoor
namespace Go.Proofs.YtpgmabpaiijipaaGreatDoor
open Go Den
set_option maxRecDepth 100000
set_option linter.unusedSimpArgs false
set_option linter.unusedVariables false
def pcT (l l1 l2 : List Bool) (K : Int) : Nat → Tale := fun n f _ _ => match f, n with
  | 70, _ => some (.int .i64 K, [], 0)
  | 89, _ => some (.int .i64 0, [pk l, bitsB 0 (pn l) (l.length : Nat)], 1)
  | 51, _ => some (.slice (some ⟨2, 0, none⟩) (pn l) 0, [pk l, ⟨true, none, []⟩, pk l], 1)
  | 91, 4 => some (pv 3 l1, [spB, bitsB 3 (pn l1) (l1.length : Nat), bitsB 3 (pn l1) (l1.length : Nat), pk l1], 0)
  | 91, 5 => some (pv 3 l2, [spB, bitsB 3 (pn l2) (l2.length : Nat), bitsB 3 (pn l2) (l2.length : Nat), pk l2], 0)
  | _, _ => none
theorem putcode_run (l l1 l2 : List Bool) (n n1 K z : Int) : evFnL Tryz.prog ext 300 (nmPre (frameTPre (pcT l l1 l2 K))) (nbC [(8, n1), (32, z), (35, n1)] [(13, false), (15, false), (24, false)] (frameT (pcT l l1 l2 K))) noLoops [(0,true),(0,true),(3,true),(0,true),(0,true)] 93 [pv 0 l, .int .u64 n] [pk l] =
  some ((.tuple #[pv 5 l2, .int .i64 0], [pk l, bitsB 3 (pn l) (List.length l : Nat), bitsB 5 (pn l2) (List.length l2 : Nat), spB, spB, pk l2], 1), [(frameTPre (pcT l l1 l2 K) 91 [pv 4 l1, .int .u64 n1, .int .i64 K] [pk l, bitsB 3 (pn l) (List.length l : Nat), resB, spB, pk l1], true), (decide (IntKind.wrap .u64 (n + 1) = n1), true), (frameTPre (pcT l l1 l2 K) 91 [pv 3 l, .int .u64 0, .int .i64 z] [pk l, bitsB 3 (pn l) (List.length l : Nat), resB, pk l], true), (decide (IntKind.wrap .i64 (K - 1) = z), true), (frameTPre (pcT l l1 l2 K) 51 [.slice (some ⟨0, 0, none⟩) (pn l) 0] [pk l, bitsB 0 (pn l) (List.length l : Nat), resB], true), (decide (IntKind.wrap .i64 (IntKind.wrap .i64 (2 * K) - 1) > IntKind.wrap .i64 (65536 - ((List.length l : Nat) : Int))), false), (decide (n ≥ 4294967296), false), (false, false), (frameTPre (pcT l l1 l2 K) 89 [pv 0 l] [pk l, bitsB 0 (pn l) (List.length l : Nat), resB], true), (frameTPre (pcT l l1 l2 K) 70 [.int .u64 n1] [], true), (decide (IntKind.wrap .u64 (n + 1) = n1), true)]) := by kernel_rfl
theorem lenZ_cz {n : Nat} : lenZ ((n + 1 : Nat) : Int) = ((Bt.cz n + 1 : Nat) : Int) := by
  have h1 := Bt.cz_lo n
  have h2 := Bt.cz_hi n
  have c1 : ((2 ^ Bt.cz n : Nat) : Int) ≤ ((n + 1 : Nat) : Int) := Int.ofNat_le.2 h1
  have c2 : ((n + 1 : Nat) : Int) < ((2 ^ (Bt.cz n + 1) : Nat) : Int) := Int.ofNat_lt.2 h2
  rw [Int.natCast_pow] at c1 c2
  have e := lenZ_eq (n := ((n + 1 : Nat) : Int)) (k := Bt.cz n) c1 c2
  rw [e]; push_cast; rfl
theorem putcode_ok {l : List Bool} {n : Nat} (hne : l ≠ []) (hn : n ≤ 1073741824) (hl : l.length + 100 ≤ 65536) :
    CallOk Tryz.prog 93 [pv 0 l, .int .u64 (n : Nat)] [pk l] (.tuple #[pv 5 (l ++ Bt.codeB n), .int .i64 0])
      [pk l, bitsB 3 (pn l) (List.length l : Nat), bitsB 5 (pn (l ++ Bt.codeB n)) (List.length (l ++ Bt.codeB n) : Nat), spB, spB, pk (l ++ Bt.codeB n)] 1 := by
  have hz : Bt.cz n < 31 := Bt.cz_le (by omega)
  have e2 : l ++ Bt.codeB n = (l ++ Bt.be (Bt.cz n) 0) ++ Bt.be (Bt.cz n + 1) (n + 1) := by rw [Bt.codeB, List.append_assoc]
  have e1n : l ++ Bt.be (Bt.cz n) 0 ≠ [] := by simp [hne]
  have hpl : pk l = rowB (byteV (Bt.pack l)) := rfl
  have w1 : IntKind.wrap .u64 ((n : Int) + 1) = ((n + 1 : Nat) : Int) := by
    have : (n : Int) + 1 = ((n + 1 : Nat) : Int) := by push_cast; rfl
    rw [this, wrap_u64 (by omega)]
  refine fnL_ok progOk extSound (nb_sound _ _ (frameT_sound _)) noLoops_ok (putcode_run l (l ++ Bt.be (Bt.cz n) 0) (l ++ Bt.codeB n) (n : Nat) ((n + 1 : Nat) : Int) ((Bt.cz n + 1 : Nat) : Int) (Bt.cz n : Nat)) ?_
  intro q hq
  simp only [List.mem_cons, List.not_mem_nil, or_false] at hq
  rcases hq with rfl | rfl | rfl | rfl | rfl | rfl | rfl | rfl | rfl | rfl | rfl
  · have h := add_ok (l := l ++ Bt.be (Bt.cz n) 0) (v := n + 1) (w := Bt.cz n + 1) e1n (by simp; omega) (by omega) (by omega)
    rw [← e2] at h
    exact tok (frameT_ok [4] h (by exact (ro_pk hne (ro_in rfl (ro_in rfl (ro_sp (by simp) (ro_pk e1n ro_nil)))))) (by exact (rf_sp (rf_in rfl (rf_in rfl (rf_pk rf_nil))))))
  · simp only [decide_eq_true_eq]; exact w1
  · have h := add_ok (l := l) (v := 0) (w := Bt.cz n) hne (by omega) (by omega) (by omega)
    exact tok (frameT_ok [3] h (by exact (ro_pk hne (ro_in rfl (ro_in rfl (ro_pk hne ro_nil))))) (by exact (rf_sp (rf_in rfl (rf_in rfl (rf_pk rf_nil))))))
  · simp only [decide_eq_true_eq]; rw [wrap_i64 (by omega)]; omega
  · have h := clone_ok (l := Bt.pack l) (o := true) (g := some 1) (c := 0) rfl (pack_ne hne) (by rw [Bt.pack_len]; omega)
    rw [Bt.pack_len] at h
    exact tok (frameT_ok [0] h (by exact (ro_pk hne (ro_in rfl (ro_in rfl ro_nil)))) (by exact (rf_pk (rf_in rfl (rf_pk rf_nil)))))
  · simp only [decide_eq_false_iff_not]
    rw [wrap_i64 (n := 2 * ((Bt.cz n + 1 : Nat) : Int)) (by omega), wrap_i64 (n := 65536 - (l.length : Int)) (by omega), wrap_i64 (by omega)]
    omega
  · simp only [decide_eq_false_iff_not]; omega
  · rfl
  · have h := check_ok (l := l) (b := pk l) (c := 0) rfl rfl (by omega)
    exact tok (frameT_ok [0] h (by exact (ro_pk hne (ro_in rfl (ro_in rfl ro_nil)))) (by exact (rf_pk (rf_in rfl rf_nil))))
  · have h := len64_ok ((n + 1 : Nat) : Int) (by omega) (by omega)
    rw [lenZ_cz] at h
    exact tok (frameT_ok [] h (by exact ro_nil) (by exact rf_nil))
  · simp only [decide_eq_true_eq]; exact w1
def ofT (o : Bool) (g : Option Nat) (x : List Nat) : Nat → Tale := fun _ f _ _ => match f with
  | 51 => some (.slice (some ⟨2, 0, none⟩) x.length 0, [⟨o, g, byteV x⟩, ⟨true, none, []⟩, rowB (byteV x)], 1)
  | _ => none
theorem of_run (x : List Nat) (c : Nat) (m : Int) : evFnL Tryz.prog ext 300 (nmPre (frameTPre (ofT true (some 1) x))) (nbC [(11, m)] [(5, false)] (frameT (ofT true (some 1) x))) noLoops [(1,true)] 58 [.slice (some ⟨0, 0, none⟩) x.length c] [rowB (byteV x)] =
  some ((.agg #[.slice (some ⟨2, 0, none⟩) (List.length x) 0, .int .i64 m], [⟨true, some 1, byteV x⟩, ⟨true, none, [.slice (some ⟨2, 0, none⟩) (List.length x) 0, .int .i64 m]⟩, ⟨true, some 1, byteV x⟩], 1), [(decide (IntKind.wrap .i64 (8 * ((List.length x : Nat) : Int)) = m), true), (frameTPre (ofT true (some 1) x) 51 [.slice (some ⟨0, 0, none⟩) (List.length x) c] [⟨true, some 1, byteV x⟩, resB], true), (decide (((List.length x : Nat) : Int) > 8192), false)]) := by kernel_rfl
theorem of_runo (x : List Nat) (c : Nat) (m : Int) : evFnL Tryz.prog ext 300 (nmPre (frameTPre (ofT false none x))) (nbC [(11, m)] [(5, false)] (frameT (ofT false none x))) noLoops [(1,true)] 58 [.slice (some ⟨0, 0, none⟩) x.length c] [⟨false, none, byteV x⟩] =
  some ((.agg #[.slice (some ⟨2, 0, none⟩) (List.length x) 0, .int .i64 m], [⟨false, none, byteV x⟩, ⟨true, none, [.slice (some ⟨2, 0, none⟩) (List.length x) 0, .int .i64 m]⟩, ⟨true, some 1, byteV x⟩], 1), [(decide (IntKind.wrap .i64 (8 * ((List.length x : Nat) : Int)) = m), true), (frameTPre (ofT false none x) 51 [.slice (some ⟨0, 0, none⟩) (List.length x) c] [⟨false, none, byteV x⟩, resB], true), (decide (((List.length x : Nat) : Int) > 8192), false)]) := by kernel_rfl
theorem pn_bytes (x : List Nat) : pn (Bt.bytesB x) = x.length := by unfold pn; rw [Bt.bytesB_length]; omega
theorem pk_bytes {x : List Nat} (h : ∀ b ∈ x, b < 256) : pk (Bt.bytesB x) = rowB (byteV x) := by unfold pk; rw [Bt.pack_bytesB h]
theorem pv_bytes (g : Nat) (x : List Nat) : pv g (Bt.bytesB x) = bitsV g x.length ((8 * x.length : Nat) : Int) := by unfold pv; rw [pn_bytes, Bt.bytesB_length]
theorem of_ok {x : List Nat} {c : Nat} (hne : x ≠ []) (hl : x.length ≤ 8000) :
    CallOk Tryz.prog 58 [.slice (some ⟨0, 0, none⟩) x.length c] [rowB (byteV x)] (bitsV 2 x.length ((8 * x.length : Nat) : Int)) [rowB (byteV x), bitsB 2 x.length ((8 * x.length : Nat) : Int), rowB (byteV x)] 1 := by
  refine fnL_ok progOk extSound (nb_sound _ _ (frameT_sound _)) noLoops_ok (of_run x c ((8 * x.length : Nat) : Int)) ?_
  intro q hq
  simp only [List.mem_cons, List.not_mem_nil, or_false] at hq
  rcases hq with rfl | rfl | rfl
  · simp only [decide_eq_true_eq]; rw [wrap_i64 (by omega)]; omega
  · have h := clone_ok (l := x) (o := true) (g := some 1) (c := c) rfl hne (by omega)
    exact tok (frameT_ok [0] h (by exact (ro_row hne (ro_in rfl ro_nil))) (by exact (rf_row (rf_in rfl (rf_row rf_nil)))))
  · simp only [decide_eq_false_iff_not]; omega
theorem of_outer {x : List Nat} {c : Nat} (hne : x ≠ []) (hl : x.length ≤ 8000) :
    CallOk Tryz.prog 58 [.slice (some ⟨0, 0, none⟩) x.length c] [⟨false, none, byteV x⟩] (bitsV 2 x.length ((8 * x.length : Nat) : Int)) [⟨false, none, byteV x⟩, bitsB 2 x.length ((8 * x.length : Nat) : Int), rowB (byteV x)] 1 := by
  refine fnL_ok progOk extSound (nb_sound _ _ (frameT_sound _)) noLoops_ok (of_runo x c ((8 * x.length : Nat) : Int)) ?_
  intro q hq
  simp only [List.mem_cons, List.not_mem_nil, or_false] at hq
  rcases hq with rfl | rfl | rfl
  · simp only [decide_eq_true_eq]; rw [wrap_i64 (by omega)]; omega
  · have h := clone_ok (l := x) (o := false) (g := none) (c := c) rfl hne (by omega)
    exact tok (frameT_ok [0] h (by exact (ro_row hne (ro_in rfl ro_nil))) (by exact (rf_row (rf_in rfl (rf_row rf_nil)))))
  · simp only [decide_eq_false_iff_not]; omega
def goneV : Value := .slice (some ⟨0, 0, some 1⟩) 0 0
theorem of_nil : CallOk Tryz.prog 58 [.slice none 0 0] [] bitsV0 [resB] 0 :=
  fnL_ok (N := 300) (L := noLoops) (os := []) (ob := []) progOk extSound (plain_sound (evAll_sound progOk extSound 300 2)) noLoops_ok (by kernel_rfl) (by simp [Holds])
theorem of_gone : CallOk Tryz.prog 58 [goneV] [] (.agg #[goneV, .int .i64 0]) [⟨true, none, [goneV, .int .i64 0]⟩, ⟨true, none, []⟩] 0 :=
  fnL_ok (N := 300) (L := noLoops) (os := []) (ob := []) progOk extSound (plain_sound (evAll_sound progOk extSound 300 2)) noLoops_ok (by kernel_rfl) (by simp [Holds])
def fitsT (K : Int) : Nat → Tale := fun _ f _ _ => match f with
  | 70 => some (.int .i64 K, [], 0)
  | _ => none
theorem fits_run (v K : Int) : evFnL Tryz.prog ext 300 (nmPre (frameTPre (fitsT K))) (nbC [] [(15, true)] (frameT (fitsT K))) noLoops [(4,true)] 90 [.int .u64 v, .int .i64 4] [] =
  some ((.bool true, [], 0), [(decide (K ≤ 4), true), (frameTPre (fitsT K) 70 [.int .u64 v] [], true)]) := by kernel_rfl
theorem lenZ_4 {v : Nat} (h : v < 16) : lenZ (v : Int) ≤ 4 := by
  have key : ∀ v : Nat, v < 16 → lenZ (v : Int) ≤ 4 := by decide +kernel
  exact key v h
theorem fits_ok {v : Nat} (h : v < 16) : CallOk Tryz.prog 90 [.int .u64 (v : Nat), .int .i64 4] [] (.bool true) [] 0 := by
  have hr := fits_run (v : Nat) (lenZ (v : Int))
  refine fnL_ok progOk extSound (nb_sound _ _ (frameT_sound _)) noLoops_ok hr ?_
  intro q hq
  simp only [List.mem_cons, List.not_mem_nil, or_false] at hq
  rcases hq with rfl | rfl
  · simp [lenZ_4 h]
  · exact tok (frameT_ok [] (len64_ok (v : Int) (by omega) (by omega)) (by exact ro_nil) (by exact rf_nil))
def putT (l1 : List Bool) (w : Int) : Nat → Tale := fun _ f _ _ => match f with
  | 89 => some (.int .i64 0, [resB], 0)
  | 90 => some (.bool true, [], 0)
  | 51 => some (.slice none 0 0, [], 0)
  | 91 => some (pv 3 l1, [bitsB 3 1 w, bitsB 3 1 w, ⟨true, none, [.int .u8 0]⟩, pk l1], 0)
  | _ => none
theorem put_run (l1 : List Bool) (v : Int) : evFnL Tryz.prog ext 300 (nmPre (frameTPre (putT l1 4))) (nbC [] [] (frameT (putT l1 4))) noLoops [(0,true),(1,true),(2,true),(0,true)] 44 [bitsV0, .int .u64 v, .int .i64 4] [] =
  some ((.tuple #[pv 2 l1, .int .i64 0], [resB, bitsB 2 (pn l1) (List.length l1 : Nat), pk l1], 0), [(frameTPre (putT l1 4) 91 [.agg #[.slice none 0 0, .int .i64 0], .int .u64 v, .int .i64 4] [resB, resB], true), (frameTPre (putT l1 4) 51 [.slice none 0 0] [resB, resB], true), (frameTPre (putT l1 4) 90 [.int .u64 v, .int .i64 4] [], true), (frameTPre (putT l1 4) 89 [.agg #[.slice none 0 0, .int .i64 0]] [], true)]) := by kernel_rfl
theorem put_ok {v : Nat} (h : v < 16) : CallOk Tryz.prog 44 [bitsV0, .int .u64 (v : Nat), .int .i64 4] [] (.tuple #[pv 2 (Bt.be 4 v), .int .i64 0]) [resB, bitsB 2 (pn (Bt.be 4 v)) (List.length (Bt.be 4 v) : Nat), pk (Bt.be 4 v)] 0 := by
  refine fnL_ok progOk extSound (nb_sound _ _ (frameT_sound _)) noLoops_ok (put_run (Bt.be 4 v) (v : Nat)) ?_
  intro q hq
  simp only [List.mem_cons, List.not_mem_nil, or_false] at hq
  rcases hq with rfl | rfl | rfl | rfl
  · exact tok (frameT_ok [] (add_nil (v := v) (w := 4) (by omega) (by omega) (by omega)) (by exact (ro_in rfl (ro_in rfl ro_nil))) (by exact (rf_in rfl (rf_in rfl (rf_in rfl (rf_pk rf_nil))))))
  · exact tok (frameT_ok [] clone_nil (by exact (ro_in rfl (ro_in rfl ro_nil))) (by exact rf_nil))
  · exact tok (frameT_ok [] (fits_ok h) (by exact ro_nil) (by exact rf_nil))
  · exact tok (frameT_ok [] check_nil (by exact ro_nil) (by exact (rf_in rfl rf_nil)))
end Go.Proofs.YtpgmabpaiijipaaGreatDoor
namespace Go.Proofs.YtpgmabpaiijipaaGreatDoor
open Go Den
set_option maxRecDepth 100000
set_option linter.unusedSimpArgs false
theorem take_take_val (l : List Bool) (a d k : Nat) : (l.drop a).take (d + k) = (l.drop a).take d ++ (l.drop (a + d)).take k := by
  rw [List.take_add, List.drop_drop]
theorem tk_loop {l : List Bool} {a0 w0 : Nat} {b : Blk} {len cap : Nat} {N : Int} (hlive : live b = true) (hc : b.cells = byteV (Bt.pack l)) (hlen : len = (l.length + 7) / 8) (hin : a0 + w0 ≤ l.length) (hw : w0 ≤ 64) (hl : l.length ≤ 65536) :
    WP Tryz.prog (ntOf Tryz.prog 152 3) (.loop (loopAt Tryz.prog 152 0)) ⟨tkF a0 w0 0, tkH len cap N b, 1⟩ (.exit 0) ⟨tkF ((a0 + w0 : Nat) : Int) 0 (Bt.val ((l.drop a0).take w0) : Nat), tkH len cap N b, 1⟩ := by
  have key := WP.while (P := Tryz.prog) (nt := ntOf Tryz.prog 152 3) (b := loopAt Tryz.prog 152 0) (α := Nat) (fun d => ⟨tkF ((a0 + d : Nat) : Int) ((w0 - d : Nat) : Int) (Bt.val ((l.drop a0).take d) : Nat), tkH len cap N b, 1⟩)
    (fun d => d ≤ w0) (fun d => w0 - d) (x := .exit 0) (s' := ⟨tkF ((a0 + w0 : Nat) : Int) 0 (Bt.val ((l.drop a0).take w0) : Nat), tkH len cap N b, 1⟩) (by simp) ?_ 0 (by omega)
  · simpa [Bt.val] using key
  intro d hd
  by_cases h : d = w0
  · subst h
    left
    have h0 : ((d - d : Nat) : Int) = 0 := by omega
    rw [h0]
    exact WP.run progOk extSound (tk_sound []) (by kernel_rfl) (LoopsOk.none (by kernel_rfl)) [1, 2, 7, 3] (tk_out _ _ _ N len cap b) (by simp [Holds])
  · right
    obtain ⟨k, hk⟩ : ∃ k, k = min (8 - (a0 + d) % 8) (w0 - d) := ⟨_, rfl⟩
    refine ⟨d + k, by omega, by omega, ?_⟩
    have hget := Bt.pack_get l.length l ((a0 + d) / 8) (Nat.le_refl _) (by omega)
    generalize hbyte : Bt.byte ((l.drop (8 * ((a0 + d) / 8))).take 8) = y at hget
    have hy : y < 256 := by rw [← hbyte]; exact Bt.byte_lt (by simp; omega)
    obtain ⟨g1, g2⟩ := byteV_get hget
    have hpart := Bt.byte_part (l := l) (at' := a0 + d) (k := k) (by omega) (by omega)
    rw [hbyte] at hpart
    have hv1 := Bt.val_lt ((l.drop a0).take (d + k))
    rw [take_take_val, Bt.val_append] at hv1
    have hlk : ((l.drop (a0 + d)).take k).length = k := by simp; omega
    have hld : ((l.drop a0).take d).length = d := by simp; omega
    have hr := tk_run ((a0 + d : Nat) : Int) ((w0 - d : Nat) : Int) (Bt.val ((l.drop a0).take d) : Nat) N ((8 - (a0 + d) % 8 : Nat) : Int) (k : Int) len cap b
    have e1 : IntKind.wrap .i64 (((a0 + d : Nat) : Int) + (k : Int)) = ((a0 + (d + k) : Nat) : Int) := by rw [wrap_i64 (by omega)]; omega
    have e2 : IntKind.wrap .i64 (((w0 - d : Nat) : Int) - (k : Int)) = ((w0 - (d + k) : Nat) : Int) := by rw [wrap_i64 (by omega)]; omega
    have e3 : IntKind.wrap .i64 (Int.tdiv ((a0 + d : Nat) : Int) 8) = (((a0 + d) / 8 : Nat) : Int) := by
      have : Int.tdiv ((a0 + d : Nat) : Int) 8 = (((a0 + d) / 8 : Nat) : Int) := rfl
      rw [this, wrap_i64 (by omega)]
    have e4 : IntKind.wrap .i64 (((8 - (a0 + d) % 8 : Nat) : Int) - (k : Int)) = ((8 - (a0 + d) % 8 - k : Nat) : Int) := by rw [wrap_i64 (by omega)]; omega
    have e5 : IntKind.wrap .i64 (8 - Int.tmod ((a0 + d : Nat) : Int) 8) = ((8 - (a0 + d) % 8 : Nat) : Int) := by
      have : Int.tmod ((a0 + d : Nat) : Int) 8 = (((a0 + d) % 8 : Nat) : Int) := rfl
      rw [this, wrap_i64 (by omega)]; omega
    rw [e1, e2, e3, e4, e5, Int.toNat_natCast, Nat.zero_add, hc, g1, g2] at hr
    have hvv : Bt.val ((l.drop a0).take d) * 2 ^ k + y / 2 ^ (8 - (a0 + d) % 8 - k) % 2 ^ k < 18446744073709551616 := by
      rw [hpart]
      rw [hlk] at hv1
      have : 2 ^ ((l.drop a0).take d ++ (l.drop (a0 + d)).take k).length ≤ 2 ^ 64 := Nat.pow_le_pow_right (by omega) (by simp; omega)
      omega
    rw [tkV_eq (by omega) (by omega) hy hvv, hpart] at hr
    have hval : Bt.val ((l.drop a0).take d) * 2 ^ k + Bt.val ((l.drop (a0 + d)).take k) = Bt.val ((l.drop a0).take (d + k)) := by
      rw [take_take_val, Bt.val_append, hlk]
    rw [hval] at hr
    refine WP.run progOk extSound (tk_sound _) (by kernel_rfl) (LoopsOk.none (by kernel_rfl)) [1, 2, 7, 3] hr ?_
    intro p hp
    simp only [List.mem_cons, List.not_mem_nil, or_false] at hp
    rcases hp with rfl | rfl | rfl | rfl | rfl | rfl | rfl | rfl
    · simp
    · simp
    · simp only [decide_eq_false_iff_not]; omega
    · simp [hlive]
    · simp only [decide_eq_true_eq]; omega
    · simp only [decide_eq_true_eq]; split <;> omega
    · simp
    · simp only [decide_eq_true_eq]; omega
end Go.Proofs.YtpgmabpaiijipaaGreatDoor
namespace Go.Proofs.YtpgmabpaiijipaaGreatDoor
open Go Den
set_option maxRecDepth 100000
set_option linter.unusedSimpArgs false
noncomputable def tkL (a w a1 v : Int) (H : Heap) : Loops := { loop := sumL 2 ⟨tkF a w 0, H, 1⟩ (.exit 0) ⟨tkF a1 0 v, H, 1⟩ }
theorem take_run (a w a1 v N : Int) (len cap : Nat) (b : Blk) :
    evFnL Tryz.prog ext 300 noPre noC (tkL a w a1 v (tkH len cap N b)) [] 152 [.agg #[.slice (some ⟨0, 0, none⟩) len cap, .int .i64 N], .int .i64 a, .int .i64 w] [b] =
      some ((.int .u64 v, tkH len cap N b, 1), [(cdec (tkF a w 0 = tkF a w 0), true), (cdec (tkH len cap N b = tkH len cap N b), true), (cdec ((1 : Nat) = 1), true)]) := by kernel_rfl
theorem take_ok {l : List Bool} {a0 w0 : Nat} {b : Blk} {len cap : Nat} {N : Int} (hlive : live b = true) (hc : b.cells = byteV (Bt.pack l)) (hlen : len = (l.length + 7) / 8) (hin : a0 + w0 ≤ l.length) (hw : w0 ≤ 64) (hl : l.length ≤ 65536) :
    CallOk Tryz.prog 152 [.agg #[.slice (some ⟨0, 0, none⟩) len cap, .int .i64 N], .int .i64 a0, .int .i64 w0] [b] (.int .u64 (Bt.val ((l.drop a0).take w0) : Nat)) (tkH len cap N b) 1 := by
  refine fnL_ok progOk extSound noC_sound ?_ (take_run a0 w0 ((a0 + w0 : Nat) : Int) (Bt.val ((l.drop a0).take w0) : Nat) N len cap b) (by simp [Holds, cdec])
  refine LoopsOk.sum (hL := rfl) ?_
  intro b' hb' _
  have e : loopsOf (bodyOf Tryz.prog 152) = [loopAt Tryz.prog 152 0] := by kernel_rfl
  rw [e] at hb'
  simp only [List.mem_singleton] at hb'
  subst hb'
  exact tk_loop hlive hc hlen hin hw hl
end Go.Proofs.YtpgmabpaiijipaaGreatDoor

namespace Go.Proofs.YtpgmabpaiijipaaGreatDoor
open Go Den
set_option maxRecDepth 100000
set_option linter.unusedSimpArgs false
set_option linter.unusedVariables false
def jAR (l m : List Bool) : Blk := ⟨true, none, [.slice (some ⟨1, 0, none⟩) (pn l) 0, .int .i64 (l.length : Nat), .slice (some ⟨2, 0, none⟩) (pn m) 0, .int .i64 (m.length : Nat)]⟩
def j5R (l m : List Bool) : Blk := ⟨true, none, [.slice (some ⟨2, 0, none⟩) (pn m) 0, .int .i64 (m.length : Nat)]⟩
def jH1R (l m : List Bool) : Heap := [jAR l m, pk l, pk m, resB, bitsB 1 (pn l) (l.length : Nat), j5R l m, resB, bitsB 1 (pn l) (l.length : Nat)]
def jH2R (l m : List Bool) (L : List Bool) : Heap := [jAR l m, pk l, pk m, resB, bitsB 1 (pn l) (l.length : Nat), j5R l m, bitsB 8 (pn L) (L.length : Nat), bitsB 1 (pn l) (l.length : Nat), pk L]
def jH3R (l m : List Bool) (L : List Bool) : Heap := [jAR l m, pk l, pk m, resB, bitsB 1 (pn l) (l.length : Nat), j5R l m, bitsB 10 (pn L) (L.length : Nat), bitsB 1 (pn l) (l.length : Nat), spB, j5R l m, pk L]
def jFR (a i : Int) (p : Nat) : Slots := [(11, .int .i64 a), (8, .pointer (some ⟨6, 0, none⟩)), (10, .pointer (some ⟨p, 0, none⟩)), (2, .pointer (some ⟨3, 0, none⟩)), (34, .slice (some ⟨0, 0, none⟩) 2 2), (35, .int .i64 2), (36, .int .i64 i)]
def jTR (b : List Bool) (L L' : List Bool) (t : Int) : Nat → Tale := fun _ f _ _ => match f with
  | 152 => some (.int .u64 t, tkH (pn b) 0 (b.length : Nat) (pk b), 1)
  | 91 => some (pv 3 L', [spB, bitsB 3 (pn L') (L'.length : Nat), bitsB 3 (pn L') (L'.length : Nat), pk L'], 0)
  | _ => none
def jT0R (b : List Bool) (L' : List Bool) (t k : Int) : Nat → Tale := fun _ f _ _ => match f with
  | 152 => some (.int .u64 t, tkH (pn b) 0 (b.length : Nat) (pk b), 1)
  | 91 => some (pv 3 L', [bitsB 3 1 k, bitsB 3 1 k, ⟨true, none, [.int .u8 0]⟩, pk L'], 0)
  | _ => none
def jTfR (l m : List Bool) : Nat → Tale := fun n f _ _ => match f, n with
  | 89, 5 => some (.int .i64 0, [pk l, bitsB 0 (pn l) (l.length : Nat)], 1)
  | 89, _ => some (.int .i64 0, [pk m, bitsB 0 (pn m) (m.length : Nat)], 1)
  | _, _ => none
def jH2bR (l m : List Bool) (L : List Bool) : Heap := [jAR l m, pk l, pk m, resB, bitsB 1 (pn l) (l.length : Nat), j5R l m, bitsB 8 (pn L) (L.length : Nat), bitsB 1 (pn l) (l.length : Nat), pk L, j5R l m]
noncomputable def jLR (l m : List Bool) (L2 : List Bool) (a1 a2 : Int) : Loops := { loop := fun i s => match Nat.beq i 17 with
  | true => (match at? 36 s.F with
    | some (.int _ 0) => sumL 17 ⟨jFR 0 0 7, jH1R l m, 3⟩ (.exit 4) ⟨jFR a1 0 7, jH2R l m l, 3⟩ i s
    | _ => sumL 17 ⟨jFR 0 1 9, jH2bR l m l, 3⟩ (.exit 4) ⟨jFR a2 1 9, jH3R l m L2, 3⟩ i s)
  | false => none }
theorem j1fR (l m : List Bool) (L' : List Bool) (a' k t : Int) : evL Tryz.prog ext (nmPre (frameTPre (jT0R l L' t k))) (nbC [(12, k), (11, a')] [] (frameT (jT0R l L' t k))) noLoops 300 (ntOf Tryz.prog 95 1) (loopAt Tryz.prog 95 2) (jFR 0 0 7) (jH1R l m) 3 [(0,true),(0,true),(0,true)] [11, 8, 10, 2, 34, 35, 36] =
  some (Ex.normal, [(11, .int .i64 a'), (8, .pointer (some ⟨6, 0, none⟩)), (10, .pointer (some ⟨7, 0, none⟩)), (2, .pointer (some ⟨3, 0, none⟩)), (34, .slice (some ⟨0, 0, none⟩) 2 2), (35, .int .i64 2), (36, .int .i64 0)], [⟨true, none, [.slice (some ⟨1, 0, none⟩) (pn l) 0, .int .i64 ((List.length l : Nat) : Int), .slice (some ⟨2, 0, none⟩) (pn m) 0, .int .i64 ((List.length m : Nat) : Int)]⟩, pk l, pk m, resB, bitsB 1 (pn l) (List.length l : Nat), bitsB 2 (pn m) (List.length m : Nat), ⟨true, none, [.slice (some ⟨8, 0, none⟩) (pn L') 0, .int .i64 ((List.length L' : Nat) : Int)]⟩, bitsB 1 (pn l) (List.length l : Nat), ⟨true, some 1, byteV (Bt.pack L')⟩], 3, [(decide (IntKind.wrap .i64 (0 + 8) = a'), true), (frameTPre (jT0R l L' t k) 91 [.agg #[.slice none 0 0, .int .i64 0], .int .u64 t, .int .i64 k] [] && frameTPre (jT0R l L' t k) 91 [.agg #[.slice none 0 0, .int .i64 0], .int .u64 t, .int .i64 k] [⟨true, none, [.slice (some ⟨1, 0, none⟩) (pn l) 0, .int .i64 ((List.length l : Nat) : Int), .slice (some ⟨2, 0, none⟩) (pn m) 0, .int .i64 ((List.length m : Nat) : Int)]⟩, pk l, pk m, resB, bitsB 1 (pn l) (List.length l : Nat), bitsB 2 (pn m) (List.length m : Nat), resB, bitsB 1 (pn l) (List.length l : Nat)], true), (frameTPre (jT0R l L' t k) 152 [pv 1 l, .int .i64 0, .int .i64 k] [⟨true, none, [.slice (some ⟨1, 0, none⟩) (pn l) 0, .int .i64 ((List.length l : Nat) : Int), .slice (some ⟨2, 0, none⟩) (pn m) 0, .int .i64 ((List.length m : Nat) : Int)]⟩, pk l, pk m, resB, bitsB 1 (pn l) (List.length l : Nat), bitsB 2 (pn m) (List.length m : Nat), resB, bitsB 1 (pn l) (List.length l : Nat)], true), (decide ((if IntKind.wrap .i64 (((List.length l : Nat) : Int) - 0) < 8 then IntKind.wrap .i64 (((List.length l : Nat) : Int) - 0) else 8) = k), true), (decide (0 < ((List.length l : Nat) : Int)), true)]) := by kernel_rfl
theorem j1mR (l m : List Bool) (L L' : List Bool) (a a' k t : Int) : evL Tryz.prog ext (nmPre (frameTPre (jTR l L L' t))) (nbC [(12, k), (11, a')] [] (frameT (jTR l L L' t))) noLoops 300 (ntOf Tryz.prog 95 1) (loopAt Tryz.prog 95 2) (jFR a 0 7) (jH2R l m L) 3 [(0,true),(0,true),(0,true)] [11, 8, 10, 2, 34, 35, 36] =
  some (Ex.normal, [(11, .int .i64 a'), (8, .pointer (some ⟨6, 0, none⟩)), (10, .pointer (some ⟨7, 0, none⟩)), (2, .pointer (some ⟨3, 0, none⟩)), (34, .slice (some ⟨0, 0, none⟩) 2 2), (35, .int .i64 2), (36, .int .i64 0)], [⟨true, none, [.slice (some ⟨1, 0, none⟩) (pn l) 0, .int .i64 ((List.length l : Nat) : Int), .slice (some ⟨2, 0, none⟩) (pn m) 0, .int .i64 ((List.length m : Nat) : Int)]⟩, pk l, pk m, resB, bitsB 1 (pn l) (List.length l : Nat), bitsB 2 (pn m) (List.length m : Nat), ⟨true, none, [.slice (some ⟨9, 0, none⟩) (pn L') 0, .int .i64 ((List.length L' : Nat) : Int)]⟩, bitsB 1 (pn l) (List.length l : Nat), spB, ⟨true, some 1, byteV (Bt.pack L')⟩], 3, [(decide (IntKind.wrap .i64 (a + 8) = a'), true), (frameTPre (jTR l L L' t) 91 [pv 8 L, .int .u64 t, .int .i64 k] [⟨true, none, [.slice (some ⟨1, 0, none⟩) (pn l) 0, .int .i64 ((List.length l : Nat) : Int), .slice (some ⟨2, 0, none⟩) (pn m) 0, .int .i64 ((List.length m : Nat) : Int)]⟩, pk l, pk m, resB, bitsB 1 (pn l) (List.length l : Nat), bitsB 2 (pn m) (List.length m : Nat), bitsB 8 (pn L) (List.length L : Nat), bitsB 1 (pn l) (List.length l : Nat), pk L], true), (frameTPre (jTR l L L' t) 152 [pv 1 l, .int .i64 a, .int .i64 k] [⟨true, none, [.slice (some ⟨1, 0, none⟩) (pn l) 0, .int .i64 ((List.length l : Nat) : Int), .slice (some ⟨2, 0, none⟩) (pn m) 0, .int .i64 ((List.length m : Nat) : Int)]⟩, pk l, pk m, resB, bitsB 1 (pn l) (List.length l : Nat), bitsB 2 (pn m) (List.length m : Nat), bitsB 8 (pn L) (List.length L : Nat), bitsB 1 (pn l) (List.length l : Nat), pk L], true), (decide ((if IntKind.wrap .i64 (((List.length l : Nat) : Int) - a) < 8 then IntKind.wrap .i64 (((List.length l : Nat) : Int) - a) else 8) = k), true), (decide (a < ((List.length l : Nat) : Int)), true)]) := by kernel_rfl
theorem j1oR (l m : List Bool) (L : List Bool) (a a' k : Int) : evL Tryz.prog ext (nmPre (frameTPre (jT0R l L 0 0))) (nbC [(12, k), (11, a')] [] (frameT (jT0R l L 0 0))) noLoops 300 (ntOf Tryz.prog 95 1) (loopAt Tryz.prog 95 2) (jFR a 0 7) (jH2R l m L) 3 [(0,false)] [11, 8, 10, 2, 34, 35, 36] =
  some (Ex.exit 4, [(11, .int .i64 a), (8, .pointer (some ⟨6, 0, none⟩)), (10, .pointer (some ⟨7, 0, none⟩)), (2, .pointer (some ⟨3, 0, none⟩)), (34, .slice (some ⟨0, 0, none⟩) 2 2), (35, .int .i64 2), (36, .int .i64 0)], [⟨true, none, [.slice (some ⟨1, 0, none⟩) (pn l) 0, .int .i64 ((List.length l : Nat) : Int), .slice (some ⟨2, 0, none⟩) (pn m) 0, .int .i64 ((List.length m : Nat) : Int)]⟩, pk l, pk m, resB, bitsB 1 (pn l) (List.length l : Nat), bitsB 2 (pn m) (List.length m : Nat), bitsB 8 (pn L) (List.length L : Nat), bitsB 1 (pn l) (List.length l : Nat), pk L], 3, [(decide (a < ((List.length l : Nat) : Int)), false)]) := by kernel_rfl
theorem j2mR (l m : List Bool) (L L' : List Bool) (a a' k t : Int) : evL Tryz.prog ext (nmPre (frameTPre (jTR m L L' t))) (nbC [(12, k), (11, a')] [] (frameT (jTR m L L' t))) noLoops 300 (ntOf Tryz.prog 95 1) (loopAt Tryz.prog 95 2) (jFR a 1 9) (jH3R l m L) 3 [(0,true),(0,true),(0,true)] [11, 8, 10, 2, 34, 35, 36] =
  some (Ex.normal, [(11, .int .i64 a'), (8, .pointer (some ⟨6, 0, none⟩)), (10, .pointer (some ⟨9, 0, none⟩)), (2, .pointer (some ⟨3, 0, none⟩)), (34, .slice (some ⟨0, 0, none⟩) 2 2), (35, .int .i64 2), (36, .int .i64 1)], [⟨true, none, [.slice (some ⟨1, 0, none⟩) (pn l) 0, .int .i64 ((List.length l : Nat) : Int), .slice (some ⟨2, 0, none⟩) (pn m) 0, .int .i64 ((List.length m : Nat) : Int)]⟩, pk l, pk m, resB, bitsB 1 (pn l) (List.length l : Nat), bitsB 2 (pn m) (List.length m : Nat), ⟨true, none, [.slice (some ⟨11, 0, none⟩) (pn L') 0, .int .i64 ((List.length L' : Nat) : Int)]⟩, bitsB 1 (pn l) (List.length l : Nat), spB, bitsB 2 (pn m) (List.length m : Nat), spB, ⟨true, some 1, byteV (Bt.pack L')⟩], 3, [(decide (IntKind.wrap .i64 (a + 8) = a'), true), (frameTPre (jTR m L L' t) 91 [pv 10 L, .int .u64 t, .int .i64 k] [⟨true, none, [.slice (some ⟨1, 0, none⟩) (pn l) 0, .int .i64 ((List.length l : Nat) : Int), .slice (some ⟨2, 0, none⟩) (pn m) 0, .int .i64 ((List.length m : Nat) : Int)]⟩, pk l, pk m, resB, bitsB 1 (pn l) (List.length l : Nat), bitsB 2 (pn m) (List.length m : Nat), bitsB 10 (pn L) (List.length L : Nat), bitsB 1 (pn l) (List.length l : Nat), spB, bitsB 2 (pn m) (List.length m : Nat), pk L], true), (frameTPre (jTR m L L' t) 152 [pv 2 m, .int .i64 a, .int .i64 k] [⟨true, none, [.slice (some ⟨1, 0, none⟩) (pn l) 0, .int .i64 ((List.length l : Nat) : Int), .slice (some ⟨2, 0, none⟩) (pn m) 0, .int .i64 ((List.length m : Nat) : Int)]⟩, pk l, pk m, resB, bitsB 1 (pn l) (List.length l : Nat), bitsB 2 (pn m) (List.length m : Nat), bitsB 10 (pn L) (List.length L : Nat), bitsB 1 (pn l) (List.length l : Nat), spB, bitsB 2 (pn m) (List.length m : Nat), pk L], true), (decide ((if IntKind.wrap .i64 (((List.length m : Nat) : Int) - a) < 8 then IntKind.wrap .i64 (((List.length m : Nat) : Int) - a) else 8) = k), true), (decide (a < ((List.length m : Nat) : Int)), true)]) := by kernel_rfl
theorem j2oR (l m : List Bool) (L : List Bool) (a a' k : Int) : evL Tryz.prog ext (nmPre (frameTPre (jT0R l L 0 0))) (nbC [(12, k), (11, a')] [] (frameT (jT0R l L 0 0))) noLoops 300 (ntOf Tryz.prog 95 1) (loopAt Tryz.prog 95 2) (jFR a 1 9) (jH3R l m L) 3 [(0,false)] [11, 8, 10, 2, 34, 35, 36] =
  some (Ex.exit 4, [(11, .int .i64 a), (8, .pointer (some ⟨6, 0, none⟩)), (10, .pointer (some ⟨9, 0, none⟩)), (2, .pointer (some ⟨3, 0, none⟩)), (34, .slice (some ⟨0, 0, none⟩) 2 2), (35, .int .i64 2), (36, .int .i64 1)], [⟨true, none, [.slice (some ⟨1, 0, none⟩) (pn l) 0, .int .i64 ((List.length l : Nat) : Int), .slice (some ⟨2, 0, none⟩) (pn m) 0, .int .i64 ((List.length m : Nat) : Int)]⟩, pk l, pk m, resB, bitsB 1 (pn l) (List.length l : Nat), bitsB 2 (pn m) (List.length m : Nat), bitsB 10 (pn L) (List.length L : Nat), bitsB 1 (pn l) (List.length l : Nat), spB, bitsB 2 (pn m) (List.length m : Nat), pk L], 3, [(decide (a < ((List.length m : Nat) : Int)), false)]) := by kernel_rfl
theorem be_of {X : List Bool} {k : Nat} (h : X.length = k) : Bt.be k (Bt.val X) = X := by
  have := Bt.be_val X
  rwa [h] at this
theorem part_len {l : List Bool} {a : Nat} (h : a < l.length) : ((l.drop a).take (min 8 (l.length - a))).length = min 8 (l.length - a) := by
  rw [List.length_take, List.length_drop]; omega
theorem part_add (l : List Bool) {a : Nat} (h : a < l.length) : l.take a ++ (l.drop a).take (min 8 (l.length - a)) = l.take (a + 8) := by
  rw [List.take_add]
  congr 1
  rw [← List.take_take, List.take_of_length_le (l := (l.drop a)) (i := l.length - a) (by simp)]
theorem val_lt64 {X : List Bool} (h : X.length ≤ 64) : Bt.val X < 18446744073709551616 := by
  have h1 := Bt.val_lt X
  have h2 : 2 ^ X.length ≤ 2 ^ 64 := Nat.pow_le_pow_right (by omega) h
  omega
theorem take_ne {l : List Bool} {a : Nat} (hl : l ≠ []) (ha : 0 < a) : l.take a ≠ [] := by
  intro e
  rcases List.take_eq_nil_iff.1 e with h | h
  · omega
  · exact hl h
theorem jview1R (l m : List Bool) (L : List Bool) (a : Int) : Views 8 ⟨jFR a 0 7, [jAR l m, pk l, pk m, resB, bitsB 1 (pn l) (l.length : Nat), j5R l m, bitsB 9 (pn L) (L.length : Nat), bitsB 1 (pn l) (l.length : Nat), spB, pk L], 3⟩ ⟨jFR a 0 7, jH2R l m L, 3⟩ := by
  refine Views.canon [9] (by simp) (by simp) (by simp) rfl (fun i b2 hi hb => ?_) (fun j i b2 hj hb => ?_) (renF_get rfl)
  · match i, hi with
    | 0, _ => injection hb with hb; subst hb; exact ⟨_, rfl, rfl⟩
    | 1, _ => injection hb with hb; subst hb; exact ⟨_, rfl, renA_row _ _ _ _⟩
    | 2, _ => injection hb with hb; subst hb; exact ⟨_, rfl, renA_row _ _ _ _⟩
    | 3, _ => injection hb with hb; subst hb; exact ⟨_, rfl, rfl⟩
    | 4, _ => injection hb with hb; subst hb; exact ⟨_, rfl, rfl⟩
    | 5, _ => injection hb with hb; subst hb; exact ⟨_, rfl, rfl⟩
    | 6, _ => injection hb with hb; subst hb; exact ⟨_, rfl, rfl⟩
    | 7, _ => injection hb with hb; subst hb; exact ⟨_, rfl, rfl⟩
    | n + 8, hi => omega
  · match j, hj with
    | 0, hj =>
      injection hj with hj
      subst hj
      injection hb with hb
      subst hb
      exact ⟨_, rfl, renA_row _ _ _ _⟩
theorem j_pass1R (l m : List Bool) (hl : l ≠ []) (hm : m ≠ []) (h : l.length ≤ 60000) :
    WP Tryz.prog (ntOf Tryz.prog 95 1) (.loop (loopAt Tryz.prog 95 2)) ⟨jFR 0 0 7, jH1R l m, 3⟩ (.exit 4) ⟨jFR (((l.length + 7) / 8 * 8 : Nat) : Int) 0 7, jH2R l m l, 3⟩ := by
  have hpos : 0 < l.length := List.length_pos_iff.2 hl
  refine WP.whileV (α := Nat) _ (fun a => ⟨jFR (a : Nat) 0 7, match a with
    | 0 => jH1R l m
    | b + 1 => jH2R l m (l.take (b + 1)), 3⟩) (fun a => a % 8 = 0 ∧ a < l.length + 8) (fun a => l.length + 8 - a) (by simp) ?_ 0 ⟨rfl, by omega⟩ (Views.refl _ _)
  rintro a ⟨ha8, hal⟩
  by_cases hlt : a < l.length
  · right
    have hpl := part_len hlt
    have hpa := part_add l hlt
    generalize hk : min 8 (l.length - a) = k at hpl hpa
    have hbe := be_of hpl
    have hv := val_lt64 (X := (l.drop a).take k) (by omega)
    have htk := take_ok (l := l) (a0 := a) (w0 := k) (b := pk l) (len := pn l) (cap := 0) (N := (l.length : Nat)) rfl rfl rfl (by omega) (by omega) (by omega)
    generalize ht : Bt.val ((l.drop a).take k) = t at hbe hv htk
    cases a with
    | zero =>
      refine ⟨8, _, ⟨rfl, by omega⟩, by omega, WP.run progOk extSound (nb_sound _ _ (frameT_sound _)) (by kernel_rfl) (LoopsOk.none (by kernel_rfl)) [11, 8, 10, 2, 34, 35, 36] (j1fR l m (l.take 8) 8 (k : Nat) (t : Nat)) ?_, Views.refl _ _⟩
      have hL : Bt.be k t = l.take 8 := by
        rw [hbe]; simpa using hpa
      have hadd := add_nil (v := t) (w := k) (by omega) (by omega) hv
      rw [hL] at hadd
      intro q hq
      simp only [List.mem_cons, List.not_mem_nil, or_false] at hq
      rcases hq with rfl | rfl | rfl | rfl | rfl
      · simp only [decide_eq_true_eq]; exact wrap_i64 (by omega)
      · refine tok ?_
        rw [frameT_ok [] hadd (by exact ro_nil) (by exact rf_in rfl (rf_in rfl (rf_in rfl (rf_pk rf_nil)))) (by kernel_rfl) (by kernel_rfl)]
        exact frameT_ok [] hadd (by exact ro_in rfl (ro_pk hl (ro_pk hm (ro_in rfl (ro_in rfl (ro_in rfl (ro_in rfl (ro_in rfl (ro_nil))))))))) (by exact rf_in rfl (rf_in rfl (rf_in rfl (rf_pk rf_nil)))) (by kernel_rfl) (by kernel_rfl)
      · exact tok (frameT_ok [1] htk (by exact ro_in rfl (ro_pk hl (ro_pk hm (ro_in rfl (ro_in rfl (ro_in rfl (ro_in rfl (ro_in rfl (ro_nil))))))))) (by exact rf_pk (rf_in rfl rf_nil)))
      · simp only [decide_eq_true_eq]
        rw [wrap_i64 (by omega)]
        split <;> omega
      · simp only [decide_eq_true_eq]; omega
    | succ a =>
      have hLn := take_ne (a := a + 1) hl (by omega)
      refine ⟨a + 1 + 8, _, ⟨by omega, by omega⟩, by omega, WP.run progOk extSound (nb_sound _ _ (frameT_sound _)) (by kernel_rfl) (LoopsOk.none (by kernel_rfl)) [11, 8, 10, 2, 34, 35, 36] (j1mR l m (l.take (a + 1)) (l.take (a + 1 + 8)) ((a + 1 : Nat) : Int) ((a + 1 + 8 : Nat) : Int) (k : Nat) (t : Nat)) ?_, jview1R l m (l.take (a + 1 + 8)) _⟩
      have hadd := add_ok (l := l.take (a + 1)) (v := t) (w := k) hLn (by simp; omega) (by omega) hv
      rw [hbe, hpa] at hadd
      intro q hq
      simp only [List.mem_cons, List.not_mem_nil, or_false] at hq
      rcases hq with rfl | rfl | rfl | rfl | rfl
      · simp only [decide_eq_true_eq]; rw [wrap_i64 (by omega)]; omega
      · exact tok (frameT_ok [8] hadd (by exact ro_in rfl (ro_pk hl (ro_pk hm (ro_in rfl (ro_in rfl (ro_in rfl (ro_in rfl (ro_in rfl (ro_pk hLn (ro_nil)))))))))) (by exact rf_sp (rf_in rfl (rf_in rfl (rf_pk rf_nil)))))
      · exact tok (frameT_ok [1] htk (by exact ro_in rfl (ro_pk hl (ro_pk hm (ro_in rfl (ro_in rfl (ro_in rfl (ro_in rfl (ro_in rfl (ro_pk hLn (ro_nil)))))))))) (by exact rf_pk (rf_in rfl rf_nil)))
      · simp only [decide_eq_true_eq]
        rw [wrap_i64 (by omega)]
        split <;> omega
      · simp only [decide_eq_true_eq]; omega
  · left
    have ha : a = (l.length + 7) / 8 * 8 := by omega
    subst ha
    obtain ⟨b, hb⟩ : ∃ b, (l.length + 7) / 8 * 8 = b + 1 := ⟨(l.length + 7) / 8 * 8 - 1, by omega⟩
    rw [hb]
    have ht : l.take (b + 1) = l := List.take_of_length_le (by omega)
    have hr := j1oR l m (l.take (b + 1)) ((b + 1 : Nat) : Int) 0 0
    have hw := WP.run progOk extSound (nb_sound _ _ (frameT_sound _)) (by kernel_rfl) (LoopsOk.none (by kernel_rfl)) [11, 8, 10, 2, 34, 35, 36] hr (by simp [Holds]; omega)
    simp only
    rw [ht] at hw ⊢
    exact hw
theorem jview2R (l m : List Bool) (L : List Bool) (a : Int) : Views 10 ⟨jFR a 1 9, jH2bR l m L, 3⟩ ⟨jFR a 1 9, jH3R l m L, 3⟩ := by
  have key : Views 10 ⟨jFR a 1 9, jH2bR l m L, 3⟩ ⟨jFR a 1 9, jH3R l m L, min 3 8⟩ := by
    refine Views.spend (g := 8) (old := pk L) rfl rfl rfl rfl (fun i b2 hi hne hb => ?_) rfl (fun b2 hb => ?_) (renF_get rfl)
    · match i, hi with
      | 0, _ => injection hb with hb; subst hb; exact ⟨_, rfl, rfl⟩
      | 1, _ => injection hb with hb; subst hb; exact ⟨_, rfl, renA_row _ _ _ _⟩
      | 2, _ => injection hb with hb; subst hb; exact ⟨_, rfl, renA_row _ _ _ _⟩
      | 3, _ => injection hb with hb; subst hb; exact ⟨_, rfl, rfl⟩
      | 4, _ => injection hb with hb; subst hb; exact ⟨_, rfl, rfl⟩
      | 5, _ => injection hb with hb; subst hb; exact ⟨_, rfl, rfl⟩
      | 6, _ => injection hb with hb; subst hb; exact ⟨_, rfl, rfl⟩
      | 7, _ => injection hb with hb; subst hb; exact ⟨_, rfl, rfl⟩
      | 8, _ => exact (hne rfl).elim
      | 9, _ => injection hb with hb; subst hb; exact ⟨_, rfl, rfl⟩
      | n + 10, hi => simp [jH2bR] at hi; omega
    · injection hb with hb
      subst hb
      exact renA_row _ _ _ _
  exact key
theorem jview3R (l m : List Bool) (L : List Bool) (a : Int) : Views 10 ⟨jFR a 1 9, [jAR l m, pk l, pk m, resB, bitsB 1 (pn l) (l.length : Nat), j5R l m, bitsB 11 (pn L) (L.length : Nat), bitsB 1 (pn l) (l.length : Nat), spB, j5R l m, spB, pk L], 3⟩ ⟨jFR a 1 9, jH3R l m L, 3⟩ := by
  refine Views.canon [11] (by simp) (by simp) (by simp) rfl (fun i b2 hi hb => ?_) (fun j i b2 hj hb => ?_) (renF_get rfl)
  · match i, hi with
    | 0, _ => injection hb with hb; subst hb; exact ⟨_, rfl, rfl⟩
    | 1, _ => injection hb with hb; subst hb; exact ⟨_, rfl, renA_row _ _ _ _⟩
    | 2, _ => injection hb with hb; subst hb; exact ⟨_, rfl, renA_row _ _ _ _⟩
    | 3, _ => injection hb with hb; subst hb; exact ⟨_, rfl, rfl⟩
    | 4, _ => injection hb with hb; subst hb; exact ⟨_, rfl, rfl⟩
    | 5, _ => injection hb with hb; subst hb; exact ⟨_, rfl, rfl⟩
    | 6, _ => injection hb with hb; subst hb; exact ⟨_, rfl, rfl⟩
    | 7, _ => injection hb with hb; subst hb; exact ⟨_, rfl, rfl⟩
    | 8, _ => injection hb with hb; subst hb; exact ⟨_, rfl, rfl⟩
    | 9, _ => injection hb with hb; subst hb; exact ⟨_, rfl, rfl⟩
    | n + 10, hi => omega
  · match j, hj with
    | 0, hj =>
      injection hj with hj
      subst hj
      injection hb with hb
      subst hb
      exact ⟨_, rfl, renA_row _ _ _ _⟩
theorem j_pass2R (l m : List Bool) (hl : l ≠ []) (hm : m ≠ []) (h : l.length + m.length ≤ 60000) :
    WP Tryz.prog (ntOf Tryz.prog 95 1) (.loop (loopAt Tryz.prog 95 2)) ⟨jFR 0 1 9, jH2bR l m l, 3⟩ (.exit 4) ⟨jFR (((m.length + 7) / 8 * 8 : Nat) : Int) 1 9, jH3R l m (l ++ m), 3⟩ := by
  refine WP.whileV (α := Nat) _ (fun a => ⟨jFR (a : Nat) 1 9, jH3R l m (l ++ m.take a), 3⟩) (fun a => a % 8 = 0 ∧ a < m.length + 8) (fun a => m.length + 8 - a) (by simp) ?_ 0 ⟨rfl, by omega⟩ ?_
  · rintro a ⟨ha8, hal⟩
    have hLn : l ++ m.take a ≠ [] := by simp [hl]
    by_cases hlt : a < m.length
    · right
      have hpl := part_len hlt
      have hpa := part_add m hlt
      generalize hk : min 8 (m.length - a) = k at hpl hpa
      have hbe := be_of hpl
      have hv := val_lt64 (X := (m.drop a).take k) (by omega)
      have htk := take_ok (l := m) (a0 := a) (w0 := k) (b := pk m) (len := pn m) (cap := 0) (N := (m.length : Nat)) rfl rfl rfl (by omega) (by omega) (by omega)
      generalize ht : Bt.val ((m.drop a).take k) = t at hbe hv htk
      refine ⟨a + 8, _, ⟨by omega, by omega⟩, by omega, WP.run progOk extSound (nb_sound _ _ (frameT_sound _)) (by kernel_rfl) (LoopsOk.none (by kernel_rfl)) [11, 8, 10, 2, 34, 35, 36] (j2mR l m (l ++ m.take a) (l ++ m.take (a + 8)) (a : Nat) ((a + 8 : Nat) : Int) (k : Nat) (t : Nat)) ?_, jview3R l m (l ++ m.take (a + 8)) _⟩
      have hadd := add_ok (l := l ++ m.take a) (v := t) (w := k) hLn (by simp; omega) (by omega) hv
      rw [hbe, List.append_assoc, hpa] at hadd
      intro q hq
      simp only [List.mem_cons, List.not_mem_nil, or_false] at hq
      rcases hq with rfl | rfl | rfl | rfl | rfl
      · simp only [decide_eq_true_eq]; rw [wrap_i64 (by omega)]; omega
      · exact tok (frameT_ok [10] hadd (by exact ro_in rfl (ro_pk hl (ro_pk hm (ro_in rfl (ro_in rfl (ro_in rfl (ro_in rfl (ro_in rfl (ro_sp (by simp) (ro_in rfl (ro_pk hLn (ro_nil)))))))))))) (by exact rf_sp (rf_in rfl (rf_in rfl (rf_pk rf_nil)))))
      · exact tok (frameT_ok [2] htk (by exact ro_in rfl (ro_pk hl (ro_pk hm (ro_in rfl (ro_in rfl (ro_in rfl (ro_in rfl (ro_in rfl (ro_sp (by simp) (ro_in rfl (ro_pk hLn (ro_nil)))))))))))) (by exact rf_pk (rf_in rfl rf_nil)))
      · simp only [decide_eq_true_eq]
        rw [wrap_i64 (by omega)]
        split <;> omega
      · simp only [decide_eq_true_eq]; omega
    · left
      have ha : a = (m.length + 7) / 8 * 8 := by omega
      have ht : m.take a = m := List.take_of_length_le (by omega)
      have hw := WP.run progOk extSound (nb_sound _ _ (frameT_sound _)) (by kernel_rfl) (LoopsOk.none (by kernel_rfl)) [11, 8, 10, 2, 34, 35, 36] (j2oR l m (l ++ m.take a) (a : Nat) 0 0) (by simp [Holds]; omega)
      rw [ht] at hw ⊢
      rw [← ha]
      exact hw
  · have e0 : l ++ m.take 0 = l := by simp
    rw [e0]
    exact jview2R l m l 0
theorem jfR (l m : List Bool) (L2 : List Bool) (a1 a2 : Int) : evFnL Tryz.prog ext 300 (nmPre (frameTPre (jTfR l m))) (nbC [] [(31, false)] (frameT (jTfR l m))) (jLR l m L2 a1 a2) [(1,true),(2,true)] 95 [.slice (some ⟨0, 0, none⟩) 2 2] [jAR l m, pk l, pk m] =
  some ((.tuple #[pv 10 L2, .int .i64 0], [jAR l m, pk l, pk m, bitsB 10 (pn L2) (L2.length : Nat), bitsB 1 (pn l) (l.length : Nat), j5R l m, bitsB 10 (pn L2) (L2.length : Nat), bitsB 1 (pn l) (l.length : Nat), spB, j5R l m, pk L2], 3),
    [(cdec (jFR 0 1 9 = jFR 0 1 9), true), (cdec (jH2bR l m l = jH2bR l m l), true), (cdec (3 = 3), true),
     (cdec (jFR 0 0 7 = jFR 0 0 7), true), (cdec (jH1R l m = jH1R l m), true), (cdec (3 = 3), true),
     (decide (IntKind.wrap .i64 (IntKind.wrap .i64 (0 + (l.length : Nat)) + (m.length : Nat)) > (65536 : Int)), false),
     (frameTPre (jTfR l m) 89 [pv 2 m] [jAR l m, pk l, pk m, resB, bitsB 1 (pn l) (l.length : Nat), j5R l m], true), (frameTPre (jTfR l m) 89 [pv 1 l] [jAR l m, pk l, pk m, resB, bitsB 1 (pn l) (l.length : Nat)], true)]) := by kernel_rfl
theorem loops95 : loopsOf (bodyOf Tryz.prog 95) = [loopAt Tryz.prog 95 0, loopAt Tryz.prog 95 1, loopAt Tryz.prog 95 2] := by kernel_rfl
theorem first95 : firstId (loopAt Tryz.prog 95 0) = 3 ∧ firstId (loopAt Tryz.prog 95 1) = 14 ∧ firstId (loopAt Tryz.prog 95 2) = 17 := by
  refine ⟨by kernel_rfl, by kernel_rfl, by kernel_rfl⟩
theorem joinR_ok (l m : List Bool) (hl : l ≠ []) (hm : m ≠ []) (h : l.length + m.length ≤ 60000) :
    CallOk Tryz.prog 95 [.slice (some ⟨0, 0, none⟩) 2 2] [jAR l m, pk l, pk m] (.tuple #[pv 10 (l ++ m), .int .i64 0])
      [jAR l m, pk l, pk m, bitsB 10 (pn (l ++ m)) (List.length (l ++ m) : Nat), bitsB 1 (pn l) (l.length : Nat), j5R l m, bitsB 10 (pn (l ++ m)) (List.length (l ++ m) : Nat), bitsB 1 (pn l) (l.length : Nat), spB, j5R l m, pk (l ++ m)] 3 := by
  refine fnL_ok progOk extSound (nb_sound _ _ (frameT_sound _)) ?_ (jfR l m (l ++ m) (((l.length + 7) / 8 * 8 : Nat) : Int) (((m.length + 7) / 8 * 8 : Nat) : Int)) ?_
  · refine .flat (by kernel_rfl) ?_
    intro b hb st x s' o hs ho
    have e : loopsOf (bodyOf Tryz.prog 95) = [loopAt Tryz.prog 95 0, loopAt Tryz.prog 95 1, loopAt Tryz.prog 95 2] := loops95
    rw [e] at hb
    simp only [List.mem_cons, List.not_mem_nil, or_false] at hb
    obtain ⟨f0, f1, f2⟩ := first95
    rcases hb with rfl | rfl | rfl
    · rw [f0] at hs; simp [jLR] at hs
    · rw [f1] at hs; simp [jLR] at hs
    · rw [f2] at hs
      dsimp only [jLR] at hs
      split at hs
      · exact sumL_ok (j_pass1R l m hl hm (by omega)) hs ho
      · exact sumL_ok (j_pass2R l m hl hm (by omega)) hs ho
  · intro q hq
    simp only [List.mem_cons, List.not_mem_nil, or_false] at hq
    rcases hq with rfl | rfl | rfl | rfl | rfl | rfl | rfl | rfl | rfl
    · simp [cdec]
    · simp [cdec]
    · simp [cdec]
    · simp [cdec]
    · simp [cdec]
    · simp [cdec]
    · simp only [decide_eq_false_iff_not]
      rw [wrap_i64 (n := 0 + (l.length : Int)) (by omega), wrap_i64 (by omega)]
      omega
    · exact tok (frameT_ok [2] (check_ok (l := m) (b := pk m) (c := 0) rfl rfl (by omega)) (by exact ro_in rfl (ro_pk hl (ro_pk hm (ro_in rfl (ro_in rfl (ro_in rfl (ro_nil))))))) (by exact rf_pk (rf_in rfl rf_nil)))
    · exact tok (frameT_ok [1] (check_ok (l := l) (b := pk l) (c := 0) rfl rfl (by omega)) (by exact ro_in rfl (ro_pk hl (ro_pk hm (ro_in rfl (ro_in rfl (ro_nil)))))) (by exact rf_pk (rf_in rfl rf_nil)))
end Go.Proofs.YtpgmabpaiijipaaGreatDoor
namespace Go.Proofs.YtpgmabpaiijipaaGreatDoor
open Go Den
set_option maxRecDepth 100000
set_option linter.unusedSimpArgs false
set_option linter.unusedVariables false
def gtT (l : List Bool) (t : Int) : Nat → Tale := fun _ f _ _ => match f with
  | 89 => some (.int .i64 0, [pk l, bitsB 0 (pn l) (l.length : Nat)], 1)
  | 152 => some (.int .u64 t, tkH (pn l) 0 (l.length : Nat) (pk l), 1)
  | _ => none
def gcF (a k : Int) : Slots := [(1, .int .i64 a), (7, .int .i64 k), (2, .pointer (some ⟨1, 0, none⟩))]
def gcH (l : List Bool) : Heap := [pk l, bitsB 0 (pn l) (l.length : Nat)]
noncomputable def gcL (l : List Bool) (a z : Int) : Loops := { loop := sumL 4 ⟨gcF a 0, gcH l, 1⟩ (.exit 0) ⟨gcF a z, gcH l, 1⟩ }
theorem gc_run (l : List Bool) (a z p z1 t v nx : Int) : evFnL Tryz.prog ext 300 (nmPre (frameTPre (gtT l t))) (nbC [(57, p), (59, z1), (61, v), (69, nx)] [(14, false), (38, false), (43, false), (52, false), (63, false)] (frameT (gtT l t))) (gcL l a z) [(0,true),(13,true)] 99 [pv 0 l, .int .i64 a] [pk l] =
  some ((.tuple #[.int .u64 v, .int .i64 nx, .int .i64 0], gcH l, 1),
   [(decide (IntKind.wrap .i64 (IntKind.wrap .i64 (a + IntKind.wrap .i64 (2 * z)) + 1) = nx), true), (decide (v ≥ 4294967296), false), (decide (IntKind.wrap .u64 (t - 1) = v), true),
    (frameTPre (gtT l t) 152 [pv 0 l, .int .i64 p, .int .i64 z1] (gcH l), true), (decide (IntKind.wrap .i64 (z + 1) = z1), true), (decide (IntKind.wrap .i64 (a + z) = p), true),
    (decide (IntKind.wrap .i64 (IntKind.wrap .i64 (2 * z) + 1) > IntKind.wrap .i64 ((l.length : Nat) - a)), false), (decide (a ≥ (l.length : Nat)), false), (decide (z > 32), false),
    (cdec (gcF a 0 = gcF a 0), true), (cdec (gcH l = gcH l), true), (cdec ((1 : Nat) = 1), true),
    (decide (a < 0), false), (frameTPre (gtT l t) 89 [pv 0 l] (gcH l), true)]) := by kernel_rfl
theorem bget_run (l : List Bool) (a w t : Int) : evFnL Tryz.prog ext 300 (nmPre (frameTPre (gtT l t))) (nbC [] [(13, false), (15, false), (17, false), (22, false), (28, false)] (frameT (gtT l t))) noLoops [(0,true),(6,true)] 98 [pv 0 l, .int .i64 a, .int .i64 w] [pk l] =
  some ((.tuple #[.int .u64 t, .int .i64 0], [pk l, bitsB 0 (pn l) (List.length l : Nat)], 1), [(frameTPre (gtT l t) 152 [pv 0 l, .int .i64 a, .int .i64 w] [pk l, bitsB 0 (pn l) (List.length l : Nat)], true), (decide (w > IntKind.wrap .i64 (((List.length l : Nat) : Int) - a)), false), (decide (a > ((List.length l : Nat) : Int)), false), (decide (w > 64), false), (decide (w < 0), false), (decide (a < 0), false), (frameTPre (gtT l t) 89 [pv 0 l] [pk l, bitsB 0 (pn l) (List.length l : Nat)], true)]) := by kernel_rfl
theorem gc_more (l : List Bool) (a k p k' : Int) : evL Tryz.prog ext (nmPre (frameTPre (gtT l 0))) (nbC [(18, p), (30, p), (7, k')] [(22, true), (26, true)] (frameT (gtT l 0))) noLoops 300 (ntOf Tryz.prog 99 2) (loopAt Tryz.prog 99 0) (gcF a k) (gcH l) 1 [(7,true)] [1, 7, 2] =
  some (Ex.normal, [(1, .int .i64 a), (7, .int .i64 k'), (2, .pointer (some ⟨1, 0, none⟩))], [pk l, bitsB 0 (pn l) (List.length l : Nat)], 1, [(decide (IntKind.wrap .i64 (k + 1) = k'), true), (frameTPre (gtT l 0) 152 [pv 0 l, .int .i64 p, .int .i64 1] [pk l, bitsB 0 (pn l) (List.length l : Nat)], true), (decide (IntKind.wrap .i64 (a + k) = p), true), (bif true then decide (k ≤ 32) else false, true), (decide (p < ((List.length l : Nat) : Int)), true), (decide (IntKind.wrap .i64 (a + k) = p), true)]) := by kernel_rfl
theorem gc_out (l : List Bool) (a k p k' : Int) : evL Tryz.prog ext (nmPre (frameTPre (gtT l 1))) (nbC [(18, p), (30, p), (7, k')] [(22, true), (26, true)] (frameT (gtT l 1))) noLoops 300 (ntOf Tryz.prog 99 2) (loopAt Tryz.prog 99 0) (gcF a k) (gcH l) 1 [(7,true)] [1, 7, 2] =
  some (Ex.exit 0, [(1, .int .i64 a), (7, .int .i64 k), (2, .pointer (some ⟨1, 0, none⟩))], [pk l, bitsB 0 (pn l) (List.length l : Nat)], 1, [(frameTPre (gtT l 1) 152 [pv 0 l, .int .i64 p, .int .i64 1] [pk l, bitsB 0 (pn l) (List.length l : Nat)], true), (decide (IntKind.wrap .i64 (a + k) = p), true), (bif true then decide (k ≤ 32) else false, true), (decide (p < ((List.length l : Nat) : Int)), true), (decide (IntKind.wrap .i64 (a + k) = p), true)]) := by kernel_rfl
theorem take_any {l : List Bool} {a w : Nat} (hin : a + w ≤ l.length) (hw : w ≤ 64) (hl : l.length ≤ 65536) {t : Nat} (ht : Bt.val ((l.drop a).take w) = t) :
    CallOk Tryz.prog 152 [pv 0 l, .int .i64 (a : Nat), .int .i64 (w : Nat)] [pk l] (.int .u64 (t : Nat)) (tkH (pn l) 0 (l.length : Nat) (pk l)) 1 := by
  subst ht
  exact take_ok (l := l) (a0 := a) (w0 := w) (b := pk l) (len := pn l) (cap := 0) (N := (l.length : Nat)) rfl rfl rfl hin hw hl
theorem bget_ok {l : List Bool} {a w : Nat} (hne : l ≠ []) (hin : a + w ≤ l.length) (hw : w ≤ 64) (hl : l.length ≤ 65536) {t : Nat} (ht : Bt.val ((l.drop a).take w) = t) :
    CallOk Tryz.prog 98 [pv 0 l, .int .i64 (a : Nat), .int .i64 (w : Nat)] [pk l] (.tuple #[.int .u64 (t : Nat), .int .i64 0]) [pk l, bitsB 0 (pn l) (l.length : Nat)] 1 := by
  refine fnL_ok progOk extSound (nb_sound _ _ (frameT_sound _)) noLoops_ok (bget_run l (a : Nat) (w : Nat) (t : Nat)) ?_
  intro q hq
  simp only [List.mem_cons, List.not_mem_nil, or_false] at hq
  rcases hq with rfl | rfl | rfl | rfl | rfl | rfl | rfl
  · exact tok (frameT_ok [0] (take_any hin hw hl ht) (by exact ro_pk hne (ro_in rfl ro_nil)) (by exact rf_pk (rf_in rfl rf_nil)))
  · simp only [decide_eq_false_iff_not]; rw [wrap_i64 (by omega)]; omega
  · simp only [decide_eq_false_iff_not]; omega
  · simp only [decide_eq_false_iff_not]; omega
  · simp only [decide_eq_false_iff_not]; omega
  · simp only [decide_eq_false_iff_not]; omega
  · exact tok (frameT_ok [0] (check_ok (l := l) (b := pk l) (c := 0) rfl rfl hl) (by exact ro_pk hne (ro_in rfl ro_nil)) (by exact rf_pk (rf_in rfl rf_nil)))
theorem code_at {l : List Bool} {a n : Nat} {rest : List Bool} (h : l.drop a = Bt.codeB n ++ rest) :
    a + (2 * Bt.cz n + 1) ≤ l.length ∧ (∀ k, k < Bt.cz n → Bt.val ((l.drop (a + k)).take 1) = 0) ∧ Bt.val ((l.drop (a + Bt.cz n)).take 1) = 1 ∧ Bt.val ((l.drop (a + Bt.cz n)).take (Bt.cz n + 1)) = n + 1 := by
  have hlen : l.length - a = (Bt.codeB n).length + rest.length := by
    have := congrArg List.length h
    simpa using this
  rw [Bt.codeB_length] at hlen
  refine ⟨by omega, fun k hk => ?_, ?_, ?_⟩
  · rw [← List.drop_drop, h, Bt.codeB_eq, List.append_assoc]
    have : (List.replicate (Bt.cz n) false ++ (true :: Bt.be (Bt.cz n) (n + 1) ++ rest)).drop k = List.replicate (Bt.cz n - k) false ++ (true :: Bt.be (Bt.cz n) (n + 1) ++ rest) := by
      rw [List.drop_append_of_le_length (by simp; omega), List.drop_replicate]
    rw [this]
    obtain ⟨j, hj⟩ : ∃ j, Bt.cz n - k = j + 1 := ⟨Bt.cz n - k - 1, by omega⟩
    rw [hj, List.replicate_succ]
    rfl
  · rw [← List.drop_drop, h, Bt.codeB_eq, List.append_assoc, List.drop_left' (by simp)]
    rfl
  · rw [← List.drop_drop, h, Bt.codeB, List.append_assoc, List.drop_left' (by simp), List.take_left' (by simp), Bt.val_be, Nat.mod_eq_of_lt (Bt.cz_hi n)]
theorem gc_loop {l : List Bool} {a n : Nat} {rest : List Bool} (hne : l ≠ []) (hl : l.length ≤ 60000) (h : l.drop a = Bt.codeB n ++ rest) (hz : Bt.cz n ≤ 31) :
    WP Tryz.prog (ntOf Tryz.prog 99 2) (.loop (loopAt Tryz.prog 99 0)) ⟨gcF (a : Nat) 0, gcH l, 1⟩ (.exit 0) ⟨gcF (a : Nat) (Bt.cz n : Nat), gcH l, 1⟩ := by
  obtain ⟨h1, h2, h3, _⟩ := code_at h
  refine WP.while (S := fun k : Nat => ⟨gcF (a : Nat) (k : Nat), gcH l, 1⟩) (fun k => k ≤ Bt.cz n) (fun k => Bt.cz n - k) (by simp) ?_ 0 (by omega)
  intro k hk
  by_cases hkz : k = Bt.cz n
  · subst hkz
    left
    refine WP.run progOk extSound (nb_sound _ _ (frameT_sound _)) (by kernel_rfl) (LoopsOk.none (by kernel_rfl)) [1, 7, 2] (gc_out l (a : Nat) (Bt.cz n : Nat) ((a + Bt.cz n : Nat) : Int) 0) ?_
    intro q hq
    simp only [List.mem_cons, List.not_mem_nil, or_false] at hq
    rcases hq with rfl | rfl | rfl | rfl | rfl
    · exact tok (frameT_ok [0] (take_any (w := 1) (by omega) (by omega) (by omega) h3) (by exact ro_pk hne (ro_in rfl ro_nil)) (by exact rf_pk (rf_in rfl rf_nil)))
    · simp only [decide_eq_true_eq]; rw [wrap_i64 (by omega)]; omega
    · simp; omega
    · simp only [decide_eq_true_eq]; omega
    · simp only [decide_eq_true_eq]; rw [wrap_i64 (by omega)]; omega
  · right
    refine ⟨k + 1, by omega, by omega, ?_⟩
    refine WP.run progOk extSound (nb_sound _ _ (frameT_sound _)) (by kernel_rfl) (LoopsOk.none (by kernel_rfl)) [1, 7, 2] (gc_more l (a : Nat) (k : Nat) ((a + k : Nat) : Int) ((k + 1 : Nat) : Int)) ?_
    intro q hq
    simp only [List.mem_cons, List.not_mem_nil, or_false] at hq
    rcases hq with rfl | rfl | rfl | rfl | rfl | rfl
    · simp only [decide_eq_true_eq]; rw [wrap_i64 (by omega)]; omega
    · exact tok (frameT_ok [0] (take_any (w := 1) (by omega) (by omega) (by omega) (h2 k (by omega))) (by exact ro_pk hne (ro_in rfl ro_nil)) (by exact rf_pk (rf_in rfl rf_nil)))
    · simp only [decide_eq_true_eq]; rw [wrap_i64 (by omega)]; omega
    · simp; omega
    · simp only [decide_eq_true_eq]; omega
    · simp only [decide_eq_true_eq]; rw [wrap_i64 (by omega)]; omega
theorem getcode_ok {l : List Bool} {a n : Nat} {rest : List Bool} (hne : l ≠ []) (hl : l.length ≤ 60000) (h : l.drop a = Bt.codeB n ++ rest) (hn : n ≤ 1073741824) :
    CallOk Tryz.prog 99 [pv 0 l, .int .i64 (a : Nat)] [pk l] (.tuple #[.int .u64 (n : Nat), .int .i64 ((a + (2 * Bt.cz n + 1) : Nat) : Int), .int .i64 0]) (gcH l) 1 := by
  have hz : Bt.cz n < 31 := Bt.cz_le (by omega)
  obtain ⟨h1, _, _, h4⟩ := code_at h
  refine fnL_ok progOk extSound (nb_sound _ _ (frameT_sound _)) ?_ (gc_run l (a : Nat) (Bt.cz n : Nat) ((a + Bt.cz n : Nat) : Int) ((Bt.cz n + 1 : Nat) : Int) ((n + 1 : Nat) : Int) (n : Nat) ((a + (2 * Bt.cz n + 1) : Nat) : Int)) ?_
  · refine LoopsOk.sum (hL := rfl) ?_
    intro b' hb' _
    have e : loopsOf (bodyOf Tryz.prog 99) = [loopAt Tryz.prog 99 0] := by kernel_rfl
    rw [e] at hb'
    simp only [List.mem_singleton] at hb'
    subst hb'
    exact gc_loop hne hl h (by omega)
  · intro q hq
    simp only [List.mem_cons, List.not_mem_nil, or_false] at hq
    rcases hq with rfl | rfl | rfl | rfl | rfl | rfl | rfl | rfl | rfl | rfl | rfl | rfl | rfl | rfl
    · simp only [decide_eq_true_eq]
      rw [wrap_i64 (n := 2 * (Bt.cz n : Int)) (by omega), wrap_i64 (n := (a : Int) + _) (by omega), wrap_i64 (by omega)]
      omega
    · simp only [decide_eq_false_iff_not]; omega
    · simp only [decide_eq_true_eq]
      have : ((n + 1 : Nat) : Int) - 1 = (n : Int) := by omega
      rw [this, wrap_u64 (by omega)]
    · exact tok (frameT_ok [0] (take_any (w := Bt.cz n + 1) (by omega) (by omega) (by omega) h4) (by exact ro_pk hne (ro_in rfl ro_nil)) (by exact rf_pk (rf_in rfl rf_nil)))
    · simp only [decide_eq_true_eq]; rw [wrap_i64 (by omega)]; omega
    · simp only [decide_eq_true_eq]; rw [wrap_i64 (by omega)]; omega
    · simp only [decide_eq_false_iff_not]
      rw [wrap_i64 (n := 2 * (Bt.cz n : Int)) (by omega), wrap_i64 (by omega), wrap_i64 (by omega)]
      omega
    · simp only [decide_eq_false_iff_not]; omega
    · simp only [decide_eq_false_iff_not]; omega
    · simp [cdec]
    · simp [cdec]
    · simp [cdec]
    · simp only [decide_eq_false_iff_not]; omega
    · exact tok (frameT_ok [0] (check_ok (l := l) (b := pk l) (c := 0) rfl rfl (by omega)) (by exact ro_pk hne (ro_in rfl ro_nil)) (by exact rf_pk (rf_in rfl rf_nil)))
end Go.Proofs.YtpgmabpaiijipaaGreatDoor
