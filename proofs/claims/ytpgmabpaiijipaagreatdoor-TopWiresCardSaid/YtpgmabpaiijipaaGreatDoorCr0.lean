/-
  The sum's plain law: what a byte does to a register can be turned back; so bytes that differ in one place have another sum.
-/
namespace Go.Proofs.YtpgmabpaiijipaaGreatDoor.Crc
def sh1 (c : Nat) : Nat := (c / 2) ^^^ (if c % 2 = 1 then 3988292384 else 0)
def sh8 (c : Nat) : Nat := sh1 (sh1 (sh1 (sh1 (sh1 (sh1 (sh1 (sh1 c)))))))
def tab : List Nat := (List.range 256).map sh8
def step (c x : Nat) : Nat := tab.getD ((c % 256) ^^^ x) 0 ^^^ (c / 256)
def back : List Nat := (List.range 256).map fun h => (List.range 256).findIdx fun i => tab.getD i 0 / 16777216 == h
theorem tab_lt : ∀ i, i < 256 → tab.getD i 0 < 4294967296 := by decide +kernel
theorem tab_back : ∀ i, i < 256 → back.getD (tab.getD i 0 / 16777216) 0 = i := by decide +kernel
theorem xor_lt256 {a b : Nat} (ha : a < 256) (hb : b < 256) : a ^^^ b < 256 := Nat.xor_lt_two_pow (n := 8) ha hb
theorem xor_lt32 {a b : Nat} (ha : a < 4294967296) (hb : b < 4294967296) : a ^^^ b < 4294967296 := Nat.xor_lt_two_pow (n := 32) ha hb
theorem step_lt {c x : Nat} (hc : c < 4294967296) (hx : x < 256) : step c x < 4294967296 :=
  xor_lt32 (tab_lt _ (xor_lt256 (Nat.mod_lt _ (by omega)) hx)) (by omega)
theorem xor_top (a c : Nat) (hc : c < 4294967296) : (a ^^^ (c / 256)) / 16777216 = a / 16777216 := by
  have h := Nat.shiftRight_xor_distrib (a := a) (b := c / 256) (i := 24)
  simp only [Nat.shiftRight_eq_div_pow] at h
  have h0 : c / 256 / 2 ^ 24 = 0 := by omega
  rw [h0, Nat.xor_zero] at h
  exact h
theorem tab_inj {i j : Nat} (hi : i < 256) (hj : j < 256) (h : tab.getD i 0 / 16777216 = tab.getD j 0 / 16777216) : i = j := by
  rw [← tab_back i hi, ← tab_back j hj, h]
theorem xor_cancel {a b c : Nat} (h : a ^^^ b = a ^^^ c) : b = c := by
  have := congrArg (a ^^^ ·) h
  simpa [← Nat.xor_assoc] using this
theorem xor_cancel' {a b c : Nat} (h : b ^^^ a = c ^^^ a) : b = c := xor_cancel (a := a) (by rwa [Nat.xor_comm a b, Nat.xor_comm a c])
theorem step_index {c d x y : Nat} (hc : c < 4294967296) (hd : d < 4294967296) (hx : x < 256) (hy : y < 256) (h : step c x = step d y) : (c % 256) ^^^ x = (d % 256) ^^^ y ∧ c / 256 = d / 256 := by
  have h1 := congrArg (· / 16777216) h
  simp only [step, xor_top _ _ hc, xor_top _ _ hd] at h1
  have h2 := tab_inj (xor_lt256 (Nat.mod_lt _ (by omega)) hx) (xor_lt256 (Nat.mod_lt _ (by omega)) hy) h1
  refine ⟨h2, ?_⟩
  unfold step at h
  rw [h2] at h
  exact xor_cancel h
theorem step_inj {c d x : Nat} (hc : c < 4294967296) (hd : d < 4294967296) (hx : x < 256) (h : step c x = step d x) : c = d := by
  obtain ⟨h1, h2⟩ := step_index hc hd hx hx h
  have := xor_cancel' h1
  omega
theorem step_byte {c x y : Nat} (hc : c < 4294967296) (hx : x < 256) (hy : y < 256) (h : step c x = step c y) : x = y :=
  xor_cancel (step_index hc hc hx hy h).1
def run (c : Nat) (l : List Nat) : Nat := l.foldl step c
theorem run_lt : ∀ (l : List Nat) (c : Nat), c < 4294967296 → (∀ x ∈ l, x < 256) → run c l < 4294967296 := by
  intro l
  induction l with
  | nil => intro c h _; exact h
  | cons x l ih => intro c h hl; exact ih _ (step_lt h (hl x (by simp))) fun y hy => hl y (by simp [hy])
theorem run_inj : ∀ (l : List Nat) (c d : Nat), c < 4294967296 → d < 4294967296 → (∀ x ∈ l, x < 256) → run c l = run d l → c = d := by
  intro l
  induction l with
  | nil => intro c d _ _ _ h; exact h
  | cons x l ih =>
    intro c d hc hd hl h
    have hx := hl x (by simp)
    exact step_inj hc hd hx (ih _ _ (step_lt hc hx) (step_lt hd hx) (fun y hy => hl y (by simp [hy])) h)
theorem run_append (c : Nat) (l m : List Nat) : run c (l ++ m) = run (run c l) m := by simp [run, List.foldl_append]
theorem run_set {l : List Nat} {c i y : Nat} (hc : c < 4294967296) (hl : ∀ x ∈ l, x < 256) (hi : i < l.length) (hy : y < 256) (hne : l[i] ≠ y) : run c (l.set i y) ≠ run c l := by
  intro h
  have e1 : l = l.take i ++ l[i] :: l.drop (i + 1) := by rw [← List.drop_eq_getElem_cons hi, List.take_append_drop]
  have e2 : l.set i y = l.take i ++ y :: l.drop (i + 1) := by rw [List.set_eq_take_append_cons_drop, if_pos hi]
  rw [e2] at h
  conv at h => rhs; rw [e1]
  rw [run_append, run_append] at h
  have hp := run_lt (l.take i) c hc fun x hx => hl x (List.mem_of_mem_take hx)
  have hz := hl l[i] (List.getElem_mem hi)
  have := run_inj (l.drop (i + 1)) (step (run c (l.take i)) y) (step (run c (l.take i)) l[i]) (step_lt hp hy) (step_lt hp hz) (fun x hx => hl x (List.mem_of_mem_drop hx)) h
  exact hne (step_byte hp hy hz this).symm
def sum (l : List Nat) : Nat := 4294967295 - run 4294967295 l
def tail (c : Nat) : List Nat := [c % 256, c / 256 % 256, c / 65536 % 256, c / 16777216 % 256]
theorem sum_lt (l : List Nat) : sum l < 4294967296 := by unfold sum; omega
theorem tail_inj {c d : Nat} (hc : c < 4294967296) (hd : d < 4294967296) (h : tail c = tail d) : c = d := by
  simp only [tail, List.cons.injEq, and_true] at h
  omega
theorem tail_lt (c : Nat) : ∀ x ∈ tail c, x < 256 := by
  intro x hx
  simp only [tail, List.mem_cons, List.not_mem_nil, or_false] at hx
  omega
def sealed (l : List Nat) : List Nat := l ++ tail (sum l)
theorem sealed_set {l : List Nat} {i y : Nat} (hl : ∀ x ∈ l, x < 256) (hi : i < (sealed l).length) (hy : y < 256) (hne : (sealed l)[i] ≠ y) :
    ((sealed l).set i y).drop l.length ≠ tail (sum (((sealed l).set i y).take l.length)) := by
  have hlen : (sealed l).length = l.length + 4 := by simp [sealed, tail]
  by_cases h : i < l.length
  · have e1 : (sealed l).set i y = l.set i y ++ tail (sum l) := by
      unfold sealed
      rw [List.set_append_left _ _ h]
    have e2 : (sealed l)[i] = l[i] := by
      simp only [sealed]
      rw [List.getElem_append_left h]
    rw [e2] at hne
    have e3 : (l.set i y).length = l.length := List.length_set
    rw [e1, List.drop_left' e3, List.take_left' e3]
    intro he
    have h1 := tail_inj (sum_lt _) (sum_lt _) he
    unfold sum at h1
    have g1 := run_lt l 4294967295 (by omega) hl
    have g2 := run_lt (l.set i y) 4294967295 (by omega) fun x hx => by
      rcases List.mem_or_eq_of_mem_set hx with h | h
      · exact hl x h
      · omega
    exact run_set (c := 4294967295) (by omega) hl h hy hne (by omega)
  · have e1 : (sealed l).set i y = l ++ (tail (sum l)).set (i - l.length) y := by
      unfold sealed
      rw [List.set_append_right _ _ (by omega)]
    rw [e1, List.drop_left' rfl, List.take_left' rfl]
    intro he
    have hi4 : i - l.length < (tail (sum l)).length := by simp [tail]; omega
    have e2 : (sealed l)[i] = (tail (sum l))[i - l.length] := by
      simp only [sealed]
      rw [List.getElem_append_right (by omega)]
    rw [e2] at hne
    apply hne
    have h2 : ((tail (sum l)).set (i - l.length) y)[i - l.length]'(by simpa using hi4) = y := by simp
    rw [← h2]
    congr 1
    exact he.symm
end Go.Proofs.YtpgmabpaiijipaaGreatDoor.Crc
