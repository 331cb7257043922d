/- Parts of the proof, joined: Up5, Tp3, Tp4, Tp5. -/
import Derived.Test.YtpgmabpaiijipaaGreatDoorUp4
import Derived.Test.YtpgmabpaiijipaaGreatDoorZ17
namespace Go.Proofs.YtpgmabpaiijipaaGreatDoor
open Go Den
theorem up_ok : CallOk Tryz.prog 5 [] [] (.bool true) [] 0 := tUp_ok
theorem up_calls (w : World) (hT : Tabs w) : Calls Tryz.prog 5 #[] w fun e w' => e = .returned (.bool true) ∧ Quiet w w' :=
  CallOk.plain (args := []) up_ok rfl rfl w hT
#print axioms up_calls
end Go.Proofs.YtpgmabpaiijipaaGreatDoor
namespace Go.Proofs.YtpgmabpaiijipaaGreatDoor
open Go Den
set_option maxRecDepth 100000
set_option linter.unusedSimpArgs false
set_option linter.unusedVariables false
theorem tpOb_ok {bit : Int} {m : Nat} (hm : m + 4 ≤ 200) : Holds (tpOb bit ((8 * (m + 4) : Nat) : Int) (Int.tmod bit (8 * (m + 4) : Nat)) (Int.tmod bit (8 * (m + 4) : Nat) + (8 * (m + 4) : Nat)) ((bitOf bit (m + 4) : Nat) : Int) m) := by
  obtain ⟨_, h2, h3⟩ := bit_ok (bit := bit) (n := m + 4) (by omega) hm
  have h8 : IntKind.wrap .i64 (8 * ((m + 4 : Nat) : Int)) = ((8 * (m + 4) : Nat) : Int) := by rw [wrap_i64 (by omega)]; rfl
  have h4 : IntKind.wrap .i64 (((m + 4 : Nat) : Int) - 4) = (m : Int) := by rw [wrap_i64 (by omega)]; omega
  intro p hp
  simp only [tpOb, List.mem_cons, List.not_mem_nil, or_false] at hp
  rcases hp with rfl | rfl | rfl | rfl | rfl | rfl | rfl | rfl | rfl
  · simp only [decide_eq_true_eq]; exact h2
  · simp only [decide_eq_false_iff_not]; omega
  · simp only [decide_eq_true_eq]; exact h8
  · simp only [decide_eq_true_eq]; exact h3
  · simp only [decide_eq_true_eq]; exact h8
  · simp only [decide_eq_true_eq]
  · simp only [decide_eq_false_iff_not]; omega
  · simp only [decide_eq_true_eq]; exact h8
  · simp only [h4, bne_self_eq_false]
theorem holds_app {A B : Obs} (h : Holds A) (k : Holds B) : Holds (A ++ B) := fun p hp => (List.mem_append.1 hp).elim (h p) (k p)
theorem tpO_call {kk g f t i e a b : Nat} {s : ByteArray} {x : List Nat} {c : Nat} {bit : Int} {L : List Bool} (ht : t ≤ 1073741824) (hLn : L ≠ []) (hL : L.length ≤ 1500) (hne : x ≠ []) (hxl : x.length ≤ 64) (hs : s.size ≤ 64)
    (h14 : CallOk Tryz.prog 14 [msA kk g f t i e a b s (.slice (some ⟨0, 0, none⟩) x.length c)] [⟨false, none, byteV x⟩] (.tuple #[.slice (some ⟨1, 0, none⟩) (pn L + 4) 0, .int .i64 0]) [⟨false, none, byteV x⟩, rowB (byteV (Crc.sealed (Bt.pack L)))] 0)
    (h20 : CallOk Tryz.prog 20 [.slice (some ⟨0, 0, none⟩) (pn L + 4) 0] [rowB (byteV (Crc.sealed (Bt.pack L)))] (.tuple #[msA kk g f t i e a b s (.slice (some ⟨1, 0, none⟩) x.length 0), .int .i64 0]) [rowB (byteV (Crc.sealed (Bt.pack L))), rowB (byteV x)] 1) :
    CallOk Tryz.prog 4 [msA kk g f t i e a b s (.slice (some ⟨0, 0, none⟩) x.length c), .int .i64 bit] [⟨false, none, byteV x⟩] (.bool true) (tpHO kk g f t i e a b s x c (pn L) (Crc.sealed (Bt.pack L)) (turn (Crc.sealed (Bt.pack L)) (bitOf bit (pn L + 4)))) 0 := by
  have hm := pn_le hL
  have h0 := pn_pos hLn
  have hzl := seal_len L
  have hzb := seal_lt L
  have hzs := seal_sum L
  obtain ⟨hb, _, _⟩ := bit_ok (bit := bit) (n := pn L + 4) (by omega) hm
  have hwl : (turn (Crc.sealed (Bt.pack L)) (bitOf bit (pn L + 4))).length = pn L + 4 := by rw [turn_len, hzl]
  have hwb : ∀ x ∈ turn (Crc.sealed (Bt.pack L)) (bitOf bit (pn L + 4)), x < 256 := turn_lt hzb (by rw [hzl]; omega)
  have hws := turn_sum (L := L) (b := bitOf bit (pn L + 4)) hb
  have hz : Crc.sealed (Bt.pack L) ≠ [] := by intro hh; rw [hh] at hzl; simp at hzl
  have hw : turn (Crc.sealed (Bt.pack L)) (bitOf bit (pn L + 4)) ≠ [] := by intro hh; rw [hh] at hwl; simp at hwl
  have hk : (Crc.sealed (Bt.pack L)).take (pn L) ≠ [] := by
    intro hh
    have := congrArg List.length hh
    rw [List.length_take, hzl] at this
    simp at this
    omega
  have h13 := big_ok (k := (kk : Nat)) (g := (g : Nat)) (f := (f : Nat)) (t := (t : Nat)) (i := (i : Nat)) (e := (e : Nat)) (a := (a : Nat)) (b := (b : Nat)) (s := s) (p := some ⟨0, 0, none⟩) (n := x.length) (c := c) (H := [⟨false, none, byteV x⟩]) (.inr ⟨_, rfl⟩) (by omega) (by omega)
  rw [show decide (s.size + x.length > 2000) = false from by simp only [decide_eq_false_iff_not]; omega] at h13
  refine fnL_ok progOk extSound (nb_sound _ _ (frameT_sound _)) noLoops_ok (tpO_run bit ((8 * (pn L + 4) : Nat) : Int) (Int.tmod bit (8 * (pn L + 4) : Nat)) (Int.tmod bit (8 * (pn L + 4) : Nat) + (8 * (pn L + 4) : Nat)) ((bitOf bit (pn L + 4) : Nat) : Int) kk g f t i e a b s x c (pn L) (Crc.sealed (Bt.pack L)) (turn (Crc.sealed (Bt.pack L)) (bitOf bit (pn L + 4)))) ?_
  refine holds_app ?_ (holds_app (tpOb_ok hm) ?_)
  · intro p hp
    simp only [tpAO, List.mem_cons, List.not_mem_nil, or_false] at hp
    rcases hp with rfl | rfl | rfl | rfl | rfl | rfl
    · exact tok (frameT_ok [19, 0] (same_RO (k := (kk : Nat)) (g := (g : Nat)) (f := (f : Nat)) (t := (t : Nat)) (i := (i : Nat)) (e := (e : Nat)) (a := (a : Nat)) (b := (b : Nat)) (s := s) (x := x) (c := c) hne (by omega)) (by exact (ro_row hne (ro_in rfl (ro_row hz (ro_row hk (ro_in rfl (ro_in rfl (ro_in rfl (ro_row hz (ro_in rfl (ro_row hw (ro_in rfl (ro_in rfl (ro_row hz (ro_in rfl (ro_in rfl (ro_in rfl (ro_row hw (ro_in rfl (ro_in rfl (ro_row hne (ro_in rfl (ro_in rfl ro_nil))))))))))))))))))))))) (by exact (rf_row (rf_row (rf_in rfl (rf_in rfl rf_nil))))))
    · exact tok (frameT_ok [16] (read_no h0 hwl hwb (by omega) hws) (by exact (ro_row hne (ro_in rfl (ro_row hz (ro_row hk (ro_in rfl (ro_in rfl (ro_in rfl (ro_row hz (ro_in rfl (ro_row hw (ro_in rfl (ro_in rfl (ro_row hz (ro_in rfl (ro_in rfl (ro_in rfl (ro_row hw (ro_in rfl (ro_in rfl (ro_row hne (ro_in rfl ro_nil)))))))))))))))))))))) (by exact (rf_row (rf_in rfl rf_nil))))
    · exact tok (frameT_ok [12] h20 (by exact (ro_row hne (ro_in rfl (ro_row hz (ro_row hk (ro_in rfl (ro_in rfl (ro_in rfl (ro_row hz (ro_in rfl (ro_row hw (ro_in rfl (ro_in rfl (ro_row hz (ro_in rfl (ro_in rfl (ro_in rfl (ro_row hw (ro_in rfl (ro_in rfl ro_nil)))))))))))))))))))) (by exact (rf_row (rf_row rf_nil))))
    · exact tok (frameT_ok [8, 9] (takeC_ok ht (by omega) hm hwl) (by exact (ro_row hne (ro_in rfl (ro_row hz (ro_row hk (ro_in rfl (ro_in rfl (ro_in rfl (ro_row hz (ro_in rfl (ro_row hw (ro_in rfl (ro_in rfl (ro_row hz (ro_in rfl (ro_in rfl ro_nil)))))))))))))))) (by exact (rf_in rfl (rf_row (rf_in rfl (rf_in rfl (rf_in rfl (rf_in rfl (rf_in rfl (rf_row (rf_in rfl rf_nil)))))))))))
    · exact tok (frameT_ok [6, 7] (takeB_ok ht (by omega) hm hzl) (by exact (ro_row hne (ro_in rfl (ro_row hz (ro_row hk (ro_in rfl (ro_in rfl (ro_in rfl (ro_row hz (ro_in rfl (ro_row hw (ro_in rfl ro_nil)))))))))))) (by exact (rf_in rfl (rf_row (rf_in rfl (rf_in rfl (rf_in rfl (rf_in rfl (rf_in rfl (rf_row (rf_in rfl rf_nil)))))))))))
    · exact tok (frameT_ok [6, 7] (spoil_ok ht (by omega) hm hzl hzb hb) (by exact (ro_row hne (ro_in rfl (ro_row hz (ro_row hk (ro_in rfl (ro_in rfl (ro_in rfl (ro_row hz ro_nil))))))))) (by exact (rf_in rfl (rf_row (rf_in rfl (rf_in rfl (rf_in rfl (rf_in rfl (rf_row rf_nil)))))))))
  · intro p hp
    simp only [tpBO, List.mem_cons, List.not_mem_nil, or_false] at hp
    rcases hp with rfl | rfl | rfl | rfl | rfl | rfl
    · exact tok (frameT_ok [5, 2] (send_ok ht (by omega) hm hzl) (by exact (ro_row hne (ro_in rfl (ro_row hz (ro_row hk (ro_in rfl (ro_in rfl ro_nil))))))) (by exact (rf_in rfl (rf_row (rf_in rfl (rf_in rfl (rf_in rfl (rf_in rfl (rf_in rfl (rf_row (rf_in rfl rf_nil)))))))))))
    · exact tok (frameT_ok [] new_ok (by exact (ro_row hne (ro_in rfl (ro_row hz (ro_row hk ro_nil))))) (by exact (rf_in rfl (rf_in rfl rf_nil))))
    · exact tok (frameT_ok [2] (open_ok h0 hzl hzb (by omega) hzs) (by exact (ro_row hne (ro_in rfl (ro_row hz ro_nil)))) (by exact (rf_row (rf_row rf_nil))))
    · exact tok (frameT_ok [0] h14 (by exact (ro_row hne (ro_in rfl ro_nil))) (by exact (rf_row (rf_row rf_nil))))
    · exact tok (frameT_ok [0] h13 (by exact (ro_row hne (ro_in rfl ro_nil))) (by exact (rf_row (rf_in rfl rf_nil))))
    · exact tok (frameT_ok [] up_ok (by exact ro_nil) (by exact rf_nil))
theorem tpN_call {kk g f t i e a b : Nat} {s : ByteArray} {bit : Int} {L : List Bool} (ht : t ≤ 1073741824) (hLn : L ≠ []) (hL : L.length ≤ 1500) (hs : s.size ≤ 64)
    (h14 : CallOk Tryz.prog 14 [msA kk g f t i e a b s (.slice none 0 0)] [] (.tuple #[.slice (some ⟨0, 0, none⟩) (pn L + 4) 0, .int .i64 0]) [rowB (byteV (Crc.sealed (Bt.pack L)))] 0)
    (h20 : CallOk Tryz.prog 20 [.slice (some ⟨0, 0, none⟩) (pn L + 4) 0] [rowB (byteV (Crc.sealed (Bt.pack L)))] (.tuple #[msA kk g f t i e a b s (.slice none 0 0), .int .i64 0]) [rowB (byteV (Crc.sealed (Bt.pack L)))] 1) :
    CallOk Tryz.prog 4 [msA kk g f t i e a b s (.slice none 0 0), .int .i64 bit] [] (.bool true) (tpHN kk g f t i e a b s (pn L) (Crc.sealed (Bt.pack L)) (turn (Crc.sealed (Bt.pack L)) (bitOf bit (pn L + 4)))) 0 := by
  have hm := pn_le hL
  have h0 := pn_pos hLn
  have hzl := seal_len L
  have hzb := seal_lt L
  have hzs := seal_sum L
  obtain ⟨hb, _, _⟩ := bit_ok (bit := bit) (n := pn L + 4) (by omega) hm
  have hwl : (turn (Crc.sealed (Bt.pack L)) (bitOf bit (pn L + 4))).length = pn L + 4 := by rw [turn_len, hzl]
  have hwb : ∀ x ∈ turn (Crc.sealed (Bt.pack L)) (bitOf bit (pn L + 4)), x < 256 := turn_lt hzb (by rw [hzl]; omega)
  have hws := turn_sum (L := L) (b := bitOf bit (pn L + 4)) hb
  have hz : Crc.sealed (Bt.pack L) ≠ [] := by intro hh; rw [hh] at hzl; simp at hzl
  have hw : turn (Crc.sealed (Bt.pack L)) (bitOf bit (pn L + 4)) ≠ [] := by intro hh; rw [hh] at hwl; simp at hwl
  have hk : (Crc.sealed (Bt.pack L)).take (pn L) ≠ [] := by
    intro hh
    have := congrArg List.length hh
    rw [List.length_take, hzl] at this
    simp at this
    omega
  have h13 := big_ok (k := (kk : Nat)) (g := (g : Nat)) (f := (f : Nat)) (t := (t : Nat)) (i := (i : Nat)) (e := (e : Nat)) (a := (a : Nat)) (b := (b : Nat)) (s := s) (p := none) (n := 0) (c := 0) (H := []) (.inl rfl) (by omega) (by omega)
  rw [show decide (s.size + 0 > 2000) = false from by simp only [decide_eq_false_iff_not]; omega] at h13
  refine fnL_ok progOk extSound (nb_sound _ _ (frameT_sound _)) noLoops_ok (tpN_run bit ((8 * (pn L + 4) : Nat) : Int) (Int.tmod bit (8 * (pn L + 4) : Nat)) (Int.tmod bit (8 * (pn L + 4) : Nat) + (8 * (pn L + 4) : Nat)) ((bitOf bit (pn L + 4) : Nat) : Int) kk g f t i e a b s (pn L) (Crc.sealed (Bt.pack L)) (turn (Crc.sealed (Bt.pack L)) (bitOf bit (pn L + 4)))) ?_
  refine holds_app ?_ (holds_app (tpOb_ok hm) ?_)
  · intro p hp
    simp only [tpAN, List.mem_cons, List.not_mem_nil, or_false] at hp
    rcases hp with rfl | rfl | rfl | rfl | rfl | rfl
    · exact tok (frameT_ok [] (same_NN (k := (kk : Nat)) (g := (g : Nat)) (f := (f : Nat)) (t := (t : Nat)) (i := (i : Nat)) (e := (e : Nat)) (a := (a : Nat)) (b := (b : Nat)) (s := s)) (by exact ro_nil) (by exact (rf_in rfl (rf_in rfl rf_nil))))
    · exact tok (frameT_ok [15] (read_no h0 hwl hwb (by omega) hws) (by exact (ro_in rfl (ro_row hz (ro_row hk (ro_in rfl (ro_in rfl (ro_in rfl (ro_row hz (ro_in rfl (ro_row hw (ro_in rfl (ro_in rfl (ro_row hz (ro_in rfl (ro_in rfl (ro_in rfl (ro_row hw (ro_in rfl (ro_in rfl (ro_in rfl ro_nil)))))))))))))))))))) (by exact (rf_row (rf_in rfl rf_nil))))
    · exact tok (frameT_ok [11] h20 (by exact (ro_in rfl (ro_row hz (ro_row hk (ro_in rfl (ro_in rfl (ro_in rfl (ro_row hz (ro_in rfl (ro_row hw (ro_in rfl (ro_in rfl (ro_row hz (ro_in rfl (ro_in rfl (ro_in rfl (ro_row hw (ro_in rfl (ro_in rfl ro_nil))))))))))))))))))) (by exact (rf_row rf_nil)))
    · exact tok (frameT_ok [7, 8] (takeC_ok ht (by omega) hm hwl) (by exact (ro_in rfl (ro_row hz (ro_row hk (ro_in rfl (ro_in rfl (ro_in rfl (ro_row hz (ro_in rfl (ro_row hw (ro_in rfl (ro_in rfl (ro_row hz (ro_in rfl (ro_in rfl ro_nil))))))))))))))) (by exact (rf_in rfl (rf_row (rf_in rfl (rf_in rfl (rf_in rfl (rf_in rfl (rf_in rfl (rf_row (rf_in rfl rf_nil)))))))))))
    · exact tok (frameT_ok [5, 6] (takeB_ok ht (by omega) hm hzl) (by exact (ro_in rfl (ro_row hz (ro_row hk (ro_in rfl (ro_in rfl (ro_in rfl (ro_row hz (ro_in rfl (ro_row hw (ro_in rfl ro_nil))))))))))) (by exact (rf_in rfl (rf_row (rf_in rfl (rf_in rfl (rf_in rfl (rf_in rfl (rf_in rfl (rf_row (rf_in rfl rf_nil)))))))))))
    · exact tok (frameT_ok [5, 6] (spoil_ok ht (by omega) hm hzl hzb hb) (by exact (ro_in rfl (ro_row hz (ro_row hk (ro_in rfl (ro_in rfl (ro_in rfl (ro_row hz ro_nil)))))))) (by exact (rf_in rfl (rf_row (rf_in rfl (rf_in rfl (rf_in rfl (rf_in rfl (rf_row rf_nil)))))))))
  · intro p hp
    simp only [tpBN, List.mem_cons, List.not_mem_nil, or_false] at hp
    rcases hp with rfl | rfl | rfl | rfl | rfl | rfl
    · exact tok (frameT_ok [4, 1] (send_ok ht (by omega) hm hzl) (by exact (ro_in rfl (ro_row hz (ro_row hk (ro_in rfl (ro_in rfl ro_nil)))))) (by exact (rf_in rfl (rf_row (rf_in rfl (rf_in rfl (rf_in rfl (rf_in rfl (rf_in rfl (rf_row (rf_in rfl rf_nil)))))))))))
    · exact tok (frameT_ok [] new_ok (by exact (ro_in rfl (ro_row hz (ro_row hk ro_nil)))) (by exact (rf_in rfl (rf_in rfl rf_nil))))
    · exact tok (frameT_ok [1] (open_ok h0 hzl hzb (by omega) hzs) (by exact (ro_in rfl (ro_row hz ro_nil))) (by exact (rf_row (rf_row rf_nil))))
    · exact tok (frameT_ok [] h14 (by exact (ro_in rfl ro_nil)) (by exact (rf_row rf_nil)))
    · exact tok (frameT_ok [] h13 (by exact ro_nil) (by exact (rf_in rfl rf_nil)))
    · exact tok (frameT_ok [] up_ok (by exact ro_nil) (by exact rf_nil))
theorem tpG_call {kk g f t i e a b : Nat} {s : ByteArray} {bit : Int} {L : List Bool} (ht : t ≤ 1073741824) (hLn : L ≠ []) (hL : L.length ≤ 1500) (hs : s.size ≤ 64)
    (h14 : CallOk Tryz.prog 14 [msA kk g f t i e a b s goneV] [] (.tuple #[.slice (some ⟨0, 0, none⟩) (pn L + 4) 0, .int .i64 0]) [rowB (byteV (Crc.sealed (Bt.pack L)))] 0)
    (h20 : CallOk Tryz.prog 20 [.slice (some ⟨0, 0, none⟩) (pn L + 4) 0] [rowB (byteV (Crc.sealed (Bt.pack L)))] (.tuple #[msA kk g f t i e a b s (.slice none 0 0), .int .i64 0]) [rowB (byteV (Crc.sealed (Bt.pack L)))] 1) :
    CallOk Tryz.prog 4 [msA kk g f t i e a b s goneV, .int .i64 bit] [] (.bool true) (tpHG kk g f t i e a b s (pn L) (Crc.sealed (Bt.pack L)) (turn (Crc.sealed (Bt.pack L)) (bitOf bit (pn L + 4)))) 0 := by
  have hm := pn_le hL
  have h0 := pn_pos hLn
  have hzl := seal_len L
  have hzb := seal_lt L
  have hzs := seal_sum L
  obtain ⟨hb, _, _⟩ := bit_ok (bit := bit) (n := pn L + 4) (by omega) hm
  have hwl : (turn (Crc.sealed (Bt.pack L)) (bitOf bit (pn L + 4))).length = pn L + 4 := by rw [turn_len, hzl]
  have hwb : ∀ x ∈ turn (Crc.sealed (Bt.pack L)) (bitOf bit (pn L + 4)), x < 256 := turn_lt hzb (by rw [hzl]; omega)
  have hws := turn_sum (L := L) (b := bitOf bit (pn L + 4)) hb
  have hz : Crc.sealed (Bt.pack L) ≠ [] := by intro hh; rw [hh] at hzl; simp at hzl
  have hw : turn (Crc.sealed (Bt.pack L)) (bitOf bit (pn L + 4)) ≠ [] := by intro hh; rw [hh] at hwl; simp at hwl
  have hk : (Crc.sealed (Bt.pack L)).take (pn L) ≠ [] := by
    intro hh
    have := congrArg List.length hh
    rw [List.length_take, hzl] at this
    simp at this
    omega
  have h13 := big_ok (k := (kk : Nat)) (g := (g : Nat)) (f := (f : Nat)) (t := (t : Nat)) (i := (i : Nat)) (e := (e : Nat)) (a := (a : Nat)) (b := (b : Nat)) (s := s) (p := some ⟨0, 0, some 1⟩) (n := 0) (c := 0) (H := []) (.inl rfl) (by omega) (by omega)
  rw [show decide (s.size + 0 > 2000) = false from by simp only [decide_eq_false_iff_not]; omega] at h13
  refine fnL_ok progOk extSound (nb_sound _ _ (frameT_sound _)) noLoops_ok (tpG_run bit ((8 * (pn L + 4) : Nat) : Int) (Int.tmod bit (8 * (pn L + 4) : Nat)) (Int.tmod bit (8 * (pn L + 4) : Nat) + (8 * (pn L + 4) : Nat)) ((bitOf bit (pn L + 4) : Nat) : Int) kk g f t i e a b s (pn L) (Crc.sealed (Bt.pack L)) (turn (Crc.sealed (Bt.pack L)) (bitOf bit (pn L + 4)))) ?_
  refine holds_app ?_ (holds_app (tpOb_ok hm) ?_)
  · intro p hp
    simp only [tpAG, List.mem_cons, List.not_mem_nil, or_false] at hp
    rcases hp with rfl | rfl | rfl | rfl | rfl | rfl
    · exact tok (frameT_ok [] (same_NG (k := (kk : Nat)) (g := (g : Nat)) (f := (f : Nat)) (t := (t : Nat)) (i := (i : Nat)) (e := (e : Nat)) (a := (a : Nat)) (b := (b : Nat)) (s := s)) (by exact (ro_in rfl (ro_row hz (ro_row hk (ro_in rfl (ro_in rfl (ro_in rfl (ro_row hz (ro_in rfl (ro_row hw (ro_in rfl (ro_in rfl (ro_row hz (ro_in rfl (ro_in rfl (ro_in rfl (ro_row hw (ro_in rfl (ro_in rfl (ro_in rfl (ro_in rfl ro_nil))))))))))))))))))))) (by exact (rf_in rfl (rf_in rfl rf_nil))))
    · exact tok (frameT_ok [15] (read_no h0 hwl hwb (by omega) hws) (by exact (ro_in rfl (ro_row hz (ro_row hk (ro_in rfl (ro_in rfl (ro_in rfl (ro_row hz (ro_in rfl (ro_row hw (ro_in rfl (ro_in rfl (ro_row hz (ro_in rfl (ro_in rfl (ro_in rfl (ro_row hw (ro_in rfl (ro_in rfl (ro_in rfl ro_nil)))))))))))))))))))) (by exact (rf_row (rf_in rfl rf_nil))))
    · exact tok (frameT_ok [11] h20 (by exact (ro_in rfl (ro_row hz (ro_row hk (ro_in rfl (ro_in rfl (ro_in rfl (ro_row hz (ro_in rfl (ro_row hw (ro_in rfl (ro_in rfl (ro_row hz (ro_in rfl (ro_in rfl (ro_in rfl (ro_row hw (ro_in rfl (ro_in rfl ro_nil))))))))))))))))))) (by exact (rf_row rf_nil)))
    · exact tok (frameT_ok [7, 8] (takeC_ok ht (by omega) hm hwl) (by exact (ro_in rfl (ro_row hz (ro_row hk (ro_in rfl (ro_in rfl (ro_in rfl (ro_row hz (ro_in rfl (ro_row hw (ro_in rfl (ro_in rfl (ro_row hz (ro_in rfl (ro_in rfl ro_nil))))))))))))))) (by exact (rf_in rfl (rf_row (rf_in rfl (rf_in rfl (rf_in rfl (rf_in rfl (rf_in rfl (rf_row (rf_in rfl rf_nil)))))))))))
    · exact tok (frameT_ok [5, 6] (takeB_ok ht (by omega) hm hzl) (by exact (ro_in rfl (ro_row hz (ro_row hk (ro_in rfl (ro_in rfl (ro_in rfl (ro_row hz (ro_in rfl (ro_row hw (ro_in rfl ro_nil))))))))))) (by exact (rf_in rfl (rf_row (rf_in rfl (rf_in rfl (rf_in rfl (rf_in rfl (rf_in rfl (rf_row (rf_in rfl rf_nil)))))))))))
    · exact tok (frameT_ok [5, 6] (spoil_ok ht (by omega) hm hzl hzb hb) (by exact (ro_in rfl (ro_row hz (ro_row hk (ro_in rfl (ro_in rfl (ro_in rfl (ro_row hz ro_nil)))))))) (by exact (rf_in rfl (rf_row (rf_in rfl (rf_in rfl (rf_in rfl (rf_in rfl (rf_row rf_nil)))))))))
  · intro p hp
    simp only [tpBG, List.mem_cons, List.not_mem_nil, or_false] at hp
    rcases hp with rfl | rfl | rfl | rfl | rfl | rfl
    · exact tok (frameT_ok [4, 1] (send_ok ht (by omega) hm hzl) (by exact (ro_in rfl (ro_row hz (ro_row hk (ro_in rfl (ro_in rfl ro_nil)))))) (by exact (rf_in rfl (rf_row (rf_in rfl (rf_in rfl (rf_in rfl (rf_in rfl (rf_in rfl (rf_row (rf_in rfl rf_nil)))))))))))
    · exact tok (frameT_ok [] new_ok (by exact (ro_in rfl (ro_row hz (ro_row hk ro_nil)))) (by exact (rf_in rfl (rf_in rfl rf_nil))))
    · exact tok (frameT_ok [1] (open_ok h0 hzl hzb (by omega) hzs) (by exact (ro_in rfl (ro_row hz ro_nil))) (by exact (rf_row (rf_row rf_nil))))
    · exact tok (frameT_ok [] h14 (by exact (ro_in rfl ro_nil)) (by exact (rf_row rf_nil)))
    · exact tok (frameT_ok [] h13 (by exact (ro_in rfl ro_nil)) (by exact (rf_in rfl rf_nil)))
    · exact tok (frameT_ok [] up_ok (by exact ro_nil) (by exact rf_nil))
end Go.Proofs.YtpgmabpaiijipaaGreatDoor
namespace Go.Proofs.YtpgmabpaiijipaaGreatDoor
open Go Den
set_option maxRecDepth 100000
set_option linter.unusedSimpArgs false
set_option linter.unusedVariables false
theorem tpO_bigrun (bit : Int) (k g f t i e a b : Int) (s : ByteArray) (x : List Nat) (c : Nat) : evFnL Tryz.prog ext 300 (nmPre (frameTPre (tpT true (msB k g f t i e a b s (.slice (some ⟨0, 0, none⟩) x.length c)) none none none 0 0 t 0 [] []))) (nbC [] [] (frameT (tpT true (msB k g f t i e a b s (.slice (some ⟨0, 0, none⟩) x.length c)) none none none 0 0 t 0 [] []))) noLoops [(0,true),(1,true)] 4 [msA k g f t i e a b s (.slice (some ⟨0, 0, none⟩) x.length c), .int .i64 bit] [⟨false, none, byteV x⟩] =
  some ((.bool true, [⟨false, none, byteV x⟩, msB k g f t i e a b s (.slice (some ⟨0, 0, none⟩) x.length c)], 1), [(frameTPre (tpT true (msB k g f t i e a b s (.slice (some ⟨0, 0, none⟩) x.length c)) none none none 0 0 t 0 [] []) 13 [msA k g f t i e a b s (.slice (some ⟨0, 0, none⟩) x.length c)] [⟨false, none, byteV x⟩, msB k g f t i e a b s (.slice (some ⟨0, 0, none⟩) x.length c)], true), (frameTPre (tpT true (msB k g f t i e a b s (.slice (some ⟨0, 0, none⟩) x.length c)) none none none 0 0 t 0 [] []) 5 [] [], true)]) := by kernel_rfl
theorem tpO_big {k g f t i e a b : Int} {s : ByteArray} {x : List Nat} {c : Nat} {bit : Int} (hne : x ≠ []) (hn : x.length ≤ 900000000000000) (hs : s.size ≤ 900000000000000) (hb : s.size + x.length > 2000) : CallOk Tryz.prog 4 [msA k g f t i e a b s (.slice (some ⟨0, 0, none⟩) x.length c), .int .i64 bit] [⟨false, none, byteV x⟩] (.bool true) [⟨false, none, byteV x⟩, msB k g f t i e a b s (.slice (some ⟨0, 0, none⟩) x.length c)] 1 := by
  have h13 := big_ok (k := k) (g := g) (f := f) (t := t) (i := i) (e := e) (a := a) (b := b) (s := s) (p := some ⟨0, 0, none⟩) (n := x.length) (c := c) (H := [⟨false, none, byteV x⟩]) (.inr ⟨_, rfl⟩) (by omega) (by omega)
  rw [show decide (s.size + x.length > 2000) = true from by simp only [decide_eq_true_eq]; omega] at h13
  exact fnL_ok progOk extSound (nb_sound _ _ (frameT_sound _)) noLoops_ok (tpO_bigrun bit k g f t i e a b s x c) (holds_two (frameT_ok [0] h13 (by exact (ro_row hne (ro_in rfl ro_nil))) (by exact rf_row (rf_in rfl rf_nil))) (frameT_ok [] up_ok (by exact ro_nil) (by exact rf_nil)))
theorem tpO_norun (bit : Int) (k g f t i e a b : Int) (s : ByteArray) (x : List Nat) (c : Nat) : evFnL Tryz.prog ext 300 (nmPre (frameTPre (tpT false (msB k g f t i e a b s (.slice (some ⟨0, 0, none⟩) x.length c)) (some (.tuple #[.slice none 0 0, .int .i64 1], [⟨false, none, byteV x⟩, msB k g f t i e a b s (.slice (some ⟨0, 0, none⟩) x.length c)], 1)) none none 0 0 t 0 [] []))) (nbC [] [] (frameT (tpT false (msB k g f t i e a b s (.slice (some ⟨0, 0, none⟩) x.length c)) (some (.tuple #[.slice none 0 0, .int .i64 1], [⟨false, none, byteV x⟩, msB k g f t i e a b s (.slice (some ⟨0, 0, none⟩) x.length c)], 1)) none none 0 0 t 0 [] []))) noLoops [(0,true),(1,true),(1,true)] 4 [msA k g f t i e a b s (.slice (some ⟨0, 0, none⟩) x.length c), .int .i64 bit] [⟨false, none, byteV x⟩] =
  some ((.bool true, [⟨false, none, byteV x⟩, msB k g f t i e a b s (.slice (some ⟨0, 0, none⟩) x.length c)], 1), [(frameTPre (tpT false (msB k g f t i e a b s (.slice (some ⟨0, 0, none⟩) x.length c)) (some (.tuple #[.slice none 0 0, .int .i64 1], [⟨false, none, byteV x⟩, msB k g f t i e a b s (.slice (some ⟨0, 0, none⟩) x.length c)], 1)) none none 0 0 t 0 [] []) 14 [msA k g f t i e a b s (.slice (some ⟨0, 0, none⟩) x.length c)] [⟨false, none, byteV x⟩, msB k g f t i e a b s (.slice (some ⟨0, 0, none⟩) x.length c)], true), (frameTPre (tpT false (msB k g f t i e a b s (.slice (some ⟨0, 0, none⟩) x.length c)) (some (.tuple #[.slice none 0 0, .int .i64 1], [⟨false, none, byteV x⟩, msB k g f t i e a b s (.slice (some ⟨0, 0, none⟩) x.length c)], 1)) none none 0 0 t 0 [] []) 13 [msA k g f t i e a b s (.slice (some ⟨0, 0, none⟩) x.length c)] [⟨false, none, byteV x⟩, msB k g f t i e a b s (.slice (some ⟨0, 0, none⟩) x.length c)], true), (frameTPre (tpT false (msB k g f t i e a b s (.slice (some ⟨0, 0, none⟩) x.length c)) (some (.tuple #[.slice none 0 0, .int .i64 1], [⟨false, none, byteV x⟩, msB k g f t i e a b s (.slice (some ⟨0, 0, none⟩) x.length c)], 1)) none none 0 0 t 0 [] []) 5 [] [], true)]) := by kernel_rfl
theorem tpO_no {k g f t i e a b : Int} {s : ByteArray} {x : List Nat} {c : Nat} {bit : Int} (hne : x ≠ []) (hn : x.length ≤ 900000000000000) (hb : s.size + x.length ≤ 2000) (hc : chkB k g f t i e a b s x.length = false) : CallOk Tryz.prog 4 [msA k g f t i e a b s (.slice (some ⟨0, 0, none⟩) x.length c), .int .i64 bit] [⟨false, none, byteV x⟩] (.bool true) [⟨false, none, byteV x⟩, msB k g f t i e a b s (.slice (some ⟨0, 0, none⟩) x.length c)] 1 := by
  have h13 := big_ok (k := k) (g := g) (f := f) (t := t) (i := i) (e := e) (a := a) (b := b) (s := s) (p := some ⟨0, 0, none⟩) (n := x.length) (c := c) (H := [⟨false, none, byteV x⟩]) (.inr ⟨_, rfl⟩) (by omega) (by omega)
  rw [show decide (s.size + x.length > 2000) = false from by simp only [decide_eq_false_iff_not]; omega] at h13
  refine fnL_ok progOk extSound (nb_sound _ _ (frameT_sound _)) noLoops_ok (tpO_norun bit k g f t i e a b s x c) ?_
  intro p hp
  simp only [List.mem_cons, List.not_mem_nil, or_false] at hp
  rcases hp with rfl | rfl | rfl
  · exact tok (frameT_ok [0] (write_noO (c := c) (by omega) hne hc) (by exact (ro_row hne (ro_in rfl ro_nil))) (by exact rf_row (rf_in rfl rf_nil)))
  · exact tok (frameT_ok [0] h13 (by exact (ro_row hne (ro_in rfl ro_nil))) (by exact rf_row (rf_in rfl rf_nil)))
  · exact tok (frameT_ok [] up_ok (by exact ro_nil) (by exact rf_nil))
theorem tpN_bigrun (bit : Int) (k g f t i e a b : Int) (s : ByteArray) : evFnL Tryz.prog ext 300 (nmPre (frameTPre (tpT true (msB k g f t i e a b s (.slice none 0 0)) none none none 0 0 t 0 [] []))) (nbC [] [] (frameT (tpT true (msB k g f t i e a b s (.slice none 0 0)) none none none 0 0 t 0 [] []))) noLoops [(0,true),(1,true)] 4 [msA k g f t i e a b s (.slice none 0 0), .int .i64 bit] [] =
  some ((.bool true, [msB k g f t i e a b s (.slice none 0 0)], 0), [(frameTPre (tpT true (msB k g f t i e a b s (.slice none 0 0)) none none none 0 0 t 0 [] []) 13 [msA k g f t i e a b s (.slice none 0 0)] [], true), (frameTPre (tpT true (msB k g f t i e a b s (.slice none 0 0)) none none none 0 0 t 0 [] []) 5 [] [], true)]) := by kernel_rfl
theorem tpN_big {k g f t i e a b : Int} {s : ByteArray} {bit : Int} (hs : s.size ≤ 900000000000000) (hb : s.size + 0 > 2000) : CallOk Tryz.prog 4 [msA k g f t i e a b s (.slice none 0 0), .int .i64 bit] [] (.bool true) [msB k g f t i e a b s (.slice none 0 0)] 0 := by
  have h13 := big_ok (k := k) (g := g) (f := f) (t := t) (i := i) (e := e) (a := a) (b := b) (s := s) (p := none) (n := 0) (c := 0) (H := []) (.inl rfl) (by omega) (by omega)
  rw [show decide (s.size + 0 > 2000) = true from by simp only [decide_eq_true_eq]; omega] at h13
  exact fnL_ok progOk extSound (nb_sound _ _ (frameT_sound _)) noLoops_ok (tpN_bigrun bit k g f t i e a b s) (holds_two (frameT_ok [] h13 (by exact ro_nil) (by exact rf_in rfl rf_nil)) (frameT_ok [] up_ok (by exact ro_nil) (by exact rf_nil)))
theorem tpN_norun (bit : Int) (k g f t i e a b : Int) (s : ByteArray) : evFnL Tryz.prog ext 300 (nmPre (frameTPre (tpT false (msB k g f t i e a b s (.slice none 0 0)) (some (.tuple #[.slice none 0 0, .int .i64 1], [msB k g f t i e a b s (.slice none 0 0)], 0)) none none 0 0 t 0 [] []))) (nbC [] [] (frameT (tpT false (msB k g f t i e a b s (.slice none 0 0)) (some (.tuple #[.slice none 0 0, .int .i64 1], [msB k g f t i e a b s (.slice none 0 0)], 0)) none none 0 0 t 0 [] []))) noLoops [(0,true),(1,true),(1,true)] 4 [msA k g f t i e a b s (.slice none 0 0), .int .i64 bit] [] =
  some ((.bool true, [msB k g f t i e a b s (.slice none 0 0)], 0), [(frameTPre (tpT false (msB k g f t i e a b s (.slice none 0 0)) (some (.tuple #[.slice none 0 0, .int .i64 1], [msB k g f t i e a b s (.slice none 0 0)], 0)) none none 0 0 t 0 [] []) 14 [msA k g f t i e a b s (.slice none 0 0)] [msB k g f t i e a b s (.slice none 0 0)], true), (frameTPre (tpT false (msB k g f t i e a b s (.slice none 0 0)) (some (.tuple #[.slice none 0 0, .int .i64 1], [msB k g f t i e a b s (.slice none 0 0)], 0)) none none 0 0 t 0 [] []) 13 [msA k g f t i e a b s (.slice none 0 0)] [], true), (frameTPre (tpT false (msB k g f t i e a b s (.slice none 0 0)) (some (.tuple #[.slice none 0 0, .int .i64 1], [msB k g f t i e a b s (.slice none 0 0)], 0)) none none 0 0 t 0 [] []) 5 [] [], true)]) := by kernel_rfl
theorem tpN_no {k g f t i e a b : Int} {s : ByteArray} {bit : Int} (hb : s.size + 0 ≤ 2000) (hc : chkB k g f t i e a b s 0 = false) : CallOk Tryz.prog 4 [msA k g f t i e a b s (.slice none 0 0), .int .i64 bit] [] (.bool true) [msB k g f t i e a b s (.slice none 0 0)] 0 := by
  have h13 := big_ok (k := k) (g := g) (f := f) (t := t) (i := i) (e := e) (a := a) (b := b) (s := s) (p := none) (n := 0) (c := 0) (H := []) (.inl rfl) (by omega) (by omega)
  rw [show decide (s.size + 0 > 2000) = false from by simp only [decide_eq_false_iff_not]; omega] at h13
  refine fnL_ok progOk extSound (nb_sound _ _ (frameT_sound _)) noLoops_ok (tpN_norun bit k g f t i e a b s) ?_
  intro p hp
  simp only [List.mem_cons, List.not_mem_nil, or_false] at hp
  rcases hp with rfl | rfl | rfl
  · exact tok (frameT_ok [] (write_noN (by omega) hc) (by exact (ro_in rfl ro_nil)) (by exact rf_in rfl rf_nil))
  · exact tok (frameT_ok [] h13 (by exact ro_nil) (by exact rf_in rfl rf_nil))
  · exact tok (frameT_ok [] up_ok (by exact ro_nil) (by exact rf_nil))
theorem tpG_bigrun (bit : Int) (k g f t i e a b : Int) (s : ByteArray) : evFnL Tryz.prog ext 300 (nmPre (frameTPre (tpT true (msB k g f t i e a b s goneV) none none none 0 0 t 0 [] []))) (nbC [] [] (frameT (tpT true (msB k g f t i e a b s goneV) none none none 0 0 t 0 [] []))) noLoops [(0,true),(1,true)] 4 [msA k g f t i e a b s goneV, .int .i64 bit] [] =
  some ((.bool true, [msB k g f t i e a b s goneV], 0), [(frameTPre (tpT true (msB k g f t i e a b s goneV) none none none 0 0 t 0 [] []) 13 [msA k g f t i e a b s goneV] [msB k g f t i e a b s goneV], true), (frameTPre (tpT true (msB k g f t i e a b s goneV) none none none 0 0 t 0 [] []) 5 [] [], true)]) := by kernel_rfl
theorem tpG_big {k g f t i e a b : Int} {s : ByteArray} {bit : Int} (hs : s.size ≤ 900000000000000) (hb : s.size + 0 > 2000) : CallOk Tryz.prog 4 [msA k g f t i e a b s goneV, .int .i64 bit] [] (.bool true) [msB k g f t i e a b s goneV] 0 := by
  have h13 := big_ok (k := k) (g := g) (f := f) (t := t) (i := i) (e := e) (a := a) (b := b) (s := s) (p := some ⟨0, 0, some 1⟩) (n := 0) (c := 0) (H := []) (.inl rfl) (by omega) (by omega)
  rw [show decide (s.size + 0 > 2000) = true from by simp only [decide_eq_true_eq]; omega] at h13
  exact fnL_ok progOk extSound (nb_sound _ _ (frameT_sound _)) noLoops_ok (tpG_bigrun bit k g f t i e a b s) (holds_two (frameT_ok [] h13 (by exact (ro_in rfl ro_nil)) (by exact rf_in rfl rf_nil)) (frameT_ok [] up_ok (by exact ro_nil) (by exact rf_nil)))
theorem tpG_norun (bit : Int) (k g f t i e a b : Int) (s : ByteArray) : evFnL Tryz.prog ext 300 (nmPre (frameTPre (tpT false (msB k g f t i e a b s goneV) (some (.tuple #[.slice none 0 0, .int .i64 1], [msB k g f t i e a b s goneV], 0)) none none 0 0 t 0 [] []))) (nbC [] [] (frameT (tpT false (msB k g f t i e a b s goneV) (some (.tuple #[.slice none 0 0, .int .i64 1], [msB k g f t i e a b s goneV], 0)) none none 0 0 t 0 [] []))) noLoops [(0,true),(1,true),(1,true)] 4 [msA k g f t i e a b s goneV, .int .i64 bit] [] =
  some ((.bool true, [msB k g f t i e a b s goneV], 0), [(frameTPre (tpT false (msB k g f t i e a b s goneV) (some (.tuple #[.slice none 0 0, .int .i64 1], [msB k g f t i e a b s goneV], 0)) none none 0 0 t 0 [] []) 14 [msA k g f t i e a b s goneV] [msB k g f t i e a b s goneV], true), (frameTPre (tpT false (msB k g f t i e a b s goneV) (some (.tuple #[.slice none 0 0, .int .i64 1], [msB k g f t i e a b s goneV], 0)) none none 0 0 t 0 [] []) 13 [msA k g f t i e a b s goneV] [msB k g f t i e a b s goneV], true), (frameTPre (tpT false (msB k g f t i e a b s goneV) (some (.tuple #[.slice none 0 0, .int .i64 1], [msB k g f t i e a b s goneV], 0)) none none 0 0 t 0 [] []) 5 [] [], true)]) := by kernel_rfl
theorem tpG_no {k g f t i e a b : Int} {s : ByteArray} {bit : Int} (hb : s.size + 0 ≤ 2000) (hc : chkB k g f t i e a b s 0 = false) : CallOk Tryz.prog 4 [msA k g f t i e a b s goneV, .int .i64 bit] [] (.bool true) [msB k g f t i e a b s goneV] 0 := by
  have h13 := big_ok (k := k) (g := g) (f := f) (t := t) (i := i) (e := e) (a := a) (b := b) (s := s) (p := some ⟨0, 0, some 1⟩) (n := 0) (c := 0) (H := []) (.inl rfl) (by omega) (by omega)
  rw [show decide (s.size + 0 > 2000) = false from by simp only [decide_eq_false_iff_not]; omega] at h13
  refine fnL_ok progOk extSound (nb_sound _ _ (frameT_sound _)) noLoops_ok (tpG_norun bit k g f t i e a b s) ?_
  intro p hp
  simp only [List.mem_cons, List.not_mem_nil, or_false] at hp
  rcases hp with rfl | rfl | rfl
  · exact tok (frameT_ok [] (write_noG (by omega) hc) (by exact (ro_in rfl ro_nil)) (by exact rf_in rfl rf_nil))
  · exact tok (frameT_ok [] h13 (by exact (ro_in rfl ro_nil)) (by exact rf_in rfl rf_nil))
  · exact tok (frameT_ok [] up_ok (by exact ro_nil) (by exact rf_nil))
end Go.Proofs.YtpgmabpaiijipaaGreatDoor
namespace Go.Proofs.YtpgmabpaiijipaaGreatDoor
open Go Den
set_option maxRecDepth 100000
set_option linter.unusedSimpArgs false
set_option linter.unusedVariables false
theorem nm_empty {s : ByteArray} (h : nmX s = []) : s = ByteArray.mk #[] := by
  have h1 : s.data.toList = [] := by simpa [nmX] using h
  cases s with
  | mk d =>
    have h2 : d = #[] := Array.toList_inj.1 h1
    rw [h2]
theorem wr_ne {kk g f t i e a b : Nat} (M : List Bool) : wrL kk g f t i e a b 7 ++ M ≠ [] := by
  intro h
  exact wrL_ne kk g f t i e a b 7 (List.append_eq_nil_iff.1 h).1
theorem tp_O {k g f t i e a b : Int} {s : ByteArray} {x : List Nat} {c : Nat} {bit : Int} (hne : x ≠ []) (hx : ∀ b ∈ x, b < 256) (hn : x.length ≤ 900000000000000) (hs : s.size ≤ 900000000000000) :
    ∃ H' l, CallOk Tryz.prog 4 [msA k g f t i e a b s (.slice (some ⟨0, 0, none⟩) x.length c), .int .i64 bit] [⟨false, none, byteV x⟩] (.bool true) H' l := by
  by_cases hb : s.size + x.length > 2000
  · exact ⟨_, _, tpO_big hne hn hs hb⟩
  cases hc : chkB k g f t i e a b s x.length with
  | false => exact ⟨_, _, tpO_no hne hn (by omega) hc⟩
  | true =>
    obtain ⟨kk, g', f', t', i', e', a', b', rfl, rfl, rfl, rfl, rfl, rfl, rfl, rfl, hk, hB, hxl, hiff, hsz, hem⟩ := chkB_of hc
    have h0 : 0 < x.length := List.length_pos_iff.2 hne
    obtain rfl := hem h0
    have hL := (len_wr (kk := kk) hB (n1 := 0) (n2 := x.length) (by omega) hxl (u := []) (v := x) (by simp) hxl).2.1
    have hLn : wrL kk g' f' t' i' e' a' b' 7 ++ Bt.codeB 0 ++ Bt.codeB x.length ++ Bt.bytesB x ≠ [] := by
      rw [List.append_assoc, List.append_assoc]; exact wr_ne _
    exact ⟨_, _, tpO_call hB.2.2.1 hLn hL hne hxl hsz (write_ok0O hk hB hc hne hx hxl) (read_ok0R hk hB hc hne hx hxl rfl)⟩
theorem tp_N {k g f t i e a b : Int} {s : ByteArray} {bit : Int} (hs : s.size ≤ 900000000000000) :
    ∃ H' l, CallOk Tryz.prog 4 [msA k g f t i e a b s (.slice none 0 0), .int .i64 bit] [] (.bool true) H' l := by
  by_cases hb : s.size + 0 > 2000
  · exact ⟨_, _, tpN_big hs hb⟩
  cases hc : chkB k g f t i e a b s 0 with
  | false => exact ⟨_, _, tpN_no (by omega) hc⟩
  | true =>
    obtain ⟨kk, g', f', t', i', e', a', b', rfl, rfl, rfl, rfl, rfl, rfl, rfl, rfl, hk, hB, _, hiff, hsz, _⟩ := chkB_of hc
    have hnl : (nmX s).length ≤ 64 := by rw [nmX_len]; exact hsz
    by_cases hsn : nmX s = []
    · obtain rfl := nm_empty hsn
      have hL := (len_wr (kk := kk) hB (n1 := 0) (n2 := 0) (by omega) (by omega) (u := []) (v := []) (by simp) (by simp)).2.2.2
      have hLn : wrL kk g' f' t' i' e' a' b' 7 ++ Bt.codeB 0 ++ Bt.codeB 0 ≠ [] := by rw [List.append_assoc]; exact wr_ne _
      exact ⟨_, _, tpN_call hB.2.2.1 hLn hL hsz (write_ok0N hk hB hc) (read_ok0N hk hB hc rfl)⟩
    · have hL := (len_wr (kk := kk) hB (n1 := s.size) (n2 := 0) hsz (by omega) (u := nmX s) (v := []) hnl (by simp)).2.2.1
      have hLn : wrL kk g' f' t' i' e' a' b' 7 ++ Bt.codeB s.size ++ Bt.bytesB (nmX s) ++ Bt.codeB 0 ≠ [] := by rw [List.append_assoc, List.append_assoc]; exact wr_ne _
      exact ⟨_, _, tpN_call hB.2.2.1 hLn hL hsz (write_ok1N hk hB hc hsz hsn) (read_ok1N hk hB hc hsz hsn rfl)⟩
theorem tp_G {k g f t i e a b : Int} {s : ByteArray} {bit : Int} (hs : s.size ≤ 900000000000000) :
    ∃ H' l, CallOk Tryz.prog 4 [msA k g f t i e a b s goneV, .int .i64 bit] [] (.bool true) H' l := by
  by_cases hb : s.size + 0 > 2000
  · exact ⟨_, _, tpG_big hs hb⟩
  cases hc : chkB k g f t i e a b s 0 with
  | false => exact ⟨_, _, tpG_no (by omega) hc⟩
  | true =>
    obtain ⟨kk, g', f', t', i', e', a', b', rfl, rfl, rfl, rfl, rfl, rfl, rfl, rfl, hk, hB, _, hiff, hsz, _⟩ := chkB_of hc
    have hnl : (nmX s).length ≤ 64 := by rw [nmX_len]; exact hsz
    by_cases hsn : nmX s = []
    · obtain rfl := nm_empty hsn
      have hL := (len_wr (kk := kk) hB (n1 := 0) (n2 := 0) (by omega) (by omega) (u := []) (v := []) (by simp) (by simp)).2.2.2
      have hLn : wrL kk g' f' t' i' e' a' b' 7 ++ Bt.codeB 0 ++ Bt.codeB 0 ≠ [] := by rw [List.append_assoc]; exact wr_ne _
      exact ⟨_, _, tpG_call hB.2.2.1 hLn hL hsz (write_ok0G hk hB hc) (read_ok0N hk hB hc rfl)⟩
    · have hL := (len_wr (kk := kk) hB (n1 := s.size) (n2 := 0) hsz (by omega) (u := nmX s) (v := []) hnl (by simp)).2.2.1
      have hLn : wrL kk g' f' t' i' e' a' b' 7 ++ Bt.codeB s.size ++ Bt.bytesB (nmX s) ++ Bt.codeB 0 ≠ [] := by rw [List.append_assoc, List.append_assoc]; exact wr_ne _
      exact ⟨_, _, tpG_call hB.2.2.1 hLn hL hsz (write_ok1G hk hB hc hsz hsn) (read_ok1N hk hB hc hsz hsn rfl)⟩
#print axioms tp_O
#print axioms tp_N
#print axioms tp_G
end Go.Proofs.YtpgmabpaiijipaaGreatDoor
