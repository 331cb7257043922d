/-
  A verified evaluator, thirteenth part: a run along one path: tests whose outcome is not computed are assumed, and told.
-/
import Derived.Test.YtfbjpenbpbpcaaaDen11
namespace Go.Proofs.Ytfbjpenbpbpcaaa.Den
open Go

/-- After so many tests that are computed: one that is assumed. -/
abbrev Path := List (Nat × Bool)
/-- What has been assumed: a test, its outcome. -/
abbrev Obs := List (Bool × Bool)

def Holds (ob : Obs) : Prop := ∀ p ∈ ob, p.1 = p.2

def ask {α : Type} (os : Path) (ob : Obs) (b : Bool) (k : Bool → Path → Obs → Option α) : Option α :=
  match os with
  | [] => match b with
    | true => k true [] ob
    | false => k false [] ob
  | (0, t) :: os => k t os ((b, t) :: ob)
  | (n + 1, t) :: os => match b with
    | true => k true ((n, t) :: os) ob
    | false => k false ((n, t) :: os) ob

structure SS where
  s : St
  os : Path
  ob : Obs

/-- Is it wanted? -/
def wantS {α : Type} (all : List Oper) (F : Slots) (o : Oper) (os : Path) (ob : Obs) (k : Bool → Path → Obs → Option α) : Option α :=
  match o.guard with
  | none => k true os ob
  | some _ => match wantedF all F o with
    | some b => ask os ob b k
    | none => none

/-- A choice between two values that are not both bools. -/
def pickS (F : Slots) (o : Oper) : Option (Bool × Value × Value) :=
  match o.op with
  | .pick c x y => match ev F c, ev F x, ev F y with
    | some (.bool _), some (.bool _), some (.bool _) => none
    | some (.bool b), some u, some w => some (b, u, w)
    | _, _, _ => none
  | _ => none

/-- What a callee asks of its arguments. -/
abbrev Pre := FuncId → List Value → Heap → Bool

/-- The oracle that answers only where what is asked holds. -/
def strict (pre : Pre) (C : Oracle) : Oracle := fun f args H => match pre f args H with
  | true => C f args H
  | false => none

/-- What a call asks: in the empty heap, if it is answered there. -/
def askC (pre : Pre) (C : Oracle) (f : FuncId) (args : List Value) (H : Heap) : Bool :=
  match args.all (pf 3) with
  | true => match C f args [] with
    | some (v, _, _) => match pf 3 v with
      | true => pre f args []
      | false => pre f args [] && pre f args H
    | none => true
  | false => pre f args H

/-- A call of a function: what it asks. -/
def callS (P : Program) (pre : Pre) (C : Oracle) (draw : Bool) (F : Slots) (H : Heap) (o : Oper) : Option Bool :=
  match o.op with
  | .call c => match c.callee with
    | .value f => match ev F f, evs F c.args.toList with
      | some (.func (.func f) a b), some args => match draw || ((P.funcs[f]?).map fun fn => fn.resultTypes.toList.all (flatT P 4)) == some true with
        | true => some (askC pre C f (a.toList ++ args ++ b.toList) H)
        | false => some (pre f (a.toList ++ args ++ b.toList) H)
      | _, _ => none
    | _ => none
  | _ => none

/-- A shift or a division: what must not be, and the value. -/
def divS (F : Slots) (o : Oper) : Option (Bool × Value) :=
  match o.op with
  | .binOp .shl _ x y _ => match ev F x, ev F y with
    | some (.int k a), some (.int _ b) => some (decide (b < 0), .int k (k.wrap (a * 2 ^ (min b.toNat k.bits))))
    | _, _ => none
  | .binOp .shr _ x y _ => match ev F x, ev F y with
    | some (.int k a), some (.int _ b) => some (decide (b < 0), .int k (a.fdiv (2 ^ (min b.toNat k.bits))))
    | _, _ => none
  | .binOp .quo _ x y _ => match ev F x, ev F y with
    | some (.int k a), some (.int k' b) => match eqK k k' with
      | true => some (decide (b = 0), .int k (k.wrap (a.tdiv b)))
      | false => none
    | _, _ => none
  | .binOp .rem _ x y _ => match ev F x, ev F y with
    | some (.int k a), some (.int k' b) => match eqK k k' with
      | true => some (decide (b = 0), .int k (a.tmod b))
      | false => none
    | _, _ => none
  | _ => none

/-! Memory at a place that is not computed: only where 'pre' asks for it, by the number of the operation's first operand. -/

def intAt (cs : List Value) (o : Nat) : Int := match cs[o]? with
  | some (.int _ n) => n
  | _ => 0
def isIntAt (k : IntKind) (cs : List Value) (o : Nat) : Bool := match cs[o]? with
  | some (.int k' _) => eqK k k'
  | _ => false
def boolAt (cs : List Value) (o : Nat) : Bool := match cs[o]? with
  | some (.bool b) => b
  | _ => false
def isBoolAt (cs : List Value) (o : Nat) : Bool := match cs[o]? with
  | some (.bool _) => true
  | _ => false
def byteAt (s : ByteArray) (o : Nat) : Int := match s[o]? with
  | some b => b.toNat
  | none => 0

def symKey (o : Oper) : Int := match o.op.operands.toList with
  | .tmp x :: _ => x
  | _ => -1

def symS (P : Program) (pre : Pre) (F : Slots) (H : Heap) (lo : Nat) (o : Oper) : Option (Bool × Out) :=
  match pre 1000000 [.int .i64 (symKey o)] [] with
  | true => none
  | false => match o.op with
    | .indexAddr t x i => match ev F x, ev F i, P.underlying t with
      | some (.pointer (some ⟨b, off, none⟩)), some (.int _ i), some (.array len e) => match sizeT P e with
        | some 1 => some (decide (0 ≤ i ∧ i < len), ⟨.pointer (some ⟨b, off + i.toNat, none⟩), H, lo, .pure⟩)
        | some n => some (decide (0 ≤ i ∧ i < len), ⟨.pointer (some ⟨b, off + i.toNat * n, none⟩), H, lo, .pure⟩)
        | none => none
      | some (.slice (some ⟨b, off, none⟩) len _), some (.int _ i), some (.slice e) => match sizeT P e with
        | some 1 => some (decide (0 ≤ i ∧ i < len), ⟨.pointer (some ⟨b, off + i.toNat, none⟩), H, lo, .pure⟩)
        | some n => some (decide (0 ≤ i ∧ i < len), ⟨.pointer (some ⟨b, off + i.toNat * n, none⟩), H, lo, .pure⟩)
        | none => none
      | _, _, _ => none
    | .load t x => match ev F x, P.underlying t with
      | some (.pointer (some a)), some (.int k) => match a.spot, H[a.block]? with
        | none, some b => some (isIntAt k b.cells a.off, ⟨.int k (intAt b.cells a.off), H, lo, .read⟩)
        | _, _ => none
      | some (.pointer (some a)), some .bool => match a.spot, H[a.block]? with
        | none, some b => some (isBoolAt b.cells a.off, ⟨.bool (boolAt b.cells a.off), H, lo, .read⟩)
        | _, _ => none
      | _, _ => none
    | .store t x y => match ev F x, ev F y, sizeT P t with
      | some (.pointer (some a)), some (.int k n), some 1 => match a.spot, H[a.block]? with
        | none, some b => some (b.own && decide (a.off + 1 ≤ b.cells.length), ⟨undef, H.set a.block { b with cells := splice b.cells a.off [.int k n] }, min lo a.block, .write⟩)
        | _, _ => none
      | some (.pointer (some a)), some (.bool n), some 1 => match a.spot, H[a.block]? with
        | none, some b => some (b.own && decide (a.off + 1 ≤ b.cells.length), ⟨undef, H.set a.block { b with cells := splice b.cells a.off [.bool n] }, min lo a.block, .write⟩)
        | _, _ => none
      | some (.pointer (some a)), some (.agg cs), some n => match Nat.beq cs.size n && cs.toList.all oneCell with
        | true => match a.spot, H[a.block]? with
          | none, some b => some (b.own && decide (a.off + n ≤ b.cells.length), ⟨undef, H.set a.block { b with cells := splice b.cells a.off cs.toList }, min lo a.block, .write⟩)
          | _, _ => none
        | false => none
      | _, _, _ => none
    | .index t x i => match ev F x, ev F i, P.underlying t with
      | some (.agg cs), some (.int _ i), some (.array len e) => match sizeT P e, P.underlying e with
        | some n, some (.int k) => some (decide (0 ≤ i ∧ i < len) && isIntAt k cs.toList (i.toNat * n), ⟨.int k (intAt cs.toList (i.toNat * n)), H, lo, .pure⟩)
        | some n, some .bool => some (decide (0 ≤ i ∧ i < len) && isBoolAt cs.toList (i.toNat * n), ⟨.bool (boolAt cs.toList (i.toNat * n)), H, lo, .pure⟩)
        | _, _ => none
      | some (.string s), some (.int _ i), some .string => some (decide (0 ≤ i ∧ i < s.size), ⟨.int .u8 (byteAt s i.toNat), H, lo, .pure⟩)
      | _, _, _ => none
    | _ => none

/-- A value by another text for the same number: where 'pre' tells that there are such names, by the slot that it goes into. -/
def nameS {α : Type} (pre : Pre) (C : Oracle) (o : Oper) (r : Out) (os : Path) (ob : Obs) (k : Out → Path → Obs → Option α) : Option α :=
  match pre 1000001 [] [] with
  | true => k r os ob
  | false => match o.dst with
    | none => k r os ob
    | some t => match C 1000001 [.int .i64 t] [] with
      | some (.int _ y, _, _) => match r.v with
        | .int kd n => k ⟨.int kd y, r.H, r.lo, r.eff⟩ os ((decide (n = y), true) :: ob)
        | _ => k r os ob
      | some (.bool y, _, _) => match r.v with
        | .bool b => k ⟨.bool y, r.H, r.lo, r.eff⟩ os ((b, y) :: ob)
        | _ => k r os ob
      | _ => k r os ob

theorem nameS_eq {α : Type} {pre : Pre} {C : Oracle} {o : Oper} {r : Out} {os : Path} {ob : Obs} {k : Out → Path → Obs → Option α} {x : α} (h : nameS pre C o r os ob k = some x) :
    ∃ r' os' ob', k r' os' ob' = some x ∧ (Holds ob' → r' = r ∧ Holds ob) := by
  unfold nameS at h
  split at h
  · exact ⟨r, os, ob, h, fun hh => ⟨rfl, hh⟩⟩
  · split at h
    · exact ⟨r, os, ob, h, fun hh => ⟨rfl, hh⟩⟩
    · split at h
      · split at h
        · rename_i y _ _ _ _ kd n hv
          refine ⟨_, _, _, h, fun hh => ⟨?_, fun p hp => hh p (by simp [hp])⟩⟩
          have e : n = y := by simpa using hh (decide (n = y), true) (by simp)
          subst e
          obtain ⟨v, H, lo, eff⟩ := r
          simp only at hv
          rw [hv]
        · exact ⟨r, os, ob, h, fun hh => ⟨rfl, hh⟩⟩
      · split at h
        · rename_i y _ _ _ _ b hv
          refine ⟨_, _, _, h, fun hh => ⟨?_, fun p hp => hh p (by simp [hp])⟩⟩
          have e : b = y := hh (b, y) (by simp)
          subst e
          obtain ⟨v, H, lo, eff⟩ := r
          simp only at hv
          rw [hv]
        · exact ⟨r, os, ob, h, fun hh => ⟨rfl, hh⟩⟩
      · exact ⟨r, os, ob, h, fun hh => ⟨rfl, hh⟩⟩

def opS0 {α : Type} (P : Program) (X : Ext) (pre : Pre) (C : Oracle) (draw : Bool) (F : Slots) (H : Heap) (lo : Nat) (o : Oper) (os : Path) (ob : Obs) (k : Out → Path → Obs → Option α) : Option α :=
  match pickS F o with
  | some (b, u, w) => ask os ob b fun t os ob => k ⟨bif t then u else w, H, lo, .pure⟩ os ob
  | none => match divS F o with
    | some (b, v) => ask os ob b fun t os ob => match t with
      | true => none
      | false => k ⟨v, H, lo, .pure⟩ os ob
    | none => match callS P pre C draw F H o with
      | some b => ask os ob b fun t os ob => match t with
        | true => match evOp P X C draw F H lo o with
          | some r => k r os ob
          | none => none
        | false => none
      | none => match symS P pre F H lo o with
        | some (b, r) => ask os ob b fun t os ob => match t with
          | true => k r os ob
          | false => none
        | none => match evOp P X C draw F H lo o with
          | some r => k r os ob
          | none => none

def opS {α : Type} (P : Program) (X : Ext) (pre : Pre) (C : Oracle) (draw : Bool) (F : Slots) (H : Heap) (lo : Nat) (o : Oper) (os : Path) (ob : Obs) (k : Out → Path → Obs → Option α) : Option α :=
  opS0 P X pre C draw F H lo o os ob fun r os ob => nameS pre C o r os ob k

def evOpsS (P : Program) (X : Ext) (pre : Pre) (C : Oracle) (nt : Nat) (all : List Oper) : List Oper → Slots → Heap → Nat → Path → Obs → Option SS
  | [], F, H, lo, os, ob => some ⟨⟨F, H, lo⟩, os, ob⟩
  | o :: rest, F, H, lo, os, ob => wantS all F o os ob fun t os ob => match t with
    | true => opS P X pre C false F H lo o os ob fun r os ob => evOpsS P X pre C nt all rest (putF nt F o.dst r.v) r.H r.lo os ob
    | false => evOpsS P X pre C nt all rest (putF nt F o.dst undef) H lo os ob

def evRecsS (P : Program) (X : Ext) (pre : Pre) (C : Oracle) (nt : Nat) (all : List Oper) : List Oper → Nat → Nat → Slots → Heap → Nat → Path → Obs → Option (List Rec × Slots × Path × Obs)
  | [], _, _, F, _, _, os, ob => some ([], F, os, ob)
  | o :: rest, n, ws, F, H, lo, os, ob => wantS all F o os ob fun t os ob => match t with
    | true => opS P X pre C true F H lo o os ob fun r os ob => match adjust all o n ws H r with
      | ⟨v, eff, H', lo'⟩ => match evRecsS P X pre C nt all rest (n + 1) (nextWs eff n ws) (putF nt F o.dst v) H' lo' os ob with
        | some (rs, F) => some (⟨v, eff, H', lo'⟩ :: rs, F)
        | none => none
    | false => match evRecsS P X pre C nt all rest (n + 1) ws (putF nt F o.dst undef) H lo os ob with
      | some (rs, F) => some (⟨undef, .pure, H, lo⟩ :: rs, F)
      | none => none

def evDrawS (P : Program) (X : Ext) (pre : Pre) (C : Oracle) (nt : Nat) (ops : List Oper) (F : Slots) (H : Heap) (lo : Nat) (os : Path) (ob : Obs) : Option SS :=
  match evRecsS P X pre C nt ops ops 0 0 F H lo os ob with
  | some (rs, F, os, ob) => match dynOk (masks ops) rs with
    | true => match rs.getLast? with
      | some r => some ⟨⟨F, r.H, r.lo⟩, os, ob⟩
      | none => some ⟨⟨F, H, lo⟩, os, ob⟩
    | false => none
  | none => none

def iterS : Nat → (SS → Option (Ex × SS)) → List Nat → SS → Option (Ex × SS)
  | 0, _, _, _ => none
  | n + 1, body, m, s => match body s with
    | some (.normal, ⟨⟨F, H, lo⟩, os, ob⟩) => iterS n body m ⟨⟨forget F m, H, lo⟩, os, ob⟩
    | r => r

def evCodeS (P : Program) (X : Ext) (pre : Pre) (C : Oracle) (N nt : Nat) : Code → SS → Option (Ex × SS)
  | .skip, s => some (.normal, s)
  | .label _, s => some (.normal, s)
  | .region _ ops draw, ⟨⟨F, H, lo⟩, os, ob⟩ =>
    match (match draw with
      | true => evDrawS P X pre C nt ops.toList F H lo os ob
      | false => evOpsS P X pre C nt ops.toList ops.toList F H lo os ob) with
    | some s => some (.normal, s)
    | none => none
  | .seq a b, s => match evCodeS P X pre C N nt a s with
    | some (.normal, s) => evCodeS P X pre C N nt b s
    | r => r
  | .cond c x y, ⟨s, os, ob⟩ => match ev s.F c with
    | some (.bool b) => ask os ob b fun t os ob => match t with
      | true => evCodeS P X pre C N nt x ⟨s, os, ob⟩
      | false => evCodeS P X pre C N nt y ⟨s, os, ob⟩
    | _ => none
  | .block id b, s => match evCodeS P X pre C N nt b s with
    | some (.exit i, s) => if i = id then some (.normal, s) else some (.exit i, s)
    | r => r
  | .loop b, s => iterS N (evCodeS P X pre C N nt b) (keysOf s.s.F) s
  | .exit id, s => some (.exit id, s)
  | .ret, s => some (.ret, s)
  | _, _ => none

/-- One function, along a path. -/
def evFnS (P : Program) (X : Ext) (N : Nat) (pre : Pre) (C : Oracle) (os : Path) (f : FuncId) (args : List Value) (H : Heap) : Option ((Value × Heap × Nat) × Obs) :=
  match P.funcs[f]? with
  | some fn => match fn.body with
    | some c => match evCodeS P X pre C N (max args.length fn.ntmps) c ⟨⟨start 0 args, H, H.length⟩, os, []⟩ with
      | some (.normal, ⟨s, _, ob⟩) | some (.ret, ⟨s, _, ob⟩) => (evResults P fn s.F s.H).map fun v => ((v, s.H, s.lo), ob)
      | _ => none
    | none => none
  | none => none

theorem ask_eq {α : Type} {os : Path} {ob : Obs} {b : Bool} {k : Bool → Path → Obs → Option α} {r : α} (h : ask os ob b k = some r) :
    ∃ t os' ob', k t os' ob' = some r ∧ (Holds ob' → b = t ∧ Holds ob) := by
  unfold ask at h
  split at h
  · split at h
    · exact ⟨_, _, _, h, fun hh => ⟨rfl, hh⟩⟩
    · exact ⟨_, _, _, h, fun hh => ⟨rfl, hh⟩⟩
  · exact ⟨_, _, _, h, fun hh => ⟨hh (b, _) (by simp), fun p hp => hh p (by simp [hp])⟩⟩
  · split at h
    · exact ⟨_, _, _, h, fun hh => ⟨rfl, hh⟩⟩
    · exact ⟨_, _, _, h, fun hh => ⟨rfl, hh⟩⟩

section
variable {P : Program} {X : Ext} {pre : Pre} {C : Oracle} {nt : Nat}

theorem wantS_eq {α : Type} {all : List Oper} {F : Slots} {o : Oper} {os : Path} {ob : Obs} {k : Bool → Path → Obs → Option α} {r : α} (h : wantS all F o os ob k = some r) :
    ∃ t os' ob', k t os' ob' = some r ∧ (Holds ob' → wantedF all F o = some t ∧ Holds ob) := by
  unfold wantS at h
  split at h
  · rename_i hg
    exact ⟨_, _, _, h, fun hh => ⟨by unfold wantedF; rw [hg], hh⟩⟩
  · split at h
    · rename_i b hb
      obtain ⟨t, os', ob', hk, hob⟩ := ask_eq h
      exact ⟨t, os', ob', hk, fun hh => ⟨by rw [hb, (hob hh).1], (hob hh).2⟩⟩
    · simp at h

theorem pickS_eq {draw : Bool} {F : Slots} {H : Heap} {lo : Nat} {o : Oper} {b : Bool} {u w : Value} (h : pickS F o = some (b, u, w)) : evOp P X (strict pre C) draw F H lo o = some ⟨bif b then u else w, H, lo, .pure⟩ := by
  unfold pickS at h
  split at h
  · rename_i c x y hop
    simp only [evOp, hop]
    split at h
    · simp at h
    · rename_i b0 u0 w0 hno hc hx hy
      simp only [Option.some.injEq, Prod.mk.injEq] at h
      obtain ⟨rfl, rfl, rfl⟩ := h
      rw [hc, hx, hy]
      cases u0 <;> cases w0 <;> first | rfl | exact (hno _ _ _ rfl rfl rfl).elim | exact (hno _ _ rfl rfl).elim | exact (hno _ _ _ rfl rfl).elim
    · simp at h
  · simp at h

theorem divS_eq {draw : Bool} {F : Slots} {H : Heap} {lo : Nat} {o : Oper} {b : Bool} {v : Value} (h : divS F o = some (b, v)) (hb : b = false) : evOp P X (strict pre C) draw F H lo o = some ⟨v, H, lo, .pure⟩ := by
  subst hb
  unfold divS at h
  split at h
  · rename_i hop
    split at h
    · rename_i hx hy
      simp only [Option.some.injEq, Prod.mk.injEq, decide_eq_false_iff_not] at h
      simp only [evOp, hop, hx, hy, fastBin]
      rw [if_neg h.1, h.2]
    · simp at h
  · rename_i hop
    split at h
    · rename_i hx hy
      simp only [Option.some.injEq, Prod.mk.injEq, decide_eq_false_iff_not] at h
      simp only [evOp, hop, hx, hy, fastBin]
      rw [if_neg h.1, h.2]
    · simp at h
  · rename_i hop
    split at h
    · rename_i hx hy
      split at h
      · rename_i hk
        simp only [Option.some.injEq, Prod.mk.injEq, decide_eq_false_iff_not] at h
        simp only [evOp, hop, hx, hy, fastBin, hk]
        rw [if_neg h.1, h.2]
      · simp at h
    · simp at h
  · rename_i hop
    split at h
    · rename_i hx hy
      split at h
      · rename_i hk
        simp only [Option.some.injEq, Prod.mk.injEq, decide_eq_false_iff_not] at h
        simp only [evOp, hop, hx, hy, fastBin, hk]
        rw [if_neg h.1, h.2]
      · simp at h
    · simp at h
  · simp at h

theorem strict_at {f : FuncId} {args : List Value} {H : Heap} (h : pre f args H = true) : strict pre C f args H = C f args H := by simp only [strict, h]

theorem evCall0_strict {f : FuncId} {args : List Value} {H : Heap} {lo : Nat} (h : askC pre C f args H = true) : evCall0 (strict pre C) f args H lo = evCall0 C f args H lo := by
  unfold askC at h
  unfold evCall0
  split at h
  · rename_i hp
    rw [if_pos hp, if_pos hp]
    split at h
    · rename_i v H1 l hc
      split at h
      · rename_i hv
        rw [strict_at h, hc]
        simp only [hv, if_true]
      · rename_i hv
        rw [Bool.and_eq_true] at h
        have e : evCall (strict pre C) f args H lo = evCall C f args H lo := by unfold evCall; rw [strict_at h.2]
        rw [strict_at h.1, hc]
        simp only [hv, e]
    · rename_i hc
      rw [hc]
      have : strict pre C f args [] = none := by
        unfold strict
        split
        · exact hc
        · rfl
      rw [this]
  · rename_i hp
    rw [if_neg (by simp [hp]), if_neg (by simp [hp])]
    unfold evCall
    rw [strict_at h]

theorem callS_eq {draw : Bool} {F : Slots} {H : Heap} {lo : Nat} {o : Oper} (h : callS P pre C draw F H o = some true) : evOp P X (strict pre C) draw F H lo o = evOp P X C draw F H lo o := by
  obtain ⟨dst, op, type, pos, after, guard⟩ := o
  cases op with
  | call c =>
    obtain ⟨callee, cargs, cats⟩ := c
    cases callee with
    | value fx =>
      simp only [callS] at h
      split at h
      · rename_i f a b args hf hargs
        simp only [evOp, hf, hargs]
        cases hfn : P.funcs[f]? with
        | none => rfl
        | some fn =>
          cases hb : fn.body with
          | none => simp only [hb]
          | some c =>
            simp only [hfn] at h
            split at h
            · rename_i hd
              simp only [Option.some.injEq] at h
              have hd' : (draw || fn.resultTypes.toList.all (flatT P 4)) = true := by simpa using hd
              simp only [hb, hd', evCall0_strict h]
            · rename_i hd
              simp only [Option.some.injEq] at h
              have hd' : (draw || fn.resultTypes.toList.all (flatT P 4)) = false := by simpa using hd
              simp only [hb, hd', evCall, strict_at h]
      · simp at h
    | _ => simp [callS] at h
  | _ => simp [callS] at h

theorem callS_none {draw : Bool} {F : Slots} {H : Heap} {lo : Nat} {o : Oper} (h : callS P pre C draw F H o = none) : evOp P X (strict pre C) draw F H lo o = evOp P X C draw F H lo o := by
  obtain ⟨dst, op, type, pos, after, guard⟩ := o
  cases op with
  | call c =>
    obtain ⟨callee, cargs, cats⟩ := c
    cases callee with
    | value fx =>
      simp only [callS] at h
      split at h
      · split at h <;> simp at h
      · simp only [evOp]
    | builtin b => cases b <;> rfl
    | invoke r m => rfl
  | slice t x l hi m => cases m <;> rfl
  | _ => rfl

theorem isAggT_int {P : Program} {t : TypeId} {k : IntKind} (h : P.underlying t = some (.int k)) : isAggT P t = some false := by simp [isAggT, h]
theorem isAggT_bool {P : Program} {t : TypeId} (h : P.underlying t = some .bool) : isAggT P t = some false := by simp [isAggT, h]

theorem isIntAt_eq {k : IntKind} {cs : List Value} {o : Nat} (h : isIntAt k cs o = true) : cs[o]? = some (.int k (intAt cs o)) := by
  unfold isIntAt at h
  unfold intAt
  split at h
  · rename_i k' n hc
    rw [hc, eqK_eq h]
  · simp at h

theorem isBoolAt_eq {cs : List Value} {o : Nat} (h : isBoolAt cs o = true) : cs[o]? = some (.bool (boolAt cs o)) := by
  unfold isBoolAt at h
  unfold boolAt
  split at h
  · rename_i b hc
    rw [hc]
  · simp at h

theorem rd_one {H : Heap} {a : Addr} {b : Blk} {v : Value} (hs : a.spot = none) (hb : H[a.block]? = some b) (hv : b.cells[a.off]? = some v) : rd H a 1 = some [v] := by
  unfold rd
  rw [hs, hb]
  obtain ⟨hlt, he⟩ := List.getElem?_eq_some_iff.1 hv
  simp only
  rw [if_pos (by omega), List.drop_eq_getElem_cons hlt, he]
  rfl

theorem pureRun_bind {P : Program} {α β : Type} (s : Sem α) (k : α → Sem β) : pureRun P (s.bind k) = (pureRun P s).bind fun x => pureRun P (k x) := by
  induction s with
  | pure a => simp [Sem.bind, pureRun]
  | program k ih => simp [Sem.bind, pureRun, ih]
  | mark m k ih => simp [Sem.bind, pureRun, ih]
  | _ => simp [Sem.bind, pureRun]

theorem add_none (b off n : Nat) : (⟨b, off, none⟩ : Addr).add n = ⟨b, off + n, none⟩ := by
  unfold Addr.add
  split
  · rename_i h; rw [h]; rfl
  · rfl

theorem symS_eq {draw : Bool} {F : Slots} {H : Heap} {lo : Nat} {o : Oper} {r : Out} (h : symS P pre F H lo o = some (true, r)) : evOp P X (strict pre C) draw F H lo o = some r := by
  unfold symS at h
  split at h
  · simp at h
  split at h
  · rename_i t x i hop
    simp only [evOp, hop]
    split at h
    · rename_i b off k n len e hx hi ht
      split at h
      · rename_i hsz
        simp only [Option.some.injEq, Prod.mk.injEq, decide_eq_true_eq] at h
        obtain ⟨h1, rfl⟩ := h
        rw [hx, hi, ht]
        simp only [hsz]
        rw [if_pos h1, add_none, Nat.mul_one]
      · rename_i sz _ hsz
        simp only [Option.some.injEq, Prod.mk.injEq, decide_eq_true_eq] at h
        obtain ⟨h1, rfl⟩ := h
        rw [hx, hi, ht]
        simp only [hsz]
        rw [if_pos h1, add_none]
      · simp at h
    · rename_i b off len c k n e hx hi ht
      split at h
      · rename_i hsz
        simp only [Option.some.injEq, Prod.mk.injEq, decide_eq_true_eq] at h
        obtain ⟨h1, rfl⟩ := h
        rw [hx, hi, ht]
        simp only [hsz]
        rw [if_pos h1, add_none, Nat.mul_one]
      · rename_i sz _ hsz
        simp only [Option.some.injEq, Prod.mk.injEq, decide_eq_true_eq] at h
        obtain ⟨h1, rfl⟩ := h
        rw [hx, hi, ht]
        simp only [hsz]
        rw [if_pos h1, add_none]
      · simp at h
    · simp at h
  · rename_i t x hop
    simp only [evOp, hop]
    split at h
    · rename_i a k hx ht
      split at h
      · rename_i b hs hb
        simp only [Option.some.injEq, Prod.mk.injEq] at h
        obtain ⟨h1, rfl⟩ := h
        rw [hx]
        simp only [loadV, isAggT_int ht, rd_one hs hb (isIntAt_eq h1), oneCell, Option.map_some]
      · simp at h
    · rename_i a hx ht
      split at h
      · rename_i b hs hb
        simp only [Option.some.injEq, Prod.mk.injEq] at h
        obtain ⟨h1, rfl⟩ := h
        rw [hx]
        simp only [loadV, isAggT_bool ht, rd_one hs hb (isBoolAt_eq h1), oneCell, Option.map_some]
      · simp at h
    · simp at h
  · rename_i t x y hop
    simp only [evOp, hop]
    split at h
    · rename_i a k n hx hy ht
      split at h
      · rename_i b hs hb
        simp only [Option.some.injEq, Prod.mk.injEq, Bool.and_eq_true, decide_eq_true_eq] at h
        obtain ⟨⟨h1, h2⟩, rfl⟩ := h
        rw [hx, hy]
        simp [storeV, ht, wr, hs, hb, Value.cells, h1, h2, oneCell]
      · simp at h
    · rename_i a n hx hy ht
      split at h
      · rename_i b hs hb
        simp only [Option.some.injEq, Prod.mk.injEq, Bool.and_eq_true, decide_eq_true_eq] at h
        obtain ⟨⟨h1, h2⟩, rfl⟩ := h
        rw [hx, hy]
        simp [storeV, ht, wr, hs, hb, Value.cells, h1, h2, oneCell]
      · simp at h
    · rename_i a cs n hx hy ht
      split at h
      · rename_i hc
        simp only [Bool.and_eq_true] at hc
        obtain ⟨c1, c2⟩ := hc
        have c1 := Nat.eq_of_beq_eq_true c1
        split at h
        · rename_i b hs hb
          simp only [Option.some.injEq, Prod.mk.injEq, Bool.and_eq_true, decide_eq_true_eq] at h
          obtain ⟨⟨h1, h2⟩, rfl⟩ := h
          rw [hx, hy]
          subst c1
          have c3 : ∀ x ∈ cs.toList, oneCell x = true := List.all_eq_true.1 c2
          simp only [storeV, ht, wr, forceL_eq, hs, hb, Value.cells, if_true, Array.length_toList, h1, h2, decide_true, c2, Bool.and_self, Option.map_some]
        · simp at h
      · simp at h
    · simp at h
  · rename_i t x i hop
    simp only [evOp, hop]
    split at h
    · rename_i cs k n len e hx hi ht
      split at h
      · rename_i sz k' hsz he
        simp only [Option.some.injEq, Prod.mk.injEq, Bool.and_eq_true, decide_eq_true_eq] at h
        obtain ⟨⟨h1, h2⟩, rfl⟩ := h
        rw [hx, hi, ht]
        simp only [hsz]
        rw [if_pos h1]
        simp only [partV, isAggT_int he, isIntAt_eq h2, Option.map_some]
      · rename_i sz hsz he
        simp only [Option.some.injEq, Prod.mk.injEq, Bool.and_eq_true, decide_eq_true_eq] at h
        obtain ⟨⟨h1, h2⟩, rfl⟩ := h
        rw [hx, hi, ht]
        simp only [hsz]
        rw [if_pos h1]
        simp only [partV, isAggT_bool he, isBoolAt_eq h2, Option.map_some]
      · simp at h
    · rename_i s k n hx hi ht
      simp only [Option.some.injEq, Prod.mk.injEq, decide_eq_true_eq] at h
      obtain ⟨h1, rfl⟩ := h
      rw [hx, hi, ht]
      have hflat : allFlat F o.op.operands.toList = true := by
        rw [hop]
        simp [allFlat, Op.operands, hx, hi, pf, isFlat]
      have hlt : n.toNat < s.size := by omega
      have hb : s[n.toNat]? = some s[n.toNat] := by simp [hlt]
      have hp : pureRun P (execOp (look F) o) = some (.value (.int .u8 (byteAt s n.toNat))) := by
        simp only [hop, execOp, Instr.index, asIntOf, look, hx, hi, Option.getD_some, bind, pureRun_bind]
        have e1 : pureRun P program = some P := rfl
        simp only [pure, pureRun, Option.bind_some, underlying, pureRun_bind, bind, e1, ht]
        simp [h1.1, hb, byteAt, pureRun]
      simp [evFlat, hflat, hp, pf, isFlat]
    · simp at h
  · simp at h

theorem opS0_eq {α : Type} {draw : Bool} {F : Slots} {H : Heap} {lo : Nat} {o : Oper} {os : Path} {ob : Obs} {k : Out → Path → Obs → Option α} {r : α} (h : opS0 P X pre C draw F H lo o os ob k = some r) :
    ∃ out os' ob', k out os' ob' = some r ∧ (Holds ob' → evOp P X (strict pre C) draw F H lo o = some out ∧ Holds ob) := by
  unfold opS0 at h
  split at h
  · rename_i b u w hp
    obtain ⟨t, os', ob', hk, hob⟩ := ask_eq h
    exact ⟨_, os', ob', hk, fun hh => ⟨by rw [pickS_eq hp, (hob hh).1], (hob hh).2⟩⟩
  · split at h
    · rename_i b v hd
      obtain ⟨t, os', ob', hk, hob⟩ := ask_eq h
      cases t with
      | true => simp at hk
      | false => exact ⟨_, os', ob', hk, fun hh => ⟨divS_eq hd (hob hh).1, (hob hh).2⟩⟩
    · split at h
      · rename_i b hc
        obtain ⟨t, os', ob', hk, hob⟩ := ask_eq h
        cases t with
        | false => simp at hk
        | true =>
          simp only at hk
          split at hk
          · rename_i out ho
            exact ⟨out, os', ob', hk, fun hh => ⟨by rw [callS_eq (by rw [hc, (hob hh).1])]; exact ho, (hob hh).2⟩⟩
          · simp at hk
      · rename_i hc
        split at h
        · rename_i b out hs
          obtain ⟨t, os', ob', hk, hob⟩ := ask_eq h
          cases t with
          | false => simp at hk
          | true => exact ⟨out, os', ob', hk, fun hh => ⟨symS_eq (by rw [hs, (hob hh).1]), (hob hh).2⟩⟩
        · split at h
          · rename_i out ho
            exact ⟨out, os, ob, h, fun hh => ⟨by rw [callS_none hc]; exact ho, hh⟩⟩
          · simp at h

theorem opS_eq {α : Type} {draw : Bool} {F : Slots} {H : Heap} {lo : Nat} {o : Oper} {os : Path} {ob : Obs} {k : Out → Path → Obs → Option α} {r : α} (h : opS P X pre C draw F H lo o os ob k = some r) :
    ∃ out os' ob', k out os' ob' = some r ∧ (Holds ob' → evOp P X (strict pre C) draw F H lo o = some out ∧ Holds ob) := by
  unfold opS at h
  obtain ⟨out, os1, ob1, hk, hob⟩ := opS0_eq h
  obtain ⟨out2, os2, ob2, hk2, hob2⟩ := nameS_eq hk
  refine ⟨out2, os2, ob2, hk2, fun hh => ?_⟩
  obtain ⟨e, h1⟩ := hob2 hh
  subst e
  exact hob h1

theorem evOpsS_eq {all : List Oper} {s' : SS} : ∀ (rest : List Oper) (F : Slots) (H : Heap) (lo : Nat) (os : Path) (ob : Obs), evOpsS P X pre C nt all rest F H lo os ob = some s' →
    Holds s'.ob → evOps P X (strict pre C) nt all rest F H lo = some (s'.s.F, s'.s.H, s'.s.lo) ∧ Holds ob := by
  intro rest
  induction rest with
  | nil =>
    intro F H lo os ob h hh
    simp only [evOpsS, Option.some.injEq] at h
    subst h
    exact ⟨rfl, hh⟩
  | cons o rest ih =>
    intro F H lo os ob h hh
    simp only [evOpsS] at h
    obtain ⟨t, os1, ob1, hk, hob⟩ := wantS_eq h
    cases t with
    | true =>
      obtain ⟨out, os2, ob2, hk2, hob2⟩ := opS_eq hk
      obtain ⟨h1, h2⟩ := ih _ _ _ _ _ hk2 hh
      obtain ⟨h3, h4⟩ := hob2 h2
      obtain ⟨h5, h6⟩ := hob h4
      exact ⟨by simp only [evOps, h5, h3]; exact h1, h6⟩
    | false =>
      obtain ⟨h1, h2⟩ := ih _ _ _ _ _ hk hh
      obtain ⟨h5, h6⟩ := hob h2
      exact ⟨by simp only [evOps, h5]; exact h1, h6⟩

theorem evRecsS_eq {all : List Oper} : ∀ (rest : List Oper) (n ws : Nat) (F : Slots) (H : Heap) (lo : Nat) (os : Path) (ob : Obs) (rs : List Rec) (F' : Slots) (os' : Path) (ob' : Obs), evRecsS P X pre C nt all rest n ws F H lo os ob = some (rs, F', os', ob') →
    Holds ob' → evRecs P X (strict pre C) nt all rest n ws F H lo = some (rs, F') ∧ Holds ob := by
  intro rest
  induction rest with
  | nil =>
    intro n ws F H lo os ob rs F' os' ob' h hh
    simp only [evRecsS, Option.some.injEq, Prod.mk.injEq] at h
    obtain ⟨rfl, rfl, rfl, rfl⟩ := h
    exact ⟨rfl, hh⟩
  | cons o rest ih =>
    intro n ws F H lo os ob rs F' os' ob' h hh
    simp only [evRecsS] at h
    obtain ⟨t, os1, ob1, hk, hob⟩ := wantS_eq h
    cases t with
    | true =>
      obtain ⟨r, os2, ob2, hk2, hob2⟩ := opS_eq hk
      cases hadj : adjust all o n ws H r with
      | mk v eff H' lo' =>
      rw [hadj] at hk2
      simp only at hk2
      split at hk2
      · rename_i rs2 q2 hrec
        obtain ⟨F2, os3, ob3⟩ := q2
        simp only [Option.some.injEq, Prod.mk.injEq] at hk2
        obtain ⟨rfl, rfl, rfl, rfl⟩ := hk2
        obtain ⟨h1, h2⟩ := ih _ _ _ _ _ _ _ _ _ _ _ hrec hh
        obtain ⟨h3, h4⟩ := hob2 h2
        obtain ⟨h5, h6⟩ := hob h4
        exact ⟨by simp only [evRecs, h5, h3, hadj, h1], h6⟩
      · simp at hk2
    | false =>
      simp only at hk
      split at hk
      · rename_i rs2 q2 hrec
        obtain ⟨F2, os2, ob2⟩ := q2
        simp only [Option.some.injEq, Prod.mk.injEq] at hk
        obtain ⟨rfl, rfl, rfl, rfl⟩ := hk
        obtain ⟨h1, h2⟩ := ih _ _ _ _ _ _ _ _ _ _ _ hrec hh
        obtain ⟨h5, h6⟩ := hob h2
        exact ⟨by simp only [evRecs, h5, h1], h6⟩
      · simp at hk

theorem evDrawS_eq {ops : List Oper} {F : Slots} {H : Heap} {lo : Nat} {os : Path} {ob : Obs} {s' : SS} (h : evDrawS P X pre C nt ops F H lo os ob = some s') (hh : Holds s'.ob) :
    evDraw P X (strict pre C) nt ops F H lo = some (s'.s.F, s'.s.H, s'.s.lo) ∧ Holds ob := by
  unfold evDrawS at h
  unfold evDraw
  split at h
  · rename_i rs F1 os1 ob1 hrec
    split at h
    · rename_i hd
      split at h
      · rename_i r hr
        simp only [Option.some.injEq] at h
        subst h
        obtain ⟨h1, h2⟩ := evRecsS_eq _ _ _ _ _ _ _ _ _ _ _ _ hrec hh
        rw [h1]
        simp only [hd, hr]
        exact ⟨trivial, h2⟩
      · rename_i hr
        simp only [Option.some.injEq] at h
        subst h
        obtain ⟨h1, h2⟩ := evRecsS_eq _ _ _ _ _ _ _ _ _ _ _ _ hrec hh
        rw [h1]
        simp only [hd, hr]
        exact ⟨trivial, h2⟩
    · simp at h
  · simp at h

theorem iterS_eq {body : SS → Option (Ex × SS)} {body' : St → Option (Ex × St)} {m : List Nat} {x : Ex} {s' : SS}
    (hb : ∀ (s : SS) (x : Ex) (s' : SS), body s = some (x, s') → Holds s'.ob → body' s.s = some (x, s'.s) ∧ Holds s.ob) :
    ∀ (n : Nat) (s : SS), iterS n body m s = some (x, s') → Holds s'.ob → iter n body' m s.s = some (x, s'.s) ∧ Holds s.ob := by
  intro n
  induction n with
  | zero => intro s h; simp [iterS] at h
  | succ n ih =>
    intro s h hh
    simp only [iterS] at h
    split at h
    · rename_i F H lo os ob hs
      obtain ⟨h1, h2⟩ := ih _ h hh
      obtain ⟨h3, h4⟩ := hb _ _ _ hs h2
      exact ⟨by simp only [iter, h3]; exact h1, h4⟩
    · rename_i hne
      obtain ⟨h1, h2⟩ := hb _ _ _ h hh
      refine ⟨?_, h2⟩
      simp only [iter, h1]
      cases x with
      | normal => obtain ⟨⟨F, H, lo⟩, os, ob⟩ := s'; exact (hne F H lo os ob h).elim
      | exit i => rfl
      | ret => rfl

theorem evCodeS_eq {N : Nat} : ∀ (c : Code) (s : SS) (x : Ex) (s' : SS), evCodeS P X pre C N nt c s = some (x, s') → Holds s'.ob → evCode P X (strict pre C) N nt c s.s = some (x, s'.s) ∧ Holds s.ob := by
  intro c
  induction c with
  | region id ops draw =>
    intro s x s' h hh
    obtain ⟨⟨F, H, lo⟩, os, ob⟩ := s
    simp only [evCodeS] at h
    split at h
    · rename_i s1 hs
      simp only [Option.some.injEq, Prod.mk.injEq] at h
      obtain ⟨rfl, rfl⟩ := h
      cases draw with
      | true =>
        obtain ⟨h1, h2⟩ := evDrawS_eq hs hh
        exact ⟨by simp only [evCode, h1], h2⟩
      | false =>
        obtain ⟨h1, h2⟩ := evOpsS_eq _ _ _ _ _ _ hs hh
        exact ⟨by simp only [evCode, h1], h2⟩
    · simp at h
  | seq a b iha ihb =>
    intro s x s' h hh
    simp only [evCodeS] at h
    split at h
    · rename_i s1 hs
      obtain ⟨h1, h2⟩ := ihb _ _ _ h hh
      obtain ⟨h3, h4⟩ := iha _ _ _ hs h2
      exact ⟨by simp only [evCode, h3]; exact h1, h4⟩
    · rename_i hne
      obtain ⟨h1, h2⟩ := iha _ _ _ h hh
      refine ⟨?_, h2⟩
      simp only [evCode, h1]
      cases x with
      | normal => exact (hne s' h).elim
      | exit i => rfl
      | ret => rfl
  | cond c a b iha ihb =>
    intro s x s' h hh
    obtain ⟨s, os, ob⟩ := s
    simp only [evCodeS] at h
    split at h
    · rename_i b0 hb
      obtain ⟨t, os1, ob1, hk, hob⟩ := ask_eq h
      cases t with
      | true =>
        obtain ⟨h1, h2⟩ := iha _ _ _ hk hh
        obtain ⟨h3, h4⟩ := hob h2
        subst h3
        exact ⟨by simp only [evCode, hb]; exact h1, h4⟩
      | false =>
        obtain ⟨h1, h2⟩ := ihb _ _ _ hk hh
        obtain ⟨h3, h4⟩ := hob h2
        subst h3
        exact ⟨by simp only [evCode, hb]; exact h1, h4⟩
    · simp at h
  | block id b ih =>
    intro s x s' h hh
    simp only [evCodeS] at h
    split at h
    · rename_i i s1 hs
      split at h
      · rename_i hid
        simp only [Option.some.injEq, Prod.mk.injEq] at h
        obtain ⟨rfl, rfl⟩ := h
        obtain ⟨h1, h2⟩ := ih _ _ _ hs hh
        exact ⟨by simp only [evCode, h1]; rw [if_pos hid], h2⟩
      · rename_i hid
        simp only [Option.some.injEq, Prod.mk.injEq] at h
        obtain ⟨rfl, rfl⟩ := h
        obtain ⟨h1, h2⟩ := ih _ _ _ hs hh
        exact ⟨by simp only [evCode, h1]; rw [if_neg hid], h2⟩
    · rename_i hne
      obtain ⟨h1, h2⟩ := ih _ _ _ h hh
      refine ⟨?_, h2⟩
      simp only [evCode, h1]
      cases x with
      | normal => rfl
      | exit i => exact (hne i s' h).elim
      | ret => rfl
  | loop b ih =>
    intro s x s' h hh
    simp only [evCodeS] at h
    obtain ⟨h1, h2⟩ := iterS_eq (body' := evCode P X (strict pre C) N nt b) (fun s x s' h hh => ih s x s' h hh) N s h hh
    exact ⟨by simp only [evCode]; exact h1, h2⟩
  | skip | label | exit | ret =>
    intro s x s' h hh
    simp only [evCodeS, Option.some.injEq, Prod.mk.injEq] at h
    obtain ⟨rfl, rfl⟩ := h
    exact ⟨rfl, hh⟩
  | _ =>
    intro s x s' h
    simp [evCodeS] at h

theorem evFnS_eq {N : Nat} {os : Path} {f : FuncId} {args : List Value} {H : Heap} {r : Value × Heap × Nat} {ob : Obs} (h : evFnS P X N pre C os f args H = some (r, ob)) (hh : Holds ob) : evFn P X N (strict pre C) f args H = some r := by
  unfold evFnS at h
  unfold evFn
  split at h
  case h_2 => simp at h
  rename_i fn hfn
  rw [hfn]
  simp only
  split at h
  case h_2 => simp at h
  rename_i c hb
  rw [hb]
  simp only
  have key : ∀ x s os1 ob1, evCodeS P X pre C N (max args.length fn.ntmps) c ⟨⟨start 0 args, H, H.length⟩, os, []⟩ = some (x, ⟨s, os1, ob1⟩) → (evResults P fn s.F s.H).map (fun v => ((v, s.H, s.lo), ob1)) = some (r, ob) →
      evCode P X (strict pre C) N (max args.length fn.ntmps) c ⟨start 0 args, H, H.length⟩ = some (x, s) ∧ (evResults P fn s.F s.H).map (fun v => (v, s.H, s.lo)) = some r := by
    intro x s os1 ob1 hs hr
    cases hv : evResults P fn s.F s.H with
    | none => simp [hv] at hr
    | some v =>
      simp [hv] at hr
      obtain ⟨rfl, rfl⟩ := hr
      exact ⟨(evCodeS_eq c _ _ _ hs hh).1, rfl⟩
  split at h
  · rename_i s os1 ob1 hs
    obtain ⟨h1, h2⟩ := key _ _ _ _ hs h
    rw [h1]; exact h2
  · rename_i s os1 ob1 hs
    obtain ⟨h1, h2⟩ := key _ _ _ _ hs h
    rw [h1]; exact h2
  · simp at h
end

end Go.Proofs.Ytfbjpenbpbpcaaa.Den
