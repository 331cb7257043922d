/-
  A verified evaluator, thirteenth part: a run along one path: tests whose outcome is not computed are assumed, and told.
-/
import Derived.RangeFuncOwn
import Derived.OrdersIn
import Derived.LoopNIn
import Derived.Scope
import Derived.RangeFuncSeq
import Derived.RangeFuncRecord
import Derived.RangeFuncLeaves
import Derived.KernelRfl
import Derived.Test.YtfbjpenbpbpcaaaZB
namespace Go.Proofs.Ytfbjpenbpbpcaaa.Den
open Go

/-- After so many tests that are computed: one that is assumed. -/
abbrev Path := List (Nat × Bool)
/-- What has been assumed: a test, its outcome. -/
abbrev Obs := List (Bool × Bool)

def Holds (ob : Obs) : Prop := ∀ p ∈ ob, p.1 = p.2

def ask {α : Type} (os : Path) (ob : Obs) (b : Bool) (k : Bool → Path → Obs → Option α) : Option α :=
  match os with
  | [] => match b with
    | true => k true [] ob
    | false => k false [] ob
  | (0, t) :: os => k t os ((b, t) :: ob)
  | (n + 1, t) :: os => match b with
    | true => k true ((n, t) :: os) ob
    | false => k false ((n, t) :: os) ob

structure SS where
  s : St
  os : Path
  ob : Obs

/-- Is it wanted? -/
def wantS {α : Type} (all : List Oper) (F : Slots) (o : Oper) (os : Path) (ob : Obs) (k : Bool → Path → Obs → Option α) : Option α :=
  match o.guard with
  | none => k true os ob
  | some _ => match wantedF all F o with
    | some b => ask os ob b k
    | none => none

/-- A choice between two values that are not both bools. -/
def pickS (F : Slots) (o : Oper) : Option (Bool × Value × Value) :=
  match o.op with
  | .pick c x y => match ev F c, ev F x, ev F y with
    | some (.bool _), some (.bool _), some (.bool _) => none
    | some (.bool b), some u, some w => some (b, u, w)
    | _, _, _ => none
  | _ => none

/-- What a callee asks of its arguments. -/
abbrev Pre := FuncId → List Value → Heap → Bool

/-- The oracle that answers only where what is asked holds. -/
def strict (pre : Pre) (C : Oracle) : Oracle := fun f args H => match pre f args H with
  | true => C f args H
  | false => none

/-- What a call asks: in the empty heap, if it is answered there. -/
def askC (pre : Pre) (C : Oracle) (f : FuncId) (args : List Value) (H : Heap) : Bool :=
  match args.all (pf 3) with
  | true => match C f args [] with
    | some (v, _, _) => match pf 3 v with
      | true => pre f args []
      | false => pre f args [] && pre f args H
    | none => true
  | false => pre f args H

/-- A call of a function: what it asks. -/
def callS (P : Program) (pre : Pre) (C : Oracle) (draw : Bool) (F : Slots) (H : Heap) (o : Oper) : Option Bool :=
  match o.op with
  | .call c => match c.callee with
    | .value f => match ev F f, evs F c.args.toList with
      | some (.func (.func f) a b), some args => match draw || ((P.funcs[f]?).map fun fn => fn.resultTypes.toList.all (flatT P 4)) == some true with
        | true => some (askC pre C f (a.toList ++ args ++ b.toList) H)
        | false => some (pre f (a.toList ++ args ++ b.toList) H)
      | _, _ => none
    | _ => none
  | _ => none

/-- A shift or a division: what must not be, and the value. -/
def divS (F : Slots) (o : Oper) : Option (Bool × Value) :=
  match o.op with
  | .binOp .shl _ x y _ => match ev F x, ev F y with
    | some (.int k a), some (.int _ b) => some (decide (b < 0), .int k (k.wrap (a * 2 ^ (min b.toNat k.bits))))
    | _, _ => none
  | .binOp .shr _ x y _ => match ev F x, ev F y with
    | some (.int k a), some (.int _ b) => some (decide (b < 0), .int k (a.fdiv (2 ^ (min b.toNat k.bits))))
    | _, _ => none
  | .binOp .quo _ x y _ => match ev F x, ev F y with
    | some (.int k a), some (.int k' b) => match eqK k k' with
      | true => some (decide (b = 0), .int k (k.wrap (a.tdiv b)))
      | false => none
    | _, _ => none
  | .binOp .rem _ x y _ => match ev F x, ev F y with
    | some (.int k a), some (.int k' b) => match eqK k k' with
      | true => some (decide (b = 0), .int k (a.tmod b))
      | false => none
    | _, _ => none
  | _ => none

/-! Memory at a place that is not computed: only where 'pre' asks for it, by the number of the operation's first operand. -/

def intAt (cs : List Value) (o : Nat) : Int := match cs[o]? with
  | some (.int _ n) => n
  | _ => 0
def isIntAt (k : IntKind) (cs : List Value) (o : Nat) : Bool := match cs[o]? with
  | some (.int k' _) => eqK k k'
  | _ => false
def boolAt (cs : List Value) (o : Nat) : Bool := match cs[o]? with
  | some (.bool b) => b
  | _ => false
def isBoolAt (cs : List Value) (o : Nat) : Bool := match cs[o]? with
  | some (.bool _) => true
  | _ => false
def byteAt (s : ByteArray) (o : Nat) : Int := match s[o]? with
  | some b => b.toNat
  | none => 0

def symKey (o : Oper) : Int := match o.op with
  | .call c => match c.args.toList with
    | [_, .tmp x] => x
    | _ => -1
  | _ => match o.op.operands.toList with
    | .tmp x :: _ => x
    | _ => -1

def symS (P : Program) (pre : Pre) (F : Slots) (H : Heap) (lo : Nat) (o : Oper) : Option (Bool × Out) :=
  match pre 1000000 [.int .i64 (symKey o)] [] with
  | true => none
  | false => match o.op with
    | .indexAddr t x i => match ev F x, ev F i, P.underlying t with
      | some (.pointer (some ⟨b, off, none⟩)), some (.int _ i), some (.array len e) => match sizeT P e with
        | some 1 => some (decide (0 ≤ i ∧ i < len), ⟨.pointer (some ⟨b, off + i.toNat, none⟩), H, lo, .pure⟩)
        | some n => some (decide (0 ≤ i ∧ i < len), ⟨.pointer (some ⟨b, off + i.toNat * n, none⟩), H, lo, .pure⟩)
        | none => none
      | some (.slice (some ⟨b, off, none⟩) len _), some (.int _ i), some (.slice e) => match sizeT P e with
        | some 1 => some (decide (0 ≤ i ∧ i < len), ⟨.pointer (some ⟨b, off + i.toNat, none⟩), H, lo, .pure⟩)
        | some n => some (decide (0 ≤ i ∧ i < len), ⟨.pointer (some ⟨b, off + i.toNat * n, none⟩), H, lo, .pure⟩)
        | none => none
      | _, _, _ => none
    | .load t x => match ev F x, P.underlying t with
      | some (.pointer (some a)), some (.int k) => match a.spot, H[a.block]? with
        | none, some b => some (isIntAt k b.cells a.off, ⟨.int k (intAt b.cells a.off), H, lo, .read⟩)
        | _, _ => none
      | some (.pointer (some a)), some .bool => match a.spot, H[a.block]? with
        | none, some b => some (isBoolAt b.cells a.off, ⟨.bool (boolAt b.cells a.off), H, lo, .read⟩)
        | _, _ => none
      | some (.pointer (some a)), some (.array n e) => match P.underlying e, sizeT P t with
        | some (.int k), some m => match a.spot, H[a.block]? with
          | none, some b => some (Nat.beq m n && (Nat.blt 0 n && (List.range n).all fun j => isIntAt k b.cells (a.off + j)), ⟨.agg ((List.range n).map fun j => .int k (intAt b.cells (a.off + j))).toArray, H, lo, .read⟩)
          | _, _ => none
        | _, _ => none
      | _, _ => none
    | .store t x y => match ev F x, ev F y, sizeT P t with
      | some (.pointer (some a)), some (.int k n), some 1 => match a.spot, H[a.block]? with
        | none, some b => some (b.own && decide (a.off + 1 ≤ b.cells.length), ⟨undef, H.set a.block { b with cells := splice b.cells a.off [.int k n] }, min lo a.block, .write⟩)
        | _, _ => none
      | some (.pointer (some a)), some (.bool n), some 1 => match a.spot, H[a.block]? with
        | none, some b => some (b.own && decide (a.off + 1 ≤ b.cells.length), ⟨undef, H.set a.block { b with cells := splice b.cells a.off [.bool n] }, min lo a.block, .write⟩)
        | _, _ => none
      | some (.pointer (some a)), some (.agg cs), some n => match Nat.beq cs.size n && cs.toList.all oneCell with
        | true => match a.spot, H[a.block]? with
          | none, some b => some (b.own && decide (a.off + n ≤ b.cells.length), ⟨undef, H.set a.block { b with cells := splice b.cells a.off cs.toList }, min lo a.block, .write⟩)
          | _, _ => none
        | false => none
      | _, _, _ => none
    | .index t x i => match ev F x, ev F i, P.underlying t with
      | some (.agg cs), some (.int _ i), some (.array len e) => match sizeT P e, P.underlying e with
        | some n, some (.int k) => some (decide (0 ≤ i ∧ i < len) && isIntAt k cs.toList (i.toNat * n), ⟨.int k (intAt cs.toList (i.toNat * n)), H, lo, .pure⟩)
        | some n, some .bool => some (decide (0 ≤ i ∧ i < len) && isBoolAt cs.toList (i.toNat * n), ⟨.bool (boolAt cs.toList (i.toNat * n)), H, lo, .pure⟩)
        | _, _ => none
      | some (.string s), some (.int _ i), some .string => some (decide (0 ≤ i ∧ i < s.size), ⟨.int .u8 (byteAt s i.toNat), H, lo, .pure⟩)
      | _, _, _ => none
    | .call c => match c.callee with
      | .builtin .append => appS false P F H lo c
      | _ => none
    | _ => none

/-- A value by another text for the same number: where 'pre' tells that there are such names, by the slot that it goes into. -/
def nameS {α : Type} (pre : Pre) (C : Oracle) (o : Oper) (r : Out) (os : Path) (ob : Obs) (k : Out → Path → Obs → Option α) : Option α :=
  match pre 1000001 [] [] with
  | true => k r os ob
  | false => match o.dst with
    | none => k r os ob
    | some t => match C 1000001 [.int .i64 t] [] with
      | some (.int _ y, _, _) => match r.v with
        | .int kd n => k ⟨.int kd y, r.H, r.lo, r.eff⟩ os ((decide (n = y), true) :: ob)
        | _ => k r os ob
      | some (.bool y, _, _) => match r.v with
        | .bool b => k ⟨.bool y, r.H, r.lo, r.eff⟩ os ((b, y) :: ob)
        | _ => k r os ob
      | _ => k r os ob

theorem nameS_eq {α : Type} {pre : Pre} {C : Oracle} {o : Oper} {r : Out} {os : Path} {ob : Obs} {k : Out → Path → Obs → Option α} {x : α} (h : nameS pre C o r os ob k = some x) :
    ∃ r' os' ob', k r' os' ob' = some x ∧ (Holds ob' → r' = r ∧ Holds ob) := by
  unfold nameS at h
  split at h
  · exact ⟨r, os, ob, h, fun hh => ⟨rfl, hh⟩⟩
  · split at h
    · exact ⟨r, os, ob, h, fun hh => ⟨rfl, hh⟩⟩
    · split at h
      · split at h
        · rename_i y _ _ _ _ kd n hv
          refine ⟨_, _, _, h, fun hh => ⟨?_, fun p hp => hh p (by simp [hp])⟩⟩
          have e : n = y := by simpa using hh (decide (n = y), true) (by simp)
          subst e
          obtain ⟨v, H, lo, eff⟩ := r
          simp only at hv
          rw [hv]
        · exact ⟨r, os, ob, h, fun hh => ⟨rfl, hh⟩⟩
      · split at h
        · rename_i y _ _ _ _ b hv
          refine ⟨_, _, _, h, fun hh => ⟨?_, fun p hp => hh p (by simp [hp])⟩⟩
          have e : b = y := hh (b, y) (by simp)
          subst e
          obtain ⟨v, H, lo, eff⟩ := r
          simp only at hv
          rw [hv]
        · exact ⟨r, os, ob, h, fun hh => ⟨rfl, hh⟩⟩
      · exact ⟨r, os, ob, h, fun hh => ⟨rfl, hh⟩⟩

def opS0 {α : Type} (P : Program) (X : Ext) (pre : Pre) (C : Oracle) (draw : Bool) (F : Slots) (H : Heap) (lo : Nat) (o : Oper) (os : Path) (ob : Obs) (k : Out → Path → Obs → Option α) : Option α :=
  match pickS F o with
  | some (b, u, w) => ask os ob b fun t os ob => k ⟨bif t then u else w, H, lo, .pure⟩ os ob
  | none => match divS F o with
    | some (b, v) => ask os ob b fun t os ob => match t with
      | true => none
      | false => k ⟨v, H, lo, .pure⟩ os ob
    | none => match callS P pre C draw F H o with
      | some b => ask os ob b fun t os ob => match t with
        | true => match evOp P X C draw F H lo o with
          | some r => k r os ob
          | none => none
        | false => none
      | none => match symS P pre F H lo o with
        | some (b, r) => ask os ob b fun t os ob => match t with
          | true => k r os ob
          | false => none
        | none => match evOp P X C draw F H lo o with
          | some r => k r os ob
          | none => none

def opS {α : Type} (P : Program) (X : Ext) (pre : Pre) (C : Oracle) (draw : Bool) (F : Slots) (H : Heap) (lo : Nat) (o : Oper) (os : Path) (ob : Obs) (k : Out → Path → Obs → Option α) : Option α :=
  opS0 P X pre C draw F H lo o os ob fun r os ob => nameS pre C o r os ob k

def evOpsS (P : Program) (X : Ext) (pre : Pre) (C : Oracle) (nt : Nat) (all : List Oper) : List Oper → Slots → Heap → Nat → Path → Obs → Option SS
  | [], F, H, lo, os, ob => some ⟨⟨F, H, lo⟩, os, ob⟩
  | o :: rest, F, H, lo, os, ob => wantS all F o os ob fun t os ob => match t with
    | true => opS P X pre C false F H lo o os ob fun r os ob => evOpsS P X pre C nt all rest (putF nt F o.dst r.v) r.H r.lo os ob
    | false => evOpsS P X pre C nt all rest (putF nt F o.dst undef) H lo os ob

def evRecsS (P : Program) (X : Ext) (pre : Pre) (C : Oracle) (nt : Nat) (all : List Oper) : List Oper → Nat → Nat → Slots → Heap → Nat → Path → Obs → Option (List Rec × Slots × Path × Obs)
  | [], _, _, F, _, _, os, ob => some ([], F, os, ob)
  | o :: rest, n, ws, F, H, lo, os, ob => wantS all F o os ob fun t os ob => match t with
    | true => opS P X pre C true F H lo o os ob fun r os ob => match adjust all o n ws H r with
      | ⟨v, eff, H', lo'⟩ => match evRecsS P X pre C nt all rest (n + 1) (nextWs eff n ws) (putF nt F o.dst v) H' lo' os ob with
        | some (rs, F) => some (⟨v, eff, H', lo'⟩ :: rs, F)
        | none => none
    | false => match evRecsS P X pre C nt all rest (n + 1) ws (putF nt F o.dst undef) H lo os ob with
      | some (rs, F) => some (⟨undef, .pure, H, lo⟩ :: rs, F)
      | none => none

def evDrawS (P : Program) (X : Ext) (pre : Pre) (C : Oracle) (nt : Nat) (ops : List Oper) (F : Slots) (H : Heap) (lo : Nat) (os : Path) (ob : Obs) : Option SS :=
  match evRecsS P X pre C nt ops ops 0 0 F H lo os ob with
  | some (rs, F, os, ob) => match dynOk (masks ops) rs with
    | true => match rs.getLast? with
      | some r => some ⟨⟨F, r.H, r.lo⟩, os, ob⟩
      | none => some ⟨⟨F, H, lo⟩, os, ob⟩
    | false => none
  | none => none

def iterS : Nat → (SS → Option (Ex × SS)) → List Nat → SS → Option (Ex × SS)
  | 0, _, _, _ => none
  | n + 1, body, m, s => match body s with
    | some (.normal, ⟨⟨F, H, lo⟩, os, ob⟩) => iterS n body m ⟨⟨forget F m, H, lo⟩, os, ob⟩
    | r => r

def evCodeS (P : Program) (X : Ext) (pre : Pre) (C : Oracle) (N nt : Nat) : Code → SS → Option (Ex × SS)
  | .skip, s => some (.normal, s)
  | .label _, s => some (.normal, s)
  | .region _ ops draw, ⟨⟨F, H, lo⟩, os, ob⟩ =>
    match (match draw with
      | true => evDrawS P X pre C nt ops.toList F H lo os ob
      | false => evOpsS P X pre C nt ops.toList ops.toList F H lo os ob) with
    | some s => some (.normal, s)
    | none => none
  | .seq a b, s => match evCodeS P X pre C N nt a s with
    | some (.normal, s) => evCodeS P X pre C N nt b s
    | r => r
  | .cond c x y, ⟨s, os, ob⟩ => match ev s.F c with
    | some (.bool b) => ask os ob b fun t os ob => match t with
      | true => evCodeS P X pre C N nt x ⟨s, os, ob⟩
      | false => evCodeS P X pre C N nt y ⟨s, os, ob⟩
    | _ => none
  | .block id b, s => match evCodeS P X pre C N nt b s with
    | some (.exit i, s) => if i = id then some (.normal, s) else some (.exit i, s)
    | r => r
  | .loop b, s => iterS N (evCodeS P X pre C N nt b) (keysOf s.s.F) s
  | .exit id, s => some (.exit id, s)
  | .ret, s => some (.ret, s)
  | _, _ => none

/-- One function, along a path. -/
def evFnS (P : Program) (X : Ext) (N : Nat) (pre : Pre) (C : Oracle) (os : Path) (f : FuncId) (args : List Value) (H : Heap) : Option ((Value × Heap × Nat) × Obs) :=
  match P.funcs[f]? with
  | some fn => match fn.body with
    | some c => match evCodeS P X pre C N (max args.length fn.ntmps) c ⟨⟨start 0 args, H, H.length⟩, os, []⟩ with
      | some (.normal, ⟨s, _, ob⟩) | some (.ret, ⟨s, _, ob⟩) => (evResults P fn s.F s.H).map fun v => ((v, s.H, s.lo), ob)
      | _ => none
    | none => none
  | none => none

theorem ask_eq {α : Type} {os : Path} {ob : Obs} {b : Bool} {k : Bool → Path → Obs → Option α} {r : α} (h : ask os ob b k = some r) :
    ∃ t os' ob', k t os' ob' = some r ∧ (Holds ob' → b = t ∧ Holds ob) := by
  unfold ask at h
  split at h
  · split at h
    · exact ⟨_, _, _, h, fun hh => ⟨rfl, hh⟩⟩
    · exact ⟨_, _, _, h, fun hh => ⟨rfl, hh⟩⟩
  · exact ⟨_, _, _, h, fun hh => ⟨hh (b, _) (by simp), fun p hp => hh p (by simp [hp])⟩⟩
  · split at h
    · exact ⟨_, _, _, h, fun hh => ⟨rfl, hh⟩⟩
    · exact ⟨_, _, _, h, fun hh => ⟨rfl, hh⟩⟩

section
variable {P : Program} {X : Ext} {pre : Pre} {C : Oracle} {nt : Nat}

theorem wantS_eq {α : Type} {all : List Oper} {F : Slots} {o : Oper} {os : Path} {ob : Obs} {k : Bool → Path → Obs → Option α} {r : α} (h : wantS all F o os ob k = some r) :
    ∃ t os' ob', k t os' ob' = some r ∧ (Holds ob' → wantedF all F o = some t ∧ Holds ob) := by
  unfold wantS at h
  split at h
  · rename_i hg
    exact ⟨_, _, _, h, fun hh => ⟨by unfold wantedF; rw [hg], hh⟩⟩
  · split at h
    · rename_i b hb
      obtain ⟨t, os', ob', hk, hob⟩ := ask_eq h
      exact ⟨t, os', ob', hk, fun hh => ⟨by rw [hb, (hob hh).1], (hob hh).2⟩⟩
    · simp at h

theorem pickS_eq {draw : Bool} {F : Slots} {H : Heap} {lo : Nat} {o : Oper} {b : Bool} {u w : Value} (h : pickS F o = some (b, u, w)) : evOp P X (strict pre C) draw F H lo o = some ⟨bif b then u else w, H, lo, .pure⟩ := by
  unfold pickS at h
  split at h
  · rename_i c x y hop
    simp only [evOp, hop]
    split at h
    · simp at h
    · rename_i b0 u0 w0 hno hc hx hy
      simp only [Option.some.injEq, Prod.mk.injEq] at h
      obtain ⟨rfl, rfl, rfl⟩ := h
      rw [hc, hx, hy]
      cases u0 <;> cases w0 <;> first | rfl | exact (hno _ _ _ rfl rfl rfl).elim | exact (hno _ _ rfl rfl).elim | exact (hno _ _ _ rfl rfl).elim
    · simp at h
  · simp at h

theorem divS_eq {draw : Bool} {F : Slots} {H : Heap} {lo : Nat} {o : Oper} {b : Bool} {v : Value} (h : divS F o = some (b, v)) (hb : b = false) : evOp P X (strict pre C) draw F H lo o = some ⟨v, H, lo, .pure⟩ := by
  subst hb
  unfold divS at h
  split at h
  · rename_i hop
    split at h
    · rename_i hx hy
      simp only [Option.some.injEq, Prod.mk.injEq, decide_eq_false_iff_not] at h
      simp only [evOp, hop, hx, hy, fastBin]
      rw [if_neg h.1, h.2]
    · simp at h
  · rename_i hop
    split at h
    · rename_i hx hy
      simp only [Option.some.injEq, Prod.mk.injEq, decide_eq_false_iff_not] at h
      simp only [evOp, hop, hx, hy, fastBin]
      rw [if_neg h.1, h.2]
    · simp at h
  · rename_i hop
    split at h
    · rename_i hx hy
      split at h
      · rename_i hk
        simp only [Option.some.injEq, Prod.mk.injEq, decide_eq_false_iff_not] at h
        simp only [evOp, hop, hx, hy, fastBin, hk]
        rw [if_neg h.1, h.2]
      · simp at h
    · simp at h
  · rename_i hop
    split at h
    · rename_i hx hy
      split at h
      · rename_i hk
        simp only [Option.some.injEq, Prod.mk.injEq, decide_eq_false_iff_not] at h
        simp only [evOp, hop, hx, hy, fastBin, hk]
        rw [if_neg h.1, h.2]
      · simp at h
    · simp at h
  · simp at h

theorem strict_at {f : FuncId} {args : List Value} {H : Heap} (h : pre f args H = true) : strict pre C f args H = C f args H := by simp only [strict, h]

theorem evCall0_strict {f : FuncId} {args : List Value} {H : Heap} {lo : Nat} (h : askC pre C f args H = true) : evCall0 (strict pre C) f args H lo = evCall0 C f args H lo := by
  unfold askC at h
  unfold evCall0
  split at h
  · rename_i hp
    rw [if_pos hp, if_pos hp]
    split at h
    · rename_i v H1 l hc
      split at h
      · rename_i hv
        rw [strict_at h, hc]
        simp only [hv, if_true]
      · rename_i hv
        rw [Bool.and_eq_true] at h
        have e : evCall (strict pre C) f args H lo = evCall C f args H lo := by unfold evCall; rw [strict_at h.2]
        rw [strict_at h.1, hc]
        simp only [hv, e]
    · rename_i hc
      rw [hc]
      have : strict pre C f args [] = none := by
        unfold strict
        split
        · exact hc
        · rfl
      rw [this]
  · rename_i hp
    rw [if_neg (by simp [hp]), if_neg (by simp [hp])]
    unfold evCall
    rw [strict_at h]

theorem callS_eq {draw : Bool} {F : Slots} {H : Heap} {lo : Nat} {o : Oper} (h : callS P pre C draw F H o = some true) : evOp P X (strict pre C) draw F H lo o = evOp P X C draw F H lo o := by
  obtain ⟨dst, op, type, pos, after, guard⟩ := o
  cases op with
  | call c =>
    obtain ⟨callee, cargs, cats⟩ := c
    cases callee with
    | value fx =>
      simp only [callS] at h
      split at h
      · rename_i f a b args hf hargs
        simp only [evOp, hf, hargs]
        cases hfn : P.funcs[f]? with
        | none => rfl
        | some fn =>
          cases hb : fn.body with
          | none => simp only [hb]
          | some c =>
            simp only [hfn] at h
            split at h
            · rename_i hd
              simp only [Option.some.injEq] at h
              have hd' : (draw || fn.resultTypes.toList.all (flatT P 4)) = true := by simpa using hd
              simp only [hb, hd', evCall0_strict h]
            · rename_i hd
              simp only [Option.some.injEq] at h
              have hd' : (draw || fn.resultTypes.toList.all (flatT P 4)) = false := by simpa using hd
              simp only [hb, hd', evCall, strict_at h]
      · simp at h
    | _ => simp [callS] at h
  | _ => simp [callS] at h

theorem callS_none {draw : Bool} {F : Slots} {H : Heap} {lo : Nat} {o : Oper} (h : callS P pre C draw F H o = none) : evOp P X (strict pre C) draw F H lo o = evOp P X C draw F H lo o := by
  obtain ⟨dst, op, type, pos, after, guard⟩ := o
  cases op with
  | call c =>
    obtain ⟨callee, cargs, cats⟩ := c
    cases callee with
    | value fx =>
      simp only [callS] at h
      split at h
      · split at h <;> simp at h
      · simp only [evOp]
    | builtin b => cases b <;> rfl
    | invoke r m => rfl
  | slice t x l hi m => cases m <;> rfl
  | _ => rfl

theorem isAggT_int {P : Program} {t : TypeId} {k : IntKind} (h : P.underlying t = some (.int k)) : isAggT P t = some false := by simp [isAggT, h]
theorem isAggT_bool {P : Program} {t : TypeId} (h : P.underlying t = some .bool) : isAggT P t = some false := by simp [isAggT, h]

theorem isIntAt_eq {k : IntKind} {cs : List Value} {o : Nat} (h : isIntAt k cs o = true) : cs[o]? = some (.int k (intAt cs o)) := by
  unfold isIntAt at h
  unfold intAt
  split at h
  · rename_i k' n hc
    rw [hc, eqK_eq h]
  · simp at h

theorem isBoolAt_eq {cs : List Value} {o : Nat} (h : isBoolAt cs o = true) : cs[o]? = some (.bool (boolAt cs o)) := by
  unfold isBoolAt at h
  unfold boolAt
  split at h
  · rename_i b hc
    rw [hc]
  · simp at h

theorem rd_one {H : Heap} {a : Addr} {b : Blk} {v : Value} (hs : a.spot = none) (hb : H[a.block]? = some b) (hv : b.cells[a.off]? = some v) : rd H a 1 = some [v] := by
  unfold rd
  rw [hs, hb]
  obtain ⟨hlt, he⟩ := List.getElem?_eq_some_iff.1 hv
  simp only
  rw [if_pos (by omega), List.drop_eq_getElem_cons hlt, he]
  rfl

theorem rd_ints {H : Heap} {a : Addr} {b : Blk} {k : IntKind} {n : Nat} (hs : a.spot = none) (hb : H[a.block]? = some b) (h0 : 0 < n) (hv : ((List.range n).all fun j => isIntAt k b.cells (a.off + j)) = true) :
    rd H a n = some ((List.range n).map fun j => .int k (intAt b.cells (a.off + j))) := by
  have key : ∀ j, j < n → b.cells[a.off + j]? = some (.int k (intAt b.cells (a.off + j))) := fun j hj => isIntAt_eq (List.all_eq_true.1 hv j (List.mem_range.2 hj))
  have hlen : a.off + n ≤ b.cells.length := by
    have := (List.getElem?_eq_some_iff.1 (key (n - 1) (by omega))).1
    omega
  unfold rd
  rw [hs, hb]
  simp only
  rw [if_pos hlen]
  congr 1
  apply List.ext_getElem?
  intro j
  by_cases hj : j < n
  · rw [List.getElem?_take_of_lt hj, List.getElem?_drop, key j hj, List.getElem?_map, List.getElem?_range hj]
    rfl
  · rw [List.getElem?_eq_none (by simp; omega), List.getElem?_eq_none (by simp; omega)]

theorem pureRun_bind {P : Program} {α β : Type} (s : Sem α) (k : α → Sem β) : pureRun P (s.bind k) = (pureRun P s).bind fun x => pureRun P (k x) := by
  induction s with
  | pure a => simp [Sem.bind, pureRun]
  | program k ih => simp [Sem.bind, pureRun, ih]
  | mark m k ih => simp [Sem.bind, pureRun, ih]
  | _ => simp [Sem.bind, pureRun]

theorem add_none (b off n : Nat) : (⟨b, off, none⟩ : Addr).add n = ⟨b, off + n, none⟩ := by
  unfold Addr.add
  split
  · rename_i h; rw [h]; rfl
  · rfl

theorem symS_eq {draw : Bool} {F : Slots} {H : Heap} {lo : Nat} {o : Oper} {r : Out} (h : symS P pre F H lo o = some (true, r)) : evOp P X (strict pre C) draw F H lo o = some r := by
  unfold symS at h
  split at h
  · simp at h
  split at h
  · rename_i t x i hop
    simp only [evOp, hop]
    split at h
    · rename_i b off k n len e hx hi ht
      split at h
      · rename_i hsz
        simp only [Option.some.injEq, Prod.mk.injEq, decide_eq_true_eq] at h
        obtain ⟨h1, rfl⟩ := h
        rw [hx, hi, ht]
        simp only [hsz]
        rw [if_pos h1, add_none, Nat.mul_one]
      · rename_i sz _ hsz
        simp only [Option.some.injEq, Prod.mk.injEq, decide_eq_true_eq] at h
        obtain ⟨h1, rfl⟩ := h
        rw [hx, hi, ht]
        simp only [hsz]
        rw [if_pos h1, add_none]
      · simp at h
    · rename_i b off len c k n e hx hi ht
      split at h
      · rename_i hsz
        simp only [Option.some.injEq, Prod.mk.injEq, decide_eq_true_eq] at h
        obtain ⟨h1, rfl⟩ := h
        rw [hx, hi, ht]
        simp only [hsz]
        rw [if_pos h1, add_none, Nat.mul_one]
      · rename_i sz _ hsz
        simp only [Option.some.injEq, Prod.mk.injEq, decide_eq_true_eq] at h
        obtain ⟨h1, rfl⟩ := h
        rw [hx, hi, ht]
        simp only [hsz]
        rw [if_pos h1, add_none]
      · simp at h
    · simp at h
  · rename_i t x hop
    simp only [evOp, hop]
    split at h
    · rename_i a k hx ht
      split at h
      · rename_i b hs hb
        simp only [Option.some.injEq, Prod.mk.injEq] at h
        obtain ⟨h1, rfl⟩ := h
        rw [hx]
        simp only [loadV, isAggT_int ht, rd_one hs hb (isIntAt_eq h1), oneCell, Option.map_some]
      · simp at h
    · rename_i a hx ht
      split at h
      · rename_i b hs hb
        simp only [Option.some.injEq, Prod.mk.injEq] at h
        obtain ⟨h1, rfl⟩ := h
        rw [hx]
        simp only [loadV, isAggT_bool ht, rd_one hs hb (isBoolAt_eq h1), oneCell, Option.map_some]
      · simp at h
    · rename_i a n e hx ht
      split at h
      · rename_i k m hk hm
        split at h
        · rename_i b hs hb
          simp only [Option.some.injEq, Prod.mk.injEq, Bool.and_eq_true] at h
          obtain ⟨⟨h1, h2, h3⟩, rfl⟩ := h
          have h1 := Nat.eq_of_beq_eq_true h1
          subst h1
          have h2 : 0 < m := by simpa [Nat.blt_eq] using h2
          rw [hx]
          have hagg : isAggT P t = some true := by simp [isAggT, ht]
          simp only [loadV, hagg, hm, rd_ints hs hb h2 h3, Option.map_some]
        · simp at h
      · simp at h
    · simp at h
  · rename_i t x y hop
    simp only [evOp, hop]
    split at h
    · rename_i a k n hx hy ht
      split at h
      · rename_i b hs hb
        simp only [Option.some.injEq, Prod.mk.injEq, Bool.and_eq_true, decide_eq_true_eq] at h
        obtain ⟨⟨h1, h2⟩, rfl⟩ := h
        rw [hx, hy]
        simp [storeV, ht, wr, hs, hb, Value.cells, h1, h2, oneCell]
      · simp at h
    · rename_i a n hx hy ht
      split at h
      · rename_i b hs hb
        simp only [Option.some.injEq, Prod.mk.injEq, Bool.and_eq_true, decide_eq_true_eq] at h
        obtain ⟨⟨h1, h2⟩, rfl⟩ := h
        rw [hx, hy]
        simp [storeV, ht, wr, hs, hb, Value.cells, h1, h2, oneCell]
      · simp at h
    · rename_i a cs n hx hy ht
      split at h
      · rename_i hc
        simp only [Bool.and_eq_true] at hc
        obtain ⟨c1, c2⟩ := hc
        have c1 := Nat.eq_of_beq_eq_true c1
        split at h
        · rename_i b hs hb
          simp only [Option.some.injEq, Prod.mk.injEq, Bool.and_eq_true, decide_eq_true_eq] at h
          obtain ⟨⟨h1, h2⟩, rfl⟩ := h
          rw [hx, hy]
          subst c1
          have c3 : ∀ x ∈ cs.toList, oneCell x = true := List.all_eq_true.1 c2
          simp only [storeV, ht, wr, forceL_eq, hs, hb, Value.cells, if_true, Array.length_toList, h1, h2, decide_true, c2, Bool.and_self, Option.map_some]
        · simp at h
      · simp at h
    · simp at h
  · rename_i t x i hop
    simp only [evOp, hop]
    split at h
    · rename_i cs k n len e hx hi ht
      split at h
      · rename_i sz k' hsz he
        simp only [Option.some.injEq, Prod.mk.injEq, Bool.and_eq_true, decide_eq_true_eq] at h
        obtain ⟨⟨h1, h2⟩, rfl⟩ := h
        rw [hx, hi, ht]
        simp only [hsz]
        rw [if_pos h1]
        simp only [partV, isAggT_int he, isIntAt_eq h2, Option.map_some]
      · rename_i sz hsz he
        simp only [Option.some.injEq, Prod.mk.injEq, Bool.and_eq_true, decide_eq_true_eq] at h
        obtain ⟨⟨h1, h2⟩, rfl⟩ := h
        rw [hx, hi, ht]
        simp only [hsz]
        rw [if_pos h1]
        simp only [partV, isAggT_bool he, isBoolAt_eq h2, Option.map_some]
      · simp at h
    · rename_i s k n hx hi ht
      simp only [Option.some.injEq, Prod.mk.injEq, decide_eq_true_eq] at h
      obtain ⟨h1, rfl⟩ := h
      rw [hx, hi, ht]
      have hflat : allFlat F o.op.operands.toList = true := by
        rw [hop]
        simp [allFlat, Op.operands, hx, hi, pf, isFlat]
      have hlt : n.toNat < s.size := by omega
      have hb : s[n.toNat]? = some s[n.toNat] := by simp [hlt]
      have hp : pureRun P (execOp (look F) o) = some (.value (.int .u8 (byteAt s n.toNat))) := by
        simp only [hop, execOp, Instr.index, asIntOf, look, hx, hi, Option.getD_some, bind, pureRun_bind]
        have e1 : pureRun P program = some P := rfl
        simp only [pure, pureRun, Option.bind_some, underlying, pureRun_bind, bind, e1, ht]
        simp [h1.1, hb, byteAt, pureRun]
      simp [evFlat, hflat, hp, pf, isFlat]
    · simp at h
  · rename_i c hop
    split at h
    · rename_i hcal
      rw [appS_fl (fl' := true)] at h
      simp only [evOp, hop, hcal, h]
    · simp at h
  · simp at h

theorem opS0_eq {α : Type} {draw : Bool} {F : Slots} {H : Heap} {lo : Nat} {o : Oper} {os : Path} {ob : Obs} {k : Out → Path → Obs → Option α} {r : α} (h : opS0 P X pre C draw F H lo o os ob k = some r) :
    ∃ out os' ob', k out os' ob' = some r ∧ (Holds ob' → evOp P X (strict pre C) draw F H lo o = some out ∧ Holds ob) := by
  unfold opS0 at h
  split at h
  · rename_i b u w hp
    obtain ⟨t, os', ob', hk, hob⟩ := ask_eq h
    exact ⟨_, os', ob', hk, fun hh => ⟨by rw [pickS_eq hp, (hob hh).1], (hob hh).2⟩⟩
  · split at h
    · rename_i b v hd
      obtain ⟨t, os', ob', hk, hob⟩ := ask_eq h
      cases t with
      | true => simp at hk
      | false => exact ⟨_, os', ob', hk, fun hh => ⟨divS_eq hd (hob hh).1, (hob hh).2⟩⟩
    · split at h
      · rename_i b hc
        obtain ⟨t, os', ob', hk, hob⟩ := ask_eq h
        cases t with
        | false => simp at hk
        | true =>
          simp only at hk
          split at hk
          · rename_i out ho
            exact ⟨out, os', ob', hk, fun hh => ⟨by rw [callS_eq (by rw [hc, (hob hh).1])]; exact ho, (hob hh).2⟩⟩
          · simp at hk
      · rename_i hc
        split at h
        · rename_i b out hs
          obtain ⟨t, os', ob', hk, hob⟩ := ask_eq h
          cases t with
          | false => simp at hk
          | true => exact ⟨out, os', ob', hk, fun hh => ⟨symS_eq (by rw [hs, (hob hh).1]), (hob hh).2⟩⟩
        · split at h
          · rename_i out ho
            exact ⟨out, os, ob, h, fun hh => ⟨by rw [callS_none hc]; exact ho, hh⟩⟩
          · simp at h

theorem opS_eq {α : Type} {draw : Bool} {F : Slots} {H : Heap} {lo : Nat} {o : Oper} {os : Path} {ob : Obs} {k : Out → Path → Obs → Option α} {r : α} (h : opS P X pre C draw F H lo o os ob k = some r) :
    ∃ out os' ob', k out os' ob' = some r ∧ (Holds ob' → evOp P X (strict pre C) draw F H lo o = some out ∧ Holds ob) := by
  unfold opS at h
  obtain ⟨out, os1, ob1, hk, hob⟩ := opS0_eq h
  obtain ⟨out2, os2, ob2, hk2, hob2⟩ := nameS_eq hk
  refine ⟨out2, os2, ob2, hk2, fun hh => ?_⟩
  obtain ⟨e, h1⟩ := hob2 hh
  subst e
  exact hob h1

theorem evOpsS_eq {all : List Oper} {s' : SS} : ∀ (rest : List Oper) (F : Slots) (H : Heap) (lo : Nat) (os : Path) (ob : Obs), evOpsS P X pre C nt all rest F H lo os ob = some s' →
    Holds s'.ob → evOps P X (strict pre C) nt all rest F H lo = some (s'.s.F, s'.s.H, s'.s.lo) ∧ Holds ob := by
  intro rest
  induction rest with
  | nil =>
    intro F H lo os ob h hh
    simp only [evOpsS, Option.some.injEq] at h
    subst h
    exact ⟨rfl, hh⟩
  | cons o rest ih =>
    intro F H lo os ob h hh
    simp only [evOpsS] at h
    obtain ⟨t, os1, ob1, hk, hob⟩ := wantS_eq h
    cases t with
    | true =>
      obtain ⟨out, os2, ob2, hk2, hob2⟩ := opS_eq hk
      obtain ⟨h1, h2⟩ := ih _ _ _ _ _ hk2 hh
      obtain ⟨h3, h4⟩ := hob2 h2
      obtain ⟨h5, h6⟩ := hob h4
      exact ⟨by simp only [evOps, h5, h3]; exact h1, h6⟩
    | false =>
      obtain ⟨h1, h2⟩ := ih _ _ _ _ _ hk hh
      obtain ⟨h5, h6⟩ := hob h2
      exact ⟨by simp only [evOps, h5]; exact h1, h6⟩

theorem evRecsS_eq {all : List Oper} : ∀ (rest : List Oper) (n ws : Nat) (F : Slots) (H : Heap) (lo : Nat) (os : Path) (ob : Obs) (rs : List Rec) (F' : Slots) (os' : Path) (ob' : Obs), evRecsS P X pre C nt all rest n ws F H lo os ob = some (rs, F', os', ob') →
    Holds ob' → evRecs P X (strict pre C) nt all rest n ws F H lo = some (rs, F') ∧ Holds ob := by
  intro rest
  induction rest with
  | nil =>
    intro n ws F H lo os ob rs F' os' ob' h hh
    simp only [evRecsS, Option.some.injEq, Prod.mk.injEq] at h
    obtain ⟨rfl, rfl, rfl, rfl⟩ := h
    exact ⟨rfl, hh⟩
  | cons o rest ih =>
    intro n ws F H lo os ob rs F' os' ob' h hh
    simp only [evRecsS] at h
    obtain ⟨t, os1, ob1, hk, hob⟩ := wantS_eq h
    cases t with
    | true =>
      obtain ⟨r, os2, ob2, hk2, hob2⟩ := opS_eq hk
      cases hadj : adjust all o n ws H r with
      | mk v eff H' lo' =>
      rw [hadj] at hk2
      simp only at hk2
      split at hk2
      · rename_i rs2 q2 hrec
        obtain ⟨F2, os3, ob3⟩ := q2
        simp only [Option.some.injEq, Prod.mk.injEq] at hk2
        obtain ⟨rfl, rfl, rfl, rfl⟩ := hk2
        obtain ⟨h1, h2⟩ := ih _ _ _ _ _ _ _ _ _ _ _ hrec hh
        obtain ⟨h3, h4⟩ := hob2 h2
        obtain ⟨h5, h6⟩ := hob h4
        exact ⟨by simp only [evRecs, h5, h3, hadj, h1], h6⟩
      · simp at hk2
    | false =>
      simp only at hk
      split at hk
      · rename_i rs2 q2 hrec
        obtain ⟨F2, os2, ob2⟩ := q2
        simp only [Option.some.injEq, Prod.mk.injEq] at hk
        obtain ⟨rfl, rfl, rfl, rfl⟩ := hk
        obtain ⟨h1, h2⟩ := ih _ _ _ _ _ _ _ _ _ _ _ hrec hh
        obtain ⟨h5, h6⟩ := hob h2
        exact ⟨by simp only [evRecs, h5, h1], h6⟩
      · simp at hk

theorem evDrawS_eq {ops : List Oper} {F : Slots} {H : Heap} {lo : Nat} {os : Path} {ob : Obs} {s' : SS} (h : evDrawS P X pre C nt ops F H lo os ob = some s') (hh : Holds s'.ob) :
    evDraw P X (strict pre C) nt ops F H lo = some (s'.s.F, s'.s.H, s'.s.lo) ∧ Holds ob := by
  unfold evDrawS at h
  unfold evDraw
  split at h
  · rename_i rs F1 os1 ob1 hrec
    split at h
    · rename_i hd
      split at h
      · rename_i r hr
        simp only [Option.some.injEq] at h
        subst h
        obtain ⟨h1, h2⟩ := evRecsS_eq _ _ _ _ _ _ _ _ _ _ _ _ hrec hh
        rw [h1]
        simp only [hd, hr]
        exact ⟨trivial, h2⟩
      · rename_i hr
        simp only [Option.some.injEq] at h
        subst h
        obtain ⟨h1, h2⟩ := evRecsS_eq _ _ _ _ _ _ _ _ _ _ _ _ hrec hh
        rw [h1]
        simp only [hd, hr]
        exact ⟨trivial, h2⟩
    · simp at h
  · simp at h

theorem iterS_eq {body : SS → Option (Ex × SS)} {body' : St → Option (Ex × St)} {m : List Nat} {x : Ex} {s' : SS}
    (hb : ∀ (s : SS) (x : Ex) (s' : SS), body s = some (x, s') → Holds s'.ob → body' s.s = some (x, s'.s) ∧ Holds s.ob) :
    ∀ (n : Nat) (s : SS), iterS n body m s = some (x, s') → Holds s'.ob → iter n body' m s.s = some (x, s'.s) ∧ Holds s.ob := by
  intro n
  induction n with
  | zero => intro s h; simp [iterS] at h
  | succ n ih =>
    intro s h hh
    simp only [iterS] at h
    split at h
    · rename_i F H lo os ob hs
      obtain ⟨h1, h2⟩ := ih _ h hh
      obtain ⟨h3, h4⟩ := hb _ _ _ hs h2
      exact ⟨by simp only [iter, h3]; exact h1, h4⟩
    · rename_i hne
      obtain ⟨h1, h2⟩ := hb _ _ _ h hh
      refine ⟨?_, h2⟩
      simp only [iter, h1]
      cases x with
      | normal => obtain ⟨⟨F, H, lo⟩, os, ob⟩ := s'; exact (hne F H lo os ob h).elim
      | exit i => rfl
      | ret => rfl

theorem evCodeS_eq {N : Nat} : ∀ (c : Code) (s : SS) (x : Ex) (s' : SS), evCodeS P X pre C N nt c s = some (x, s') → Holds s'.ob → evCode P X (strict pre C) N nt c s.s = some (x, s'.s) ∧ Holds s.ob := by
  intro c
  induction c with
  | region id ops draw =>
    intro s x s' h hh
    obtain ⟨⟨F, H, lo⟩, os, ob⟩ := s
    simp only [evCodeS] at h
    split at h
    · rename_i s1 hs
      simp only [Option.some.injEq, Prod.mk.injEq] at h
      obtain ⟨rfl, rfl⟩ := h
      cases draw with
      | true =>
        obtain ⟨h1, h2⟩ := evDrawS_eq hs hh
        exact ⟨by simp only [evCode, h1], h2⟩
      | false =>
        obtain ⟨h1, h2⟩ := evOpsS_eq _ _ _ _ _ _ hs hh
        exact ⟨by simp only [evCode, h1], h2⟩
    · simp at h
  | seq a b iha ihb =>
    intro s x s' h hh
    simp only [evCodeS] at h
    split at h
    · rename_i s1 hs
      obtain ⟨h1, h2⟩ := ihb _ _ _ h hh
      obtain ⟨h3, h4⟩ := iha _ _ _ hs h2
      exact ⟨by simp only [evCode, h3]; exact h1, h4⟩
    · rename_i hne
      obtain ⟨h1, h2⟩ := iha _ _ _ h hh
      refine ⟨?_, h2⟩
      simp only [evCode, h1]
      cases x with
      | normal => exact (hne s' h).elim
      | exit i => rfl
      | ret => rfl
  | cond c a b iha ihb =>
    intro s x s' h hh
    obtain ⟨s, os, ob⟩ := s
    simp only [evCodeS] at h
    split at h
    · rename_i b0 hb
      obtain ⟨t, os1, ob1, hk, hob⟩ := ask_eq h
      cases t with
      | true =>
        obtain ⟨h1, h2⟩ := iha _ _ _ hk hh
        obtain ⟨h3, h4⟩ := hob h2
        subst h3
        exact ⟨by simp only [evCode, hb]; exact h1, h4⟩
      | false =>
        obtain ⟨h1, h2⟩ := ihb _ _ _ hk hh
        obtain ⟨h3, h4⟩ := hob h2
        subst h3
        exact ⟨by simp only [evCode, hb]; exact h1, h4⟩
    · simp at h
  | block id b ih =>
    intro s x s' h hh
    simp only [evCodeS] at h
    split at h
    · rename_i i s1 hs
      split at h
      · rename_i hid
        simp only [Option.some.injEq, Prod.mk.injEq] at h
        obtain ⟨rfl, rfl⟩ := h
        obtain ⟨h1, h2⟩ := ih _ _ _ hs hh
        exact ⟨by simp only [evCode, h1]; rw [if_pos hid], h2⟩
      · rename_i hid
        simp only [Option.some.injEq, Prod.mk.injEq] at h
        obtain ⟨rfl, rfl⟩ := h
        obtain ⟨h1, h2⟩ := ih _ _ _ hs hh
        exact ⟨by simp only [evCode, h1]; rw [if_neg hid], h2⟩
    · rename_i hne
      obtain ⟨h1, h2⟩ := ih _ _ _ h hh
      refine ⟨?_, h2⟩
      simp only [evCode, h1]
      cases x with
      | normal => rfl
      | exit i => exact (hne i s' h).elim
      | ret => rfl
  | loop b ih =>
    intro s x s' h hh
    simp only [evCodeS] at h
    obtain ⟨h1, h2⟩ := iterS_eq (body' := evCode P X (strict pre C) N nt b) (fun s x s' h hh => ih s x s' h hh) N s h hh
    exact ⟨by simp only [evCode]; exact h1, h2⟩
  | skip | label | exit | ret =>
    intro s x s' h hh
    simp only [evCodeS, Option.some.injEq, Prod.mk.injEq] at h
    obtain ⟨rfl, rfl⟩ := h
    exact ⟨rfl, hh⟩
  | _ =>
    intro s x s' h
    simp [evCodeS] at h

theorem evFnS_eq {N : Nat} {os : Path} {f : FuncId} {args : List Value} {H : Heap} {r : Value × Heap × Nat} {ob : Obs} (h : evFnS P X N pre C os f args H = some (r, ob)) (hh : Holds ob) : evFn P X N (strict pre C) f args H = some r := by
  unfold evFnS at h
  unfold evFn
  split at h
  case h_2 => simp at h
  rename_i fn hfn
  rw [hfn]
  simp only
  split at h
  case h_2 => simp at h
  rename_i c hb
  rw [hb]
  simp only
  have key : ∀ x s os1 ob1, evCodeS P X pre C N (max args.length fn.ntmps) c ⟨⟨start 0 args, H, H.length⟩, os, []⟩ = some (x, ⟨s, os1, ob1⟩) → (evResults P fn s.F s.H).map (fun v => ((v, s.H, s.lo), ob1)) = some (r, ob) →
      evCode P X (strict pre C) N (max args.length fn.ntmps) c ⟨start 0 args, H, H.length⟩ = some (x, s) ∧ (evResults P fn s.F s.H).map (fun v => (v, s.H, s.lo)) = some r := by
    intro x s os1 ob1 hs hr
    cases hv : evResults P fn s.F s.H with
    | none => simp [hv] at hr
    | some v =>
      simp [hv] at hr
      obtain ⟨rfl, rfl⟩ := hr
      exact ⟨(evCodeS_eq c _ _ _ hs hh).1, rfl⟩
  split at h
  · rename_i s os1 ob1 hs
    obtain ⟨h1, h2⟩ := key _ _ _ _ hs h
    rw [h1]; exact h2
  · rename_i s os1 ob1 hs
    obtain ⟨h1, h2⟩ := key _ _ _ _ hs h
    rw [h1]; exact h2
  · simp at h
end

end Go.Proofs.Ytfbjpenbpbpcaaa.Den

/-
  A verified evaluator: code in a frame or in a round of a range over a function; what is no cells stays.
-/
namespace Go.Proofs.Ytfbjpenbpbpcaaa.Den
open Go

/-- A fence that lets everything in, for a frame (none) or for a round. -/
abbrev FX (r : Option Nat) : Fence := { fn := fun _ => True, depth := none, alive := false, round := r }

abbrev cwp (r : Option Nat) (P : Program) (c : Code) (Q : Exit → Act → World → Prop) (a : Act) (w : World) : Prop := c.wpIn (FX r) 0 P Q a w

theorem calls_x {P : Program} {r : Option Nat} {n : Nat} {f : FuncId} {args : Array Value} {w : World} {R : Ending → World → Prop} (h : Calls P f args w R) : CallsIn (FX r) n P f args w R := by
  cases r with
  | none => exact callsIn_wide.2 h
  | some l => exact (callsIn_wide (n := n)).2 h

theorem rows_x {P : Program} {r : Option Nat} {n : Nat} {row : String} {args : Array Value} {w : World} {R : Value → World → Prop} (h : Rows P row args w R) : RowsIn (FX r) n P row args w R :=
  fun c cs _ => let ⟨v, w', a, s⟩ := h c cs; ⟨v, w', a, by cases r <;> exact stepsIn_wide.2 s⟩

theorem op_x {P : Program} {r : Option Nat} {n : Nat} {o : Oper} (hd : ∀ c, o.op ≠ .defer c) {a : Act} {w : World} {next : Act → World → Prop} {Q : Exit → Act → World → Prop} (h : o.wp P a w next Q) : o.wpIn (FX r) n P a w next Q := by
  refine ⟨fun _ _ => trivial, ?_⟩
  rw [Oper.semAt_eq _ _ _ hd]
  unfold Oper.wp at h
  generalize (execOp a.eval o).run P w = res at h ⊢
  cases res with
  | ok x w' =>
    cases x <;> simp only [Oper.upon, Oper.uponIn] at h ⊢ <;>
      first
        | exact h
        | exact ⟨fun hh => by simp at hh, calls_x h⟩
        | exact ⟨fun hh => by simp at hh, rows_x h⟩
  | halt x w' => cases x <;> simp only [Oper.upon, Oper.uponIn] at h ⊢ <;> exact h

theorem nd_of {o : Oper} (h : noSel o = true) : ∀ c, o.op ≠ .defer c := by
  intro c e
  unfold noSel at h
  rw [e] at h
  simp at h

theorem opx {P : Program} {r : Option Nat} {n : Nat} {ops : Array Oper} (hd : ops.toList.all noSel = true) {Q : Exit → Act → World → Prop} (hQ : ¬ LetsOut Q) {i : Nat} {K : Act → World → Prop} {a : Act} {w : World} (h : wpOp P ops Q i K a w) : wpOpIn (FX r) n P ops Q i K a w := by
  unfold wpOp at h
  unfold wpOpIn
  split
  · rename_i hn
    simpa [hn] using h
  · rename_i o ho
    simp only [ho] at h
    have hso : noSel o = true := List.all_eq_true.1 hd o (List.mem_of_getElem? (i := i) (by rw [Array.getElem?_toList]; exact ho))
    split
    · rename_i hw
      simp only [hw, if_true] at h
      rcases h with h | ⟨_, h⟩
      · exact op_x (nd_of hso) h
      · exact (hQ h).elim
    · rename_i hw
      simp only [hw] at h
      exact ⟨fun _ _ => trivial, h⟩

theorem opsx {P : Program} {r : Option Nat} {n : Nat} {ops : Array Oper} (hd : ops.toList.all noSel = true) {Q : Exit → Act → World → Prop} (hQ : ¬ LetsOut Q) : ∀ (l : List Nat) (a : Act) (w : World), wpOps P ops Q l a w → wpOpsIn (FX r) n P ops Q l a w := by
  intro l
  induction l with
  | nil => intro a w h; simpa [wpOps, wpOpsIn] using h
  | cons i l ih =>
    intro a w h
    rw [wpOps_cons] at h
    rw [wpOpsIn_cons]
    exact wpOpIn_mono (fun a w => ih a w) (opx hd hQ h)

theorem anyx {P : Program} {r : Option Nat} {n : Nat} {md : Region.Mode} {ops : Array Oper} (hd : ops.toList.all noSel = true) {Q : Exit → Act → World → Prop} (hQ : ¬ LetsOut Q) : ∀ (fuel : Nat) (listed : Array Bool) (a : Act) (w : World), wpAny P md ops Q fuel listed a w → wpAnyIn (FX r) n P md ops Q fuel listed a w := by
  intro fuel
  induction fuel with
  | zero => intro listed a w h; exact h
  | succ fuel ih =>
    intro listed a w h
    exact ⟨h.1, fun i hi => wpOpIn_mono (fun a w => ih _ a w) (opx hd hQ (h.2 i hi))⟩

/-- Only the plain end. -/
def onlyN (K : Act → World → Prop) : Exit → Act → World → Prop
  | .normal, a, w => K a w
  | _, _, _ => False

theorem onlyN_out (K : Act → World → Prop) : ¬ LetsOut (onlyN K) := fun ⟨_, _, h⟩ => h

/-- A region, in a frame or in a round. -/
theorem region_x {P : Program} {X : Ext} {C : Oracle} (ok : ProgOk P) (hX : XSound P X) (hC : Sound P C) {r : Option Nat} {N nt id : Nat} {ops : Array Oper} {draw : Bool} (hok : codeOk (.region id ops draw) = true) {ds : List Deferred}
    {s : St} {x : Ex} {s' : St} (h : evCode P X C N nt (.region id ops draw) s = some (x, s')) {ρ0 : Rho} {H0 : Heap} {w0 : World} {ρ : Rho} {a : Act} {w : World} {Q : Exit → Act → World → Prop}
    (hR : Rel ρ0 H0 w0 ρ s.H s.lo w) (hF : FR ds ρ nt s.F a) (hQ : ∀ ρ' a' w', Rel ρ0 H0 w0 ρ' s'.H s'.lo w' → FR ds ρ' nt s'.F a' → Q .normal a' w') : x = .normal ∧ cwp r P (.region id ops draw) Q a w := by
  simp only [codeOk, Bool.and_eq_true] at hok
  simp only [evCode] at h
  split at h
  case h_2 => simp at h
  rename_i F1 H1 lo1 hev
  simp only [Option.some.injEq, Prod.mk.injEq] at h
  obtain ⟨rfl, rfl⟩ := h
  refine ⟨rfl, wpIn_mono (Q := onlyN (Q .normal)) ?_ (fun e a w h => by cases e <;> first | exact h | exact h.elim)⟩
  cases draw with
  | true =>
    simp only at hev
    exact wpIn_region_any ok.mixed (anyx hok.1 (onlyN_out _) _ _ _ _ (evDraw_any (Q := onlyN (Q .normal)) ok hX hC (by simpa using hok.2) hev (fun ρ' a' w' h1 h2 => hQ ρ' a' w' h1 h2) hR hF))
  | false =>
    simp only at hev
    refine wpIn_region (opsx hok.1 (onlyN_out _) _ _ _ ?_)
    have := evOps_sound ok hX hC hok.1 (Q := onlyN (Q .normal)) (fun ρ' a' w' h1 h2 => hQ ρ' a' w' h1 h2) ops.toList 0 s.F s.H s.lo rfl hev ρ a w hR hF
    rw [List.range_eq_range']
    simpa using this

/-- What is no cells lies as it lay. -/
theorem Rel.others {ρ : Rho} {H : Heap} {w : World} {ρ' : Rho} {H' : Heap} {l : Nat} {w' : World} (hs : SR ρ H w) (h : Rel ρ H w ρ' H' l w') : KeepsOthers w w' := by
  refine ⟨h.size, fun k o hk ho => ?_⟩
  have hlt := (Array.getElem?_eq_some_iff.1 hk).1
  rw [h.keep k hlt ?_]
  · exact hk
  · intro j e0 b0 hj hb hown _ hek
    obtain ⟨c, el, fz, hc, _⟩ := hs.blk j e0 b0 hj hb
    rw [hek, hk] at hc
    injection hc with hc
    rw [hc] at ho
    simp [Obj.isCells] at ho

/-- The marks of loops over functions among an activation's deferred calls. -/
def marks (Ds : List Nat) : List Deferred := Ds.map fun D => { target := .collected D, args := #[] }

structure Marked (B : Nat) (w : World) (Ds : List Nat) : Prop where
  base : B ≤ w.heap.size
  nodup : Ds.Nodup
  each : ∀ D ∈ Ds, B ≤ D ∧ w.heap[D]? = some (.deferred (some []))

theorem Marked.keep {B : Nat} {w w' : World} {Ds : List Nat} (h : Marked B w Ds) (k : KeepsOthers w w') : Marked B w' Ds :=
  ⟨Nat.le_trans h.base k.size, h.nodup, fun D hD => ⟨(h.each D hD).1, k.same D _ (h.each D hD).2 rfl⟩⟩

/-- A block beyond the start, no cells, turns to what is no cells. -/
theorem frozen_turn {w : World} {l : Nat} {o o' : Obj} (h : w.heap[l]? = some o) (ho : o.isCells = false) (ho' : o'.isCells = false) (a : Addr) : (w.putObj l o').frozen? a = w.frozen? a := by
  unfold World.frozen?
  by_cases hl : a.block = l
  · subst hl
    rw [World.putObj_heap_same (Array.getElem?_eq_some_iff.1 h).1, h]
    cases o <;> cases o' <;> simp_all [Obj.isCells]
  · rw [World.putObj_heap_other hl]

theorem SR.turn {ρ : Rho} {H : Heap} {w : World} (h : SR ρ H w) {l : Nat} {o o' : Obj} (hl : w.heap[l]? = some o) (ho : o.isCells = false) : SR ρ H (w.putObj l o') := by
  refine ⟨h.len, fun i e b hi hb => ?_, h.inj⟩
  obtain ⟨c, el, fz, h1, h2⟩ := h.blk i e b hi hb
  refine ⟨c, el, fz, ?_, h2⟩
  rw [World.putObj_heap_other]
  · exact h1
  · intro he
    rw [he, hl] at h1
    injection h1 with h1
    rw [h1] at ho
    simp [Obj.isCells] at ho

theorem Rel.turn {ρ0 : Rho} {H0 : Heap} {w0 : World} {ρ : Rho} {H : Heap} {lo : Nat} {w : World} (h : Rel ρ0 H0 w0 ρ H lo w) {l : Nat} {o o' : Obj} (hB : w0.heap.size ≤ l) (hl : w.heap[l]? = some o) (ho : o.isCells = false) (ho' : o'.isCells = false) : Rel ρ0 H0 w0 ρ H lo (w.putObj l o') where
  len0 := h.len0
  pre := h.pre
  sr := h.sr.turn hl ho
  len := h.len
  own := h.own
  new := h.new
  os := h.os
  tape := h.tape
  output := h.output
  size := by rw [World.putObj_size]; exact h.size
  keep := fun k hk hh => by
    rw [World.putObj_heap_other (by omega)]
    exact h.keep k hk hh
  frozen := fun a => (frozen_turn hl ho ho' a).trans (h.frozen a)

theorem quiet_alloc (w : World) (o : Obj) (ho : o.isCells = false) : Quiet w (w.alloc o) := by
  refine ⟨rfl, rfl, rfl, by simp, fun k hk => RowKit.Below.heap_alloc w o k hk, fun a => ?_⟩
  unfold World.frozen?
  by_cases hk : a.block < w.heap.size
  · rw [RowKit.Below.heap_alloc w o a.block hk]
  · by_cases he : a.block = w.heap.size
    · rw [he, World.alloc_heap_new]
      have : w.heap[w.heap.size]? = none := by simp
      rw [this]
      cases o <;> simp_all [Obj.isCells]
    · have h1 : (w.alloc o).heap[a.block]? = none := by
        rw [Array.getElem?_eq_none]
        simp
        omega
      have h2 : w.heap[a.block]? = none := by rw [Array.getElem?_eq_none]; omega
      rw [h1, h2]

theorem Rel.quiet {ρ0 : Rho} {H0 : Heap} {w0 : World} {ρ : Rho} {H : Heap} {lo : Nat} {w w' : World} (h : Rel ρ0 H0 w0 ρ H lo w) (q : Quiet w w') : Rel ρ0 H0 w0 ρ H lo w' := by
  have := h.trans (Rel.of_quiet h.sr q lo)
  rwa [Nat.min_self] at this

section
variable {P : Program} {b : Frame} {a : Act} {k : List Item} {cs : List Frame} {w : World}
theorem stepR_scope {c : Code} : step P (lone (b.atR a (.code (.scope c) :: k)) cs w) = .next (lone (b.atR a (.code c :: .inScope c :: k)) cs w) :=
  step_lone_go (by simp [stepG, stepG.exec, Frame.atR])
theorem stepR_inScope {c : Code} : step P (lone (b.atR a (.inScope c :: k)) cs w) = .next (lone (b.atR a k) cs w) :=
  step_lone_go (by simp [stepG, stepG.exec, Frame.atR])
end

/-- A scope that no jump by name leaves. -/
theorem wpIn_scope {F : Fence} {n : Nat} {P : Program} {Q : Exit → Act → World → Prop} {a : Act} {w : World} {c : Code} (h : c.wpIn F n P (Exit.noGoto Q) a w) : (Code.scope c).wpIn F n P Q a w := by
  intro b k cs hro hb hr
  have h0 : (lone (b.atR a (.code (.scope c) :: k)) cs w).fenced P F := fenced_calm hb hr rfl
  obtain ⟨e, a₁, w₁, hq, harr⟩ := h b (.inScope c :: k) cs hro hb hr
  have hx : ∀ id, exitTo id (.inScope c :: k) = exitTo id k := fun id => by simp [exitTo]
  cases e with
  | normal => exact ⟨.normal, a₁, w₁, hq, .head h0 stepR_scope (StepsIn.trans harr (.one (fenced_calm hb hr rfl) stepR_inScope))⟩
  | exit id => exact ⟨.exit id, a₁, w₁, hq, fun k' hk => .head h0 stepR_scope (harr.1 k' (by rw [hx]; exact hk)), fun hr' hk => let ⟨k₁, h1, h2⟩ := harr.2 hr' (by rw [hx]; exact hk); ⟨k₁, h1, .head h0 stepR_scope h2⟩⟩
  | goto l => exact hq.elim
  | ret => exact ⟨_, a₁, w₁, hq, .of_steps (.one h0 stepR_scope) harr⟩
  | panic ch => exact ⟨_, a₁, w₁, hq, .of_steps (.one h0 stepR_scope) harr⟩
  | outgrown => exact ⟨_, a₁, w₁, hq, .of_steps (b := b) (k := k) (cs := cs) (e := .outgrown) (.one h0 stepR_scope) harr⟩

end Go.Proofs.Ytfbjpenbpbpcaaa.Den

/-
  A verified evaluator, fourteenth part: what a piece of code does from a known state; loops by a row of states; functions.
-/
namespace Go.Proofs.Ytfbjpenbpbpcaaa.Den
open Go

/-- From state s the code comes to s', by the exit x, in a frame (none) or in a round. nt: how many slots there are. -/
def WPr (r : Option Nat) (P : Program) (nt : Nat) (c : Code) (s : St) (x : Ex) (s' : St) : Prop :=
  ∀ (B : Nat) (Ds : List Nat) (ρ0 : Rho) (H0 : Heap) (w0 : World) (ρ : Rho) (a : Act) (w : World) (Q : Exit → Act → World → Prop), Rel ρ0 H0 w0 ρ s.H s.lo w → FR (marks Ds) ρ nt s.F a → Marked B w Ds →
    (∀ ρ' Ds' a' w', ρ <+: ρ' → Rel ρ0 H0 w0 ρ' s'.H s'.lo w' → FR (marks Ds') ρ' nt s'.F a' → Marked B w' Ds' → KeepsOthers w w' → Q (toExit x) a' w') → cwp r P c Q a w

abbrev WP := WPr none

/-- The slots of F are known in G, too. -/
def Sub (F G : Slots) : Prop := ∀ t v, at? t F = some v → at? t G = some v

theorem Sub.refl (F : Slots) : Sub F F := fun _ _ h => h

theorem FR.sub {ds : List Deferred} {ρ : Rho} {nt : Nat} {F G : Slots} {a : Act} (h : Sub F G) (hG : FR ds ρ nt G a) : FR ds ρ nt F a := ⟨hG.defers, hG.size, fun t v hv => hG.slot t v (h t v hv)⟩

theorem WPr.weaken {r : Option Nat} {P : Program} {nt : Nat} {c : Code} {F G : Slots} {H : Heap} {lo : Nat} {x : Ex} {F' G' : Slots} {H' : Heap} {lo' : Nat} (h : WPr r P nt c ⟨F, H, lo⟩ x ⟨F', H', lo'⟩) (h1 : Sub F G) (h2 : Sub G' F') : WPr r P nt c ⟨G, H, lo⟩ x ⟨G', H', lo'⟩ :=
  fun B Ds ρ0 H0 w0 ρ a w Q hR hF hM hQ => h B Ds ρ0 H0 w0 ρ a w Q hR (hF.sub h1) hM fun ρ' Ds' a' w' hp hR' hF' => hQ ρ' Ds' a' w' hp hR' (hF'.sub h2)

theorem WPr.seq {r : Option Nat} {P : Program} {nt : Nat} {c d : Code} {s s1 : St} {x : Ex} {s' : St} (h1 : WPr r P nt c s .normal s1) (h2 : WPr r P nt d s1 x s') : WPr r P nt (.seq c d) s x s' :=
  fun B Ds ρ0 H0 w0 ρ a w Q hR hF hM hQ => wpIn_seq (h1 B Ds ρ0 H0 w0 ρ a w _ hR hF hM fun ρ1 D1 a1 w1 g p q m k => h2 B D1 ρ0 H0 w0 ρ1 a1 w1 Q p q m fun ρ' Ds' a' w' g' p' q' m' k' => hQ ρ' Ds' a' w' (g.trans g') p' q' m' (k.trans k'))

theorem WPr.seq_out {r : Option Nat} {P : Program} {nt : Nat} {c d : Code} {s : St} {x : Ex} {s' : St} (hx : x ≠ .normal) (h1 : WPr r P nt c s x s') : WPr r P nt (.seq c d) s x s' :=
  fun B Ds ρ0 H0 w0 ρ a w Q hR hF hM hQ => wpIn_seq (h1 B Ds ρ0 H0 w0 ρ a w _ hR hF hM fun ρ1 D1 a1 w1 g p q m k => by
    have := hQ ρ1 D1 a1 w1 g p q m k
    cases x with
    | normal => exact (hx rfl).elim
    | exit i => exact this
    | ret => exact this)

/-- A loop, by a row of states. -/
theorem WPr.loop {r : Option Nat} {P : Program} {nt : Nat} {b : Code} (S : Nat → St) (n : Nat) {x : Ex} {s' : St} (hx : x ≠ .normal) (h1 : ∀ i, i < n → WPr r P nt b (S i) .normal (S (i + 1))) (h2 : WPr r P nt b (S n) x s') : WPr r P nt (.loop b) (S 0) x s' := by
  intro B Ds ρ0 H0 w0 ρ a w Q hR hF hM hQ
  refine wpIn_loop_rounds (n + 1) ?_
  have key : ∀ (m i : Nat), i + m = n → ∀ (ρ1 : Rho) (Ds : List Nat) (a : Act) (w1 : World), ρ <+: ρ1 → Rel ρ0 H0 w0 ρ1 (S i).H (S i).lo w1 → FR (marks Ds) ρ1 nt (S i).F a → Marked B w1 Ds → KeepsOthers w w1 → Code.roundsIn (FX r) 0 P b Q (m + 1) a w1 := by
    intro m
    induction m with
    | zero =>
      intro i hi ρ1 Ds a w1 hg hR hF hM hk
      have : i = n := by omega
      subst this
      refine h2 B Ds ρ0 H0 w0 ρ1 a w1 _ hR hF hM fun ρ' Ds' a' w' g p q m k => ?_
      have := hQ ρ' Ds' a' w' (hg.trans g) p q m (hk.trans k)
      cases x with
      | normal => exact (hx rfl).elim
      | exit i => exact this
      | ret => exact this
    | succ m ih =>
      intro i hi ρ1 Ds a w1 hg hR hF hM hk
      exact h1 i (by omega) B Ds ρ0 H0 w0 ρ1 a w1 _ hR hF hM fun ρ' Ds' a' w' g p q m k => ih (i + 1) (by omega) ρ' Ds' a' w' (hg.trans g) p q m (hk.trans k)
  exact key n 0 (by omega) ρ Ds a w (List.prefix_refl _) hR hF hM (KeepsOthers.refl w)

theorem WP.weaken {P : Program} {nt : Nat} {c : Code} {F G : Slots} {H : Heap} {lo : Nat} {x : Ex} {F' G' : Slots} {H' : Heap} {lo' : Nat} (h : WP P nt c ⟨F, H, lo⟩ x ⟨F', H', lo'⟩) (h1 : Sub F G) (h2 : Sub G' F') : WP P nt c ⟨G, H, lo⟩ x ⟨G', H', lo'⟩ := WPr.weaken h h1 h2

theorem WP.loop {P : Program} {nt : Nat} {b : Code} (S : Nat → St) (n : Nat) {x : Ex} {s' : St} (hx : x ≠ .normal) (h1 : ∀ i, i < n → WP P nt b (S i) .normal (S (i + 1))) (h2 : WP P nt b (S n) x s') : WP P nt (.loop b) (S 0) x s' := WPr.loop S n hx h1 h2

/-- The number of a loop: its first region's. -/
def firstId : Code → Nat
  | .region id _ _ => id
  | .seq a _ => firstId a
  | .block _ b => firstId b
  | .scope b => firstId b
  | .loop b => firstId b
  | .cond _ a _ => firstId a
  | .rangeFunc _ _ a _ => firstId a
  | _ => 0

/-- What is said of loops: the loop's number, and a state: the exit, the state behind it, and what that asks. And names: ahead of a region, a slot's whole number (renF), a cell's (renH: block, place), by another text for the same number. And the slots that are kept from round to round (keys). -/
structure Loops where
  loop : Nat → St → Option (Ex × St × Obs) := fun _ _ => none
  renF : Nat → List (Nat × Int) := fun _ => []
  renH : Nat → List (Nat × Nat × Int) := fun _ => []
  keys : Nat → Slots → List Nat := fun _ F => keysOf F

def noLoops : Loops := {}

def goF : List (Nat × Int) → Slots → Obs → Option (Slots × Obs)
  | [], F, ob => some (F, ob)
  | (t, y) :: l, F, ob => match at? t F with
    | some (.int k n) => goF l ((t, .int k y) :: F) ((decide (n = y), true) :: ob)
    | _ => none

def goH : List (Nat × Nat × Int) → Heap → Obs → Option (Heap × Obs)
  | [], H, ob => some (H, ob)
  | (b, o, y) :: l, H, ob => match H[b]? with
    | some blk => match blk.cells[o]? with
      | some (.int k n) => goH l (H.set b { blk with cells := blk.cells.set o (.int k y) }) ((decide (n = y), true) :: ob)
      | _ => none
    | none => none

theorem goF_ok : ∀ (l : List (Nat × Int)) (F : Slots) (ob : Obs) (F' : Slots) (ob' : Obs), goF l F ob = some (F', ob') → Holds ob' → Sub F' F ∧ Holds ob := by
  intro l
  induction l with
  | nil =>
    intro F ob F' ob' h hh
    simp only [goF, Option.some.injEq, Prod.mk.injEq] at h
    obtain ⟨rfl, rfl⟩ := h
    exact ⟨Sub.refl _, hh⟩
  | cons p l ih =>
    obtain ⟨t, y⟩ := p
    intro F ob F' ob' h hh
    simp only [goF] at h
    split at h
    · rename_i k n ht
      obtain ⟨h1, h2⟩ := ih _ _ _ _ h hh
      have e : n = y := by simpa using h2 (decide (n = y), true) (by simp)
      subst e
      refine ⟨fun u v hv => ?_, fun p hp => h2 p (by simp [hp])⟩
      have := h1 u v hv
      simp only [at?] at this
      split at this
      · rename_i hb
        have : t = u := Nat.eq_of_beq_eq_true hb
        subst this
        rw [ht]; assumption
      · exact this
    · simp at h

theorem set_self {α : Type} (l : List α) (i : Nat) (a : α) (h : l[i]? = some a) : l.set i a = l := by
  apply List.ext_getElem?
  intro j
  rw [List.getElem?_set]
  split
  · rename_i hij
    subst hij
    obtain ⟨hlt, _⟩ := List.getElem?_eq_some_iff.1 h
    rw [if_pos hlt, h]
  · rfl

theorem goH_ok : ∀ (l : List (Nat × Nat × Int)) (H : Heap) (ob : Obs) (H' : Heap) (ob' : Obs), goH l H ob = some (H', ob') → Holds ob' → H' = H ∧ Holds ob := by
  intro l
  induction l with
  | nil =>
    intro H ob H' ob' h hh
    simp only [goH, Option.some.injEq, Prod.mk.injEq] at h
    obtain ⟨rfl, rfl⟩ := h
    exact ⟨rfl, hh⟩
  | cons p l ih =>
    obtain ⟨b, o, y⟩ := p
    intro H ob H' ob' h hh
    simp only [goH] at h
    split at h
    · rename_i blk hb
      split at h
      · rename_i k n hc
        obtain ⟨h1, h2⟩ := ih _ _ _ _ h hh
        have e : n = y := by simpa using h2 (decide (n = y), true) (by simp)
        subst e
        rw [set_self _ _ _ hc, set_self _ _ _ hb] at h1
        exact ⟨h1, fun p hp => h2 p (by simp [hp])⟩
      · simp at h
    · simp at h

/-- By other names, ahead of a region. -/
def goR (L : Loops) (id : Nat) (s : SS) : Option SS :=
  match goF (L.renF id) s.s.F s.ob with
  | some (F, ob) => match goH (L.renH id) s.s.H ob with
    | some (H, ob) => some ⟨⟨F, H, s.s.lo⟩, s.os, ob⟩
    | none => none
  | none => none

theorem goR_ok {L : Loops} {id : Nat} {s s' : SS} (h : goR L id s = some s') (hh : Holds s'.ob) : Sub s'.s.F s.s.F ∧ s'.s.H = s.s.H ∧ s'.s.lo = s.s.lo ∧ Holds s.ob := by
  unfold goR at h
  split at h
  · rename_i F ob hF
    split at h
    · rename_i H ob' hH
      simp only [Option.some.injEq] at h
      subst h
      obtain ⟨h1, h2⟩ := goH_ok _ _ _ _ _ hH hh
      obtain ⟨h3, h4⟩ := goF_ok _ _ _ _ _ hF h2
      exact ⟨h3, h1, rfl, h4⟩
    · simp at h
  · simp at h

/-- No loop in it. -/
def flatC : Code → Bool
  | .seq a b => flatC a && flatC b
  | .cond _ a b => flatC a && flatC b
  | .block _ b => flatC b
  | .scope b => flatC b
  | .loop _ => false
  | .rangeFunc .. => false
  | _ => true

/-- A row that lies in a box. -/
def boxed (H : Heap) (bs : Nat) : Option (Nat × Nat × Nat × Nat) := match H[bs]? with
  | some blk => match blk.cells with
    | [.slice (some ⟨b, o, none⟩) len cap] => if len ≤ cap ∧ len ≤ 4294967296 then some (b, o, len, cap) else none
    | _ => none
  | none => none

def backOf (F : Slots) (H : Heap) (g : Operand) : Option (Nat × Nat × Nat × Nat × Nat × Nat) :=
  match ev F g with
  | some (.func (.func f) a c) => match isBk f && a.toList.isEmpty, c.toList with
    | true, [.pointer (some ⟨bs, 0, none⟩)] => match boxed H bs with
      | some (b, o, len, cap) => some (f, bs, b, o, len, cap)
      | none => none
    | _, _ => none
  | _ => none

def cellAt (H : Heap) (b i : Nat) : Option Value := match H[b]? with
  | some blk => match blk.cells[i]? with
    | some v => if oneCell v then some v else none
    | none => none
  | none => none

/-- The rounds of a loop over slices.Backward. -/
def evRange (fa fb : SS → Option (Ex × SS)) (nt : Nat) (p q : Tmp) (F0 : Slots) (bs : Nat) (z : Nat × Nat × Nat × Nat) : Nat → SS → Option (Ex × SS)
  | 0, s => some (.normal, ⟨⟨F0, s.s.H, s.s.lo⟩, s.os, s.ob⟩)
  | k + 1, s => match decide (boxed s.s.H bs = some z), cellAt s.s.H z.1 (z.2.1 + k) with
    | true, some (.int .i64 v) => match fa ⟨⟨putF nt (putF nt F0 (some p) (.int .i64 (k : Nat))) (some q) (.int .i64 v), s.s.H, s.s.lo⟩, s.os, s.ob⟩ with
      | some (.normal, s1) => match fb s1 with
        | some (.normal, s2) => evRange fa fb nt p q F0 bs z k s2
        | some (x, s2) => some (x, ⟨⟨F0, s2.s.H, s2.s.lo⟩, s2.os, s2.ob⟩)
        | none => none
      | _ => none
    | _, _ => none

def evCodeL (P : Program) (X : Ext) (pre : Pre) (C : Oracle) (L : Loops) (N nt : Nat) : Code → SS → Option (Ex × SS)
  | .skip, s => some (.normal, s)
  | .label _, s => some (.normal, s)
  | .region id ops draw, s => match goR L id s with
    | some s1 => evCodeS P X pre C N nt (.region id ops draw) s1
    | none => none
  | .seq a b, s => match evCodeL P X pre C L N nt a s with
    | some (.normal, s) => evCodeL P X pre C L N nt b s
    | r => r
  | .cond c x y, ⟨s, os, ob⟩ => match ev s.F c with
    | some (.bool b) => ask os ob b fun t os ob => match t with
      | true => evCodeL P X pre C L N nt x ⟨s, os, ob⟩
      | false => evCodeL P X pre C L N nt y ⟨s, os, ob⟩
    | _ => none
  | .block id b, s => match evCodeL P X pre C L N nt b s with
    | some (.exit i, s) => if i = id then some (.normal, s) else some (.exit i, s)
    | r => r
  | .loop b, s => match L.loop (firstId b) s.s with
    | some (x, s', o) => some (x, ⟨s', s.os, o ++ s.ob⟩)
    | none => iterS N (evCodeL P X pre C L N nt b) (L.keys (firstId b) s.s.F) s
  | .rangeFunc g ps assign body, s => match L.loop (firstId assign) s.s with
    | some (x, s', o) => some (x, ⟨s', s.os, o ++ s.ob⟩)
    | none => match flatC assign && flatC body, backOf s.s.F s.s.H g, ps.toList with
      | true, some (_, bs, z), [p, q] => evRange (evCodeL P X pre C L N nt assign) (evCodeL P X pre C L N nt body) nt p q s.s.F bs z z.2.2.1 s
      | _, _, _ => none
  | .scope b, s => evCodeL P X pre C L N nt b s
  | .exit id, s => some (.exit id, s)
  | .ret, s => some (.ret, s)
  | _, _ => none

/-- The loops of a text. -/
def loopsOf : Code → List Code
  | .seq a b => loopsOf a ++ loopsOf b
  | .cond _ a b => loopsOf a ++ loopsOf b
  | .block _ b => loopsOf b
  | .scope b => loopsOf b
  | .loop b => b :: loopsOf b
  | _ => []

/-- The loops over functions. -/
def rangesOf : Code → List Code
  | .seq a b => rangesOf a ++ rangesOf b
  | .cond _ a b => rangesOf a ++ rangesOf b
  | .block _ b => rangesOf b
  | .scope b => rangesOf b
  | .loop b => rangesOf b
  | .rangeFunc g ps a b => [.rangeFunc g ps a b]
  | _ => []

/-- What is said of a loop holds. -/
def LoopsOk (P : Program) (nt : Nat) (L : Loops) (c : Code) : Prop := (∀ b ∈ loopsOf c, ∀ s x s' o, L.loop (firstId b) s = some (x, s', o) → Holds o → WP P nt (.loop b) s x s') ∧
  (∀ b ∈ rangesOf c, ∀ s x s' o, L.loop (firstId b) s = some (x, s', o) → Holds o → WP P nt b s x s')

section
variable {P : Program} {X : Ext} {pre : Pre} {C : Oracle} {L : Loops} {N nt : Nat}

theorem WPr.forget {r : Option Nat} {c : Code} {s : St} {x : Ex} {F' : Slots} {H' : Heap} {lo' : Nat} (h : WPr r P nt c s x ⟨F', H', lo'⟩) (m : List Nat) : WPr r P nt c s x ⟨forget F' m, H', lo'⟩ :=
  fun B Ds ρ0 H0 w0 ρ a w Q hR hF hM hQ => h B Ds ρ0 H0 w0 ρ a w Q hR hF hM fun ρ' Ds' a' w' g p q => hQ ρ' Ds' a' w' g p (q.forget m)

/-- A region. -/
theorem region_WP (ok : ProgOk P) (hX : XSound P X) (hC : Sound P C) {r : Option Nat} {id : Nat} {ops : Array Oper} {draw : Bool} (hok : codeOk (.region id ops draw) = true) {s : St} {x : Ex} {s' : St} (h : evCode P X C N nt (.region id ops draw) s = some (x, s')) :
    WPr r P nt (.region id ops draw) s x s' := by
  have hx : x = .normal := by
    simp only [evCode] at h
    split at h
    · simp only [Option.some.injEq, Prod.mk.injEq] at h
      exact h.1.symm
    · simp at h
  subst hx
  have hlo : s'.lo ≤ s.lo := by
    simp only [codeOk, Bool.and_eq_true] at hok
    simp only [evCode] at h
    split at h
    · rename_i F1 H1 lo1 hev
      simp only [Option.some.injEq, Prod.mk.injEq] at h
      obtain ⟨_, rfl⟩ := h
      cases draw with
      | true => exact evDraw_lo ok hX hC (by simpa using hok.2) hev
      | false => exact evOps_lo ok hX hC _ hok.1 _ _ _ hev
    · simp at h
  intro B Ds ρ0 H0 w0 ρ a w Q hR hF hM hQ
  refine (region_x (r := r) ok hX hC hok h (ρ0 := ρ) (H0 := s.H) (w0 := w) (Rel.of_quiet hR.sr (Quiet.refl w) s.lo) hF fun ρ' a' w' p q => ?_).2
  have hk := p.others hR.sr
  have ht := hR.trans p
  rw [Nat.min_eq_right hlo] at ht
  exact hQ ρ' Ds a' w' p.pre ht q (hM.keep hk) hk

theorem cellAt_world {ρ : Rho} {H : Heap} {w : World} (hs : SR ρ H w) {b i : Nat} {v : Value} (h : cellAt H b i = some v) {e : Ent} (he : ρ[b]? = some e) : oneCell v = true ∧ ∃ v', w.cell? ⟨e.r, e.d + i, none⟩ = some v' ∧ VR ρ v v' := by
  unfold cellAt at h
  split at h
  · rename_i blk hb
    split at h
    · rename_i u hu
      split at h
      · rename_i ho
        injection h with h
        subst h
        obtain ⟨c, el, fz, h1, h2, _⟩ := hs.blk b e blk he hb
        obtain ⟨_, v', h3, h4⟩ := h2 i u hu
        exact ⟨ho, v', by simp [World.cell?, h1, h3], h4⟩
      · simp at h
    · simp at h
  · simp at h

theorem boxed_cell {H : Heap} {bs b o len cap : Nat} (h : boxed H bs = some (b, o, len, cap)) : cellAt H bs 0 = some (.slice (some ⟨b, o, none⟩) len cap) ∧ len ≤ cap ∧ len ≤ 4294967296 := by
  unfold boxed at h
  split at h
  · rename_i blk hb
    split at h
    · rename_i b1 o1 l1 c1 hc
      split at h
      · rename_i hle
        simp only [Option.some.injEq, Prod.mk.injEq] at h
        obtain ⟨rfl, rfl, rfl, rfl⟩ := h
        exact ⟨by simp [cellAt, hb, hc, oneCell], hle.1, hle.2⟩
      · simp at h
    · simp at h
  · simp at h

theorem boxed_world {ρ : Rho} {H : Heap} {w : World} (hs : SR ρ H w) {bs b o len cap : Nat} (h : boxed H bs = some (b, o, len, cap)) {e e2 : Ent} (he : ρ[bs]? = some e) (he2 : ρ[b]? = some e2) :
    w.cell? ⟨e.r, e.d, none⟩ = some (.slice (some ⟨e2.r, e2.d + o, none⟩) len cap) := by
  obtain ⟨h1, h2, _⟩ := boxed_cell h
  obtain ⟨_, v', h3, h4⟩ := cellAt_world hs h1 he
  obtain ⟨e3, c', h5, _, h6, h7, _⟩ := slice_of h4
  simp only at h5
  rw [he2] at h5
  injection h5 with h5
  subst h5
  rw [h7 h2] at h6
  rw [← h6]
  exact h3

theorem boxed_ent {ρ : Rho} {H : Heap} {w : World} (hs : SR ρ H w) {bs b o len cap : Nat} (h : boxed H bs = some (b, o, len, cap)) {e : Ent} (he : ρ[bs]? = some e) : ∃ e2, ρ[b]? = some e2 := by
  obtain ⟨h1, _⟩ := boxed_cell h
  obtain ⟨_, v', _, h4⟩ := cellAt_world hs h1 he
  obtain ⟨e3, _, h5, _⟩ := slice_of h4
  exact ⟨e3, h5⟩

theorem evRange_holds {fa fb : SS → Option (Ex × SS)} (ha : ∀ s x s', fa s = some (x, s') → Holds s'.ob → Holds s.ob) (hb : ∀ s x s', fb s = some (x, s') → Holds s'.ob → Holds s.ob) {p q : Tmp} {F0 : Slots} {bs : Nat} {z : Nat × Nat × Nat × Nat} {x : Ex} {s' : SS} :
    ∀ (k : Nat) (s : SS), evRange fa fb nt p q F0 bs z k s = some (x, s') → Holds s'.ob → Holds s.ob := by
  intro k
  induction k with
  | zero =>
    intro s h hh
    simp only [evRange, Option.some.injEq, Prod.mk.injEq] at h
    obtain ⟨rfl, rfl⟩ := h
    exact hh
  | succ k ih =>
    intro s h hh
    simp only [evRange] at h
    split at h
    · split at h
      · rename_i s1 h1
        split at h
        · rename_i s2 h2
          have := ha _ _ _ h1 (hb _ _ _ h2 (ih _ h hh))
          exact this
        · rename_i x2 s2 hne h2
          simp only [Option.some.injEq, Prod.mk.injEq] at h
          obtain ⟨rfl, rfl⟩ := h
          have := ha _ _ _ h1 (hb _ _ _ h2 hh)
          exact this
        · simp at h
      · simp at h
    · simp at h

/-- The jump that a round leaves behind. -/
def jumpOf : Ex → Code
  | .normal => .skip
  | .exit i => .exit i
  | .ret => .ret

theorem Marked.turn {B : Nat} {w : World} {Ds : List Nat} (h : Marked B w Ds) {l : Nat} {r : Loop} (hl : w.heap[l]? = some (.loop r)) (o : Obj) : Marked B (w.putObj l o) Ds :=
  ⟨by rw [World.putObj_size]; exact h.base, h.nodup, fun D hD => ⟨(h.each D hD).1, by
    rw [World.putObj_heap_other]
    · exact (h.each D hD).2
    · intro e
      have := (h.each D hD).2
      rw [e, hl] at this
      cases this⟩⟩

theorem KeepsOthers.turn {w W : World} (h : KeepsOthers w W) {l : Nat} (hl : w.heap.size ≤ l) (o : Obj) : KeepsOthers w (W.putObj l o) :=
  ⟨by rw [World.putObj_size]; exact h.size, fun k o' hk ho => by
    have := (Array.getElem?_eq_some_iff.1 hk).1
    rw [World.putObj_heap_other (by omega)]
    exact h.same k o' hk ho⟩

/-- The statement 'for .. := range g', g a closure of slices.Backward: R k H lo: what is so when k places have not come. -/
theorem range_rel (ok : ProgOk P) {g : Operand} {ps : Array Tmp} {assign body : Code} {p q : Tmp} (hps : ps.toList = [p, q]) {F0 : Slots} {H1 : Heap} {lo1 : Nat} {f bs b o len cap : Nat}
    (hg : backOf F0 H1 g = some (f, bs, b, o, len, cap)) (R : Nat → Heap → Nat → Prop) (hR0 : R len H1 lo1) {x : Ex} {H2 : Heap} {lo2 : Nat}
    (hround : ∀ k H lo, R (k + 1) H lo → boxed H bs = some (b, o, len, cap) ∧ ∃ v, cellAt H b (o + k) = some (.int .i64 v) ∧ ∃ s1 x2 s2, (∀ l, WPr (some l) P nt assign ⟨putF nt (putF nt F0 (some p) (.int .i64 (k : Nat))) (some q) (.int .i64 v), H, lo⟩ .normal s1) ∧
      (∀ l, WPr (some l) P nt body s1 x2 s2) ∧ ((x2 = .normal ∧ R k s2.H s2.lo) ∨ (x2 ≠ .normal ∧ x = x2 ∧ H2 = s2.H ∧ lo2 = s2.lo)))
    (hend : ∀ H lo, R 0 H lo → x = .normal ∧ H2 = H ∧ lo2 = lo) : WPr none P nt (.rangeFunc g ps assign body) ⟨F0, H1, lo1⟩ x ⟨F0, H2, lo2⟩ := by
  intro B Ds ρ0 H0 w0 ρ a w Q hR hF hM hQ
  -- the closure
  unfold backOf at hg
  split at hg
  case h_2 => simp at hg
  rename_i f0 aa cc hev
  split at hg
  case h_2 => simp at hg
  rename_i bs0 hfe hcc
  split at hg
  case h_2 => simp at hg
  rename_i b1 o1 len1 cap1 hbox
  simp only [Option.some.injEq, Prod.mk.injEq] at hg
  obtain ⟨rfl, rfl, rfl, rfl, rfl, rfl⟩ := hg
  simp only [Bool.and_eq_true, List.isEmpty_iff] at hfe
  obtain ⟨hbk, haa⟩ := hfe
  have hB := ok.back f0 hbk
  obtain ⟨_, hlc, hlen⟩ := boxed_cell hbox
  obtain ⟨a', c', hval, va, vc⟩ := func_of (hF.opR [g] g (by simp) _ hev)
  have ha' : a' = #[] := by
    have := va.1
    rw [haa] at this
    simpa using this.symm
  subst ha'
  rw [hcc] at vc
  obtain ⟨c0, hc0⟩ : ∃ c0, c'.toList = [c0] := by
    have := vc.1
    match hl : c'.toList, this with
    | [c0], _ => exact ⟨c0, rfl⟩
  have hc0r : VR ρ (.pointer (some ⟨bs0, 0, none⟩)) c0 := vc.2 0 _ _ rfl (by rw [hc0]; rfl)
  obtain ⟨e, he, _, rfl⟩ := ptr_of hc0r
  simp only [Nat.add_zero] at he hc0
  have hc' : c' = #[.pointer (some ⟨e.r, e.d, none⟩)] := by
    apply Array.toList_inj.1
    rw [hc0]
  subst hc'
  obtain ⟨e2, he2⟩ := boxed_ent hR.sr hbox he
  have hps' : ps = #[p, q] := Array.toList_inj.1 hps
  refine wpIn_rangeFunc ?_
  intro fn hfn
  obtain ⟨rec, hrec⟩ : ∃ rec : LoopState → Option Code → Loop, rec = fun st pe => { state := st, pending := pe, fn, tmps := a.tmps, params := ps, assign, body, defers := w.heap.size } := ⟨_, rfl⟩
  obtain ⟨W1, hW1⟩ : ∃ W1, (w.alloc (.deferred (some []))).alloc (.loop (rec .ready none)) = W1 := ⟨_, rfl⟩
  have hL1 : W1.heap[w.heap.size + 1]? = some (.loop (rec .ready none)) := by
    rw [← hW1]; have := World.alloc_heap_new (w.alloc (.deferred (some []))) (.loop (rec .ready none)); rwa [World.size_alloc] at this
  have hK1 : W1.heap[w.heap.size]? = some (.deferred (some [])) := by
    rw [← hW1]; exact (RowKit.Below.heap_alloc _ _ _ (by simp)).trans (World.alloc_heap_new w _)
  have hq1 : Quiet w W1 := by
    rw [← hW1]
    exact (quiet_alloc w _ rfl).trans (quiet_alloc _ _ rfl)
  have hko1 : KeepsOthers w W1 := ⟨hq1.size, fun k o' hk _ => (hq1.keep k (Array.getElem?_eq_some_iff.1 hk).1).trans hk⟩
  have hwsz : w0.heap.size ≤ w.heap.size := hR.size
  refine ⟨w.heap.size + 1, [{ target := .collected w.heap.size, args := #[] }], W1, { target := .fn (.func f0) #[.pointer (some ⟨e.r, e.d, none⟩)], args := #[.func (.yield (w.heap.size + 1)) #[] #[]] }, W1, f0,
    #[.func (.yield (w.heap.size + 1)) #[] #[], .pointer (some ⟨e.r, e.d, none⟩)], W1, ?_, ?_, ?_, ?_, fun hd => by simp at hd, ?_⟩
  · rw [← hW1, hrec]; exact run_enterLoop_outer _ _ _ _ _
  · simp only [resolve, hval]
    simp [go_sem]
  · intro f' hf'; trivial
  · simp [invoke, go_sem, hB.enters]
  · obtain ⟨l, hl⟩ : ∃ l, w.heap.size + 1 = l := ⟨_, rfl⟩
    rw [hl] at hL1 ⊢
    -- the states between two rounds
    obtain ⟨J, hJ⟩ : ∃ J : Nat → World → Prop, J = fun k W => ∃ H lo, R k H lo ∧ (∃ ρ', Rel ρ0 H0 w0 ρ' H lo W ∧ ρ <+: ρ') ∧
      W.heap[l]? = some (.loop (rec .ready none)) ∧ W.heap[w.heap.size]? = some (.deferred (some [])) ∧ KeepsOthers w W := ⟨_, rfl⟩
    obtain ⟨Jx, hJx⟩ : ∃ Jx : World → Prop, Jx = fun W => x ≠ .normal ∧ (∃ ρ', Rel ρ0 H0 w0 ρ' H2 lo2 W ∧ ρ <+: ρ') ∧
      W.heap[l]? = some (.loop (rec .done (some (jumpOf x)))) ∧ W.heap[w.heap.size]? = some (.deferred (some [])) ∧ KeepsOthers w W := ⟨_, rfl⟩
    have hcall := hB.calls l e.r e.d e2.r (e2.d + o1) len1 cap1 J Jx W1 hlc hlen ?_ ?_ ?_
    · refine (callsIn_wide.1 hcall |> fun hc => (callsIn_wide (n := 0 - 1)).2 hc).mono ?_
      rintro en W ⟨⟨v, rfl⟩, hj⟩
      -- behind the loop: what is owed
      have fin : ∀ (W : World) (pe : Option Code), KeepsOthers w W → (∃ ρ', Rel ρ0 H0 w0 ρ' H2 lo2 W ∧ ρ <+: ρ') → (∃ rr, W.heap[l]? = some (.loop rr)) → W.heap[w.heap.size]? = some (.deferred (some [])) →
          Q (toExit x) { a with defers := [{ target := .collected w.heap.size, args := #[] }] ++ a.defers } (W.putObj l (.loop (rec .exhausted pe))) := by
        rintro W pe hk ⟨ρ', hR', hp'⟩ ⟨rr, hl'⟩ hd
        have hk' := KeepsOthers.turn hk (l := l) (by omega) (.loop (rec .exhausted pe))
        refine hQ ρ' (w.heap.size :: Ds) _ _ hp' (hR'.turn (by omega) hl' rfl rfl) ?_ ?_ hk'
        · have hFm := hF.mono hp'
          exact ⟨by simp [marks, hFm.defers], hFm.size, hFm.slot⟩
        · have hM' := hM.keep hk'
          refine ⟨hM'.base, List.nodup_cons.2 ⟨fun hin => ?_, hM.nodup⟩, fun D hD => ?_⟩
          · have := (hM.each _ hin).2
            simp at this
          · rcases List.mem_cons.1 hD with rfl | hD
            · exact ⟨hM.base, by rw [World.putObj_heap_other (by omega)]; exact hd⟩
            · exact hM'.each D hD
      rcases hj with hj | hj
      · rw [hJ] at hj
        obtain ⟨Hk, lok, hek, hrk, hlk, hdk, hkk⟩ := hj
        obtain ⟨rfl, rfl, rfl⟩ := hend _ _ hek
        refine ⟨none, _, by have := run_endLoop (P := P) hlk (by rw [hrec]; simp); rw [hrec] at this; exact this, ?_⟩
        have := fin W none hkk hrk ⟨_, hlk⟩ hdk
        rw [hrec] at this
        exact this
      · rw [hJx] at hj
        obtain ⟨hx, hrk, hlk, hdk, hkk⟩ := hj
        refine ⟨some (jumpOf x), _, by have := run_endLoop (P := P) hlk (by rw [hrec]; simp); rw [hrec] at this; exact this, ?_⟩
        have := fin W (some (jumpOf x)) hkk hrk ⟨_, hlk⟩ hdk
        rw [hrec] at this
        cases x with
        | normal => exact (hx rfl).elim
        | exit i => exact wpIn_exit this
        | ret => exact wpIn_ret this
    · exact boxed_world (hR.sr.quiet hq1) hbox he he2
    · -- a round
      intro k W hlt hj
      rw [hJ] at hj
      obtain ⟨Hk, lok, hek, ⟨ρ', hrk, hpk⟩, hlk, hdk, hkk⟩ := hj
      obtain ⟨hbx, v, hcell, s1, x2, s2, hwa, hwb, hnext⟩ := hround k Hk lok hek
      have he' := prefix_get hpk he
      have he2' := prefix_get hpk he2
      obtain ⟨hov, v', hv1, hv2⟩ := cellAt_world hrk.sr hcell he2'
      obtain rfl := int_of hv2
      refine ⟨boxed_world hrk.sr hbx he' he2', v, by rw [Nat.add_assoc]; exact hv1, ?_⟩
      have hy := run_yield (P := P) (args := #[.int .i64 (k : Nat), .int .i64 v]) hlk (by rw [hrec]; simp [hps'])
      refine ⟨_, _, _, _, hy, ?_⟩
      rw [hrec, hps']
      have hFr : FR (marks []) ρ' nt (putF nt (putF nt F0 (some p) (.int .i64 (k : Nat))) (some q) (.int .i64 v)) { tmps := ((#[p, q].zip #[Value.int .i64 (k : Nat), .int .i64 v]).foldl (fun tmps (t, a) => tmps.setIfInBounds t a) a.tmps), defers := [] } := by
        have h0 : FR (marks []) ρ' nt F0 { tmps := a.tmps, defers := [] } := ⟨rfl, (hF.mono hpk).size, (hF.mono hpk).slot⟩
        have h2 := (h0.put (some p) (VR.flat (ρ := ρ') (v := .int .i64 (k : Nat)) rfl)).put (some q) (VR.flat (ρ := ρ') (v := .int .i64 v) rfl)
        simpa [Act.put] using h2
      have hM0 : ∀ W : World, Marked 0 W [] := fun W => ⟨Nat.zero_le _, List.nodup_nil, fun D hD => by simp at hD⟩
      refine roundIn_of_wpIn (F := Fence.wide) trivial ?_
      refine hwa l 0 [] ρ0 H0 w0 ρ' _ W _ hrk hFr (hM0 W) ?_
      intro ρ1 D1 a1 w1 g1 p1 q1 m1 k1
      have hp1 : W.heap.size ≤ w1.heap.size := k1.size
      have hl1 : w1.heap[l]? = some (.loop (rec .ready none)) := k1.same l _ hlk rfl
      have hd1 : w1.heap[w.heap.size]? = some (.deferred (some [])) := k1.same _ _ hdk rfl
      refine ⟨_, run_beginRound hl1 (by rw [hrec]), ?_⟩
      have hl2 : (w1.putObj l (.loop { rec .ready none with state := .busy })).heap[l]? = some (.loop { rec .ready none with state := .busy }) := World.putObj_heap_same (Array.getElem?_eq_some_iff.1 hl1).1
      have hd2 : (w1.putObj l (.loop { rec .ready none with state := .busy })).heap[w.heap.size]? = some (.deferred (some [])) := (World.putObj_heap_other (by omega)).trans hd1
      have hk2 : KeepsOthers w (w1.putObj l (.loop { rec .ready none with state := .busy })) := KeepsOthers.turn (hkk.trans k1) (by omega) _
      refine hwb l 0 D1 ρ0 H0 w0 ρ1 a1 _ _ (p1.turn (by omega) hl1 rfl rfl) q1 (m1.turn hl1 _) ?_
      intro ρ2 D2 a2 w2 g2 p2 q2 m2 k3
      have hl3 := k3.same l _ hl2 rfl
      have hd3 := k3.same _ _ hd2 rfl
      have hk3 := hk2.trans k3
      have hpre : ρ <+: ρ2 := hpk.trans (g1.trans g2)
      rcases hnext with ⟨rfl, hev2⟩ | ⟨hne, rfl, rfl, rfl⟩
      · refine ⟨_, _, run_endRound (P := P) none hl3, .inl ⟨rfl, ?_⟩⟩
        rw [hJ]
        refine ⟨_, _, hev2, ⟨ρ2, p2.turn (by omega) hl3 rfl rfl, hpre⟩, ?_, ?_, KeepsOthers.turn hk3 (by omega) _⟩
        · rw [hrec]
          exact World.putObj_heap_same (Array.getElem?_eq_some_iff.1 hl3).1
        · exact (World.putObj_heap_other (by omega)).trans hd3
      · have out : ∀ c, c = jumpOf x → ∃ v w4, (Instr.endRound l (some c)).run P w2 = .ok v w4 ∧ ((Ending.returned v = .returned (.bool true) ∧ J k w4) ∨ (Ending.returned v = .returned (.bool false) ∧ Jx w4)) := by
          rintro c rfl
          refine ⟨_, _, run_endRound (P := P) (some (jumpOf x)) hl3, .inr ⟨rfl, ?_⟩⟩
          rw [hJx]
          refine ⟨hne, ⟨ρ2, p2.turn (by omega) hl3 rfl rfl, hpre⟩, ?_, ?_, KeepsOthers.turn hk3 (by omega) _⟩
          · rw [hrec]
            exact World.putObj_heap_same (Array.getElem?_eq_some_iff.1 hl3).1
          · exact (World.putObj_heap_other (by omega)).trans hd3
        cases x with
        | normal => exact (hne rfl).elim
        | exit i => exact out _ rfl
        | ret => exact out _ rfl
    · rw [hJ]
      exact ⟨_, _, hR0, ⟨ρ, hR.quiet hq1, List.prefix_refl _⟩, hL1, hK1, hko1⟩

/-- The same, run. -/
theorem range_WP (ok : ProgOk P) {g : Operand} {ps : Array Tmp} {assign body : Code} {p q : Tmp} (hps : ps.toList = [p, q]) {fa fb : SS → Option (Ex × SS)}
    (ha : ∀ l s x s', fa s = some (x, s') → Holds s'.ob → WPr (some l) P nt assign s.s x s'.s) (hb : ∀ l s x s', fb s = some (x, s') → Holds s'.ob → WPr (some l) P nt body s.s x s'.s)
    (ha2 : ∀ s x s', fa s = some (x, s') → Holds s'.ob → Holds s.ob) (hb2 : ∀ s x s', fb s = some (x, s') → Holds s'.ob → Holds s.ob)
    {s : SS} {f bs : Nat} {z : Nat × Nat × Nat × Nat} (hg : backOf s.s.F s.s.H g = some (f, bs, z)) {x : Ex} {s' : SS} (h : evRange fa fb nt p q s.s.F bs z z.2.2.1 s = some (x, s')) (hh : Holds s'.ob) : WPr none P nt (.rangeFunc g ps assign body) s.s x s'.s := by
  obtain ⟨b, o, len, cap⟩ := z
  have hF : s'.s.F = s.s.F := by
    have key : ∀ (k : Nat) (t : SS), evRange fa fb nt p q s.s.F bs (b, o, len, cap) k t = some (x, s') → s'.s.F = s.s.F := by
      intro k
      induction k with
      | zero =>
        intro t h
        simp only [evRange, Option.some.injEq, Prod.mk.injEq] at h
        obtain ⟨_, rfl⟩ := h
        rfl
      | succ k ih =>
        intro t h
        simp only [evRange] at h
        split at h
        · split at h
          · split at h
            · exact ih _ h
            · simp only [Option.some.injEq, Prod.mk.injEq] at h
              obtain ⟨_, rfl⟩ := h
              rfl
            · simp at h
          · simp at h
        · simp at h
    exact key _ _ h
  obtain ⟨⟨F', H', lo'⟩, os', ob'⟩ := s'
  simp only at hF
  subst hF
  refine range_rel ok hps hg (fun k H lo => ∃ os ob F, evRange fa fb nt p q s.s.F bs (b, o, len, cap) k ⟨⟨F, H, lo⟩, os, ob⟩ = some (x, ⟨⟨s.s.F, H', lo'⟩, os', ob'⟩)) ⟨s.os, s.ob, s.s.F, h⟩ ?_ ?_
  · rintro k H lo ⟨os, ob, F, hek⟩
    simp only [evRange] at hek
    split at hek
    case h_2 => simp at hek
    rename_i v hbx hcell
    refine ⟨of_decide_eq_true hbx, v, hcell, ?_⟩
    split at hek
    case h_2 => simp at hek
    rename_i s1 h1
    split at hek
    · rename_i s2 h2
      have hh2 := evRange_holds ha2 hb2 _ _ hek hh
      exact ⟨s1.s, .normal, s2.s, fun l => ha l _ _ _ h1 (hb2 _ _ _ h2 hh2), fun l => hb l _ _ _ h2 hh2, .inl ⟨rfl, s2.os, s2.ob, s2.s.F, hek⟩⟩
    · rename_i x2 s2 hne h2
      simp only [Option.some.injEq, Prod.mk.injEq, SS.mk.injEq, St.mk.injEq] at hek
      obtain ⟨rfl, ⟨_, rfl, rfl⟩, _, rfl⟩ := hek
      exact ⟨s1.s, _, s2.s, fun l => ha l _ _ _ h1 (hb2 _ _ _ h2 hh), fun l => hb l _ _ _ h2 hh, .inr ⟨fun e => hne e, rfl, rfl, rfl⟩⟩
    · simp at hek
  · rintro H lo ⟨os, ob, F, hek⟩
    simp only [evRange, Option.some.injEq, Prod.mk.injEq, SS.mk.injEq, St.mk.injEq] at hek
    exact ⟨hek.1.symm, hek.2.1.2.1.symm, hek.2.1.2.2.symm⟩

theorem evCodeL_WP (ok : ProgOk P) (hX : XSound P X) (hC : Sound P (strict pre C)) :
    ∀ (c : Code), codeOk c = true → ∀ (r : Option Nat), (r = none ∧ LoopsOk P nt L c) ∨ flatC c = true → ∀ (s : SS) (x : Ex) (s' : SS), evCodeL P X pre C L N nt c s = some (x, s') → Holds s'.ob → WPr r P nt c s.s x s'.s ∧ Holds s.ob := by
  intro c
  induction c with
  | region id ops draw =>
    intro hok r _ s x s' h hh
    simp only [evCodeL] at h
    split at h
    · rename_i s1 hg
      obtain ⟨h1, h2⟩ := evCodeS_eq _ _ _ _ h hh
      obtain ⟨g1, g2, g3, g4⟩ := goR_ok hg h2
      obtain ⟨⟨F, H, lo⟩, os, ob⟩ := s
      obtain ⟨⟨F1, H1, lo1⟩, os1, ob1⟩ := s1
      simp only at g1 g2 g3
      subst g2 g3
      exact ⟨(region_WP ok hX hC hok h1).weaken g1 (Sub.refl _), g4⟩
    · simp at h
  | seq a b iha ihb =>
    intro hok r hl s x s' h hh
    simp only [codeOk, Bool.and_eq_true] at hok
    have la : (r = none ∧ LoopsOk P nt L a) ∨ flatC a = true := hl.imp (fun ⟨e, h⟩ => ⟨e, fun b hb => h.1 b (by simp [loopsOf, hb]), fun b hb => h.2 b (by simp [rangesOf, hb])⟩) (fun h => by simp only [flatC, Bool.and_eq_true] at h; exact h.1)
    have lb : (r = none ∧ LoopsOk P nt L b) ∨ flatC b = true := hl.imp (fun ⟨e, h⟩ => ⟨e, fun b hb => h.1 b (by simp [loopsOf, hb]), fun b hb => h.2 b (by simp [rangesOf, hb])⟩) (fun h => by simp only [flatC, Bool.and_eq_true] at h; exact h.2)
    simp only [evCodeL] at h
    split at h
    · rename_i s1 hs
      obtain ⟨h1, h2⟩ := ihb hok.2 r lb _ _ _ h hh
      obtain ⟨h3, h4⟩ := iha hok.1 r la _ _ _ hs h2
      exact ⟨h3.seq h1, h4⟩
    · rename_i hne
      obtain ⟨h1, h2⟩ := iha hok.1 r la _ _ _ h hh
      refine ⟨h1.seq_out ?_, h2⟩
      rintro rfl
      exact hne s' h
  | cond c a b iha ihb =>
    intro hok r hl s x s' h hh
    simp only [codeOk, Bool.and_eq_true] at hok
    have la : (r = none ∧ LoopsOk P nt L a) ∨ flatC a = true := hl.imp (fun ⟨e, h⟩ => ⟨e, fun b hb => h.1 b (by simp [loopsOf, hb]), fun b hb => h.2 b (by simp [rangesOf, hb])⟩) (fun h => by simp only [flatC, Bool.and_eq_true] at h; exact h.1)
    have lb : (r = none ∧ LoopsOk P nt L b) ∨ flatC b = true := hl.imp (fun ⟨e, h⟩ => ⟨e, fun b hb => h.1 b (by simp [loopsOf, hb]), fun b hb => h.2 b (by simp [rangesOf, hb])⟩) (fun h => by simp only [flatC, Bool.and_eq_true] at h; exact h.2)
    obtain ⟨s, os, ob⟩ := s
    simp only [evCodeL] at h
    split at h
    · rename_i b0 hb
      obtain ⟨t, os1, ob1, hk, hob⟩ := ask_eq h
      cases t with
      | true =>
        obtain ⟨h1, h2⟩ := iha hok.1 r la _ _ _ hk hh
        obtain ⟨h3, h4⟩ := hob h2
        subst h3
        exact ⟨fun B Ds ρ0 H0 w0 ρ a w Q hR hF hM hQ => wpIn_cond_true (bool_of (hF.opR [c] c (by simp) _ hb)) (h1 B Ds ρ0 H0 w0 ρ a w Q hR hF hM hQ), h4⟩
      | false =>
        obtain ⟨h1, h2⟩ := ihb hok.2 r lb _ _ _ hk hh
        obtain ⟨h3, h4⟩ := hob h2
        subst h3
        exact ⟨fun B Ds ρ0 H0 w0 ρ a w Q hR hF hM hQ => wpIn_cond_false (bool_of (hF.opR [c] c (by simp) _ hb)) (h1 B Ds ρ0 H0 w0 ρ a w Q hR hF hM hQ), h4⟩
    · simp at h
  | block id b ih =>
    intro hok r hl s x s' h hh
    simp only [codeOk] at hok
    have lb : (r = none ∧ LoopsOk P nt L b) ∨ flatC b = true := hl.imp (fun ⟨e, h⟩ => ⟨e, fun b hb => h.1 b (by simp [loopsOf, hb]), fun b hb => h.2 b (by simp [rangesOf, hb])⟩) (fun h => by simpa [flatC] using h)
    simp only [evCodeL] at h
    split at h
    · rename_i i s1 hs
      split at h
      · rename_i hid
        simp only [Option.some.injEq, Prod.mk.injEq] at h
        obtain ⟨rfl, rfl⟩ := h
        obtain ⟨h1, h2⟩ := ih hok r lb _ _ _ hs hh
        refine ⟨fun B Ds ρ0 H0 w0 ρ a w Q hR hF hM hQ => wpIn_block (h1 B Ds ρ0 H0 w0 ρ a w _ hR hF hM fun ρ1 D1 a1 w1 g p q m k => ?_), h2⟩
        simp only [toExit, Exit.inBlock, hid, if_true]
        exact hQ ρ1 D1 a1 w1 g p q m k
      · rename_i hid
        simp only [Option.some.injEq, Prod.mk.injEq] at h
        obtain ⟨rfl, rfl⟩ := h
        obtain ⟨h1, h2⟩ := ih hok r lb _ _ _ hs hh
        refine ⟨fun B Ds ρ0 H0 w0 ρ a w Q hR hF hM hQ => wpIn_block (h1 B Ds ρ0 H0 w0 ρ a w _ hR hF hM fun ρ1 D1 a1 w1 g p q m k => ?_), h2⟩
        simp only [toExit, Exit.inBlock, hid, if_false]
        exact hQ ρ1 D1 a1 w1 g p q m k
    · rename_i hne
      obtain ⟨h1, h2⟩ := ih hok r lb _ _ _ h hh
      refine ⟨fun B Ds ρ0 H0 w0 ρ a w Q hR hF hM hQ => wpIn_block (h1 B Ds ρ0 H0 w0 ρ a w _ hR hF hM fun ρ1 D1 a1 w1 g p q m k => ?_), h2⟩
      have := hQ ρ1 D1 a1 w1 g p q m k
      cases x with
      | normal => exact this
      | exit i => exact (hne i s' h).elim
      | ret => exact this
  | loop b ih =>
    intro hok r hl s x s' h hh
    simp only [codeOk] at hok
    rcases hl with ⟨rfl, hl⟩ | hl
    case inr => simp [flatC] at hl
    have lb : ((none : Option Nat) = none ∧ LoopsOk P nt L b) ∨ flatC b = true := .inl ⟨rfl, fun c hc => hl.1 c (by simp [loopsOf, hc]), fun c hc => hl.2 c (by simp [rangesOf, hc])⟩
    simp only [evCodeL] at h
    split at h
    · rename_i x1 s1 o1 hL
      simp only [Option.some.injEq, Prod.mk.injEq] at h
      obtain ⟨rfl, rfl⟩ := h
      exact ⟨hl.1 b (by simp [loopsOf]) _ _ _ _ hL fun p hp => hh p (by simp [hp]), fun p hp => hh p (by simp [hp])⟩
    · -- round by round
      clear hl
      generalize L.keys (firstId b) s.s.F = m at h
      have key : ∀ (n : Nat) (s : SS), iterS n (evCodeL P X pre C L N nt b) m s = some (x, s') → Holds s.ob ∧
          ∀ (B : Nat) (Ds : List Nat) (ρ0 : Rho) (H0 : Heap) (w0 : World) (ρ : Rho) (a : Act) (w : World) (Q : Exit → Act → World → Prop), Rel ρ0 H0 w0 ρ s.s.H s.s.lo w → FR (marks Ds) ρ nt s.s.F a → Marked B w Ds →
            (∀ ρ' Ds' a' w', ρ <+: ρ' → Rel ρ0 H0 w0 ρ' s'.s.H s'.s.lo w' → FR (marks Ds') ρ' nt s'.s.F a' → Marked B w' Ds' → KeepsOthers w w' → Q (toExit x) a' w') →
            Code.roundsIn (FX none) 0 P b Q n a w := by
        intro n
        induction n with
        | zero => intro s h; simp [iterS] at h
        | succ n ihn =>
          intro s h
          simp only [iterS] at h
          split at h
          · rename_i F H lo os ob hs
            obtain ⟨h2, h1⟩ := ihn _ h
            obtain ⟨h3, h4⟩ := ih hok none lb _ _ _ hs h2
            refine ⟨h4, fun B Ds ρ0 H0 w0 ρ a w Q hR hF hM hQ => ?_⟩
            refine h3 B Ds ρ0 H0 w0 ρ a w _ hR hF hM fun ρ1 D1 a1 w1 g p q m1 k => ?_
            exact h1 B D1 ρ0 H0 w0 ρ1 a1 w1 Q p (q.forget m) m1 fun ρ' Ds' a' w' g' p' q' m' k' => hQ ρ' Ds' a' w' (g.trans g') p' q' m' (k.trans k')
          · rename_i hne
            obtain ⟨h3, h4⟩ := ih hok none lb _ _ _ h hh
            refine ⟨h4, fun B Ds ρ0 H0 w0 ρ a w Q hR hF hM hQ => ?_⟩
            refine h3 B Ds ρ0 H0 w0 ρ a w _ hR hF hM fun ρ1 D1 a1 w1 g p q m1 k => ?_
            have := hQ ρ1 D1 a1 w1 g p q m1 k
            cases x with
            | normal => obtain ⟨⟨F, H, lo⟩, os, ob⟩ := s'; exact (hne F H lo os ob h).elim
            | exit i => exact this
            | ret => exact this
      obtain ⟨k1, k2⟩ := key N s h
      exact ⟨fun B Ds ρ0 H0 w0 ρ a w Q hR hF hM hQ => wpIn_loop_rounds N (k2 B Ds ρ0 H0 w0 ρ a w Q hR hF hM hQ), k1⟩
  | rangeFunc g ps assign body iha ihb =>
    intro hok r hl s x s' h hh
    simp only [codeOk, Bool.and_eq_true] at hok
    rcases hl with ⟨rfl, hl⟩ | hl
    case inr => simp [flatC] at hl
    simp only [evCodeL] at h
    split at h
    · rename_i x1 s1 o1 hL
      simp only [Option.some.injEq, Prod.mk.injEq] at h
      obtain ⟨rfl, rfl⟩ := h
      exact ⟨hl.2 _ (by simp [rangesOf]) _ _ _ _ hL fun p hp => hh p (by simp [hp]), fun p hp => hh p (by simp [hp])⟩
    split at h
    · rename_i f bs z p q hfl hg hps
      simp only [Bool.and_eq_true] at hfl
      have ha2 : ∀ s x s', evCodeL P X pre C L N nt assign s = some (x, s') → Holds s'.ob → Holds s.ob := fun s x s' h hh => (iha hok.1 none (.inr hfl.1) s x s' h hh).2
      have hb2 : ∀ s x s', evCodeL P X pre C L N nt body s = some (x, s') → Holds s'.ob → Holds s.ob := fun s x s' h hh => (ihb hok.2 none (.inr hfl.2) s x s' h hh).2
      exact ⟨range_WP ok hps (fun l s x s' h hh => (iha hok.1 (some l) (.inr hfl.1) s x s' h hh).1) (fun l s x s' h hh => (ihb hok.2 (some l) (.inr hfl.2) s x s' h hh).1) ha2 hb2 hg h hh, evRange_holds ha2 hb2 _ _ h hh⟩
    · simp at h
  | scope b ih =>
    intro hok r hl s x s' h hh
    simp only [codeOk] at hok
    have lb : (r = none ∧ LoopsOk P nt L b) ∨ flatC b = true := hl.imp (fun ⟨e, h⟩ => ⟨e, fun b hb => h.1 b (by simp [loopsOf, hb]), fun b hb => h.2 b (by simp [rangesOf, hb])⟩) (fun h => by simpa [flatC] using h)
    simp only [evCodeL] at h
    obtain ⟨h1, h2⟩ := ih hok r lb _ _ _ h hh
    refine ⟨fun B Ds ρ0 H0 w0 ρ a w Q hR hF hM hQ => wpIn_scope (h1 B Ds ρ0 H0 w0 ρ a w _ hR hF hM fun ρ1 D1 a1 w1 g p q m k => ?_), h2⟩
    have := hQ ρ1 D1 a1 w1 g p q m k
    cases x with
    | normal => exact this
    | exit i => exact this
    | ret => exact this
  | skip | label | exit | ret =>
    intro hok r hl s x s' h hh
    simp only [evCodeL, Option.some.injEq, Prod.mk.injEq] at h
    obtain ⟨rfl, rfl⟩ := h
    refine ⟨fun B Ds ρ0 H0 w0 ρ a w Q hR hF hM hQ => ?_, hh⟩
    have := hQ ρ Ds a w (List.prefix_refl _) hR hF hM (KeepsOthers.refl w)
    first
      | exact wpIn_skip this
      | exact wpIn_label this
      | exact wpIn_exit this
      | exact wpIn_ret this
  | _ =>
    intro _ _ _ s x s' h
    simp [evCodeL] at h

/-- What a call comes to. -/
def CallOk (P : Program) (f : FuncId) (args : List Value) (H : Heap) (v : Value) (H' : Heap) (l : Nat) : Prop :=
  ∀ (ρ : Rho) (w : World) (args' : Array Value), VRs ρ args args'.toList → SR ρ H w → Calls P f args' w fun e w' => ∃ ρ' v', e = .returned v' ∧ VR ρ' v v' ∧ Rel ρ H w ρ' H' l w'

theorem Sound.iff {P : Program} {C : Oracle} : Sound P C ↔ ∀ f args H v H' l, C f args H = some (v, H', l) → CallOk P f args H v H' l := Iff.rfl

/-- One function along a path, its loops as they are told. -/
def evFnL (P : Program) (X : Ext) (N : Nat) (pre : Pre) (C : Oracle) (L : Loops) (os : Path) (f : FuncId) (args : List Value) (H : Heap) : Option ((Value × Heap × Nat) × Obs) :=
  match P.funcs[f]? with
  | some fn => match fn.body with
    | some c => match evCodeL P X pre C L N (max args.length fn.ntmps) c ⟨⟨start 0 args, H, H.length⟩, os, []⟩ with
      | some (.normal, ⟨s, _, ob⟩) | some (.ret, ⟨s, _, ob⟩) => (evResults P fn s.F s.H).map fun v => ((v, s.H, s.lo), ob)
      | _ => none
    | none => none
  | none => none

theorem leaves_marks {fn : Func} {tmps : Array Value} {R : Ending → World → Prop} {ρ0 : Rho} {H0 : Heap} {w0 : World} {ρ1 : Rho} {H1 : Heap} {lo : Nat} : ∀ (Ds : List Nat) (w1 : World), Rel ρ0 H0 w0 ρ1 H1 lo w1 → Marked w0.heap.size w1 Ds →
    (∀ w2, Rel ρ0 H0 w0 ρ1 H1 lo w2 → LeavesIn Fence.wide 0 P fn tmps R [] .returning w2) → LeavesInM Fence.wide 0 P fn tmps R (marks Ds) .returning w1 := by
  intro Ds
  induction Ds with
  | nil => intro w1 hR _ h; exact h w1 hR
  | cons D Ds ih =>
    intro w1 hR hM h
    have hD := hM.each D (by simp)
    refine ⟨by simp, .inl ⟨D, w1.putObj D (.deferred none), rfl, run_takeDeferred hD.2, ih _ (hR.turn hD.1 hD.2 rfl rfl) ?_ h⟩⟩
    have hn := List.nodup_cons.1 hM.nodup
    refine ⟨by rw [World.putObj_size]; exact hM.base, hn.2, fun E hE => ?_⟩
    have hE' := hM.each E (by simp [hE])
    refine ⟨hE'.1, ?_⟩
    rw [World.putObj_heap_other]
    · exact hE'.2
    · rintro rfl
      exact hn.1 hE

theorem call_of_WP {f : FuncId} {fn : Func} {c : Code} (hfn : P.funcs[f]? = some fn) (hb : fn.body = some c) {args : List Value} {H : Heap} {x : Ex} {s : St} {v : Value}
    (h : WP P (max args.length fn.ntmps) c ⟨start 0 args, H, H.length⟩ x s) (hx : x = .normal ∨ x = .ret) (hv : evResults P fn s.F s.H = some v) : CallOk P f args H v s.H s.lo := by
  intro ρ w args' hargs hs
  have hsz : args.length = args'.size := by simpa using hargs.1
  have hF0 : FR (marks []) ρ (max args.length fn.ntmps) (start 0 args) { tmps := args' ++ Array.replicate (fn.ntmps - args'.size) undef, defers := [] } := by
    refine ⟨rfl, by simp; omega, fun t u hu => ?_⟩
    obtain ⟨_, h2⟩ := at_start args 0 hu
    simp only [Nat.sub_zero] at h2
    obtain ⟨u', h3, h4⟩ := zip_get hargs h2
    refine ⟨u', ?_, h4⟩
    have hlt := (List.getElem?_eq_some_iff.1 h3).1
    simp only
    rw [Array.getElem?_append_left (by simpa using hlt)]
    simpa using h3
  refine callsIn_wide.1 (callsIn_of_wp_marks (F := Fence.wide) (n := 0) hfn hb trivial (h w.heap.size [] ρ H w ρ _ w _ (Rel.of_quiet hs (Quiet.refl w) _) hF0 ⟨Nat.le_refl _, List.nodup_nil, fun D hD => by simp at hD⟩ fun ρ1 D1 a1 w1 g hR hF hM hk => ?_))
  have key : LeavesInM Fence.wide 0 P fn a1.tmps (fun e w' => ∃ ρ' v', e = .returned v' ∧ VR ρ' v v' ∧ Rel ρ H w ρ' s.H s.lo w') a1.defers .returning w1 := by
    rw [hF.defers]
    refine leaves_marks D1 w1 hR hM fun w2 hR2 => ?_
    obtain ⟨v', h1, h2⟩ := evResults_run (P := P) hF hR2.sr hv
    exact ⟨v', h2, ρ1, v', rfl, h1, hR2⟩
  rcases hx with rfl | rfl
  · exact key
  · exact key

theorem evFnL_ok (ok : ProgOk P) (hX : XSound P X) (hC : Sound P (strict pre C)) {os : Path} {f : FuncId} {args : List Value} {H : Heap} {v : Value} {H' : Heap} {l : Nat} {ob : Obs}
    (hL : ∀ fn c, P.funcs[f]? = some fn → fn.body = some c → LoopsOk P (max args.length fn.ntmps) L c) (h : evFnL P X N pre C L os f args H = some ((v, H', l), ob)) (hh : Holds ob) : CallOk P f args H v H' l := by
  unfold evFnL at h
  split at h
  case h_2 => simp at h
  rename_i fn hfn
  split at h
  case h_2 => simp at h
  rename_i c hb
  have key : ∀ x s os1 ob1, evCodeL P X pre C L N (max args.length fn.ntmps) c ⟨⟨start 0 args, H, H.length⟩, os, []⟩ = some (x, ⟨s, os1, ob1⟩) → (x = .normal ∨ x = .ret) → (evResults P fn s.F s.H).map (fun v => ((v, s.H, s.lo), ob1)) = some ((v, H', l), ob) →
      CallOk P f args H v H' l := by
    intro x s os1 ob1 hs hx hr
    cases hv : evResults P fn s.F s.H with
    | none => simp [hv] at hr
    | some u =>
      simp [hv] at hr
      obtain ⟨⟨rfl, rfl, rfl⟩, rfl⟩ := hr
      obtain ⟨h1, _⟩ := evCodeL_WP ok hX hC c (ok.code f fn c hfn hb).1 none (.inl ⟨rfl, hL fn c hfn hb⟩) _ _ _ hs hh
      exact call_of_WP hfn hb h1 hx hv
  split at h
  · rename_i s os1 ob1 hs
    exact key _ _ _ _ hs (.inl rfl) h
  · rename_i s os1 ob1 hs
    exact key _ _ _ _ hs (.inr rfl) h
  · simp at h

/-- No loop is told. -/
theorem noLoops_ok {c : Code} : LoopsOk P nt noLoops c := ⟨fun b _ s x s' o h => by simp [noLoops] at h, fun b _ s x s' o h => by simp [noLoops] at h⟩

theorem evFnL_plain (ok : ProgOk P) (hX : XSound P X) (hC : Sound P (strict pre C)) {os : Path} {f : FuncId} {args : List Value} {H : Heap} {v : Value} {H' : Heap} {l : Nat} {ob : Obs}
    (h : evFnL P X N pre C noLoops os f args H = some ((v, H', l), ob)) (hh : Holds ob) : CallOk P f args H v H' l :=
  evFnL_ok ok hX hC (fun _ _ _ _ => noLoops_ok) h hh

/-- A call without addresses: nothing that was there has turned. -/
theorem CallOk.plain {f : FuncId} {args : List Value} {v : Value} {H' : Heap} {l : Nat} (h : CallOk P f args [] v H' l) (hargs : args.all (pf 3) = true) (hv : pf 3 v = true) (w : World) :
    Calls P f args.toArray w fun e w' => e = .returned v ∧ Quiet w w' := by
  have hself : VRs [] args args := ⟨rfl, fun i x x' p q => by rw [p] at q; cases q; exact pf_self 3 _ (get_all hargs p)⟩
  refine (h [] w args.toArray (by simpa using hself) (SR.empty w)).mono ?_
  rintro e w' ⟨ρ', v', rfl, hvr, hR⟩
  refine ⟨by rw [pf_eq 3 _ _ hv hvr], hR.os, hR.tape, hR.output, hR.size, fun k hk => hR.keep k hk fun j e0 b0 hj => by simp at hj, hR.frozen⟩

theorem Sound.strict {pre : Pre} {C : Oracle} (h : ∀ f args H v H' l, pre f args H = true → C f args H = some (v, H', l) → CallOk P f args H v H' l) : Sound P (Den.strict pre C) := by
  intro f args H v H' l hc
  unfold Den.strict at hc
  split at hc
  · rename_i hp
    exact h f args H v H' l hp hc
  · simp at hc
end

end Go.Proofs.Ytfbjpenbpbpcaaa.Den

/-
  A verified evaluator, fifteenth part: a piece of code from a known state, by a run along a path; loops with a measure; the text of a function.
-/
namespace Go.Proofs.Ytfbjpenbpbpcaaa.Den
open Go

/-- The slots of these numbers. -/
def pick (F : Slots) : List Nat → Slots
  | [] => []
  | t :: ks => match at? t F with
    | some v => (t, v) :: pick F ks
    | none => pick F ks

theorem pick_sub (F : Slots) (ks : List Nat) : Sub (pick F ks) F := by
  induction ks with
  | nil => intro t v h; simp [pick, at?] at h
  | cons k ks ih =>
    intro t v h
    unfold pick at h
    split at h
    · rename_i u hu
      simp only [at?] at h
      split at h
      · rename_i hb
        have : k = t := Nat.eq_of_beq_eq_true hb
        subst this
        rw [hu, h]
      · exact ih t v h
    · exact ih t v h

/-- The text of a function. -/
def bodyOf (P : Program) (f : FuncId) : Code := match P.funcs[f]? with
  | some fn => fn.body.getD .skip
  | none => .skip
/-- How many slots it has, called with so many arguments. -/
def ntOf (P : Program) (f : FuncId) (n : Nat) : Nat := match P.funcs[f]? with
  | some fn => max n fn.ntmps
  | none => n
/-- The body of its k-th loop. -/
def loopAt (P : Program) (f : FuncId) (k : Nat) : Code := (loopsOf (bodyOf P f)).getD k .skip

section
variable {P : Program} {X : Ext} {pre : Pre} {C : Oracle} {L : Loops} {N nt : Nat}

/-- A run of a piece of code along a path: the exit, the slots of these numbers, the heap, the least old block written, what was asked. -/
def evL (P : Program) (X : Ext) (pre : Pre) (C : Oracle) (L : Loops) (N nt : Nat) (c : Code) (F : Slots) (H : Heap) (lo : Nat) (os : Path) (ks : List Nat) : Option (Ex × Slots × Heap × Nat × Obs) :=
  match evCodeL P X pre C L N nt c ⟨⟨F, H, lo⟩, os, []⟩ with
  | some (x, ⟨⟨F, H, lo⟩, _, ob⟩) => some (x, pick F ks, H, lo, ob)
  | none => none

theorem WP.run (ok : ProgOk P) (hX : XSound P X) (hC : Sound P (strict pre C)) {c : Code} (hc : codeOk c = true) (hl : LoopsOk P nt L c) {F : Slots} {H : Heap} {lo : Nat} {os : Path} (ks : List Nat) {x : Ex} {F' : Slots} {H' : Heap} {lo' : Nat} {ob : Obs}
    (h : evL P X pre C L N nt c F H lo os ks = some (x, F', H', lo', ob)) (hh : Holds ob) : WP P nt c ⟨F, H, lo⟩ x ⟨F', H', lo'⟩ := by
  unfold evL at h
  split at h
  · rename_i x1 F1 H1 lo1 os1 ob1 hs
    simp only [Option.some.injEq, Prod.mk.injEq] at h
    obtain ⟨rfl, rfl, rfl, rfl, rfl⟩ := h
    exact WPr.weaken (evCodeL_WP ok hX hC c hc none (.inl ⟨rfl, hl⟩) _ _ _ hs hh).1 (Sub.refl _) (pick_sub _ _)
  · simp at h

/-- A loop with a measure: from each state of a family it comes out, or on to one of the family that has less. -/
theorem WP.while {b : Code} {α : Type} (S : α → St) (inv : α → Prop) (μ : α → Nat) {x : Ex} {s' : St} (hx : x ≠ .normal)
    (h : ∀ a, inv a → WP P nt b (S a) x s' ∨ ∃ a', inv a' ∧ μ a' < μ a ∧ WP P nt b (S a) .normal (S a')) : ∀ a, inv a → WP P nt (.loop b) (S a) x s' := by
  have key : ∀ (n : Nat) (a : α), μ a ≤ n → inv a → ∃ (k : Nat) (R : Nat → α), R 0 = a ∧ (∀ i, i < k → WP P nt b (S (R i)) .normal (S (R (i + 1)))) ∧ WP P nt b (S (R k)) x s' := by
    intro n
    induction n with
    | zero =>
      intro a ha hi
      rcases h a hi with h1 | ⟨a', _, hl, _⟩
      · exact ⟨0, fun _ => a, rfl, fun i hi => by omega, h1⟩
      · omega
    | succ n ih =>
      intro a ha hi
      rcases h a hi with h1 | ⟨a', hi', hl, hw⟩
      · exact ⟨0, fun _ => a, rfl, fun i hi => by omega, h1⟩
      · obtain ⟨k, R, h0, h1, h2⟩ := ih a' (by omega) hi'
        refine ⟨k + 1, fun i => match i with
          | 0 => a
          | i + 1 => R i, rfl, fun i hik => ?_, h2⟩
        cases i with
        | zero => simp only [h0]; exact hw
        | succ i => exact h1 i (by omega)
  intro a ha
  obtain ⟨k, R, h0, h1, h2⟩ := key _ a (Nat.le_refl _) ha
  have := WP.loop (S := fun i => S (R i)) k hx h1 h2
  simpa only [h0] using this

/-- A function along a path, its loops by what is said of them. -/
theorem fnL_ok (ok : ProgOk P) (hX : XSound P X) (hC : Sound P (strict pre C)) {os : Path} {f : FuncId} {args : List Value} {H : Heap} {v : Value} {H' : Heap} {l : Nat} {ob : Obs}
    (hL : LoopsOk P (ntOf P f args.length) L (bodyOf P f)) (h : evFnL P X N pre C L os f args H = some ((v, H', l), ob)) (hh : Holds ob) : CallOk P f args H v H' l := by
  refine evFnL_ok ok hX hC (fun fn c hf hb => ?_) h hh
  have e1 : bodyOf P f = c := by unfold bodyOf; rw [hf]; simp [hb]
  have e2 : ntOf P f args.length = max args.length fn.ntmps := by unfold ntOf; rw [hf]
  rw [e1, e2] at hL
  exact hL

/-- No range over a function in it. -/
theorem LoopsOk.flat {c : Code} (hr : rangesOf c = []) (h : ∀ b ∈ loopsOf c, ∀ s x s' o, L.loop (firstId b) s = some (x, s', o) → Holds o → WP P nt (.loop b) s x s') : LoopsOk P nt L c :=
  ⟨h, fun b hb => by rw [hr] at hb; simp at hb⟩

/-- One loop alone. -/
theorem LoopsOk.one {c : Code} {b : Code} (h : loopsOf c = [b]) (hb : ∀ s x s' o, L.loop (firstId b) s = some (x, s', o) → Holds o → WP P nt (.loop b) s x s') (hr : rangesOf c = [] := by kernel_rfl) : LoopsOk P nt L c := by
  refine .flat hr ?_
  intro b' hb'
  rw [h] at hb'
  simp only [List.mem_singleton] at hb'
  subst hb'
  exact hb

/-- Names alone. -/
theorem LoopsOk.names {c : Code} (h : L.loop = fun _ _ => none) : LoopsOk P nt L c := by
  refine ⟨?_, ?_⟩
  all_goals
    intro b _ s x s' o hs
    rw [h] at hs
    simp at hs

theorem LoopsOk.none {c : Code} (h : loopsOf c = []) (hr : rangesOf c = [] := by kernel_rfl) : LoopsOk P nt L c := by
  refine .flat hr ?_
  intro b' hb'
  rw [h] at hb'
  simp at hb'

/-- A run of a piece of code without loops, in a frame or in a round. -/
theorem WPr.run (ok : ProgOk P) (hX : XSound P X) (hC : Sound P (strict pre C)) {c : Code} (hc : (codeOk c && flatC c) = true) {r : Option Nat} {F : Slots} {H : Heap} {lo : Nat} {os : Path} {ks : List Nat} {x : Ex} {F' : Slots} {H' : Heap} {lo' : Nat} {ob : Obs}
    (h : evL P X pre C L N nt c F H lo os ks = some (x, F', H', lo', ob)) (hh : Holds ob) : WPr r P nt c ⟨F, H, lo⟩ x ⟨F', H', lo'⟩ := by
  simp only [Bool.and_eq_true] at hc
  unfold evL at h
  split at h
  · rename_i x1 F1 H1 lo1 os1 ob1 hs
    simp only [Option.some.injEq, Prod.mk.injEq] at h
    obtain ⟨rfl, rfl, rfl, rfl, rfl⟩ := h
    exact WPr.weaken (evCodeL_WP ok hX hC c hc.1 r (.inr hc.2) _ _ _ hs hh).1 (Sub.refl _) (pick_sub _ _)
  · simp at h

/-- Is it so? -/
noncomputable def cdec (p : Prop) : Bool := @decide p (Classical.propDecidable p)
theorem cdec_iff {p : Prop} : cdec p = true ↔ p := by simp [cdec]

/-- What is said of one loop at one state. -/
noncomputable def sumL (id : Nat) (S0 : St) (x : Ex) (S1 : St) : Nat → St → Option (Ex × St × Obs) := fun i s => match Nat.beq i id with
  | true => some (x, S1, [(cdec (pick s.F (S0.F.map (·.1)) = S0.F), true), (cdec (s.H = S0.H), true), (cdec (s.lo = S0.lo), true)])
  | false => none

/-- The loops that are told, one by one; of the others nothing is said. -/
theorem LoopsOk.sum {c : Code} {id : Nat} {S0 : St} {x : Ex} {S1 : St} {L : Loops} (hL : L.loop = sumL id S0 x S1)
    (h : ∀ b ∈ loopsOf c, firstId b = id → WP P nt (.loop b) S0 x S1) (hr : rangesOf c = [] := by kernel_rfl) : LoopsOk P nt L c := by
  refine .flat hr ?_
  intro b hb s x' s' o hs ho
  rw [hL] at hs
  simp only [sumL] at hs
  split at hs
  · rename_i he
    simp only [Option.some.injEq, Prod.mk.injEq] at hs
    obtain ⟨rfl, rfl, rfl⟩ := hs
    have h1 := cdec_iff.1 (ho (cdec (pick s.F (S0.F.map (·.1)) = S0.F), true) (by simp) : cdec (pick s.F (S0.F.map (·.1)) = S0.F) = true)
    have h2 := cdec_iff.1 (ho (cdec (s.H = S0.H), true) (by simp) : cdec (s.H = S0.H) = true)
    have h3 := cdec_iff.1 (ho (cdec (s.lo = S0.lo), true) (by simp) : cdec (s.lo = S0.lo) = true)
    have hw := h b hb (Nat.eq_of_beq_eq_true he)
    obtain ⟨F, H, lo⟩ := s
    obtain ⟨F0, H0, lo0⟩ := S0
    obtain ⟨F1, H1, lo1⟩ := S1
    simp only at h1 h2 h3
    subst h2 h3
    refine hw.weaken ?_ (Sub.refl _)
    rw [← h1]
    exact pick_sub _ _
  · simp at hs

/-- What is told of one loop at one state, out of its proof. -/
theorem sumL_ok {c : Code} {id : Nat} {S0 : St} {x : Ex} {S1 : St} (h : WP P nt c S0 x S1) {i : Nat} {s : St} {x' : Ex} {s' : St} {o : Obs} (hs : sumL id S0 x S1 i s = some (x', s', o)) (ho : Holds o) : WP P nt c s x' s' := by
  simp only [sumL] at hs
  split at hs
  · simp only [Option.some.injEq, Prod.mk.injEq] at hs
    obtain ⟨rfl, rfl, rfl⟩ := hs
    have h1 := cdec_iff.1 (ho (cdec (pick s.F (S0.F.map (·.1)) = S0.F), true) (by simp) : cdec (pick s.F (S0.F.map (·.1)) = S0.F) = true)
    have h2 := cdec_iff.1 (ho (cdec (s.H = S0.H), true) (by simp) : cdec (s.H = S0.H) = true)
    have h3 := cdec_iff.1 (ho (cdec (s.lo = S0.lo), true) (by simp) : cdec (s.lo = S0.lo) = true)
    obtain ⟨F, H, lo⟩ := s
    obtain ⟨F0, H0, lo0⟩ := S0
    obtain ⟨F1, H1, lo1⟩ := S1
    simp only at h1 h2 h3
    subst h2 h3
    refine WP.weaken h ?_ (Sub.refl _)
    rw [← h1]
    exact pick_sub _ _
  · simp at hs

theorem sumL_id {id : Nat} {S0 : St} {x : Ex} {S1 : St} {i : Nat} {s : St} {r : Ex × St × Obs} (hs : sumL id S0 x S1 i s = some r) : i = id := by
  simp only [sumL] at hs
  split at hs
  · rename_i h
    exact Nat.eq_of_beq_eq_true h
  · simp at hs

/-- One teller, or else another. -/
def orL (a b : Nat → St → Option (Ex × St × Obs)) : Nat → St → Option (Ex × St × Obs) := fun i s => match a i s with
  | some r => some r
  | none => b i s

end
end Go.Proofs.Ytfbjpenbpbpcaaa.Den

