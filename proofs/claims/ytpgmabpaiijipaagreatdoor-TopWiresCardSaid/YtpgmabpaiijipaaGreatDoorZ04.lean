/- Parts of the proof, joined: Den12, Den11b, Den13, Den14, Pm, Den15, Den16. -/
import Derived.RangeFuncOwn
import Derived.OrdersIn
import Derived.LoopNIn
import Derived.Scope
import Derived.RangeFuncSeq
import Derived.RangeFuncRecord
import Derived.RangeFuncLeaves
import Derived.KernelRfl
import Derived.Test.YtpgmabpaiijipaaGreatDoorZ03
namespace Go.Proofs.YtpgmabpaiijipaaGreatDoor.Den
open Go
abbrev Path := List (Nat × Bool)
abbrev Obs := List (Bool × Bool)
def Holds (ob : Obs) : Prop := ∀ p ∈ ob, p.1 = p.2
def ask {α : Type} (os : Path) (ob : Obs) (b : Bool) (k : Bool → Path → Obs → Option α) : Option α :=
  match os with
  | [] => match b with
    | true => k true [] ob
    | false => k false [] ob
  | (0, t) :: os => k t os ((b, t) :: ob)
  | (n + 1, t) :: os => match b with
    | true => k true ((n, t) :: os) ob
    | false => k false ((n, t) :: os) ob
structure SS where
  s : St
  os : Path
  ob : Obs
def wantS {α : Type} (all : List Oper) (F : Slots) (o : Oper) (os : Path) (ob : Obs) (k : Bool → Path → Obs → Option α) : Option α :=
  match o.guard with
  | none => k true os ob
  | some _ => match wantedF all F o with
    | some b => ask os ob b k
    | none => none
def pickS (F : Slots) (o : Oper) : Option (Bool × Value × Value) :=
  match o.op with
  | .pick c x y => match ev F c, ev F x, ev F y with
    | some (.bool _), some (.bool _), some (.bool _) => none
    | some (.bool b), some u, some w => some (b, u, w)
    | _, _, _ => none
  | _ => none
abbrev Pre := FuncId → List Value → Heap → Bool
def strict (pre : Pre) (C : Oracle) : Oracle := fun f args H => match pre f args H with
  | true => C f args H
  | false => none
def askC (pre : Pre) (C : Oracle) (f : FuncId) (args : List Value) (H : Heap) : Bool :=
  match args.all (pf 3) with
  | true => match C f args [] with
    | some (v, _, _) => match pf 3 v with
      | true => pre f args []
      | false => pre f args [] && pre f args H
    | none => true
  | false => pre f args H
def callS (P : Program) (pre : Pre) (C : Oracle) (draw : Bool) (F : Slots) (H : Heap) (o : Oper) : Option Bool :=
  match o.op with
  | .call c => match c.callee with
    | .value f => match ev F f, evs F c.args.toList with
      | some (.func (.func f) a b), some args => match draw || ((P.funcs[f]?).map fun fn => fn.resultTypes.toList.all (flatT P 4)) == some true with
        | true => some (askC pre C f (a.toList ++ args ++ b.toList) H)
        | false => some (pre f (a.toList ++ args ++ b.toList) H)
      | _, _ => none
    | _ => none
  | _ => none
def divS (F : Slots) (o : Oper) : Option (Bool × Value) :=
  match o.op with
  | .binOp .shl _ x y _ => match ev F x, ev F y with
    | some (.int k a), some (.int _ b) => some (decide (b < 0), .int k (k.wrap (a * 2 ^ (min b.toNat k.bits))))
    | _, _ => none
  | .binOp .shr _ x y _ => match ev F x, ev F y with
    | some (.int k a), some (.int _ b) => some (decide (b < 0), .int k (a.fdiv (2 ^ (min b.toNat k.bits))))
    | _, _ => none
  | .binOp .quo _ x y _ => match ev F x, ev F y with
    | some (.int k a), some (.int k' b) => match eqK k k' with
      | true => some (decide (b = 0), .int k (k.wrap (a.tdiv b)))
      | false => none
    | _, _ => none
  | .binOp .rem _ x y _ => match ev F x, ev F y with
    | some (.int k a), some (.int k' b) => match eqK k k' with
      | true => some (decide (b = 0), .int k (a.tmod b))
      | false => none
    | _, _ => none
  | _ => none
def intAt (cs : List Value) (o : Nat) : Int := match cs[o]? with
  | some (.int _ n) => n
  | _ => 0
def isIntAt (k : IntKind) (cs : List Value) (o : Nat) : Bool := match cs[o]? with
  | some (.int k' _) => eqK k k'
  | _ => false
def boolAt (cs : List Value) (o : Nat) : Bool := match cs[o]? with
  | some (.bool b) => b
  | _ => false
def isBoolAt (cs : List Value) (o : Nat) : Bool := match cs[o]? with
  | some (.bool _) => true
  | _ => false
def byteAt (s : ByteArray) (o : Nat) : Int := match s[o]? with
  | some b => b.toNat
  | none => 0
def symKey (o : Oper) : Int := match o.op with
  | .call c => match c.args.toList with
    | [_, .tmp x] => x
    | _ => -1
  | _ => match o.op.operands.toList with
    | .tmp x :: _ => x
    | _ => -1
def appC (P : Program) (F : Slots) (H : Heap) (lo : Nat) (c : Call) : Option (Bool × Out) :=
  match c.argTypes.toList, evs F c.args.toList with
  | [t, t'], some [.slice (some ⟨g, 0, none⟩) n 0, .slice (some ⟨bb, off, none⟩) m _] => match Nat.beq t t', P.underlying t, H[g]?, H[bb]? with
    | true, some (.slice e), some ⟨true, some 1, old⟩, some blk => match P.info? e with
      | some i => match i.size, i.bytes, i.zero with
        | 1, 1, some (.int _ _) => some (live blk && decide (0 < n ∧ old.length = n ∧ off + m ≤ blk.cells.length ∧ n + m ≤ 140737488355328),
            ⟨.slice (some ⟨H.length, 0, none⟩) (n + m) 0, H.set g ⟨false, none, []⟩ ++ [⟨true, some 1, old ++ (blk.cells.drop off).take m⟩], min lo g, .write⟩)
        | _, _, _ => none
      | none => none
    | _, _, _, _ => none
  | _, _ => none
theorem appC_eq {P : Program} {F : Slots} {H : Heap} {lo : Nat} {c : Call} {r : Out} (h : appC P F H lo c = some (true, r)) : appS true P F H lo c = some (true, r) := by
  unfold appC at h
  split at h
  · rename_i t t' g n bb off m xc hat hev
    split at h
    · rename_i e old blk hbeq ht hg hb
      split at h
      · rename_i i hi
        split at h
        · rename_i k z hsz hby hz
          simp only [Option.some.injEq, Prod.mk.injEq, Bool.and_eq_true, decide_eq_true_eq] at h
          obtain ⟨⟨hl, h0, h1, h2, h3⟩, rfl⟩ := h
          have e1 : ∀ q, tm q 1 = q := fun q => by simp [tm]
          unfold appS
          simp only [hat, hev, hbeq, ht, hb, hi, hz, hg, forceIf_eq, hsz, hby, e1]
          rw [Option.some.injEq, Prod.mk.injEq]
          refine ⟨?_, rfl⟩
          rw [decide_eq_true_eq]
          exact ⟨hl, rfl, by omega, h2, by omega, by omega, trivial, h0, trivial, h1⟩
        · simp at h
      · simp at h
    · simp at h
  · simp at h
def symS0 (P : Program) (pre : Pre) (F : Slots) (H : Heap) (lo : Nat) (o : Oper) : Option (Bool × Out) :=
  match pre 1000000 [.int .i64 (symKey o)] [] with
  | true => none
  | false => match o.op with
    | .indexAddr t x i => match ev F x, ev F i, P.underlying t with
      | some (.pointer (some ⟨b, off, none⟩)), some (.int _ i), some (.array len e) => match sizeT P e with
        | some 1 => some (decide (0 ≤ i ∧ i < len), ⟨.pointer (some ⟨b, off + i.toNat, none⟩), H, lo, .pure⟩)
        | some n => some (decide (0 ≤ i ∧ i < len), ⟨.pointer (some ⟨b, off + i.toNat * n, none⟩), H, lo, .pure⟩)
        | none => none
      | some (.slice (some ⟨b, off, none⟩) len _), some (.int _ i), some (.slice e) => match sizeT P e with
        | some 1 => some (decide (0 ≤ i ∧ i < len), ⟨.pointer (some ⟨b, off + i.toNat, none⟩), H, lo, .pure⟩)
        | some n => some (decide (0 ≤ i ∧ i < len), ⟨.pointer (some ⟨b, off + i.toNat * n, none⟩), H, lo, .pure⟩)
        | none => none
      | _, _, _ => none
    | .load t x => match ev F x, P.underlying t with
      | some (.pointer (some a)), some (.int k) => match a.spot, H[a.block]? with
        | none, some b => some (live b && isIntAt k b.cells a.off, ⟨.int k (intAt b.cells a.off), H, lo, .read⟩)
        | _, _ => none
      | some (.pointer (some a)), some .bool => match a.spot, H[a.block]? with
        | none, some b => some (live b && isBoolAt b.cells a.off, ⟨.bool (boolAt b.cells a.off), H, lo, .read⟩)
        | _, _ => none
      | some (.pointer (some a)), some (.array n e) => match P.underlying e, sizeT P t with
        | some (.int k), some m => match a.spot, H[a.block]? with
          | none, some b => some (live b && (Nat.beq m n && (Nat.blt 0 n && (List.range n).all fun j => isIntAt k b.cells (a.off + j))), ⟨.agg ((List.range n).map fun j => .int k (intAt b.cells (a.off + j))).toArray, H, lo, .read⟩)
          | _, _ => none
        | _, _ => none
      | _, _ => none
    | .store t x y => match ev F x, ev F y, sizeT P t with
      | some (.pointer (some a)), some (.int k n), some 1 => match a.spot, H[a.block]? with
        | none, some b => some (live b && (b.own && decide (a.off + 1 ≤ b.cells.length)), ⟨undef, H.set a.block { b with cells := splice b.cells a.off [.int k n] }, min lo a.block, .write⟩)
        | _, _ => none
      | some (.pointer (some a)), some (.bool n), some 1 => match a.spot, H[a.block]? with
        | none, some b => some (live b && (b.own && decide (a.off + 1 ≤ b.cells.length)), ⟨undef, H.set a.block { b with cells := splice b.cells a.off [.bool n] }, min lo a.block, .write⟩)
        | _, _ => none
      | some (.pointer (some a)), some (.agg cs), some n => match Nat.beq cs.size n && cs.toList.all oneCell with
        | true => match a.spot, H[a.block]? with
          | none, some b => some (live b && (b.own && decide (a.off + n ≤ b.cells.length)), ⟨undef, H.set a.block { b with cells := splice b.cells a.off cs.toList }, min lo a.block, .write⟩)
          | _, _ => none
        | false => none
      | _, _, _ => none
    | .index t x i => match ev F x, ev F i, P.underlying t with
      | some (.agg cs), some (.int _ i), some (.array len e) => match sizeT P e, P.underlying e with
        | some n, some (.int k) => some (decide (0 ≤ i ∧ i < len) && isIntAt k cs.toList (i.toNat * n), ⟨.int k (intAt cs.toList (i.toNat * n)), H, lo, .pure⟩)
        | some n, some .bool => some (decide (0 ≤ i ∧ i < len) && isBoolAt cs.toList (i.toNat * n), ⟨.bool (boolAt cs.toList (i.toNat * n)), H, lo, .pure⟩)
        | _, _ => none
      | some (.string s), some (.int _ i), some .string => some (decide (0 ≤ i ∧ i < s.size), ⟨.int .u8 (byteAt s i.toNat), H, lo, .pure⟩)
      | _, _, _ => none
    | .call c => match c.callee with
      | .builtin .append => match appC P F H lo c with
        | some r => some r
        | none => appS false P F H lo c
      | _ => none
    | _ => none
def u8Of : Value → UInt8
  | .int .u8 n => UInt8.ofNat n.toNat
  | _ => 0
def isU8 : Value → Bool
  | .int .u8 _ => true
  | _ => false
def symI (x : Option Value) (d : Int) : Option Int := match x with
  | none => some d
  | some (.int _ i) => some i
  | some _ => none
def symX1 (P : Program) (F : Slots) (H : Heap) (lo : Nat) (o : Oper) : Option (Bool × Out) := match o.op with
  | .slice t x l h none => match ev F x, evOpt F l, evOpt F h, P.underlying t with
    | some (.slice (some ⟨b, off, none⟩) len cap), some l, some h, some (.slice e) => match sizeT P e, symI l 0, symI h len with
      | some sz, some li, some hi => some (decide (0 ≤ li ∧ li ≤ hi ∧ hi ≤ cap ∧ li < cap ∧ len ≤ cap), ⟨.slice (some ⟨b, off + li.toNat * sz, none⟩) (hi.toNat - li.toNat) (cap - li.toNat), H, lo, .pure⟩)
      | _, _, _ => none
    | _, _, _, _ => none
  | .call c => match c.callee with
    | .builtin .append => match c.argTypes.toList, evs F c.args.toList with
      | [t, t'], some [.slice (some ⟨g, _, none⟩) 0 0, .slice (some ⟨bb, off, none⟩) m _] => match Nat.beq t t', P.underlying t, H[g]?, H[bb]? with
        | true, some (.slice e), some gb, some blk => match gb.grown, P.info? e with
          | none, some i => match i.zero with
            | some z => some (live blk && decide (z.cells.size = i.size ∧ 0 < i.size ∧ 0 < m ∧ off + m * i.size ≤ blk.cells.length ∧ m * i.bytes ≤ 140737488355328 ∧ m ≤ 9223372036854775807),
                ⟨.slice (some ⟨H.length, 0, none⟩) m 0, H ++ [⟨true, some i.size, (blk.cells.drop off).take (m * i.size)⟩], lo, .write⟩)
            | none => none
          | _, _ => none
        | _, _, _, _ => none
      | [t, t'], some [.slice (some ⟨g, 0, some 0⟩) 0 0, .slice (some ⟨bb, off, none⟩) m _] => match Nat.beq t t', P.underlying t, H[g]?, H[bb]? with
        | true, some (.slice e), some old, some blk => match old.grown, P.info? e with
          | some sz, some i => match i.zero with
            | some z => some (live blk && (!old.cells.isEmpty && decide (z.cells.size = i.size ∧ 0 < i.size ∧ 0 < m ∧ m * i.bytes ≤ 140737488355328 ∧ m ≤ 9223372036854775807 ∧ sz = i.size ∧ old.own = true ∧ off + m * i.size ≤ blk.cells.length)),
                ⟨.slice (some ⟨H.length, 0, none⟩) m 0, H.set g ⟨false, none, []⟩ ++ [⟨true, some i.size, (blk.cells.drop off).take (m * i.size)⟩], min lo g, .write⟩)
            | none => none
          | _, _ => none
        | _, _, _, _ => none
      | [t, t'], some [.slice none 0 0, .int _ (.ofNat n)] => match P.underlying t, P.underlying t' with
        | some (.slice e), some (.int _) => match P.info? e with
          | some i => match i.size, i.bytes, i.zero with
            | 1, 1, some (.int k z) => some (decide (0 < n ∧ n ≤ 1000000), ⟨.slice (some ⟨H.length, 0, none⟩) n 0, H ++ [⟨true, some 1, List.replicate n (.int k z)⟩], lo, .write⟩)
            | _, _, _ => none
          | none => none
        | _, _ => none
      | _, _ => none
    | _ => none
  | .convert s d x => match P.underlying s, P.underlying d, ev F x with
    | some .string, some (.slice e), some (.string str) => match P.underlying e with
      | some (.int .u8) => some (decide (str.data.toList ≠ []), ⟨.slice (some ⟨H.length, 0, none⟩) str.size 0, H ++ [⟨false, none, str.data.toList.map fun b => Value.int .u8 b.toNat⟩], lo, .write⟩)
      | _ => none
    | some (.slice e), some .string, some (.slice (some ⟨b, off, none⟩) n _) => match P.underlying e, sizeT P e, H[b]? with
      | some (.int .u8), some 1, some blk => some (live blk && (((blk.cells.drop off).take n).all isU8 && decide (0 < n ∧ off + n ≤ blk.cells.length)), ⟨.string ⟨(((blk.cells.drop off).take n).map u8Of).toArray⟩, H, lo, .read⟩)
      | _, _, _ => none
    | _, _, _ => none
  | _ => none
def symX2 (P : Program) (F : Slots) (H : Heap) (lo : Nat) (o : Oper) : Option (Bool × Out) := match o.op with
  | .slice t x none (some h) none => match ev F x, ev F h, P.underlying t with
    | some (.slice (some ⟨b, 0, none⟩) n 0), some (.int _ 0), some (.slice e) => match sizeT P e with
      | some _ => some (decide (0 < n), ⟨.slice (some ⟨b, 0, some 0⟩) 0 0, H, lo, .pure⟩)
      | none => none
    | _, _, _ => none
  | _ => none
def symX3 (F : Slots) (H : Heap) (lo : Nat) (o : Oper) : Option (Bool × Out) := match o.op with
  | .next it true => match ev F it with
    | some (.pointer (some ⟨b, 0, none⟩)) => match H[b]? with
      | some ⟨true, some 0, [.string s, .int .i64 (.ofNat pos)]⟩ => some (decide (pos < s.size), ⟨.tuple #[.bool true, .int .i64 pos, .int .i32 (Utf8.decode s pos).1], H.set b ⟨true, some 0, [.string s, .int .i64 (.ofNat (pos + (Utf8.decode s pos).2))]⟩, min lo b, .write⟩)
      | _ => none
    | _ => none
  | _ => none
def symX4 (F : Slots) (H : Heap) (lo : Nat) (o : Oper) : Option (Bool × Out) := match o.op with
  | .next it true => match ev F it with
    | some (.pointer (some ⟨b, 0, none⟩)) => match H[b]? with
      | some ⟨true, some 0, [.string s, .int .i64 (.ofNat pos)]⟩ => some (decide (s.size ≤ pos), ⟨.tuple #[.bool false], H, lo, .read⟩)
      | _ => none
    | _ => none
  | _ => none
def symS (P : Program) (pre : Pre) (F : Slots) (H : Heap) (lo : Nat) (o : Oper) : Option (Bool × Out) :=
  match symS0 P pre F H lo o with
  | some r => some r
  | none => match pre 1000000 [.int .i64 (symKey o)] [] with
    | false => symX1 P F H lo o
    | true => match pre 1000004 [.int .i64 (symKey o)] [] with
      | false => symX2 P F H lo o
      | true => match pre 1000005 [.int .i64 (symKey o)] [] with
        | false => symX3 F H lo o
        | true => match pre 1000006 [.int .i64 (symKey o)] [] with
          | false => symX4 F H lo o
          | true => none
def nameS {α : Type} (pre : Pre) (C : Oracle) (o : Oper) (r : Out) (os : Path) (ob : Obs) (k : Out → Path → Obs → Option α) : Option α :=
  match pre 1000001 [] [] with
  | true => k r os ob
  | false => match o.dst with
    | none => k r os ob
    | some t => match C 1000001 [.int .i64 t] [] with
      | some (.int _ y, _, _) => match r.v with
        | .int kd n => k ⟨.int kd y, r.H, r.lo, r.eff⟩ os ((decide (n = y), true) :: ob)
        | _ => k r os ob
      | some (.bool y, _, _) => match r.v with
        | .bool b => k ⟨.bool y, r.H, r.lo, r.eff⟩ os ((b, y) :: ob)
        | _ => k r os ob
      | _ => k r os ob
theorem nameS_eq {α : Type} {pre : Pre} {C : Oracle} {o : Oper} {r : Out} {os : Path} {ob : Obs} {k : Out → Path → Obs → Option α} {x : α} (h : nameS pre C o r os ob k = some x) :
    ∃ r' os' ob', k r' os' ob' = some x ∧ (Holds ob' → r' = r ∧ Holds ob) := by
  unfold nameS at h
  split at h
  · exact ⟨r, os, ob, h, fun hh => ⟨rfl, hh⟩⟩
  · split at h
    · exact ⟨r, os, ob, h, fun hh => ⟨rfl, hh⟩⟩
    · split at h
      · split at h
        · rename_i y _ _ _ _ kd n hv
          refine ⟨_, _, _, h, fun hh => ⟨?_, fun p hp => hh p (by simp [hp])⟩⟩
          have e : n = y := by simpa using hh (decide (n = y), true) (by simp)
          subst e
          obtain ⟨v, H, lo, eff⟩ := r
          simp only at hv
          rw [hv]
        · exact ⟨r, os, ob, h, fun hh => ⟨rfl, hh⟩⟩
      · split at h
        · rename_i y _ _ _ _ b hv
          refine ⟨_, _, _, h, fun hh => ⟨?_, fun p hp => hh p (by simp [hp])⟩⟩
          have e : b = y := hh (b, y) (by simp)
          subst e
          obtain ⟨v, H, lo, eff⟩ := r
          simp only at hv
          rw [hv]
        · exact ⟨r, os, ob, h, fun hh => ⟨rfl, hh⟩⟩
      · exact ⟨r, os, ob, h, fun hh => ⟨rfl, hh⟩⟩
def opS0 {α : Type} (P : Program) (X : Ext) (pre : Pre) (C : Oracle) (draw : Bool) (F : Slots) (H : Heap) (lo : Nat) (o : Oper) (os : Path) (ob : Obs) (k : Out → Path → Obs → Option α) : Option α :=
  match pickS F o with
  | some (b, u, w) => ask os ob b fun t os ob => k ⟨bif t then u else w, H, lo, .pure⟩ os ob
  | none => match divS F o with
    | some (b, v) => ask os ob b fun t os ob => match t with
      | true => none
      | false => k ⟨v, H, lo, .pure⟩ os ob
    | none => match callS P pre C draw F H o with
      | some b => ask os ob b fun t os ob => match t with
        | true => match evOp P X C draw F H lo o with
          | some r => k r os ob
          | none => none
        | false => none
      | none => match symS P pre F H lo o with
        | some (b, r) => ask os ob b fun t os ob => match t with
          | true => k r os ob
          | false => none
        | none => match evOp P X C draw F H lo o with
          | some r => k r os ob
          | none => none
def opS {α : Type} (P : Program) (X : Ext) (pre : Pre) (C : Oracle) (draw : Bool) (F : Slots) (H : Heap) (lo : Nat) (o : Oper) (os : Path) (ob : Obs) (k : Out → Path → Obs → Option α) : Option α :=
  opS0 P X pre C draw F H lo o os ob fun r os ob => nameS pre C o r os ob k
def evOpsS (P : Program) (X : Ext) (pre : Pre) (C : Oracle) (nt : Nat) (all : List Oper) : List Oper → Slots → Heap → Nat → Path → Obs → Option SS
  | [], F, H, lo, os, ob => some ⟨⟨F, H, lo⟩, os, ob⟩
  | o :: rest, F, H, lo, os, ob => wantS all F o os ob fun t os ob => match t with
    | true => opS P X pre C false F H lo o os ob fun r os ob => evOpsS P X pre C nt all rest (putF nt F o.dst r.v) r.H r.lo os ob
    | false => evOpsS P X pre C nt all rest (putF nt F o.dst undef) H lo os ob
def evRecsS (P : Program) (X : Ext) (pre : Pre) (C : Oracle) (nt : Nat) (all : List Oper) : List Oper → Nat → Nat → Slots → Heap → Nat → Path → Obs → Option (List Rec × Slots × Path × Obs)
  | [], _, _, F, _, _, os, ob => some ([], F, os, ob)
  | o :: rest, n, ws, F, H, lo, os, ob => wantS all F o os ob fun t os ob => match t with
    | true => opS P X pre C true F H lo o os ob fun r os ob => match adjust all o n ws H r with
      | ⟨v, eff, H', lo'⟩ => match evRecsS P X pre C nt all rest (n + 1) (nextWs eff n ws) (putF nt F o.dst v) H' lo' os ob with
        | some (rs, F) => some (⟨v, eff, H', lo'⟩ :: rs, F)
        | none => none
    | false => match evRecsS P X pre C nt all rest (n + 1) ws (putF nt F o.dst undef) H lo os ob with
      | some (rs, F) => some (⟨undef, .pure, H, lo⟩ :: rs, F)
      | none => none
def evDrawS (P : Program) (X : Ext) (pre : Pre) (C : Oracle) (nt : Nat) (ops : List Oper) (F : Slots) (H : Heap) (lo : Nat) (os : Path) (ob : Obs) : Option SS :=
  match evRecsS P X pre C nt ops ops 0 0 F H lo os ob with
  | some (rs, F, os, ob) => match dynOk (masks ops) rs with
    | true => match rs.getLast? with
      | some r => some ⟨⟨F, r.H, r.lo⟩, os, ob⟩
      | none => some ⟨⟨F, H, lo⟩, os, ob⟩
    | false => none
  | none => none
def iterS : Nat → (SS → Option (Ex × SS)) → List Nat → SS → Option (Ex × SS)
  | 0, _, _, _ => none
  | n + 1, body, m, s => match body s with
    | some (.normal, ⟨⟨F, H, lo⟩, os, ob⟩) => iterS n body m ⟨⟨forget F m, H, lo⟩, os, ob⟩
    | r => r
def evCodeS (P : Program) (X : Ext) (pre : Pre) (C : Oracle) (N nt : Nat) : Code → SS → Option (Ex × SS)
  | .skip, s => some (.normal, s)
  | .label _, s => some (.normal, s)
  | .region _ ops draw, ⟨⟨F, H, lo⟩, os, ob⟩ =>
    match (match draw with
      | true => evDrawS P X pre C nt ops.toList F H lo os ob
      | false => evOpsS P X pre C nt ops.toList ops.toList F H lo os ob) with
    | some s => some (.normal, s)
    | none => none
  | .seq a b, s => match evCodeS P X pre C N nt a s with
    | some (.normal, s) => evCodeS P X pre C N nt b s
    | r => r
  | .cond c x y, ⟨s, os, ob⟩ => match ev s.F c with
    | some (.bool b) => ask os ob b fun t os ob => match t with
      | true => evCodeS P X pre C N nt x ⟨s, os, ob⟩
      | false => evCodeS P X pre C N nt y ⟨s, os, ob⟩
    | _ => none
  | .block id b, s => match evCodeS P X pre C N nt b s with
    | some (.exit i, s) => if i = id then some (.normal, s) else some (.exit i, s)
    | r => r
  | .loop b, s => iterS N (evCodeS P X pre C N nt b) (keysOf s.s.F) s
  | .exit id, s => some (.exit id, s)
  | .ret, s => some (.ret, s)
  | _, _ => none
def evFnS (P : Program) (X : Ext) (N : Nat) (pre : Pre) (C : Oracle) (os : Path) (f : FuncId) (args : List Value) (H : Heap) : Option ((Value × Heap × Nat) × Obs) :=
  match P.funcs[f]? with
  | some fn => match fnBody f fn with
    | some c => match evCodeS P X pre C N (max args.length fn.ntmps) c ⟨⟨start 0 args, H, H.length⟩, os, []⟩ with
      | some (.normal, ⟨s, _, ob⟩) | some (.ret, ⟨s, _, ob⟩) => (evResults P fn s.F s.H).map fun v => ((v, s.H, s.lo), ob)
      | _ => none
    | none => none
  | none => none
theorem ask_eq {α : Type} {os : Path} {ob : Obs} {b : Bool} {k : Bool → Path → Obs → Option α} {r : α} (h : ask os ob b k = some r) :
    ∃ t os' ob', k t os' ob' = some r ∧ (Holds ob' → b = t ∧ Holds ob) := by
  unfold ask at h
  split at h
  · split at h
    · exact ⟨_, _, _, h, fun hh => ⟨rfl, hh⟩⟩
    · exact ⟨_, _, _, h, fun hh => ⟨rfl, hh⟩⟩
  · exact ⟨_, _, _, h, fun hh => ⟨hh (b, _) (by simp), fun p hp => hh p (by simp [hp])⟩⟩
  · split at h
    · exact ⟨_, _, _, h, fun hh => ⟨rfl, hh⟩⟩
    · exact ⟨_, _, _, h, fun hh => ⟨rfl, hh⟩⟩
section
variable {P : Program} {X : Ext} {pre : Pre} {C : Oracle} {nt : Nat}
theorem wantS_eq {α : Type} {all : List Oper} {F : Slots} {o : Oper} {os : Path} {ob : Obs} {k : Bool → Path → Obs → Option α} {r : α} (h : wantS all F o os ob k = some r) :
    ∃ t os' ob', k t os' ob' = some r ∧ (Holds ob' → wantedF all F o = some t ∧ Holds ob) := by
  unfold wantS at h
  split at h
  · rename_i hg
    exact ⟨_, _, _, h, fun hh => ⟨by unfold wantedF; rw [hg], hh⟩⟩
  · split at h
    · rename_i b hb
      obtain ⟨t, os', ob', hk, hob⟩ := ask_eq h
      exact ⟨t, os', ob', hk, fun hh => ⟨by rw [hb, (hob hh).1], (hob hh).2⟩⟩
    · simp at h
theorem pickS_eq {draw : Bool} {F : Slots} {H : Heap} {lo : Nat} {o : Oper} {b : Bool} {u w : Value} (h : pickS F o = some (b, u, w)) : evOp P X (strict pre C) draw F H lo o = some ⟨bif b then u else w, H, lo, .pure⟩ := by
  refine evOp_of1 ?_
  unfold pickS at h
  split at h
  · rename_i c x y hop
    simp only [evOp1, hop]
    split at h
    · simp at h
    · rename_i b0 u0 w0 hno hc hx hy
      simp only [Option.some.injEq, Prod.mk.injEq] at h
      obtain ⟨rfl, rfl, rfl⟩ := h
      rw [hc, hx, hy]
      cases u0 <;> cases w0 <;> first | rfl | exact (hno _ _ _ rfl rfl rfl).elim | exact (hno _ _ rfl rfl).elim | exact (hno _ _ _ rfl rfl).elim
    · simp at h
  · simp at h
theorem divS_eq {draw : Bool} {F : Slots} {H : Heap} {lo : Nat} {o : Oper} {b : Bool} {v : Value} (h : divS F o = some (b, v)) (hb : b = false) : evOp P X (strict pre C) draw F H lo o = some ⟨v, H, lo, .pure⟩ := by
  refine evOp_of1 ?_
  subst hb
  unfold divS at h
  split at h
  · rename_i hop
    split at h
    · rename_i hx hy
      simp only [Option.some.injEq, Prod.mk.injEq, decide_eq_false_iff_not] at h
      simp only [evOp1, hop, hx, hy, fastBin]
      rw [if_neg h.1, h.2]
    · simp at h
  · rename_i hop
    split at h
    · rename_i hx hy
      simp only [Option.some.injEq, Prod.mk.injEq, decide_eq_false_iff_not] at h
      simp only [evOp1, hop, hx, hy, fastBin]
      rw [if_neg h.1, h.2]
    · simp at h
  · rename_i hop
    split at h
    · rename_i hx hy
      split at h
      · rename_i hk
        simp only [Option.some.injEq, Prod.mk.injEq, decide_eq_false_iff_not] at h
        simp only [evOp1, hop, hx, hy, fastBin, hk]
        rw [if_neg h.1, h.2]
      · simp at h
    · simp at h
  · rename_i hop
    split at h
    · rename_i hx hy
      split at h
      · rename_i hk
        simp only [Option.some.injEq, Prod.mk.injEq, decide_eq_false_iff_not] at h
        simp only [evOp1, hop, hx, hy, fastBin, hk]
        rw [if_neg h.1, h.2]
      · simp at h
    · simp at h
  · simp at h
theorem strict_at {f : FuncId} {args : List Value} {H : Heap} (h : pre f args H = true) : strict pre C f args H = C f args H := by simp only [strict, h]
theorem evCall0_strict {f : FuncId} {args : List Value} {H : Heap} {lo : Nat} (h : askC pre C f args H = true) : evCall0 (strict pre C) f args H lo = evCall0 C f args H lo := by
  unfold askC at h
  unfold evCall0
  split at h
  · rename_i hp
    rw [if_pos hp, if_pos hp]
    split at h
    · rename_i v H1 l hc
      split at h
      · rename_i hv
        rw [strict_at h, hc]
        simp only [hv, if_true]
      · rename_i hv
        rw [Bool.and_eq_true] at h
        have e : evCall (strict pre C) f args H lo = evCall C f args H lo := by unfold evCall; rw [strict_at h.2]
        rw [strict_at h.1, hc]
        simp only [hv, e]
    · rename_i hc
      rw [hc]
      have : strict pre C f args [] = none := by
        unfold strict
        split
        · exact hc
        · rfl
      rw [this]
  · rename_i hp
    rw [if_neg (by simp [hp]), if_neg (by simp [hp])]
    unfold evCall
    rw [strict_at h]
theorem callS_eq {draw : Bool} {F : Slots} {H : Heap} {lo : Nat} {o : Oper} (h : callS P pre C draw F H o = some true) : evOp P X (strict pre C) draw F H lo o = evOp P X C draw F H lo o := by
  refine evOp_congr ?_
  obtain ⟨dst, op, type, pos, after, guard⟩ := o
  cases op with
  | call c =>
    obtain ⟨callee, cargs, cats⟩ := c
    cases callee with
    | value fx =>
      simp only [callS] at h
      split at h
      · rename_i f a b args hf hargs
        simp only [evOp1, hf, hargs]
        cases hfn : P.funcs[f]? with
        | none => rfl
        | some fn =>
          cases hb : fn.body with
          | none => simp only [hb]
          | some c =>
            simp only [hfn] at h
            split at h
            · rename_i hd
              simp only [Option.some.injEq] at h
              have hd' : (draw || fn.resultTypes.toList.all (flatT P 4)) = true := by simpa using hd
              simp only [hb, hd', evCall0_strict h]
            · rename_i hd
              simp only [Option.some.injEq] at h
              have hd' : (draw || fn.resultTypes.toList.all (flatT P 4)) = false := by simpa using hd
              simp only [hb, hd', evCall, strict_at h]
      · simp at h
    | _ => simp [callS] at h
  | _ => simp [callS] at h
theorem callS_none {draw : Bool} {F : Slots} {H : Heap} {lo : Nat} {o : Oper} (h : callS P pre C draw F H o = none) : evOp P X (strict pre C) draw F H lo o = evOp P X C draw F H lo o := by
  refine evOp_congr ?_
  obtain ⟨dst, op, type, pos, after, guard⟩ := o
  cases op with
  | call c =>
    obtain ⟨callee, cargs, cats⟩ := c
    cases callee with
    | value fx =>
      simp only [callS] at h
      split at h
      · split at h <;> simp at h
      · simp only [evOp1]
    | builtin b => cases b <;> rfl
    | invoke r m => rfl
  | slice t x l hi m => cases m <;> rfl
  | _ => rfl
theorem isAggT_int {P : Program} {t : TypeId} {k : IntKind} (h : P.underlying t = some (.int k)) : isAggT P t = some false := by simp [isAggT, h]
theorem isAggT_bool {P : Program} {t : TypeId} (h : P.underlying t = some .bool) : isAggT P t = some false := by simp [isAggT, h]
theorem isIntAt_eq {k : IntKind} {cs : List Value} {o : Nat} (h : isIntAt k cs o = true) : cs[o]? = some (.int k (intAt cs o)) := by
  unfold isIntAt at h
  unfold intAt
  split at h
  · rename_i k' n hc
    rw [hc, eqK_eq h]
  · simp at h
theorem isBoolAt_eq {cs : List Value} {o : Nat} (h : isBoolAt cs o = true) : cs[o]? = some (.bool (boolAt cs o)) := by
  unfold isBoolAt at h
  unfold boolAt
  split at h
  · rename_i b hc
    rw [hc]
  · simp at h
theorem rd_one {H : Heap} {a : Addr} {b : Blk} {v : Value} (hs : a.spot = none) (hb : H[a.block]? = some b) (hl : live b = true) (hv : b.cells[a.off]? = some v) : rd H a 1 = some [v] := by
  unfold rd
  rw [hs, hb]
  obtain ⟨hlt, he⟩ := List.getElem?_eq_some_iff.1 hv
  simp only [hl]
  rw [if_pos (by omega), List.drop_eq_getElem_cons hlt, he]
  rfl
theorem rd_ints {H : Heap} {a : Addr} {b : Blk} {k : IntKind} {n : Nat} (hs : a.spot = none) (hb : H[a.block]? = some b) (hl : live b = true) (h0 : 0 < n) (hv : ((List.range n).all fun j => isIntAt k b.cells (a.off + j)) = true) :
    rd H a n = some ((List.range n).map fun j => .int k (intAt b.cells (a.off + j))) := by
  have key : ∀ j, j < n → b.cells[a.off + j]? = some (.int k (intAt b.cells (a.off + j))) := fun j hj => isIntAt_eq (List.all_eq_true.1 hv j (List.mem_range.2 hj))
  have hlen : a.off + n ≤ b.cells.length := by
    have := (List.getElem?_eq_some_iff.1 (key (n - 1) (by omega))).1
    omega
  unfold rd
  rw [hs, hb]
  simp only [hl]
  rw [if_pos hlen]
  congr 1
  apply List.ext_getElem?
  intro j
  by_cases hj : j < n
  · rw [List.getElem?_take_of_lt hj, List.getElem?_drop, key j hj, List.getElem?_map, List.getElem?_range hj]
    rfl
  · rw [List.getElem?_eq_none (by simp; omega), List.getElem?_eq_none (by simp; omega)]
theorem pureRun_bind {P : Program} {α β : Type} (s : Sem α) (k : α → Sem β) : pureRun P (s.bind k) = (pureRun P s).bind fun x => pureRun P (k x) := by
  induction s with
  | pure a => simp [Sem.bind, pureRun]
  | program k ih => simp [Sem.bind, pureRun, ih]
  | mark m k ih => simp [Sem.bind, pureRun, ih]
  | _ => simp [Sem.bind, pureRun]
theorem symS0_eq {draw : Bool} {F : Slots} {H : Heap} {lo : Nat} {o : Oper} {r : Out} (h : symS0 P pre F H lo o = some (true, r)) : evOp P X (strict pre C) draw F H lo o = some r := by
  refine evOp_of1 ?_
  unfold symS0 at h
  split at h
  · simp at h
  split at h
  · rename_i t x i hop
    simp only [evOp1, hop]
    split at h
    · rename_i b off k n len e hx hi ht
      split at h
      · rename_i hsz
        simp only [Option.some.injEq, Prod.mk.injEq, decide_eq_true_eq] at h
        obtain ⟨h1, rfl⟩ := h
        rw [hx, hi, ht]
        simp only [hsz]
        rw [if_pos h1, add_none, Nat.mul_one]
      · rename_i sz _ hsz
        simp only [Option.some.injEq, Prod.mk.injEq, decide_eq_true_eq] at h
        obtain ⟨h1, rfl⟩ := h
        rw [hx, hi, ht]
        simp only [hsz]
        rw [if_pos h1, add_none]
      · simp at h
    · rename_i b off len c k n e hx hi ht
      split at h
      · rename_i hsz
        simp only [Option.some.injEq, Prod.mk.injEq, decide_eq_true_eq] at h
        obtain ⟨h1, rfl⟩ := h
        rw [hx, hi, ht]
        simp only [hsz]
        rw [if_pos h1, add_none, Nat.mul_one]
      · rename_i sz _ hsz
        simp only [Option.some.injEq, Prod.mk.injEq, decide_eq_true_eq] at h
        obtain ⟨h1, rfl⟩ := h
        rw [hx, hi, ht]
        simp only [hsz]
        rw [if_pos h1, add_none]
      · simp at h
    · simp at h
  · rename_i t x hop
    simp only [evOp1, hop]
    split at h
    · rename_i a k hx ht
      split at h
      · rename_i b hs hb
        simp only [Option.some.injEq, Prod.mk.injEq, Bool.and_eq_true] at h
        obtain ⟨⟨h0, h1⟩, rfl⟩ := h
        rw [hx]
        simp only [loadV, isAggT_int ht, rd_one hs hb h0 (isIntAt_eq h1), oneCell, Option.map_some]
      · simp at h
    · rename_i a hx ht
      split at h
      · rename_i b hs hb
        simp only [Option.some.injEq, Prod.mk.injEq, Bool.and_eq_true] at h
        obtain ⟨⟨h0, h1⟩, rfl⟩ := h
        rw [hx]
        simp only [loadV, isAggT_bool ht, rd_one hs hb h0 (isBoolAt_eq h1), oneCell, Option.map_some]
      · simp at h
    · rename_i a n e hx ht
      split at h
      · rename_i k m hk hm
        split at h
        · rename_i b hs hb
          simp only [Option.some.injEq, Prod.mk.injEq, Bool.and_eq_true] at h
          obtain ⟨⟨h0, h1, h2, h3⟩, rfl⟩ := h
          have h1 := Nat.eq_of_beq_eq_true h1
          subst h1
          have h2 : 0 < m := by simpa [Nat.blt_eq] using h2
          rw [hx]
          have hagg : isAggT P t = some true := by simp [isAggT, ht]
          simp only [loadV, hagg, hm, rd_ints hs hb h0 h2 h3, Option.map_some]
        · simp at h
      · simp at h
    · simp at h
  · rename_i t x y hop
    simp only [evOp1, hop]
    split at h
    · rename_i a k n hx hy ht
      split at h
      · rename_i b hs hb
        simp only [Option.some.injEq, Prod.mk.injEq, Bool.and_eq_true, decide_eq_true_eq] at h
        obtain ⟨⟨h0, h1, h2⟩, rfl⟩ := h
        rw [hx, hy]
        simp [storeV, ht, wr, hs, hb, Value.cells, h0, h1, h2, oneCell]
      · simp at h
    · rename_i a n hx hy ht
      split at h
      · rename_i b hs hb
        simp only [Option.some.injEq, Prod.mk.injEq, Bool.and_eq_true, decide_eq_true_eq] at h
        obtain ⟨⟨h0, h1, h2⟩, rfl⟩ := h
        rw [hx, hy]
        simp [storeV, ht, wr, hs, hb, Value.cells, h0, h1, h2, oneCell]
      · simp at h
    · rename_i a cs n hx hy ht
      split at h
      · rename_i hc
        simp only [Bool.and_eq_true] at hc
        obtain ⟨c1, c2⟩ := hc
        have c1 := Nat.eq_of_beq_eq_true c1
        split at h
        · rename_i b hs hb
          simp only [Option.some.injEq, Prod.mk.injEq, Bool.and_eq_true, decide_eq_true_eq] at h
          obtain ⟨⟨h0, h1, h2⟩, rfl⟩ := h
          rw [hx, hy]
          subst c1
          have c3 : ∀ x ∈ cs.toList, oneCell x = true := List.all_eq_true.1 c2
          simp only [storeV, ht, wr, forceL_eq, hs, hb, Value.cells, if_true, Array.length_toList, h0, h1, h2, decide_true, c2, Bool.and_self, Option.map_some]
        · simp at h
      · simp at h
    · simp at h
  · rename_i t x i hop
    simp only [evOp1, hop]
    split at h
    · rename_i cs k n len e hx hi ht
      split at h
      · rename_i sz k' hsz he
        simp only [Option.some.injEq, Prod.mk.injEq, Bool.and_eq_true, decide_eq_true_eq] at h
        obtain ⟨⟨h1, h2⟩, rfl⟩ := h
        rw [hx, hi, ht]
        simp only [hsz]
        rw [if_pos h1]
        simp only [partV, isAggT_int he, isIntAt_eq h2, Option.map_some]
      · rename_i sz hsz he
        simp only [Option.some.injEq, Prod.mk.injEq, Bool.and_eq_true, decide_eq_true_eq] at h
        obtain ⟨⟨h1, h2⟩, rfl⟩ := h
        rw [hx, hi, ht]
        simp only [hsz]
        rw [if_pos h1]
        simp only [partV, isAggT_bool he, isBoolAt_eq h2, Option.map_some]
      · simp at h
    · rename_i s k n hx hi ht
      simp only [Option.some.injEq, Prod.mk.injEq, decide_eq_true_eq] at h
      obtain ⟨h1, rfl⟩ := h
      rw [hx, hi, ht]
      have hflat : allFlat F o.op.operands.toList = true := by
        rw [hop]
        simp [allFlat, Op.operands, hx, hi, pf, isFlat]
      have hlt : n.toNat < s.size := by omega
      have hb : s[n.toNat]? = some s[n.toNat] := by simp [hlt]
      have hp : pureRun P (execOp (look F) o) = some (.value (.int .u8 (byteAt s n.toNat))) := by
        simp only [hop, execOp, Instr.index, asIntOf, look, hx, hi, Option.getD_some, bind, pureRun_bind]
        have e1 : pureRun P program = some P := rfl
        simp only [pure, pureRun, Option.bind_some, underlying, pureRun_bind, bind, e1, ht]
        simp [h1.1, hb, byteAt, pureRun]
      simp [evFlat, hflat, hp, pf, isFlat]
    · simp at h
  · rename_i c hop
    split at h
    · rename_i hcal
      split at h
      · rename_i r0 hr0
        injection h with h
        subst h
        simp only [evOp1, hop, hcal, appC_eq hr0]
      · rw [appS_fl (fl' := true)] at h
        simp only [evOp1, hop, hcal, h]
    · simp at h
  · simp at h
theorem evFlat_none {F : Slots} {H : Heap} {lo : Nat} {o : Oper} {x : Operand} {v : Value} (hx : x ∈ o.op.operands.toList) (hv : ev F x = some v) (hp : pf 3 v = false) : evFlat P F H lo o = none := by
  unfold evFlat
  rw [if_neg]
  intro h
  have := List.all_eq_true.1 h x hx
  rw [hv] at this
  simp [hp] at this
theorem evs_mem {F : Slots} : ∀ {xs : List Operand} {vs : List Value}, evs F xs = some vs → ∀ v ∈ vs, ∃ x ∈ xs, ev F x = some v := by
  intro xs
  induction xs with
  | nil => intro vs h v hv; simp [evs] at h; subst h; simp at hv
  | cons x xs ih =>
    intro vs h v hv
    unfold evs at h
    split at h
    · rename_i u hu
      cases hr : evs F xs with
      | none => rw [hr] at h; simp at h
      | some us =>
        rw [hr] at h
        simp only [Option.map_some, Option.some.injEq] at h
        subst h
        rcases List.mem_cons.1 hv with rfl | hv
        · exact ⟨x, by simp, hu⟩
        · obtain ⟨y, h1, h2⟩ := ih hr v hv
          exact ⟨y, by simp [h1], h2⟩
    · simp at h
theorem evOp_ofX {draw : Bool} {F : Slots} {H : Heap} {lo : Nat} {o : Oper} {r : Out} (h1 : evOp1 P X C draw F H lo o = none) (h : evX P F H lo o = some r) : evOp P X C draw F H lo o = some r := by
  unfold evOp
  rw [h1, h]
theorem bound_sym {x : Option Value} {d : Nat} {i : Int} {y : Nat} (h : symI x d = some i) (h0 : 0 ≤ i) (hy : i ≤ y) : bound x d y = some i.toNat := by
  unfold symI at h
  unfold bound
  split at h
  · injection h with h
    subst h
    simp
  · injection h with h
    subst h
    simp only
    rw [if_pos]
    simp [h0, Nat.ble_eq]
    omega
  · simp at h
theorem call_args {c : Call} {x : Operand} (h : x ∈ c.args.toList) : x ∈ c.operands.toList := by
  unfold Call.operands
  split <;> simp_all
theorem evs_look {F : Slots} : ∀ {xs : List Operand} {vs : List Value}, evs F xs = some vs → xs.map (look F) = vs := by
  intro xs
  induction xs with
  | nil => intro vs h; simp [evs] at h; subst h; rfl
  | cons x xs ih =>
    intro vs h
    unfold evs at h
    split at h
    · rename_i u hu
      cases hr : evs F xs with
      | none => rw [hr] at h; simp at h
      | some us =>
        rw [hr] at h
        simp only [Option.map_some, Option.some.injEq] at h
        subst h
        simp [look, hu, ← ih hr]
    · simp at h
def someWorld : World := default
set_option linter.unusedSimpArgs false in
theorem symX1_eq {draw : Bool} {F : Slots} {H : Heap} {lo : Nat} {o : Oper} {r : Out} (h : symX1 P F H lo o = some (true, r)) : evOp P X (strict pre C) draw F H lo o = some r := by
  unfold symX1 at h
  split at h
  · rename_i t x l h' hop
    split at h
    · rename_i b off len cap lv hv e hx hl hh ht
      split at h
      · rename_i sz li hi hsz hli hhi
        simp only [Option.some.injEq, Prod.mk.injEq, decide_eq_true_eq] at h
        obtain ⟨⟨h0, h1, h2, h3, h4⟩, rfl⟩ := h
        refine evOp_of1 ?_
        simp only [evOp1, hop, hx, hl, hh, ht]
        have hc : (decide (cap < len) || (none : Option Nat).isSome) = false := by simp; omega
        rw [if_neg (by simpa using hc)]
        have hb1 : bound hv len cap = some hi.toNat := bound_sym hhi (by omega) h2
        have hb2 : bound lv 0 hi.toNat = some li.toNat := bound_sym (d := 0) hli h0 (by omega)
        simp only [hb1, hsz, hb2]
        have hne : ¬ cap = li.toNat := by omega
        rw [if_neg hne, add_none]
      · simp at h
    · simp at h
  · rename_i c hop
    split at h
    · rename_i hcal
      split at h
      · rename_i t t' g go bb off m xc hat hev
        split at h
        · rename_i e gb blk hbeq ht hg hb
          split at h
          · rename_i i hgr hi
            split at h
            · rename_i z hz
              simp only [Option.some.injEq, Prod.mk.injEq, Bool.and_eq_true, decide_eq_true_eq] at h
              obtain ⟨⟨hlive, h0, h1, h2, h3, h4, h5⟩, rfl⟩ := h
              have hfl : evFlat P F H lo o = none := by
                obtain ⟨x, hx, hv⟩ := evs_mem hev (.slice (some ⟨g, go, none⟩) 0 0) (by simp)
                refine evFlat_none (x := x) ?_ hv rfl
                rw [hop]
                exact call_args hx
              refine evOp_ofX ?_ ?_
              · have happ : appS true P F H lo c = none := by
                  unfold appS
                  simp only [hat, hev, hbeq, ht, hb, hi, hz]
                  cases go with
                  | zero => simp only [hg, hgr]
                  | succ n => rfl
                simp only [evOp1, hop, hcal, happ, hfl]
              · have hrd : rd H ⟨bb, off, none⟩ (m * i.size) = some ((blk.cells.drop off).take (m * i.size)) := by
                  unfold rd
                  simp only [hb, hlive]
                  rw [if_pos h3]
                have hk : appK P F H lo c = some ⟨.slice (some ⟨H.length, 0, none⟩) m 0, H ++ [⟨true, some i.size, (blk.cells.drop off).take (m * i.size)⟩], lo, .write⟩ := by
                  unfold appK
                  simp only [hat, hev, hbeq, ht, hi, hz]
                  rw [if_neg (show ¬ m = 0 by omega), hrd]
                  simp only
                  rw [if_pos ⟨h0, h1, by simpa using h4, by simpa using h5, Nat.le_refl _, trivial⟩, if_neg (by omega)]
                  simp [forceL_eq]
                simp only [evX, hop, hcal, hk]
            · simp at h
          · simp at h
        · simp at h
      · rename_i t t' g bb off m xc hat hev
        split at h
        · rename_i e old blk hbeq ht hg hb
          split at h
          · rename_i sz i hgr hi
            split at h
            · rename_i z hz
              simp only [Option.some.injEq, Prod.mk.injEq, Bool.and_eq_true, decide_eq_true_eq, Bool.not_eq_true'] at h
              obtain ⟨⟨hlive, hne, h0, h1, h2, h3, h4, h5, h6, h7⟩, rfl⟩ := h
              have hfl : evFlat P F H lo o = none := by
                obtain ⟨x, hx, hv⟩ := evs_mem hev (.slice (some ⟨g, 0, some 0⟩) 0 0) (by simp)
                refine evFlat_none (x := x) ?_ hv rfl
                rw [hop]
                exact call_args hx
              refine evOp_ofX ?_ ?_
              · have happ : appS true P F H lo c = none := by
                  unfold appS
                  simp only [hat, hev, hbeq, ht, hb, hi, hz]
                simp only [evOp1, hop, hcal, happ, hfl]
              · have hrd : rd H ⟨bb, off, none⟩ (m * i.size) = some ((blk.cells.drop off).take (m * i.size)) := by
                  unfold rd
                  simp only [hb, hlive]
                  rw [if_pos h7]
                have hk : appK P F H lo c = none := by
                  unfold appK
                  simp only [hat, hev, hbeq, ht, hi, hz]
                  rw [if_neg (show ¬ m = 0 by omega), hrd]
                  simp
                have hv : appV P F H lo c = some ⟨.slice (some ⟨H.length, 0, none⟩) m 0, H.set g ⟨false, none, []⟩ ++ [⟨true, some i.size, (blk.cells.drop off).take (m * i.size)⟩], min lo g, .write⟩ := by
                  unfold appV
                  simp only [hat, hev, hbeq, ht, hg, hi, hgr, hz, hrd]
                  rw [if_pos ⟨h0, h1, h2, h3, h4, h5, h6, hne⟩]
                  simp [forceL_eq]
                simp only [evX, hop, hcal, hk, hv]
            · simp at h
          · simp at h
        · simp at h
      · rename_i t t' k' n hat hev
        split at h
        · rename_i e k2 ht ht'
          split at h
          · rename_i i hi
            split at h
            · rename_i k z hsz hby hz
              simp only [Option.some.injEq, Prod.mk.injEq, decide_eq_true_eq] at h
              obtain ⟨⟨h0, h1⟩, rfl⟩ := h
              obtain ⟨callee, cargs, cats⟩ := c
              simp only at hcal hat hev
              subst hcal
              have hcats : cats = #[t, t'] := by apply Array.ext'; simpa using hat
              subst hcats
              have he : cargs.map (look F) = #[.slice none 0 0, .int k' (.ofNat n)] := by
                apply Array.ext'
                rw [Array.toList_map]
                exact evs_look hev
              have hx : ∀ w, (execOp (look F) o).run P w = (do pure (.value (← Builtin.append_ #[t, t'] o.type #[.slice none 0 0, .int k' (.ofNat n)])) : Sem Next).run P w := fun w => by
                simp [execOp, hop, resolve, invoke, builtin, he]
              have hfl : evFlat P F H lo o = none := by
                unfold evFlat
                split
                · split
                  · rename_i v hp
                    have h2 := pureRun_sound _ _ hp someWorld
                    rw [hx] at h2
                    have hr0 := run_append_zeros (P := P) someWorld t t' o.type e i (.int k z) k2 k' n ht ht' hi hz h0 h1 (by omega) (by rw [hby]; omega)
                    simp only [Sem.run_bind, hr0, Result.andThen_ok] at h2
                    have h3 : ∀ (x y : World), Result.ok (Next.value v) x = Result.ok (Next.value v) y → x = y := fun x y hh => by injection hh
                    simp only [pure, Sem.run] at h2
                    injection h2 with _ h4
                    have h5 := congrArg (fun w : World => w.heap.size) h4
                    have h6 : someWorld.drew.heap.size = someWorld.heap.size := rfl
                    simp at h5
                    try omega
                  · rfl
                · rfl
              refine evOp_ofX ?_ ?_
              · have happ : ∀ H lo, appS true P F H lo ⟨.builtin .append, cargs, #[t, t']⟩ = none := fun H lo => by
                  unfold appS
                  simp only [hat, hev]
                simp only [evOp1, hop, happ, hfl]
              · have hk : appK P F H lo ⟨.builtin .append, cargs, #[t, t']⟩ = none := by
                  unfold appK
                  simp only [hat, hev, ht, hi, hz]
                  split
                  · rename_i hh; simp_all
                  · rfl
                have hv : appV P F H lo ⟨.builtin .append, cargs, #[t, t']⟩ = none := by
                  unfold appV
                  simp only [hat, hev]
                have hzo : zerosOf (.int k z) n = List.replicate n (.int k z) := by
                  unfold zerosOf
                  apply List.ext_getElem?
                  intro j
                  have e1 : (Value.int k z).cells = #[.int k z] := rfl
                  simp only [e1, Array.toList_map, Array.toList_range, List.getElem?_map, List.getElem?_replicate]
                  have e2 : n * (#[Value.int k z] : Array Value).size = n := by simp
                  rw [e2]
                  by_cases hj : j < n
                  · rw [List.getElem?_range hj, if_pos hj]
                    simp [Nat.mod_one]
                  · rw [List.getElem?_eq_none (by simp; omega), if_neg hj]
                    rfl
                have hz2 : appZ P F H lo ⟨.builtin .append, cargs, #[t, t']⟩ = some ⟨.slice (some ⟨H.length, 0, none⟩) n 0, H ++ [⟨true, some 1, List.replicate n (.int k z)⟩], lo, .write⟩ := by
                  unfold appZ
                  simp only [hat, hev, ht, ht', hi, hz]
                  rw [if_pos ⟨by rw [hsz]; rfl, by omega, h0, h1, by rw [hby]; omega⟩]
                  have hall : (List.replicate n (Value.int k z)).all (fun v => pf 3 v && oneCell v) = true := by
                    refine List.all_eq_true.2 fun v hv => ?_
                    rw [(List.mem_replicate.1 hv).2]
                    rfl
                  simp only [forceL_eq, hzo, hall, hsz]
                simp only [evX, hop, hk, hv, hz2]
            · simp at h
          · simp at h
        · simp at h
      · simp at h
    · simp at h
  · rename_i s d x hop
    split at h
    · rename_i e str hs hd hx
      split at h
      · rename_i he
        simp only [Option.some.injEq, Prod.mk.injEq, decide_eq_true_eq] at h
        obtain ⟨h0, rfl⟩ := h
        have hp : pureRun P (execOp (look F) o) = none := by
          have e1 : pureRun P program = some P := rfl
          have e2 : ∀ q : Question, pureRun P (choose q) = none := fun _ => rfl
          simp only [hop, execOp, look, hx, Option.getD_some, bind, pureRun_bind, convert, underlying, e1, Option.bind_some, hs, hd, pure, pureRun, he, Conv.stringToBytes, e2, Option.bind_none]
        have hfl : evFlat P F H lo o = none := by
          unfold evFlat
          rw [hp]
          split <;> rfl
        refine evOp_ofX ?_ ?_
        · simp only [evOp1, hop, hx, hs, hd, hfl]
        · simp only [evX, hop, hx, hs, hd, he]
          simp [forceL_eq]
      · simp at h
    · rename_i e b off n c hs hd hx
      split at h
      · rename_i blk he hsz hb
        simp only [Option.some.injEq, Prod.mk.injEq, Bool.and_eq_true, decide_eq_true_eq] at h
        obtain ⟨⟨hlive, hall, h0, h1⟩, rfl⟩ := h
        have hfl : evFlat P F H lo o = none := evFlat_none (x := x) (by simp [hop, Op.operands]) hx rfl
        refine evOp_ofX ?_ ?_
        · simp only [evOp1, hop, hx, hs, hd, hfl]
        · have hrd : rd H ⟨b, off, none⟩ n = some ((blk.cells.drop off).take n) := by
            unfold rd
            simp only [hb, hlive]
            rw [if_pos h1]
          have hbo : ∀ cs : List Value, cs.all isU8 = true → bytesOf cs = some (cs.map u8Of) := by
            intro cs
            induction cs with
            | nil => intro _; rfl
            | cons v cs ih =>
              intro ha
              simp only [List.all_cons, Bool.and_eq_true] at ha
              obtain ⟨a1, a2⟩ := ha
              unfold isU8 at a1
              split at a1
              · simp [bytesOf, ih a2, u8Of]
              · simp at a1
          simp only [evX, hop, hx, hs, hd, he, hsz]
          rw [if_neg (show ¬ n = 0 by omega), hrd]
          simp only [hbo _ hall, Option.map_some]
      · simp at h
    · simp at h
  · simp at h
theorem symX2_eq {draw : Bool} {F : Slots} {H : Heap} {lo : Nat} {o : Oper} {r : Out} (h : symX2 P F H lo o = some (true, r)) : evOp P X (strict pre C) draw F H lo o = some r := by
  unfold symX2 at h
  split at h
  · rename_i t x h' hop
    split at h
    · rename_i b n k e hx hh ht
      split at h
      · rename_i sz hsz
        simp only [Option.some.injEq, Prod.mk.injEq, decide_eq_true_eq] at h
        obtain ⟨h0, rfl⟩ := h
        obtain ⟨n, rfl⟩ : ∃ m, n = m + 1 := ⟨n - 1, by omega⟩
        refine evOp_ofX ?_ ?_
        · simp [evOp1, hop, hx, hh, ht, evOpt]
        · simp [evX, hop, hx, hh, ht, evOpt, hsz, bound]
      · simp at h
    · simp at h
  · simp at h
theorem symX3_eq {draw : Bool} {F : Slots} {H : Heap} {lo : Nat} {o : Oper} {r : Out} (h : symX3 F H lo o = some (true, r)) : evOp P X (strict pre C) draw F H lo o = some r := by
  unfold symX3 at h
  split at h
  · rename_i it hop
    split at h
    · rename_i b hit
      split at h
      · rename_i s pos hb
        simp only [Option.some.injEq, Prod.mk.injEq, decide_eq_true_eq] at h
        obtain ⟨h0, rfl⟩ := h
        have hfl : evFlat P F H lo o = none := evFlat_none (x := it) (by simp [hop, Op.operands]) hit rfl
        refine evOp_ofX ?_ ?_
        · simp only [evOp1, hop, hfl]
        · have hd : decide (pos < s.size) = true := by simpa using h0
          simp only [evX, hop, hit, hb, hd]
      · simp at h
    · simp at h
  · simp at h
theorem symX4_eq {draw : Bool} {F : Slots} {H : Heap} {lo : Nat} {o : Oper} {r : Out} (h : symX4 F H lo o = some (true, r)) : evOp P X (strict pre C) draw F H lo o = some r := by
  unfold symX4 at h
  split at h
  · rename_i it hop
    split at h
    · rename_i b hit
      split at h
      · rename_i s pos hb
        simp only [Option.some.injEq, Prod.mk.injEq, decide_eq_true_eq] at h
        obtain ⟨h0, rfl⟩ := h
        have hfl : evFlat P F H lo o = none := evFlat_none (x := it) (by simp [hop, Op.operands]) hit rfl
        refine evOp_ofX ?_ ?_
        · simp only [evOp1, hop, hfl]
        · have hd : decide (pos < s.size) = false := by simpa using h0
          simp only [evX, hop, hit, hb, hd]
      · simp at h
    · simp at h
  · simp at h
theorem symS_eq {draw : Bool} {F : Slots} {H : Heap} {lo : Nat} {o : Oper} {r : Out} (h : symS P pre F H lo o = some (true, r)) : evOp P X (strict pre C) draw F H lo o = some r := by
  unfold symS at h
  split at h
  · rename_i r0 hr
    injection h with h
    subst h
    exact symS0_eq hr
  · split at h
    · exact symX1_eq h
    · split at h
      · exact symX2_eq h
      · split at h
        · exact symX3_eq h
        · split at h
          · exact symX4_eq h
          · simp at h
theorem opS0_eq {α : Type} {draw : Bool} {F : Slots} {H : Heap} {lo : Nat} {o : Oper} {os : Path} {ob : Obs} {k : Out → Path → Obs → Option α} {r : α} (h : opS0 P X pre C draw F H lo o os ob k = some r) :
    ∃ out os' ob', k out os' ob' = some r ∧ (Holds ob' → evOp P X (strict pre C) draw F H lo o = some out ∧ Holds ob) := by
  unfold opS0 at h
  split at h
  · rename_i b u w hp
    obtain ⟨t, os', ob', hk, hob⟩ := ask_eq h
    exact ⟨_, os', ob', hk, fun hh => ⟨by rw [pickS_eq hp, (hob hh).1], (hob hh).2⟩⟩
  · split at h
    · rename_i b v hd
      obtain ⟨t, os', ob', hk, hob⟩ := ask_eq h
      cases t with
      | true => simp at hk
      | false => exact ⟨_, os', ob', hk, fun hh => ⟨divS_eq hd (hob hh).1, (hob hh).2⟩⟩
    · split at h
      · rename_i b hc
        obtain ⟨t, os', ob', hk, hob⟩ := ask_eq h
        cases t with
        | false => simp at hk
        | true =>
          simp only at hk
          split at hk
          · rename_i out ho
            exact ⟨out, os', ob', hk, fun hh => ⟨by rw [callS_eq (by rw [hc, (hob hh).1])]; exact ho, (hob hh).2⟩⟩
          · simp at hk
      · rename_i hc
        split at h
        · rename_i b out hs
          obtain ⟨t, os', ob', hk, hob⟩ := ask_eq h
          cases t with
          | false => simp at hk
          | true => exact ⟨out, os', ob', hk, fun hh => ⟨symS_eq (by rw [hs, (hob hh).1]), (hob hh).2⟩⟩
        · split at h
          · rename_i out ho
            exact ⟨out, os, ob, h, fun hh => ⟨by rw [callS_none hc]; exact ho, hh⟩⟩
          · simp at h
theorem opS_eq {α : Type} {draw : Bool} {F : Slots} {H : Heap} {lo : Nat} {o : Oper} {os : Path} {ob : Obs} {k : Out → Path → Obs → Option α} {r : α} (h : opS P X pre C draw F H lo o os ob k = some r) :
    ∃ out os' ob', k out os' ob' = some r ∧ (Holds ob' → evOp P X (strict pre C) draw F H lo o = some out ∧ Holds ob) := by
  unfold opS at h
  obtain ⟨out, os1, ob1, hk, hob⟩ := opS0_eq h
  obtain ⟨out2, os2, ob2, hk2, hob2⟩ := nameS_eq hk
  refine ⟨out2, os2, ob2, hk2, fun hh => ?_⟩
  obtain ⟨e, h1⟩ := hob2 hh
  subst e
  exact hob h1
theorem evOpsS_eq {all : List Oper} {s' : SS} : ∀ (rest : List Oper) (F : Slots) (H : Heap) (lo : Nat) (os : Path) (ob : Obs), evOpsS P X pre C nt all rest F H lo os ob = some s' →
    Holds s'.ob → evOps P X (strict pre C) nt all rest F H lo = some (s'.s.F, s'.s.H, s'.s.lo) ∧ Holds ob := by
  intro rest
  induction rest with
  | nil =>
    intro F H lo os ob h hh
    simp only [evOpsS, Option.some.injEq] at h
    subst h
    exact ⟨rfl, hh⟩
  | cons o rest ih =>
    intro F H lo os ob h hh
    simp only [evOpsS] at h
    obtain ⟨t, os1, ob1, hk, hob⟩ := wantS_eq h
    cases t with
    | true =>
      obtain ⟨out, os2, ob2, hk2, hob2⟩ := opS_eq hk
      obtain ⟨h1, h2⟩ := ih _ _ _ _ _ hk2 hh
      obtain ⟨h3, h4⟩ := hob2 h2
      obtain ⟨h5, h6⟩ := hob h4
      exact ⟨by simp only [evOps, h5, h3]; exact h1, h6⟩
    | false =>
      obtain ⟨h1, h2⟩ := ih _ _ _ _ _ hk hh
      obtain ⟨h5, h6⟩ := hob h2
      exact ⟨by simp only [evOps, h5]; exact h1, h6⟩
theorem evRecsS_eq {all : List Oper} : ∀ (rest : List Oper) (n ws : Nat) (F : Slots) (H : Heap) (lo : Nat) (os : Path) (ob : Obs) (rs : List Rec) (F' : Slots) (os' : Path) (ob' : Obs), evRecsS P X pre C nt all rest n ws F H lo os ob = some (rs, F', os', ob') →
    Holds ob' → evRecs P X (strict pre C) nt all rest n ws F H lo = some (rs, F') ∧ Holds ob := by
  intro rest
  induction rest with
  | nil =>
    intro n ws F H lo os ob rs F' os' ob' h hh
    simp only [evRecsS, Option.some.injEq, Prod.mk.injEq] at h
    obtain ⟨rfl, rfl, rfl, rfl⟩ := h
    exact ⟨rfl, hh⟩
  | cons o rest ih =>
    intro n ws F H lo os ob rs F' os' ob' h hh
    simp only [evRecsS] at h
    obtain ⟨t, os1, ob1, hk, hob⟩ := wantS_eq h
    cases t with
    | true =>
      obtain ⟨r, os2, ob2, hk2, hob2⟩ := opS_eq hk
      cases hadj : adjust all o n ws H r with
      | mk v eff H' lo' =>
      rw [hadj] at hk2
      simp only at hk2
      split at hk2
      · rename_i rs2 q2 hrec
        obtain ⟨F2, os3, ob3⟩ := q2
        simp only [Option.some.injEq, Prod.mk.injEq] at hk2
        obtain ⟨rfl, rfl, rfl, rfl⟩ := hk2
        obtain ⟨h1, h2⟩ := ih _ _ _ _ _ _ _ _ _ _ _ hrec hh
        obtain ⟨h3, h4⟩ := hob2 h2
        obtain ⟨h5, h6⟩ := hob h4
        exact ⟨by simp only [evRecs, h5, h3, hadj, h1], h6⟩
      · simp at hk2
    | false =>
      simp only at hk
      split at hk
      · rename_i rs2 q2 hrec
        obtain ⟨F2, os2, ob2⟩ := q2
        simp only [Option.some.injEq, Prod.mk.injEq] at hk
        obtain ⟨rfl, rfl, rfl, rfl⟩ := hk
        obtain ⟨h1, h2⟩ := ih _ _ _ _ _ _ _ _ _ _ _ hrec hh
        obtain ⟨h5, h6⟩ := hob h2
        exact ⟨by simp only [evRecs, h5, h1], h6⟩
      · simp at hk
theorem evDrawS_eq {ops : List Oper} {F : Slots} {H : Heap} {lo : Nat} {os : Path} {ob : Obs} {s' : SS} (h : evDrawS P X pre C nt ops F H lo os ob = some s') (hh : Holds s'.ob) :
    evDraw P X (strict pre C) nt ops F H lo = some (s'.s.F, s'.s.H, s'.s.lo) ∧ Holds ob := by
  refine (fun hx => ⟨evDraw_of1 hx.1, hx.2⟩ : evDraw1 P X (strict pre C) nt ops F H lo = some (s'.s.F, s'.s.H, s'.s.lo) ∧ Holds ob → _) ?_
  unfold evDrawS at h
  unfold evDraw1
  split at h
  · rename_i rs F1 os1 ob1 hrec
    split at h
    · rename_i hd
      split at h
      · rename_i r hr
        simp only [Option.some.injEq] at h
        subst h
        obtain ⟨h1, h2⟩ := evRecsS_eq _ _ _ _ _ _ _ _ _ _ _ _ hrec hh
        rw [h1]
        simp only [hd, Bool.true_or, hr]
        exact ⟨trivial, h2⟩
      · rename_i hr
        simp only [Option.some.injEq] at h
        subst h
        obtain ⟨h1, h2⟩ := evRecsS_eq _ _ _ _ _ _ _ _ _ _ _ _ hrec hh
        rw [h1]
        simp only [hd, Bool.true_or, hr]
        exact ⟨trivial, h2⟩
    · simp at h
  · simp at h
theorem iterS_eq {body : SS → Option (Ex × SS)} {body' : St → Option (Ex × St)} {m : List Nat} {x : Ex} {s' : SS}
    (hb : ∀ (s : SS) (x : Ex) (s' : SS), body s = some (x, s') → Holds s'.ob → body' s.s = some (x, s'.s) ∧ Holds s.ob) :
    ∀ (n : Nat) (s : SS), iterS n body m s = some (x, s') → Holds s'.ob → iter n body' m s.s = some (x, s'.s) ∧ Holds s.ob := by
  intro n
  induction n with
  | zero => intro s h; simp [iterS] at h
  | succ n ih =>
    intro s h hh
    simp only [iterS] at h
    split at h
    · rename_i F H lo os ob hs
      obtain ⟨h1, h2⟩ := ih _ h hh
      obtain ⟨h3, h4⟩ := hb _ _ _ hs h2
      exact ⟨by simp only [iter, h3]; exact h1, h4⟩
    · rename_i hne
      obtain ⟨h1, h2⟩ := hb _ _ _ h hh
      refine ⟨?_, h2⟩
      simp only [iter, h1]
      cases x with
      | normal => obtain ⟨⟨F, H, lo⟩, os, ob⟩ := s'; exact (hne F H lo os ob h).elim
      | exit i => rfl
      | ret => rfl
theorem evCodeS_eq {N : Nat} : ∀ (c : Code) (s : SS) (x : Ex) (s' : SS), evCodeS P X pre C N nt c s = some (x, s') → Holds s'.ob → evCode P X (strict pre C) N nt c s.s = some (x, s'.s) ∧ Holds s.ob := by
  intro c
  induction c with
  | region id ops draw =>
    intro s x s' h hh
    obtain ⟨⟨F, H, lo⟩, os, ob⟩ := s
    simp only [evCodeS] at h
    split at h
    · rename_i s1 hs
      simp only [Option.some.injEq, Prod.mk.injEq] at h
      obtain ⟨rfl, rfl⟩ := h
      cases draw with
      | true =>
        obtain ⟨h1, h2⟩ := evDrawS_eq hs hh
        exact ⟨by simp only [evCode, h1], h2⟩
      | false =>
        obtain ⟨h1, h2⟩ := evOpsS_eq _ _ _ _ _ _ hs hh
        exact ⟨by simp only [evCode, h1], h2⟩
    · simp at h
  | seq a b iha ihb =>
    intro s x s' h hh
    simp only [evCodeS] at h
    split at h
    · rename_i s1 hs
      obtain ⟨h1, h2⟩ := ihb _ _ _ h hh
      obtain ⟨h3, h4⟩ := iha _ _ _ hs h2
      exact ⟨by simp only [evCode, h3]; exact h1, h4⟩
    · rename_i hne
      obtain ⟨h1, h2⟩ := iha _ _ _ h hh
      refine ⟨?_, h2⟩
      simp only [evCode, h1]
      cases x with
      | normal => exact (hne s' h).elim
      | exit i => rfl
      | ret => rfl
  | cond c a b iha ihb =>
    intro s x s' h hh
    obtain ⟨s, os, ob⟩ := s
    simp only [evCodeS] at h
    split at h
    · rename_i b0 hb
      obtain ⟨t, os1, ob1, hk, hob⟩ := ask_eq h
      cases t with
      | true =>
        obtain ⟨h1, h2⟩ := iha _ _ _ hk hh
        obtain ⟨h3, h4⟩ := hob h2
        subst h3
        exact ⟨by simp only [evCode, hb]; exact h1, h4⟩
      | false =>
        obtain ⟨h1, h2⟩ := ihb _ _ _ hk hh
        obtain ⟨h3, h4⟩ := hob h2
        subst h3
        exact ⟨by simp only [evCode, hb]; exact h1, h4⟩
    · simp at h
  | block id b ih =>
    intro s x s' h hh
    simp only [evCodeS] at h
    split at h
    · rename_i i s1 hs
      split at h
      · rename_i hid
        simp only [Option.some.injEq, Prod.mk.injEq] at h
        obtain ⟨rfl, rfl⟩ := h
        obtain ⟨h1, h2⟩ := ih _ _ _ hs hh
        exact ⟨by simp only [evCode, h1]; rw [if_pos hid], h2⟩
      · rename_i hid
        simp only [Option.some.injEq, Prod.mk.injEq] at h
        obtain ⟨rfl, rfl⟩ := h
        obtain ⟨h1, h2⟩ := ih _ _ _ hs hh
        exact ⟨by simp only [evCode, h1]; rw [if_neg hid], h2⟩
    · rename_i hne
      obtain ⟨h1, h2⟩ := ih _ _ _ h hh
      refine ⟨?_, h2⟩
      simp only [evCode, h1]
      cases x with
      | normal => rfl
      | exit i => exact (hne i s' h).elim
      | ret => rfl
  | loop b ih =>
    intro s x s' h hh
    simp only [evCodeS] at h
    obtain ⟨h1, h2⟩ := iterS_eq (body' := evCode P X (strict pre C) N nt b) (fun s x s' h hh => ih s x s' h hh) N s h hh
    exact ⟨by simp only [evCode]; exact h1, h2⟩
  | skip | label | exit | ret =>
    intro s x s' h hh
    simp only [evCodeS, Option.some.injEq, Prod.mk.injEq] at h
    obtain ⟨rfl, rfl⟩ := h
    exact ⟨rfl, hh⟩
  | _ =>
    intro s x s' h
    simp [evCodeS] at h
theorem evFnS_eq {N : Nat} {os : Path} {f : FuncId} {args : List Value} {H : Heap} {r : Value × Heap × Nat} {ob : Obs} (h : evFnS P X N pre C os f args H = some (r, ob)) (hh : Holds ob) : evFn P X N (strict pre C) f args H = some r := by
  unfold evFnS at h
  unfold evFn
  split at h
  case h_2 => simp at h
  rename_i fn hfn
  rw [hfn]
  simp only
  split at h
  case h_2 => simp at h
  rename_i c hb
  rw [hb]
  simp only
  have key : ∀ x s os1 ob1, evCodeS P X pre C N (max args.length fn.ntmps) c ⟨⟨start 0 args, H, H.length⟩, os, []⟩ = some (x, ⟨s, os1, ob1⟩) → (evResults P fn s.F s.H).map (fun v => ((v, s.H, s.lo), ob1)) = some (r, ob) →
      evCode P X (strict pre C) N (max args.length fn.ntmps) c ⟨start 0 args, H, H.length⟩ = some (x, s) ∧ (evResults P fn s.F s.H).map (fun v => (v, s.H, s.lo)) = some r := by
    intro x s os1 ob1 hs hr
    cases hv : evResults P fn s.F s.H with
    | none => simp [hv] at hr
    | some v =>
      simp [hv] at hr
      obtain ⟨rfl, rfl⟩ := hr
      exact ⟨(evCodeS_eq c _ _ _ hs hh).1, rfl⟩
  split at h
  · rename_i s os1 ob1 hs
    obtain ⟨h1, h2⟩ := key _ _ _ _ hs h
    rw [h1]; exact h2
  · rename_i s os1 ob1 hs
    obtain ⟨h1, h2⟩ := key _ _ _ _ hs h
    rw [h1]; exact h2
  · simp at h
end
end Go.Proofs.YtpgmabpaiijipaaGreatDoor.Den
namespace Go.Proofs.YtpgmabpaiijipaaGreatDoor.Den
open Go
abbrev FX (r : Option Nat) : Fence := { fn := fun _ => True, depth := none, alive := false, round := r }
abbrev cwp (r : Option Nat) (P : Program) (c : Code) (Q : Exit → Act → World → Prop) (a : Act) (w : World) : Prop := c.wpIn (FX r) 0 P Q a w
theorem calls_x {P : Program} {r : Option Nat} {n : Nat} {f : FuncId} {args : Array Value} {w : World} {R : Ending → World → Prop} (h : Calls P f args w R) : CallsIn (FX r) n P f args w R := by
  cases r with
  | none => exact callsIn_wide.2 h
  | some l => exact (callsIn_wide (n := n)).2 h
theorem rows_x {P : Program} {r : Option Nat} {n : Nat} {row : String} {args : Array Value} {w : World} {R : Value → World → Prop} (h : Rows P row args w R) : RowsIn (FX r) n P row args w R :=
  fun c cs _ => let ⟨v, w', a, s⟩ := h c cs; ⟨v, w', a, by cases r <;> exact stepsIn_wide.2 s⟩
theorem op_x {P : Program} {r : Option Nat} {n : Nat} {o : Oper} (hd : ∀ c, o.op ≠ .defer c) {a : Act} {w : World} {next : Act → World → Prop} {Q : Exit → Act → World → Prop} (h : o.wp P a w next Q) : o.wpIn (FX r) n P a w next Q := by
  refine ⟨fun _ _ => trivial, ?_⟩
  rw [Oper.semAt_eq _ _ _ hd]
  unfold Oper.wp at h
  generalize (execOp a.eval o).run P w = res at h ⊢
  cases res with
  | ok x w' =>
    cases x <;> simp only [Oper.upon, Oper.uponIn] at h ⊢ <;>
      first
        | exact h
        | exact ⟨fun hh => by simp at hh, calls_x h⟩
        | exact ⟨fun hh => by simp at hh, rows_x h⟩
  | halt x w' => cases x <;> simp only [Oper.upon, Oper.uponIn] at h ⊢ <;> exact h
theorem nd_of {o : Oper} (h : noSel o = true) : ∀ c, o.op ≠ .defer c := by
  intro c e
  unfold noSel at h
  rw [e] at h
  simp at h
theorem opx {P : Program} {r : Option Nat} {n : Nat} {ops : Array Oper} (hd : ops.toList.all noSel = true) {Q : Exit → Act → World → Prop} (hQ : ¬ LetsOut Q) {i : Nat} {K : Act → World → Prop} {a : Act} {w : World} (h : wpOp P ops Q i K a w) : wpOpIn (FX r) n P ops Q i K a w := by
  unfold wpOp at h
  unfold wpOpIn
  split
  · rename_i hn
    simpa [hn] using h
  · rename_i o ho
    simp only [ho] at h
    have hso : noSel o = true := List.all_eq_true.1 hd o (List.mem_of_getElem? (i := i) (by rw [Array.getElem?_toList]; exact ho))
    split
    · rename_i hw
      simp only [hw, if_true] at h
      rcases h with h | ⟨_, h⟩
      · exact op_x (nd_of hso) h
      · exact (hQ h).elim
    · rename_i hw
      simp only [hw] at h
      exact ⟨fun _ _ => trivial, h⟩
theorem opsx {P : Program} {r : Option Nat} {n : Nat} {ops : Array Oper} (hd : ops.toList.all noSel = true) {Q : Exit → Act → World → Prop} (hQ : ¬ LetsOut Q) : ∀ (l : List Nat) (a : Act) (w : World), wpOps P ops Q l a w → wpOpsIn (FX r) n P ops Q l a w := by
  intro l
  induction l with
  | nil => intro a w h; simpa [wpOps, wpOpsIn] using h
  | cons i l ih =>
    intro a w h
    rw [wpOps_cons] at h
    rw [wpOpsIn_cons]
    exact wpOpIn_mono (fun a w => ih a w) (opx hd hQ h)
theorem anyx {P : Program} {r : Option Nat} {n : Nat} {md : Region.Mode} {ops : Array Oper} (hd : ops.toList.all noSel = true) {Q : Exit → Act → World → Prop} (hQ : ¬ LetsOut Q) : ∀ (fuel : Nat) (listed : Array Bool) (a : Act) (w : World), wpAny P md ops Q fuel listed a w → wpAnyIn (FX r) n P md ops Q fuel listed a w := by
  intro fuel
  induction fuel with
  | zero => intro listed a w h; exact h
  | succ fuel ih =>
    intro listed a w h
    exact ⟨h.1, fun i hi => wpOpIn_mono (fun a w => ih _ a w) (opx hd hQ (h.2 i hi))⟩
def onlyN (K : Act → World → Prop) : Exit → Act → World → Prop
  | .normal, a, w => K a w
  | _, _, _ => False
theorem onlyN_out (K : Act → World → Prop) : ¬ LetsOut (onlyN K) := fun ⟨_, _, h⟩ => h
theorem region_x {P : Program} {X : Ext} {C : Oracle} (ok : ProgOk P) (hX : XSound P X) (hC : Sound P C) {r : Option Nat} {N nt id : Nat} {ops : Array Oper} {draw : Bool} (hok : codeOk (.region id ops draw) = true) {ds : List Deferred}
    {s : St} {x : Ex} {s' : St} (h : evCode P X C N nt (.region id ops draw) s = some (x, s')) {ρ0 : Rho} {H0 : Heap} {w0 : World} {ρ : Rho} {a : Act} {w : World} {Q : Exit → Act → World → Prop}
    (hR : Rel ρ0 H0 w0 ρ s.H s.lo w) (hF : FR ds ρ nt s.F a) (hQ : ∀ ρ' a' w', Rel ρ0 H0 w0 ρ' s'.H s'.lo w' → FR ds ρ' nt s'.F a' → Q .normal a' w') : x = .normal ∧ cwp r P (.region id ops draw) Q a w := by
  simp only [codeOk, Bool.and_eq_true] at hok
  simp only [evCode] at h
  split at h
  case h_2 => simp at h
  rename_i F1 H1 lo1 hev
  simp only [Option.some.injEq, Prod.mk.injEq] at h
  obtain ⟨rfl, rfl⟩ := h
  refine ⟨rfl, wpIn_mono (Q := onlyN (Q .normal)) ?_ (fun e a w h => by cases e <;> first | exact h | exact h.elim)⟩
  cases draw with
  | true =>
    simp only at hev
    exact wpIn_region_any ok.mixed (anyx hok.1 (onlyN_out _) _ _ _ _ (evDraw_any (Q := onlyN (Q .normal)) ok hX hC (by simpa using hok.2) hev (fun ρ' a' w' h1 h2 => hQ ρ' a' w' h1 h2) hR hF))
  | false =>
    simp only at hev
    refine wpIn_region (opsx hok.1 (onlyN_out _) _ _ _ ?_)
    have := evOps_sound ok hX hC hok.1 (Q := onlyN (Q .normal)) (fun ρ' a' w' h1 h2 => hQ ρ' a' w' h1 h2) ops.toList 0 s.F s.H s.lo rfl hev ρ a w hR hF
    rw [List.range_eq_range']
    simpa using this
def isMap : Obj → Bool
  | .map _ _ | .stringIter _ _ => true
  | _ => false
theorem ObjOf.isMap {ρ : Rho} {e : Ent} {cells : List Value} {o : Obj} (h : ObjOf ρ e cells o) : isMap o = true := by
  cases o <;> first
    | exact h.elim
    | rfl
structure KeepsOthers (W W' : World) : Prop where
  size : W.heap.size ≤ W'.heap.size
  same : ∀ (k : Nat) (o : Obj), W.heap[k]? = some o → isMap o = false → o.isCells = false → W'.heap[k]? = some o
theorem KeepsOthers.refl (W : World) : KeepsOthers W W := ⟨Nat.le_refl _, fun _ _ h _ _ => h⟩
theorem KeepsOthers.trans {a b c : World} (h : KeepsOthers a b) (k : KeepsOthers b c) : KeepsOthers a c := ⟨Nat.le_trans h.size k.size, fun i o hi h1 h2 => k.same i o (h.same i o hi h1 h2) h1 h2⟩
theorem Rel.others {ρ : Rho} {H : Heap} {w : World} {ρ' : Rho} {H' : Heap} {l : Nat} {w' : World} (hs : SR ρ H w) (h : Rel ρ H w ρ' H' l w') : KeepsOthers w w' := by
  refine ⟨h.size, fun k o hk hm ho => ?_⟩
  have hlt := (Array.getElem?_eq_some_iff.1 hk).1
  rw [h.keep k hlt ?_]
  · exact hk
  · intro j e0 b0 hj hb hown _ hek
    rcases hs.blk j e0 b0 hj hb with ⟨_, c, el, fz, hc, _⟩ | ⟨_, o', hc, ho'⟩
    · rw [hek, hk] at hc
      injection hc with hc
      rw [hc] at ho
      simp [Obj.isCells] at ho
    · rw [hek, hk] at hc
      injection hc with hc
      rw [hc] at hm
      rw [ho'.isMap] at hm
      cases hm
def marks (Ds : List Nat) : List Deferred := Ds.map fun D => { target := .collected D, args := #[] }
structure Marked (B : Nat) (w : World) (Ds : List Nat) : Prop where
  base : B ≤ w.heap.size
  nodup : Ds.Nodup
  each : ∀ D ∈ Ds, B ≤ D ∧ w.heap[D]? = some (.deferred (some []))
theorem Marked.keep {B : Nat} {w w' : World} {Ds : List Nat} (h : Marked B w Ds) (k : KeepsOthers w w') : Marked B w' Ds :=
  ⟨Nat.le_trans h.base k.size, h.nodup, fun D hD => ⟨(h.each D hD).1, k.same D _ (h.each D hD).2 rfl rfl⟩⟩
theorem SR0.turn {ρ : Rho} {H : Heap} {w : World} (h : SR0 ρ H w) {l : Nat} {o o' : Obj} (hl : w.heap[l]? = some o) (hm : isMap o = false) (ho : o.isCells = false) : SR0 ρ H (w.putObj l o') := by
  refine ⟨h.len, fun i e b hi hb => ?_, h.inj⟩
  refine (h.blk i e b hi hb).at (World.putObj_heap_other fun he => ?_)
  rcases h.blk i e b hi hb with ⟨_, c, el, fz, h1, _⟩ | ⟨_, o2, h1, ho2⟩
  · rw [he, hl] at h1
    injection h1 with h1
    rw [h1] at ho
    simp [Obj.isCells] at ho
  · rw [he, hl] at h1
    injection h1 with h1
    rw [h1] at hm
    rw [ho2.isMap] at hm
    cases hm
theorem Rel.turn {ρ0 : Rho} {H0 : Heap} {w0 : World} {ρ : Rho} {H : Heap} {lo : Nat} {w : World} (h : Rel ρ0 H0 w0 ρ H lo w) {l : Nat} {o o' : Obj} (hB : w0.heap.size ≤ l) (hl : w.heap[l]? = some o) (hm : isMap o = false) (ho : o.isCells = false) : Rel ρ0 H0 w0 ρ H lo (w.putObj l o') where
  gl0 := h.gl0
  len0 := h.len0
  pre := h.pre
  sr0 := h.sr0.turn hl hm ho
  len := h.len
  own := h.own
  new := h.new
  os := h.os
  tape := h.tape
  output := h.output
  size := by rw [World.putObj_size]; exact h.size
  keep := fun k hk hh => by
    rw [World.putObj_heap_other (by omega)]
    exact h.keep k hk hh
theorem quiet_alloc (w : World) (o : Obj) (_ho : o.isCells = false) : Quiet w (w.alloc o) := ⟨rfl, rfl, rfl, by simp, fun k hk => RowKit.Below.heap_alloc w o k hk⟩
theorem Rel.quiet {ρ0 : Rho} {H0 : Heap} {w0 : World} {ρ : Rho} {H : Heap} {lo : Nat} {w w' : World} (h : Rel ρ0 H0 w0 ρ H lo w) (q : Quiet w w') : Rel ρ0 H0 w0 ρ H lo w' := by
  have := h.trans (Rel.of_quiet h.sr q lo)
  rwa [Nat.min_self] at this
section
variable {P : Program} {b : Frame} {a : Act} {k : List Item} {cs : List Frame} {w : World}
theorem stepR_scope {c : Code} : step P (lone (b.atR a (.code (.scope c) :: k)) cs w) = .next (lone (b.atR a (.code c :: .inScope c :: k)) cs w) :=
  step_lone_go (by simp [stepG, stepG.exec, Frame.atR])
theorem stepR_inScope {c : Code} : step P (lone (b.atR a (.inScope c :: k)) cs w) = .next (lone (b.atR a k) cs w) :=
  step_lone_go (by simp [stepG, stepG.exec, Frame.atR])
end
theorem wpIn_scope {F : Fence} {n : Nat} {P : Program} {Q : Exit → Act → World → Prop} {a : Act} {w : World} {c : Code} (h : c.wpIn F n P (Exit.noGoto Q) a w) : (Code.scope c).wpIn F n P Q a w := by
  intro b k cs hro hb hr
  have h0 : (lone (b.atR a (.code (.scope c) :: k)) cs w).fenced P F := fenced_calm hb hr rfl
  obtain ⟨e, a₁, w₁, hq, harr⟩ := h b (.inScope c :: k) cs hro hb hr
  have hx : ∀ id, exitTo id (.inScope c :: k) = exitTo id k := fun id => by simp [exitTo]
  cases e with
  | normal => exact ⟨.normal, a₁, w₁, hq, .head h0 stepR_scope (StepsIn.trans harr (.one (fenced_calm hb hr rfl) stepR_inScope))⟩
  | exit id => exact ⟨.exit id, a₁, w₁, hq, fun k' hk => .head h0 stepR_scope (harr.1 k' (by rw [hx]; exact hk)), fun hr' hk => let ⟨k₁, h1, h2⟩ := harr.2 hr' (by rw [hx]; exact hk); ⟨k₁, h1, .head h0 stepR_scope h2⟩⟩
  | goto l => exact hq.elim
  | ret => exact ⟨_, a₁, w₁, hq, .of_steps (.one h0 stepR_scope) harr⟩
  | panic ch => exact ⟨_, a₁, w₁, hq, .of_steps (.one h0 stepR_scope) harr⟩
  | outgrown => exact ⟨_, a₁, w₁, hq, .of_steps (b := b) (k := k) (cs := cs) (e := .outgrown) (.one h0 stepR_scope) harr⟩
end Go.Proofs.YtpgmabpaiijipaaGreatDoor.Den
namespace Go.Proofs.YtpgmabpaiijipaaGreatDoor.Den
open Go
def WPr (r : Option Nat) (P : Program) (nt : Nat) (c : Code) (s : St) (x : Ex) (s' : St) : Prop :=
  ∀ (B : Nat) (Ds : List Nat) (ρ0 : Rho) (H0 : Heap) (w0 : World) (ρ : Rho) (a : Act) (w : World) (Q : Exit → Act → World → Prop), Rel ρ0 H0 w0 ρ s.H s.lo w → FR (marks Ds) ρ nt s.F a → Marked B w Ds →
    (∀ ρ' Ds' a' w', ρ <+: ρ' → Rel ρ0 H0 w0 ρ' s'.H s'.lo w' → FR (marks Ds') ρ' nt s'.F a' → Marked B w' Ds' → KeepsOthers w w' → Q (toExit x) a' w') → cwp r P c Q a w
abbrev WP := WPr none
def Sub (F G : Slots) : Prop := ∀ t v, at? t F = some v → at? t G = some v
theorem Sub.refl (F : Slots) : Sub F F := fun _ _ h => h
theorem FR.sub {ds : List Deferred} {ρ : Rho} {nt : Nat} {F G : Slots} {a : Act} (h : Sub F G) (hG : FR ds ρ nt G a) : FR ds ρ nt F a := ⟨hG.defers, hG.size, fun t v hv => hG.slot t v (h t v hv)⟩
theorem WPr.weaken {r : Option Nat} {P : Program} {nt : Nat} {c : Code} {F G : Slots} {H : Heap} {lo : Nat} {x : Ex} {F' G' : Slots} {H' : Heap} {lo' : Nat} (h : WPr r P nt c ⟨F, H, lo⟩ x ⟨F', H', lo'⟩) (h1 : Sub F G) (h2 : Sub G' F') : WPr r P nt c ⟨G, H, lo⟩ x ⟨G', H', lo'⟩ :=
  fun B Ds ρ0 H0 w0 ρ a w Q hR hF hM hQ => h B Ds ρ0 H0 w0 ρ a w Q hR (hF.sub h1) hM fun ρ' Ds' a' w' hp hR' hF' => hQ ρ' Ds' a' w' hp hR' (hF'.sub h2)
theorem WPr.seq {r : Option Nat} {P : Program} {nt : Nat} {c d : Code} {s s1 : St} {x : Ex} {s' : St} (h1 : WPr r P nt c s .normal s1) (h2 : WPr r P nt d s1 x s') : WPr r P nt (.seq c d) s x s' :=
  fun B Ds ρ0 H0 w0 ρ a w Q hR hF hM hQ => wpIn_seq (h1 B Ds ρ0 H0 w0 ρ a w _ hR hF hM fun ρ1 D1 a1 w1 g p q m k => h2 B D1 ρ0 H0 w0 ρ1 a1 w1 Q p q m fun ρ' Ds' a' w' g' p' q' m' k' => hQ ρ' Ds' a' w' (g.trans g') p' q' m' (k.trans k'))
theorem WPr.seq_out {r : Option Nat} {P : Program} {nt : Nat} {c d : Code} {s : St} {x : Ex} {s' : St} (hx : x ≠ .normal) (h1 : WPr r P nt c s x s') : WPr r P nt (.seq c d) s x s' :=
  fun B Ds ρ0 H0 w0 ρ a w Q hR hF hM hQ => wpIn_seq (h1 B Ds ρ0 H0 w0 ρ a w _ hR hF hM fun ρ1 D1 a1 w1 g p q m k => by
    have := hQ ρ1 D1 a1 w1 g p q m k
    cases x with
    | normal => exact (hx rfl).elim
    | exit i => exact this
    | ret => exact this)
theorem WPr.loop {r : Option Nat} {P : Program} {nt : Nat} {b : Code} (S : Nat → St) (n : Nat) {x : Ex} {s' : St} (hx : x ≠ .normal) (h1 : ∀ i, i < n → WPr r P nt b (S i) .normal (S (i + 1))) (h2 : WPr r P nt b (S n) x s') : WPr r P nt (.loop b) (S 0) x s' := by
  intro B Ds ρ0 H0 w0 ρ a w Q hR hF hM hQ
  refine wpIn_loop_rounds (n + 1) ?_
  have key : ∀ (m i : Nat), i + m = n → ∀ (ρ1 : Rho) (Ds : List Nat) (a : Act) (w1 : World), ρ <+: ρ1 → Rel ρ0 H0 w0 ρ1 (S i).H (S i).lo w1 → FR (marks Ds) ρ1 nt (S i).F a → Marked B w1 Ds → KeepsOthers w w1 → Code.roundsIn (FX r) 0 P b Q (m + 1) a w1 := by
    intro m
    induction m with
    | zero =>
      intro i hi ρ1 Ds a w1 hg hR hF hM hk
      have : i = n := by omega
      subst this
      refine h2 B Ds ρ0 H0 w0 ρ1 a w1 _ hR hF hM fun ρ' Ds' a' w' g p q m k => ?_
      have := hQ ρ' Ds' a' w' (hg.trans g) p q m (hk.trans k)
      cases x with
      | normal => exact (hx rfl).elim
      | exit i => exact this
      | ret => exact this
    | succ m ih =>
      intro i hi ρ1 Ds a w1 hg hR hF hM hk
      exact h1 i (by omega) B Ds ρ0 H0 w0 ρ1 a w1 _ hR hF hM fun ρ' Ds' a' w' g p q m k => ih (i + 1) (by omega) ρ' Ds' a' w' (hg.trans g) p q m (hk.trans k)
  exact key n 0 (by omega) ρ Ds a w (List.prefix_refl _) hR hF hM (KeepsOthers.refl w)
theorem WP.weaken {P : Program} {nt : Nat} {c : Code} {F G : Slots} {H : Heap} {lo : Nat} {x : Ex} {F' G' : Slots} {H' : Heap} {lo' : Nat} (h : WP P nt c ⟨F, H, lo⟩ x ⟨F', H', lo'⟩) (h1 : Sub F G) (h2 : Sub G' F') : WP P nt c ⟨G, H, lo⟩ x ⟨G', H', lo'⟩ := WPr.weaken h h1 h2
theorem WP.loop {P : Program} {nt : Nat} {b : Code} (S : Nat → St) (n : Nat) {x : Ex} {s' : St} (hx : x ≠ .normal) (h1 : ∀ i, i < n → WP P nt b (S i) .normal (S (i + 1))) (h2 : WP P nt b (S n) x s') : WP P nt (.loop b) (S 0) x s' := WPr.loop S n hx h1 h2
def firstId : Code → Nat
  | .region id _ _ => id
  | .seq a _ => firstId a
  | .block _ b => firstId b
  | .scope b => firstId b
  | .loop b => firstId b
  | .cond _ a _ => firstId a
  | .rangeFunc _ _ a _ => firstId a
  | _ => 0
structure Loops where
  loop : Nat → St → Option (Ex × St × Obs) := fun _ _ => none
  renF : Nat → List (Nat × Int) := fun _ => []
  renH : Nat → List (Nat × Nat × Int) := fun _ => []
  keys : Nat → Slots → List Nat := fun _ F => keysOf F
def noLoops : Loops := {}
def goF : List (Nat × Int) → Slots → Obs → Option (Slots × Obs)
  | [], F, ob => some (F, ob)
  | (t, y) :: l, F, ob => match at? t F with
    | some (.int k n) => goF l ((t, .int k y) :: F) ((decide (n = y), true) :: ob)
    | _ => none
def goH : List (Nat × Nat × Int) → Heap → Obs → Option (Heap × Obs)
  | [], H, ob => some (H, ob)
  | (b, o, y) :: l, H, ob => match H[b]? with
    | some blk => match blk.cells[o]? with
      | some (.int k n) => goH l (H.set b { blk with cells := blk.cells.set o (.int k y) }) ((decide (n = y), true) :: ob)
      | _ => none
    | none => none
theorem goF_ok : ∀ (l : List (Nat × Int)) (F : Slots) (ob : Obs) (F' : Slots) (ob' : Obs), goF l F ob = some (F', ob') → Holds ob' → Sub F' F ∧ Holds ob := by
  intro l
  induction l with
  | nil =>
    intro F ob F' ob' h hh
    simp only [goF, Option.some.injEq, Prod.mk.injEq] at h
    obtain ⟨rfl, rfl⟩ := h
    exact ⟨Sub.refl _, hh⟩
  | cons p l ih =>
    obtain ⟨t, y⟩ := p
    intro F ob F' ob' h hh
    simp only [goF] at h
    split at h
    · rename_i k n ht
      obtain ⟨h1, h2⟩ := ih _ _ _ _ h hh
      have e : n = y := by simpa using h2 (decide (n = y), true) (by simp)
      subst e
      refine ⟨fun u v hv => ?_, fun p hp => h2 p (by simp [hp])⟩
      have := h1 u v hv
      simp only [at?] at this
      split at this
      · rename_i hb
        have : t = u := Nat.eq_of_beq_eq_true hb
        subst this
        rw [ht]; assumption
      · exact this
    · simp at h
theorem set_self {α : Type} (l : List α) (i : Nat) (a : α) (h : l[i]? = some a) : l.set i a = l := by
  apply List.ext_getElem?
  intro j
  rw [List.getElem?_set]
  split
  · rename_i hij
    subst hij
    obtain ⟨hlt, _⟩ := List.getElem?_eq_some_iff.1 h
    rw [if_pos hlt, h]
  · rfl
theorem goH_ok : ∀ (l : List (Nat × Nat × Int)) (H : Heap) (ob : Obs) (H' : Heap) (ob' : Obs), goH l H ob = some (H', ob') → Holds ob' → H' = H ∧ Holds ob := by
  intro l
  induction l with
  | nil =>
    intro H ob H' ob' h hh
    simp only [goH, Option.some.injEq, Prod.mk.injEq] at h
    obtain ⟨rfl, rfl⟩ := h
    exact ⟨rfl, hh⟩
  | cons p l ih =>
    obtain ⟨b, o, y⟩ := p
    intro H ob H' ob' h hh
    simp only [goH] at h
    split at h
    · rename_i blk hb
      split at h
      · rename_i k n hc
        obtain ⟨h1, h2⟩ := ih _ _ _ _ h hh
        have e : n = y := by simpa using h2 (decide (n = y), true) (by simp)
        subst e
        rw [set_self _ _ _ hc, set_self _ _ _ hb] at h1
        exact ⟨h1, fun p hp => h2 p (by simp [hp])⟩
      · simp at h
    · simp at h
def goR (L : Loops) (id : Nat) (s : SS) : Option SS :=
  match goF (L.renF id) s.s.F s.ob with
  | some (F, ob) => match goH (L.renH id) s.s.H ob with
    | some (H, ob) => some ⟨⟨F, H, s.s.lo⟩, s.os, ob⟩
    | none => none
  | none => none
theorem goR_ok {L : Loops} {id : Nat} {s s' : SS} (h : goR L id s = some s') (hh : Holds s'.ob) : Sub s'.s.F s.s.F ∧ s'.s.H = s.s.H ∧ s'.s.lo = s.s.lo ∧ Holds s.ob := by
  unfold goR at h
  split at h
  · rename_i F ob hF
    split at h
    · rename_i H ob' hH
      simp only [Option.some.injEq] at h
      subst h
      obtain ⟨h1, h2⟩ := goH_ok _ _ _ _ _ hH hh
      obtain ⟨h3, h4⟩ := goF_ok _ _ _ _ _ hF h2
      exact ⟨h3, h1, rfl, h4⟩
    · simp at h
  · simp at h
def flatC : Code → Bool
  | .seq a b => flatC a && flatC b
  | .cond _ a b => flatC a && flatC b
  | .block _ b => flatC b
  | .scope b => flatC b
  | .loop _ => false
  | .rangeFunc .. => false
  | _ => true
def boxed (H : Heap) (bs : Nat) : Option (Nat × Nat × Nat × Nat) := match H[bs]? with
  | some blk => match blk.cells with
    | [.slice (some ⟨b, o, none⟩) len cap] => if live blk = true ∧ len ≤ cap ∧ len ≤ 4294967296 then some (b, o, len, cap) else none
    | _ => none
  | none => none
def backOf (F : Slots) (H : Heap) (g : Operand) : Option (Nat × Nat × Nat × Nat × Nat × Nat) :=
  match ev F g with
  | some (.func (.func f) a c) => match isBk f && a.toList.isEmpty, c.toList with
    | true, [.pointer (some ⟨bs, 0, none⟩)] => match boxed H bs with
      | some (b, o, len, cap) => some (f, bs, b, o, len, cap)
      | none => none
    | _, _ => none
  | _ => none
def cellAt (H : Heap) (b i : Nat) : Option Value := match H[b]? with
  | some blk => match blk.cells[i]? with
    | some v => if live blk && oneCell v then some v else none
    | none => none
  | none => none
def evRange (fa fb : SS → Option (Ex × SS)) (nt : Nat) (p q : Tmp) (F0 : Slots) (bs : Nat) (z : Nat × Nat × Nat × Nat) : Nat → SS → Option (Ex × SS)
  | 0, s => some (.normal, ⟨⟨F0, s.s.H, s.s.lo⟩, s.os, s.ob⟩)
  | k + 1, s => match decide (boxed s.s.H bs = some z), cellAt s.s.H z.1 (z.2.1 + k) with
    | true, some (.int .i64 v) => match fa ⟨⟨putF nt (putF nt F0 (some p) (.int .i64 (k : Nat))) (some q) (.int .i64 v), s.s.H, s.s.lo⟩, s.os, s.ob⟩ with
      | some (.normal, s1) => match fb s1 with
        | some (.normal, s2) => evRange fa fb nt p q F0 bs z k s2
        | some (x, s2) => some (x, ⟨⟨F0, s2.s.H, s2.s.lo⟩, s2.os, s2.ob⟩)
        | none => none
      | _ => none
    | _, _ => none
def evCodeL (P : Program) (X : Ext) (pre : Pre) (C : Oracle) (L : Loops) (N nt : Nat) : Code → SS → Option (Ex × SS)
  | .skip, s => some (.normal, s)
  | .label _, s => some (.normal, s)
  | .region id ops draw, s => match goR L id s with
    | some s1 => evCodeS P X pre C N nt (.region id ops draw) s1
    | none => none
  | .seq a b, s => match evCodeL P X pre C L N nt a s with
    | some (.normal, s) => evCodeL P X pre C L N nt b s
    | r => r
  | .cond c x y, ⟨s, os, ob⟩ => match ev s.F c with
    | some (.bool b) => ask os ob b fun t os ob => match t with
      | true => evCodeL P X pre C L N nt x ⟨s, os, ob⟩
      | false => evCodeL P X pre C L N nt y ⟨s, os, ob⟩
    | _ => none
  | .block id b, s => match evCodeL P X pre C L N nt b s with
    | some (.exit i, s) => if i = id then some (.normal, s) else some (.exit i, s)
    | r => r
  | .loop b, s => match L.loop (firstId b) s.s with
    | some (x, s', o) => some (x, ⟨s', s.os, o ++ s.ob⟩)
    | none => iterS N (evCodeL P X pre C L N nt b) (L.keys (firstId b) s.s.F) s
  | .rangeFunc g ps assign body, s => match L.loop (firstId assign) s.s with
    | some (x, s', o) => some (x, ⟨s', s.os, o ++ s.ob⟩)
    | none => match flatC assign && flatC body, backOf s.s.F s.s.H g, ps.toList with
      | true, some (_, bs, z), [p, q] => evRange (evCodeL P X pre C L N nt assign) (evCodeL P X pre C L N nt body) nt p q s.s.F bs z z.2.2.1 s
      | _, _, _ => none
  | .scope b, s => evCodeL P X pre C L N nt b s
  | .exit id, s => some (.exit id, s)
  | .ret, s => some (.ret, s)
  | _, _ => none
def loopsOf : Code → List Code
  | .seq a b => loopsOf a ++ loopsOf b
  | .cond _ a b => loopsOf a ++ loopsOf b
  | .block _ b => loopsOf b
  | .scope b => loopsOf b
  | .loop b => b :: loopsOf b
  | _ => []
def rangesOf : Code → List Code
  | .seq a b => rangesOf a ++ rangesOf b
  | .cond _ a b => rangesOf a ++ rangesOf b
  | .block _ b => rangesOf b
  | .scope b => rangesOf b
  | .loop b => rangesOf b
  | .rangeFunc g ps a b => [.rangeFunc g ps a b]
  | _ => []
def LoopsOk (P : Program) (nt : Nat) (L : Loops) (c : Code) : Prop := (∀ b ∈ loopsOf c, ∀ s x s' o, L.loop (firstId b) s = some (x, s', o) → Holds o → WP P nt (.loop b) s x s') ∧
  (∀ b ∈ rangesOf c, ∀ s x s' o, L.loop (firstId b) s = some (x, s', o) → Holds o → WP P nt b s x s')
section
variable {P : Program} {X : Ext} {pre : Pre} {C : Oracle} {L : Loops} {N nt : Nat}
theorem WPr.forget {r : Option Nat} {c : Code} {s : St} {x : Ex} {F' : Slots} {H' : Heap} {lo' : Nat} (h : WPr r P nt c s x ⟨F', H', lo'⟩) (m : List Nat) : WPr r P nt c s x ⟨forget F' m, H', lo'⟩ :=
  fun B Ds ρ0 H0 w0 ρ a w Q hR hF hM hQ => h B Ds ρ0 H0 w0 ρ a w Q hR hF hM fun ρ' Ds' a' w' g p q => hQ ρ' Ds' a' w' g p (q.forget m)
theorem region_WP (ok : ProgOk P) (hX : XSound P X) (hC : Sound P C) {r : Option Nat} {id : Nat} {ops : Array Oper} {draw : Bool} (hok : codeOk (.region id ops draw) = true) {s : St} {x : Ex} {s' : St} (h : evCode P X C N nt (.region id ops draw) s = some (x, s')) :
    WPr r P nt (.region id ops draw) s x s' := by
  have hx : x = .normal := by
    simp only [evCode] at h
    split at h
    · simp only [Option.some.injEq, Prod.mk.injEq] at h
      exact h.1.symm
    · simp at h
  subst hx
  have hlo : s'.lo ≤ s.lo := by
    simp only [codeOk, Bool.and_eq_true] at hok
    simp only [evCode] at h
    split at h
    · rename_i F1 H1 lo1 hev
      simp only [Option.some.injEq, Prod.mk.injEq] at h
      obtain ⟨_, rfl⟩ := h
      cases draw with
      | true => exact evDraw_lo ok hX hC (by simpa using hok.2) hev
      | false => exact evOps_lo ok hX hC _ hok.1 _ _ _ hev
    · simp at h
  intro B Ds ρ0 H0 w0 ρ a w Q hR hF hM hQ
  refine (region_x (r := r) ok hX hC hok h (ρ0 := ρ) (H0 := s.H) (w0 := w) (Rel.of_quiet hR.sr (Quiet.refl w) s.lo) hF fun ρ' a' w' p q => ?_).2
  have hk := p.others hR.sr
  have ht := hR.trans p
  rw [Nat.min_eq_right hlo] at ht
  exact hQ ρ' Ds a' w' p.pre ht q (hM.keep hk) hk
theorem cellAt_world {ρ : Rho} {H : Heap} {w : World} (hs : SR ρ H w) {b i : Nat} {v : Value} (h : cellAt H b i = some v) {e : Ent} (he : ρ[b]? = some e) : oneCell v = true ∧ ∃ v', w.cell? ⟨e.r, e.d + i, none⟩ = some v' ∧ VR ρ v v' := by
  unfold cellAt at h
  split at h
  · rename_i blk hb
    split at h
    · rename_i u hu
      split at h
      · rename_i ho
        simp only [Bool.and_eq_true] at ho
        obtain ⟨hl, ho⟩ := ho
        injection h with h
        subst h
        obtain ⟨c, el, fz, h1, h2, _⟩ := (hs.blk b e blk he hb).row hl
        obtain ⟨_, v', h3, h4⟩ := h2 i u hu
        exact ⟨ho, v', by simp [World.cell?, h1, h3], h4⟩
      · simp at h
    · simp at h
  · simp at h
theorem boxed_cell {H : Heap} {bs b o len cap : Nat} (h : boxed H bs = some (b, o, len, cap)) : cellAt H bs 0 = some (.slice (some ⟨b, o, none⟩) len cap) ∧ len ≤ cap ∧ len ≤ 4294967296 := by
  unfold boxed at h
  split at h
  · rename_i blk hb
    split at h
    · rename_i b1 o1 l1 c1 hc
      split at h
      · rename_i hle
        simp only [Option.some.injEq, Prod.mk.injEq] at h
        obtain ⟨rfl, rfl, rfl, rfl⟩ := h
        exact ⟨by simp [cellAt, hb, hc, oneCell, hle.1], hle.2.1, hle.2.2⟩
      · simp at h
    · simp at h
  · simp at h
theorem boxed_world {ρ : Rho} {H : Heap} {w : World} (hs : SR ρ H w) {bs b o len cap : Nat} (h : boxed H bs = some (b, o, len, cap)) {e e2 : Ent} (he : ρ[bs]? = some e) (he2 : ρ[b]? = some e2) :
    w.cell? ⟨e.r, e.d, none⟩ = some (.slice (some ⟨e2.r, e2.d + o, none⟩) len cap) := by
  obtain ⟨h1, h2, _⟩ := boxed_cell h
  obtain ⟨_, v', h3, h4⟩ := cellAt_world hs h1 he
  obtain ⟨e3, c', h5, _, h6, h7, _⟩ := slice_of h4 (.inl rfl)
  simp only at h5
  rw [he2] at h5
  injection h5 with h5
  subst h5
  rw [h7 h2] at h6
  rw [← h6]
  exact h3
theorem boxed_ent {ρ : Rho} {H : Heap} {w : World} (hs : SR ρ H w) {bs b o len cap : Nat} (h : boxed H bs = some (b, o, len, cap)) {e : Ent} (he : ρ[bs]? = some e) : ∃ e2, ρ[b]? = some e2 := by
  obtain ⟨h1, _⟩ := boxed_cell h
  obtain ⟨_, v', _, h4⟩ := cellAt_world hs h1 he
  obtain ⟨e3, _, h5, _⟩ := slice_of h4 (.inl rfl)
  exact ⟨e3, h5⟩
theorem evRange_holds {fa fb : SS → Option (Ex × SS)} (ha : ∀ s x s', fa s = some (x, s') → Holds s'.ob → Holds s.ob) (hb : ∀ s x s', fb s = some (x, s') → Holds s'.ob → Holds s.ob) {p q : Tmp} {F0 : Slots} {bs : Nat} {z : Nat × Nat × Nat × Nat} {x : Ex} {s' : SS} :
    ∀ (k : Nat) (s : SS), evRange fa fb nt p q F0 bs z k s = some (x, s') → Holds s'.ob → Holds s.ob := by
  intro k
  induction k with
  | zero =>
    intro s h hh
    simp only [evRange, Option.some.injEq, Prod.mk.injEq] at h
    obtain ⟨rfl, rfl⟩ := h
    exact hh
  | succ k ih =>
    intro s h hh
    simp only [evRange] at h
    split at h
    · split at h
      · rename_i s1 h1
        split at h
        · rename_i s2 h2
          have := ha _ _ _ h1 (hb _ _ _ h2 (ih _ h hh))
          exact this
        · rename_i x2 s2 hne h2
          simp only [Option.some.injEq, Prod.mk.injEq] at h
          obtain ⟨rfl, rfl⟩ := h
          have := ha _ _ _ h1 (hb _ _ _ h2 hh)
          exact this
        · simp at h
      · simp at h
    · simp at h
def jumpOf : Ex → Code
  | .normal => .skip
  | .exit i => .exit i
  | .ret => .ret
theorem Marked.turn {B : Nat} {w : World} {Ds : List Nat} (h : Marked B w Ds) {l : Nat} {r : Loop} (hl : w.heap[l]? = some (.loop r)) (o : Obj) : Marked B (w.putObj l o) Ds :=
  ⟨by rw [World.putObj_size]; exact h.base, h.nodup, fun D hD => ⟨(h.each D hD).1, by
    rw [World.putObj_heap_other]
    · exact (h.each D hD).2
    · intro e
      have := (h.each D hD).2
      rw [e, hl] at this
      cases this⟩⟩
theorem KeepsOthers.turn {w W : World} (h : KeepsOthers w W) {l : Nat} (hl : w.heap.size ≤ l) (o : Obj) : KeepsOthers w (W.putObj l o) :=
  ⟨by rw [World.putObj_size]; exact h.size, fun k o' hk hm ho => by
    have := (Array.getElem?_eq_some_iff.1 hk).1
    rw [World.putObj_heap_other (by omega)]
    exact h.same k o' hk hm ho⟩
theorem range_rel (ok : ProgOk P) {g : Operand} {ps : Array Tmp} {assign body : Code} {p q : Tmp} (hps : ps.toList = [p, q]) {F0 : Slots} {H1 : Heap} {lo1 : Nat} {f bs b o len cap : Nat}
    (hg : backOf F0 H1 g = some (f, bs, b, o, len, cap)) (R : Nat → Heap → Nat → Prop) (hR0 : R len H1 lo1) {x : Ex} {H2 : Heap} {lo2 : Nat}
    (hround : ∀ k H lo, R (k + 1) H lo → boxed H bs = some (b, o, len, cap) ∧ ∃ v, cellAt H b (o + k) = some (.int .i64 v) ∧ ∃ s1 x2 s2, (∀ l, WPr (some l) P nt assign ⟨putF nt (putF nt F0 (some p) (.int .i64 (k : Nat))) (some q) (.int .i64 v), H, lo⟩ .normal s1) ∧
      (∀ l, WPr (some l) P nt body s1 x2 s2) ∧ ((x2 = .normal ∧ R k s2.H s2.lo) ∨ (x2 ≠ .normal ∧ x = x2 ∧ H2 = s2.H ∧ lo2 = s2.lo)))
    (hend : ∀ H lo, R 0 H lo → x = .normal ∧ H2 = H ∧ lo2 = lo) : WPr none P nt (.rangeFunc g ps assign body) ⟨F0, H1, lo1⟩ x ⟨F0, H2, lo2⟩ := by
  intro B Ds ρ0 H0 w0 ρ a w Q hR hF hM hQ
  unfold backOf at hg
  split at hg
  case h_2 => simp at hg
  rename_i f0 aa cc hev
  split at hg
  case h_2 => simp at hg
  rename_i bs0 hfe hcc
  split at hg
  case h_2 => simp at hg
  rename_i b1 o1 len1 cap1 hbox
  simp only [Option.some.injEq, Prod.mk.injEq] at hg
  obtain ⟨rfl, rfl, rfl, rfl, rfl, rfl⟩ := hg
  simp only [Bool.and_eq_true, List.isEmpty_iff] at hfe
  obtain ⟨hbk, haa⟩ := hfe
  have hB := ok.back f0 hbk
  obtain ⟨_, hlc, hlen⟩ := boxed_cell hbox
  obtain ⟨a', c', hval, va, vc⟩ := func_of (hF.opR [g] g (by simp) _ hev)
  have ha' : a' = #[] := by
    have := va.1
    rw [haa] at this
    simpa using this.symm
  subst ha'
  rw [hcc] at vc
  obtain ⟨c0, hc0⟩ : ∃ c0, c'.toList = [c0] := by
    have := vc.1
    match hl : c'.toList, this with
    | [c0], _ => exact ⟨c0, rfl⟩
  have hc0r : VR ρ (.pointer (some ⟨bs0, 0, none⟩)) c0 := vc.2 0 _ _ rfl (by rw [hc0]; rfl)
  obtain ⟨e, he, _, rfl⟩ := ptr_of hc0r
  simp only [Nat.add_zero] at he hc0
  have hc' : c' = #[.pointer (some ⟨e.r, e.d, none⟩)] := by
    apply Array.toList_inj.1
    rw [hc0]
  subst hc'
  obtain ⟨e2, he2⟩ := boxed_ent hR.sr hbox he
  have hps' : ps = #[p, q] := Array.toList_inj.1 hps
  refine wpIn_rangeFunc ?_
  intro fn hfn
  obtain ⟨rec, hrec⟩ : ∃ rec : LoopState → Option Code → Loop, rec = fun st pe => { state := st, pending := pe, fn, tmps := a.tmps, params := ps, assign, body, defers := w.heap.size } := ⟨_, rfl⟩
  obtain ⟨W1, hW1⟩ : ∃ W1, (w.alloc (.deferred (some []))).alloc (.loop (rec .ready none)) = W1 := ⟨_, rfl⟩
  have hL1 : W1.heap[w.heap.size + 1]? = some (.loop (rec .ready none)) := by
    rw [← hW1]; have := World.alloc_heap_new (w.alloc (.deferred (some []))) (.loop (rec .ready none)); rwa [World.size_alloc] at this
  have hK1 : W1.heap[w.heap.size]? = some (.deferred (some [])) := by
    rw [← hW1]; exact (RowKit.Below.heap_alloc _ _ _ (by simp)).trans (World.alloc_heap_new w _)
  have hq1 : Quiet w W1 := by
    rw [← hW1]
    exact (quiet_alloc w _ rfl).trans (quiet_alloc _ _ rfl)
  have hko1 : KeepsOthers w W1 := ⟨hq1.size, fun k o' hk _ _ => (hq1.keep k (Array.getElem?_eq_some_iff.1 hk).1).trans hk⟩
  have hwsz : w0.heap.size ≤ w.heap.size := hR.size
  refine ⟨w.heap.size + 1, [{ target := .collected w.heap.size, args := #[] }], W1, { target := .fn (.func f0) #[.pointer (some ⟨e.r, e.d, none⟩)], args := #[.func (.yield (w.heap.size + 1)) #[] #[]] }, W1, f0,
    #[.func (.yield (w.heap.size + 1)) #[] #[], .pointer (some ⟨e.r, e.d, none⟩)], W1, ?_, ?_, ?_, ?_, fun hd => by simp at hd, ?_⟩
  · rw [← hW1, hrec]; exact run_enterLoop_outer _ _ _ _ _
  · simp only [resolve, hval]
    simp [go_sem]
  · intro f' hf'; trivial
  · simp [invoke, go_sem, hB.enters]
  · obtain ⟨l, hl⟩ : ∃ l, w.heap.size + 1 = l := ⟨_, rfl⟩
    rw [hl] at hL1 ⊢
    obtain ⟨J, hJ⟩ : ∃ J : Nat → World → Prop, J = fun k W => ∃ H lo, R k H lo ∧ (∃ ρ', Rel ρ0 H0 w0 ρ' H lo W ∧ ρ <+: ρ') ∧
      W.heap[l]? = some (.loop (rec .ready none)) ∧ W.heap[w.heap.size]? = some (.deferred (some [])) ∧ KeepsOthers w W := ⟨_, rfl⟩
    obtain ⟨Jx, hJx⟩ : ∃ Jx : World → Prop, Jx = fun W => x ≠ .normal ∧ (∃ ρ', Rel ρ0 H0 w0 ρ' H2 lo2 W ∧ ρ <+: ρ') ∧
      W.heap[l]? = some (.loop (rec .done (some (jumpOf x)))) ∧ W.heap[w.heap.size]? = some (.deferred (some [])) ∧ KeepsOthers w W := ⟨_, rfl⟩
    have hcall := hB.calls l e.r e.d e2.r (e2.d + o1) len1 cap1 J Jx W1 hlc hlen ?_ ?_ ?_
    · refine (callsIn_wide.1 hcall |> fun hc => (callsIn_wide (n := 0 - 1)).2 hc).mono ?_
      rintro en W ⟨⟨v, rfl⟩, hj⟩
      have fin : ∀ (W : World) (pe : Option Code), KeepsOthers w W → (∃ ρ', Rel ρ0 H0 w0 ρ' H2 lo2 W ∧ ρ <+: ρ') → (∃ rr, W.heap[l]? = some (.loop rr)) → W.heap[w.heap.size]? = some (.deferred (some [])) →
          Q (toExit x) { a with defers := [{ target := .collected w.heap.size, args := #[] }] ++ a.defers } (W.putObj l (.loop (rec .exhausted pe))) := by
        rintro W pe hk ⟨ρ', hR', hp'⟩ ⟨rr, hl'⟩ hd
        have hk' := KeepsOthers.turn hk (l := l) (by omega) (.loop (rec .exhausted pe))
        refine hQ ρ' (w.heap.size :: Ds) _ _ hp' (hR'.turn (by omega) hl' rfl rfl) ?_ ?_ hk'
        · have hFm := hF.mono hp'
          exact ⟨by simp [marks, hFm.defers], hFm.size, hFm.slot⟩
        · have hM' := hM.keep hk'
          refine ⟨hM'.base, List.nodup_cons.2 ⟨fun hin => ?_, hM.nodup⟩, fun D hD => ?_⟩
          · have := (hM.each _ hin).2
            simp at this
          · rcases List.mem_cons.1 hD with rfl | hD
            · exact ⟨hM.base, by rw [World.putObj_heap_other (by omega)]; exact hd⟩
            · exact hM'.each D hD
      rcases hj with hj | hj
      · rw [hJ] at hj
        obtain ⟨Hk, lok, hek, hrk, hlk, hdk, hkk⟩ := hj
        obtain ⟨rfl, rfl, rfl⟩ := hend _ _ hek
        refine ⟨none, _, by have := run_endLoop (P := P) hlk (by rw [hrec]; simp); rw [hrec] at this; exact this, ?_⟩
        have := fin W none hkk hrk ⟨_, hlk⟩ hdk
        rw [hrec] at this
        exact this
      · rw [hJx] at hj
        obtain ⟨hx, hrk, hlk, hdk, hkk⟩ := hj
        refine ⟨some (jumpOf x), _, by have := run_endLoop (P := P) hlk (by rw [hrec]; simp); rw [hrec] at this; exact this, ?_⟩
        have := fin W (some (jumpOf x)) hkk hrk ⟨_, hlk⟩ hdk
        rw [hrec] at this
        cases x with
        | normal => exact (hx rfl).elim
        | exit i => exact wpIn_exit this
        | ret => exact wpIn_ret this
    · exact boxed_world (hR.sr.quiet hq1) hbox he he2
    ·
      intro k W hlt hj
      rw [hJ] at hj
      obtain ⟨Hk, lok, hek, ⟨ρ', hrk, hpk⟩, hlk, hdk, hkk⟩ := hj
      obtain ⟨hbx, v, hcell, s1, x2, s2, hwa, hwb, hnext⟩ := hround k Hk lok hek
      have he' := prefix_get hpk he
      have he2' := prefix_get hpk he2
      obtain ⟨hov, v', hv1, hv2⟩ := cellAt_world hrk.sr hcell he2'
      obtain rfl := int_of hv2
      refine ⟨boxed_world hrk.sr hbx he' he2', v, by rw [Nat.add_assoc]; exact hv1, ?_⟩
      have hy := run_yield (P := P) (args := #[.int .i64 (k : Nat), .int .i64 v]) hlk (by rw [hrec]; simp [hps'])
      refine ⟨_, _, _, _, hy, ?_⟩
      rw [hrec, hps']
      have hFr : FR (marks []) ρ' nt (putF nt (putF nt F0 (some p) (.int .i64 (k : Nat))) (some q) (.int .i64 v)) { tmps := ((#[p, q].zip #[Value.int .i64 (k : Nat), .int .i64 v]).foldl (fun tmps (t, a) => tmps.setIfInBounds t a) a.tmps), defers := [] } := by
        have h0 : FR (marks []) ρ' nt F0 { tmps := a.tmps, defers := [] } := ⟨rfl, (hF.mono hpk).size, (hF.mono hpk).slot⟩
        have h2 := (h0.put (some p) (VR.flat (ρ := ρ') (v := .int .i64 (k : Nat)) rfl)).put (some q) (VR.flat (ρ := ρ') (v := .int .i64 v) rfl)
        simpa [Act.put] using h2
      have hM0 : ∀ W : World, Marked 0 W [] := fun W => ⟨Nat.zero_le _, List.nodup_nil, fun D hD => by simp at hD⟩
      refine roundIn_of_wpIn (F := Fence.wide) trivial ?_
      refine hwa l 0 [] ρ0 H0 w0 ρ' _ W _ hrk hFr (hM0 W) ?_
      intro ρ1 D1 a1 w1 g1 p1 q1 m1 k1
      have hp1 : W.heap.size ≤ w1.heap.size := k1.size
      have hl1 : w1.heap[l]? = some (.loop (rec .ready none)) := k1.same l _ hlk rfl rfl
      have hd1 : w1.heap[w.heap.size]? = some (.deferred (some [])) := k1.same _ _ hdk rfl rfl
      refine ⟨_, run_beginRound hl1 (by rw [hrec]), ?_⟩
      have hl2 : (w1.putObj l (.loop { rec .ready none with state := .busy })).heap[l]? = some (.loop { rec .ready none with state := .busy }) := World.putObj_heap_same (Array.getElem?_eq_some_iff.1 hl1).1
      have hd2 : (w1.putObj l (.loop { rec .ready none with state := .busy })).heap[w.heap.size]? = some (.deferred (some [])) := (World.putObj_heap_other (by omega)).trans hd1
      have hk2 : KeepsOthers w (w1.putObj l (.loop { rec .ready none with state := .busy })) := KeepsOthers.turn (hkk.trans k1) (by omega) _
      refine hwb l 0 D1 ρ0 H0 w0 ρ1 a1 _ _ (p1.turn (by omega) hl1 rfl rfl) q1 (m1.turn hl1 _) ?_
      intro ρ2 D2 a2 w2 g2 p2 q2 m2 k3
      have hl3 := k3.same l _ hl2 rfl rfl
      have hd3 := k3.same _ _ hd2 rfl rfl
      have hk3 := hk2.trans k3
      have hpre : ρ <+: ρ2 := hpk.trans (g1.trans g2)
      rcases hnext with ⟨rfl, hev2⟩ | ⟨hne, rfl, rfl, rfl⟩
      · refine ⟨_, _, run_endRound (P := P) none hl3, .inl ⟨rfl, ?_⟩⟩
        rw [hJ]
        refine ⟨_, _, hev2, ⟨ρ2, p2.turn (by omega) hl3 rfl rfl, hpre⟩, ?_, ?_, KeepsOthers.turn hk3 (by omega) _⟩
        · rw [hrec]
          exact World.putObj_heap_same (Array.getElem?_eq_some_iff.1 hl3).1
        · exact (World.putObj_heap_other (by omega)).trans hd3
      · have out : ∀ c, c = jumpOf x → ∃ v w4, (Instr.endRound l (some c)).run P w2 = .ok v w4 ∧ ((Ending.returned v = .returned (.bool true) ∧ J k w4) ∨ (Ending.returned v = .returned (.bool false) ∧ Jx w4)) := by
          rintro c rfl
          refine ⟨_, _, run_endRound (P := P) (some (jumpOf x)) hl3, .inr ⟨rfl, ?_⟩⟩
          rw [hJx]
          refine ⟨hne, ⟨ρ2, p2.turn (by omega) hl3 rfl rfl, hpre⟩, ?_, ?_, KeepsOthers.turn hk3 (by omega) _⟩
          · rw [hrec]
            exact World.putObj_heap_same (Array.getElem?_eq_some_iff.1 hl3).1
          · exact (World.putObj_heap_other (by omega)).trans hd3
        cases x with
        | normal => exact (hne rfl).elim
        | exit i => exact out _ rfl
        | ret => exact out _ rfl
    · rw [hJ]
      exact ⟨_, _, hR0, ⟨ρ, hR.quiet hq1, List.prefix_refl _⟩, hL1, hK1, hko1⟩
theorem range_WP (ok : ProgOk P) {g : Operand} {ps : Array Tmp} {assign body : Code} {p q : Tmp} (hps : ps.toList = [p, q]) {fa fb : SS → Option (Ex × SS)}
    (ha : ∀ l s x s', fa s = some (x, s') → Holds s'.ob → WPr (some l) P nt assign s.s x s'.s) (hb : ∀ l s x s', fb s = some (x, s') → Holds s'.ob → WPr (some l) P nt body s.s x s'.s)
    (ha2 : ∀ s x s', fa s = some (x, s') → Holds s'.ob → Holds s.ob) (hb2 : ∀ s x s', fb s = some (x, s') → Holds s'.ob → Holds s.ob)
    {s : SS} {f bs : Nat} {z : Nat × Nat × Nat × Nat} (hg : backOf s.s.F s.s.H g = some (f, bs, z)) {x : Ex} {s' : SS} (h : evRange fa fb nt p q s.s.F bs z z.2.2.1 s = some (x, s')) (hh : Holds s'.ob) : WPr none P nt (.rangeFunc g ps assign body) s.s x s'.s := by
  obtain ⟨b, o, len, cap⟩ := z
  have hF : s'.s.F = s.s.F := by
    have key : ∀ (k : Nat) (t : SS), evRange fa fb nt p q s.s.F bs (b, o, len, cap) k t = some (x, s') → s'.s.F = s.s.F := by
      intro k
      induction k with
      | zero =>
        intro t h
        simp only [evRange, Option.some.injEq, Prod.mk.injEq] at h
        obtain ⟨_, rfl⟩ := h
        rfl
      | succ k ih =>
        intro t h
        simp only [evRange] at h
        split at h
        · split at h
          · split at h
            · exact ih _ h
            · simp only [Option.some.injEq, Prod.mk.injEq] at h
              obtain ⟨_, rfl⟩ := h
              rfl
            · simp at h
          · simp at h
        · simp at h
    exact key _ _ h
  obtain ⟨⟨F', H', lo'⟩, os', ob'⟩ := s'
  simp only at hF
  subst hF
  refine range_rel ok hps hg (fun k H lo => ∃ os ob F, evRange fa fb nt p q s.s.F bs (b, o, len, cap) k ⟨⟨F, H, lo⟩, os, ob⟩ = some (x, ⟨⟨s.s.F, H', lo'⟩, os', ob'⟩)) ⟨s.os, s.ob, s.s.F, h⟩ ?_ ?_
  · rintro k H lo ⟨os, ob, F, hek⟩
    simp only [evRange] at hek
    split at hek
    case h_2 => simp at hek
    rename_i v hbx hcell
    refine ⟨of_decide_eq_true hbx, v, hcell, ?_⟩
    split at hek
    case h_2 => simp at hek
    rename_i s1 h1
    split at hek
    · rename_i s2 h2
      have hh2 := evRange_holds ha2 hb2 _ _ hek hh
      exact ⟨s1.s, .normal, s2.s, fun l => ha l _ _ _ h1 (hb2 _ _ _ h2 hh2), fun l => hb l _ _ _ h2 hh2, .inl ⟨rfl, s2.os, s2.ob, s2.s.F, hek⟩⟩
    · rename_i x2 s2 hne h2
      simp only [Option.some.injEq, Prod.mk.injEq, SS.mk.injEq, St.mk.injEq] at hek
      obtain ⟨rfl, ⟨_, rfl, rfl⟩, _, rfl⟩ := hek
      exact ⟨s1.s, _, s2.s, fun l => ha l _ _ _ h1 (hb2 _ _ _ h2 hh), fun l => hb l _ _ _ h2 hh, .inr ⟨fun e => hne e, rfl, rfl, rfl⟩⟩
    · simp at hek
  · rintro H lo ⟨os, ob, F, hek⟩
    simp only [evRange, Option.some.injEq, Prod.mk.injEq, SS.mk.injEq, St.mk.injEq] at hek
    exact ⟨hek.1.symm, hek.2.1.2.1.symm, hek.2.1.2.2.symm⟩
theorem evCodeL_WP (ok : ProgOk P) (hX : XSound P X) (hC : Sound P (strict pre C)) :
    ∀ (c : Code), codeOk c = true → ∀ (r : Option Nat), (r = none ∧ LoopsOk P nt L c) ∨ flatC c = true → ∀ (s : SS) (x : Ex) (s' : SS), evCodeL P X pre C L N nt c s = some (x, s') → Holds s'.ob → WPr r P nt c s.s x s'.s ∧ Holds s.ob := by
  intro c
  induction c with
  | region id ops draw =>
    intro hok r _ s x s' h hh
    simp only [evCodeL] at h
    split at h
    · rename_i s1 hg
      obtain ⟨h1, h2⟩ := evCodeS_eq _ _ _ _ h hh
      obtain ⟨g1, g2, g3, g4⟩ := goR_ok hg h2
      obtain ⟨⟨F, H, lo⟩, os, ob⟩ := s
      obtain ⟨⟨F1, H1, lo1⟩, os1, ob1⟩ := s1
      simp only at g1 g2 g3
      subst g2 g3
      exact ⟨(region_WP ok hX hC hok h1).weaken g1 (Sub.refl _), g4⟩
    · simp at h
  | seq a b iha ihb =>
    intro hok r hl s x s' h hh
    simp only [codeOk, Bool.and_eq_true] at hok
    have la : (r = none ∧ LoopsOk P nt L a) ∨ flatC a = true := hl.imp (fun ⟨e, h⟩ => ⟨e, fun b hb => h.1 b (by simp [loopsOf, hb]), fun b hb => h.2 b (by simp [rangesOf, hb])⟩) (fun h => by simp only [flatC, Bool.and_eq_true] at h; exact h.1)
    have lb : (r = none ∧ LoopsOk P nt L b) ∨ flatC b = true := hl.imp (fun ⟨e, h⟩ => ⟨e, fun b hb => h.1 b (by simp [loopsOf, hb]), fun b hb => h.2 b (by simp [rangesOf, hb])⟩) (fun h => by simp only [flatC, Bool.and_eq_true] at h; exact h.2)
    simp only [evCodeL] at h
    split at h
    · rename_i s1 hs
      obtain ⟨h1, h2⟩ := ihb hok.2 r lb _ _ _ h hh
      obtain ⟨h3, h4⟩ := iha hok.1 r la _ _ _ hs h2
      exact ⟨h3.seq h1, h4⟩
    · rename_i hne
      obtain ⟨h1, h2⟩ := iha hok.1 r la _ _ _ h hh
      refine ⟨h1.seq_out ?_, h2⟩
      rintro rfl
      exact hne s' h
  | cond c a b iha ihb =>
    intro hok r hl s x s' h hh
    simp only [codeOk, Bool.and_eq_true] at hok
    have la : (r = none ∧ LoopsOk P nt L a) ∨ flatC a = true := hl.imp (fun ⟨e, h⟩ => ⟨e, fun b hb => h.1 b (by simp [loopsOf, hb]), fun b hb => h.2 b (by simp [rangesOf, hb])⟩) (fun h => by simp only [flatC, Bool.and_eq_true] at h; exact h.1)
    have lb : (r = none ∧ LoopsOk P nt L b) ∨ flatC b = true := hl.imp (fun ⟨e, h⟩ => ⟨e, fun b hb => h.1 b (by simp [loopsOf, hb]), fun b hb => h.2 b (by simp [rangesOf, hb])⟩) (fun h => by simp only [flatC, Bool.and_eq_true] at h; exact h.2)
    obtain ⟨s, os, ob⟩ := s
    simp only [evCodeL] at h
    split at h
    · rename_i b0 hb
      obtain ⟨t, os1, ob1, hk, hob⟩ := ask_eq h
      cases t with
      | true =>
        obtain ⟨h1, h2⟩ := iha hok.1 r la _ _ _ hk hh
        obtain ⟨h3, h4⟩ := hob h2
        subst h3
        exact ⟨fun B Ds ρ0 H0 w0 ρ a w Q hR hF hM hQ => wpIn_cond_true (bool_of (hF.opR [c] c (by simp) _ hb)) (h1 B Ds ρ0 H0 w0 ρ a w Q hR hF hM hQ), h4⟩
      | false =>
        obtain ⟨h1, h2⟩ := ihb hok.2 r lb _ _ _ hk hh
        obtain ⟨h3, h4⟩ := hob h2
        subst h3
        exact ⟨fun B Ds ρ0 H0 w0 ρ a w Q hR hF hM hQ => wpIn_cond_false (bool_of (hF.opR [c] c (by simp) _ hb)) (h1 B Ds ρ0 H0 w0 ρ a w Q hR hF hM hQ), h4⟩
    · simp at h
  | block id b ih =>
    intro hok r hl s x s' h hh
    simp only [codeOk] at hok
    have lb : (r = none ∧ LoopsOk P nt L b) ∨ flatC b = true := hl.imp (fun ⟨e, h⟩ => ⟨e, fun b hb => h.1 b (by simp [loopsOf, hb]), fun b hb => h.2 b (by simp [rangesOf, hb])⟩) (fun h => by simpa [flatC] using h)
    simp only [evCodeL] at h
    split at h
    · rename_i i s1 hs
      split at h
      · rename_i hid
        simp only [Option.some.injEq, Prod.mk.injEq] at h
        obtain ⟨rfl, rfl⟩ := h
        obtain ⟨h1, h2⟩ := ih hok r lb _ _ _ hs hh
        refine ⟨fun B Ds ρ0 H0 w0 ρ a w Q hR hF hM hQ => wpIn_block (h1 B Ds ρ0 H0 w0 ρ a w _ hR hF hM fun ρ1 D1 a1 w1 g p q m k => ?_), h2⟩
        simp only [toExit, Exit.inBlock, hid, if_true]
        exact hQ ρ1 D1 a1 w1 g p q m k
      · rename_i hid
        simp only [Option.some.injEq, Prod.mk.injEq] at h
        obtain ⟨rfl, rfl⟩ := h
        obtain ⟨h1, h2⟩ := ih hok r lb _ _ _ hs hh
        refine ⟨fun B Ds ρ0 H0 w0 ρ a w Q hR hF hM hQ => wpIn_block (h1 B Ds ρ0 H0 w0 ρ a w _ hR hF hM fun ρ1 D1 a1 w1 g p q m k => ?_), h2⟩
        simp only [toExit, Exit.inBlock, hid, if_false]
        exact hQ ρ1 D1 a1 w1 g p q m k
    · rename_i hne
      obtain ⟨h1, h2⟩ := ih hok r lb _ _ _ h hh
      refine ⟨fun B Ds ρ0 H0 w0 ρ a w Q hR hF hM hQ => wpIn_block (h1 B Ds ρ0 H0 w0 ρ a w _ hR hF hM fun ρ1 D1 a1 w1 g p q m k => ?_), h2⟩
      have := hQ ρ1 D1 a1 w1 g p q m k
      cases x with
      | normal => exact this
      | exit i => exact (hne i s' h).elim
      | ret => exact this
  | loop b ih =>
    intro hok r hl s x s' h hh
    simp only [codeOk] at hok
    rcases hl with ⟨rfl, hl⟩ | hl
    case inr => simp [flatC] at hl
    have lb : ((none : Option Nat) = none ∧ LoopsOk P nt L b) ∨ flatC b = true := .inl ⟨rfl, fun c hc => hl.1 c (by simp [loopsOf, hc]), fun c hc => hl.2 c (by simp [rangesOf, hc])⟩
    simp only [evCodeL] at h
    split at h
    · rename_i x1 s1 o1 hL
      simp only [Option.some.injEq, Prod.mk.injEq] at h
      obtain ⟨rfl, rfl⟩ := h
      exact ⟨hl.1 b (by simp [loopsOf]) _ _ _ _ hL fun p hp => hh p (by simp [hp]), fun p hp => hh p (by simp [hp])⟩
    ·
      clear hl
      generalize L.keys (firstId b) s.s.F = m at h
      have key : ∀ (n : Nat) (s : SS), iterS n (evCodeL P X pre C L N nt b) m s = some (x, s') → Holds s.ob ∧
          ∀ (B : Nat) (Ds : List Nat) (ρ0 : Rho) (H0 : Heap) (w0 : World) (ρ : Rho) (a : Act) (w : World) (Q : Exit → Act → World → Prop), Rel ρ0 H0 w0 ρ s.s.H s.s.lo w → FR (marks Ds) ρ nt s.s.F a → Marked B w Ds →
            (∀ ρ' Ds' a' w', ρ <+: ρ' → Rel ρ0 H0 w0 ρ' s'.s.H s'.s.lo w' → FR (marks Ds') ρ' nt s'.s.F a' → Marked B w' Ds' → KeepsOthers w w' → Q (toExit x) a' w') →
            Code.roundsIn (FX none) 0 P b Q n a w := by
        intro n
        induction n with
        | zero => intro s h; simp [iterS] at h
        | succ n ihn =>
          intro s h
          simp only [iterS] at h
          split at h
          · rename_i F H lo os ob hs
            obtain ⟨h2, h1⟩ := ihn _ h
            obtain ⟨h3, h4⟩ := ih hok none lb _ _ _ hs h2
            refine ⟨h4, fun B Ds ρ0 H0 w0 ρ a w Q hR hF hM hQ => ?_⟩
            refine h3 B Ds ρ0 H0 w0 ρ a w _ hR hF hM fun ρ1 D1 a1 w1 g p q m1 k => ?_
            exact h1 B D1 ρ0 H0 w0 ρ1 a1 w1 Q p (q.forget m) m1 fun ρ' Ds' a' w' g' p' q' m' k' => hQ ρ' Ds' a' w' (g.trans g') p' q' m' (k.trans k')
          · rename_i hne
            obtain ⟨h3, h4⟩ := ih hok none lb _ _ _ h hh
            refine ⟨h4, fun B Ds ρ0 H0 w0 ρ a w Q hR hF hM hQ => ?_⟩
            refine h3 B Ds ρ0 H0 w0 ρ a w _ hR hF hM fun ρ1 D1 a1 w1 g p q m1 k => ?_
            have := hQ ρ1 D1 a1 w1 g p q m1 k
            cases x with
            | normal => obtain ⟨⟨F, H, lo⟩, os, ob⟩ := s'; exact (hne F H lo os ob h).elim
            | exit i => exact this
            | ret => exact this
      obtain ⟨k1, k2⟩ := key N s h
      exact ⟨fun B Ds ρ0 H0 w0 ρ a w Q hR hF hM hQ => wpIn_loop_rounds N (k2 B Ds ρ0 H0 w0 ρ a w Q hR hF hM hQ), k1⟩
  | rangeFunc g ps assign body iha ihb =>
    intro hok r hl s x s' h hh
    simp only [codeOk, Bool.and_eq_true] at hok
    rcases hl with ⟨rfl, hl⟩ | hl
    case inr => simp [flatC] at hl
    simp only [evCodeL] at h
    split at h
    · rename_i x1 s1 o1 hL
      simp only [Option.some.injEq, Prod.mk.injEq] at h
      obtain ⟨rfl, rfl⟩ := h
      exact ⟨hl.2 _ (by simp [rangesOf]) _ _ _ _ hL fun p hp => hh p (by simp [hp]), fun p hp => hh p (by simp [hp])⟩
    split at h
    · rename_i f bs z p q hfl hg hps
      simp only [Bool.and_eq_true] at hfl
      have ha2 : ∀ s x s', evCodeL P X pre C L N nt assign s = some (x, s') → Holds s'.ob → Holds s.ob := fun s x s' h hh => (iha hok.1 none (.inr hfl.1) s x s' h hh).2
      have hb2 : ∀ s x s', evCodeL P X pre C L N nt body s = some (x, s') → Holds s'.ob → Holds s.ob := fun s x s' h hh => (ihb hok.2 none (.inr hfl.2) s x s' h hh).2
      exact ⟨range_WP ok hps (fun l s x s' h hh => (iha hok.1 (some l) (.inr hfl.1) s x s' h hh).1) (fun l s x s' h hh => (ihb hok.2 (some l) (.inr hfl.2) s x s' h hh).1) ha2 hb2 hg h hh, evRange_holds ha2 hb2 _ _ h hh⟩
    · simp at h
  | scope b ih =>
    intro hok r hl s x s' h hh
    simp only [codeOk] at hok
    have lb : (r = none ∧ LoopsOk P nt L b) ∨ flatC b = true := hl.imp (fun ⟨e, h⟩ => ⟨e, fun b hb => h.1 b (by simp [loopsOf, hb]), fun b hb => h.2 b (by simp [rangesOf, hb])⟩) (fun h => by simpa [flatC] using h)
    simp only [evCodeL] at h
    obtain ⟨h1, h2⟩ := ih hok r lb _ _ _ h hh
    refine ⟨fun B Ds ρ0 H0 w0 ρ a w Q hR hF hM hQ => wpIn_scope (h1 B Ds ρ0 H0 w0 ρ a w _ hR hF hM fun ρ1 D1 a1 w1 g p q m k => ?_), h2⟩
    have := hQ ρ1 D1 a1 w1 g p q m k
    cases x with
    | normal => exact this
    | exit i => exact this
    | ret => exact this
  | skip | label | exit | ret =>
    intro hok r hl s x s' h hh
    simp only [evCodeL, Option.some.injEq, Prod.mk.injEq] at h
    obtain ⟨rfl, rfl⟩ := h
    refine ⟨fun B Ds ρ0 H0 w0 ρ a w Q hR hF hM hQ => ?_, hh⟩
    have := hQ ρ Ds a w (List.prefix_refl _) hR hF hM (KeepsOthers.refl w)
    first
      | exact wpIn_skip this
      | exact wpIn_label this
      | exact wpIn_exit this
      | exact wpIn_ret this
  | _ =>
    intro _ _ _ s x s' h
    simp [evCodeL] at h
def CallOk (P : Program) (f : FuncId) (args : List Value) (H : Heap) (v : Value) (H' : Heap) (l : Nat) : Prop :=
  ∀ (ρ : Rho) (w : World) (args' : Array Value), VRs ρ args args'.toList → SR ρ H w → Calls P f args' w fun e w' => ∃ ρ' v', e = .returned v' ∧ VR ρ' v v' ∧ Rel ρ H w ρ' H' l w'
theorem Sound.iff {P : Program} {C : Oracle} : Sound P C ↔ ∀ f args H v H' l, C f args H = some (v, H', l) → CallOk P f args H v H' l := Iff.rfl
def evFnL (P : Program) (X : Ext) (N : Nat) (pre : Pre) (C : Oracle) (L : Loops) (os : Path) (f : FuncId) (args : List Value) (H : Heap) : Option ((Value × Heap × Nat) × Obs) :=
  match P.funcs[f]? with
  | some fn => match fnBody f fn with
    | some c => match evCodeL P X pre C L N (max args.length fn.ntmps) c ⟨⟨start 0 args, H, H.length⟩, os, []⟩ with
      | some (.normal, ⟨s, _, ob⟩) | some (.ret, ⟨s, _, ob⟩) => (evResults P fn s.F s.H).map fun v => ((v, s.H, s.lo), ob)
      | _ => none
    | none => none
  | none => none
theorem leaves_marks {fn : Func} {tmps : Array Value} {R : Ending → World → Prop} {ρ0 : Rho} {H0 : Heap} {w0 : World} {ρ1 : Rho} {H1 : Heap} {lo : Nat} : ∀ (Ds : List Nat) (w1 : World), Rel ρ0 H0 w0 ρ1 H1 lo w1 → Marked w0.heap.size w1 Ds →
    (∀ w2, Rel ρ0 H0 w0 ρ1 H1 lo w2 → LeavesIn Fence.wide 0 P fn tmps R [] .returning w2) → LeavesInM Fence.wide 0 P fn tmps R (marks Ds) .returning w1 := by
  intro Ds
  induction Ds with
  | nil => intro w1 hR _ h; exact h w1 hR
  | cons D Ds ih =>
    intro w1 hR hM h
    have hD := hM.each D (by simp)
    refine ⟨by simp, .inl ⟨D, w1.putObj D (.deferred none), rfl, run_takeDeferred hD.2, ih _ (hR.turn hD.1 hD.2 rfl rfl) ?_ h⟩⟩
    have hn := List.nodup_cons.1 hM.nodup
    refine ⟨by rw [World.putObj_size]; exact hM.base, hn.2, fun E hE => ?_⟩
    have hE' := hM.each E (by simp [hE])
    refine ⟨hE'.1, ?_⟩
    rw [World.putObj_heap_other]
    · exact hE'.2
    · rintro rfl
      exact hn.1 hE
theorem call_of_WP {f : FuncId} {fn : Func} {c : Code} (hfn : P.funcs[f]? = some fn) (hb : fn.body = some c) {args : List Value} {H : Heap} {x : Ex} {s : St} {v : Value}
    (h : WP P (max args.length fn.ntmps) c ⟨start 0 args, H, H.length⟩ x s) (hx : x = .normal ∨ x = .ret) (hv : evResults P fn s.F s.H = some v) : CallOk P f args H v s.H s.lo := by
  intro ρ w args' hargs hs
  have hsz : args.length = args'.size := by simpa using hargs.1
  have hF0 : FR (marks []) ρ (max args.length fn.ntmps) (start 0 args) { tmps := args' ++ Array.replicate (fn.ntmps - args'.size) undef, defers := [] } := by
    refine ⟨rfl, by simp; omega, fun t u hu => ?_⟩
    obtain ⟨_, h2⟩ := at_start args 0 hu
    simp only [Nat.sub_zero] at h2
    obtain ⟨u', h3, h4⟩ := zip_get hargs h2
    refine ⟨u', ?_, h4⟩
    have hlt := (List.getElem?_eq_some_iff.1 h3).1
    simp only
    rw [Array.getElem?_append_left (by simpa using hlt)]
    simpa using h3
  refine callsIn_wide.1 (callsIn_of_wp_marks (F := Fence.wide) (n := 0) hfn hb trivial (h w.heap.size [] ρ H w ρ _ w _ (Rel.of_quiet hs (Quiet.refl w) _) hF0 ⟨Nat.le_refl _, List.nodup_nil, fun D hD => by simp at hD⟩ fun ρ1 D1 a1 w1 g hR hF hM hk => ?_))
  have key : LeavesInM Fence.wide 0 P fn a1.tmps (fun e w' => ∃ ρ' v', e = .returned v' ∧ VR ρ' v v' ∧ Rel ρ H w ρ' s.H s.lo w') a1.defers .returning w1 := by
    rw [hF.defers]
    refine leaves_marks D1 w1 hR hM fun w2 hR2 => ?_
    obtain ⟨v', h1, h2⟩ := evResults_run (P := P) hF hR2.sr hv
    exact ⟨v', h2, ρ1, v', rfl, h1, hR2⟩
  rcases hx with rfl | rfl
  · exact key
  · exact key
theorem evFnL_ok (ok : ProgOk P) (hX : XSound P X) (hC : Sound P (strict pre C)) {os : Path} {f : FuncId} {args : List Value} {H : Heap} {v : Value} {H' : Heap} {l : Nat} {ob : Obs}
    (hL : ∀ fn c, P.funcs[f]? = some fn → fn.body = some c → LoopsOk P (max args.length fn.ntmps) L c) (h : evFnL P X N pre C L os f args H = some ((v, H', l), ob)) (hh : Holds ob) : CallOk P f args H v H' l := by
  unfold evFnL at h
  split at h
  case h_2 => simp at h
  rename_i fn hfn
  split at h
  case h_2 => simp at h
  rename_i c hb
  obtain ⟨hodd, hb⟩ := fnBody_eq hb
  have key : ∀ x s os1 ob1, evCodeL P X pre C L N (max args.length fn.ntmps) c ⟨⟨start 0 args, H, H.length⟩, os, []⟩ = some (x, ⟨s, os1, ob1⟩) → (x = .normal ∨ x = .ret) → (evResults P fn s.F s.H).map (fun v => ((v, s.H, s.lo), ob1)) = some ((v, H', l), ob) →
      CallOk P f args H v H' l := by
    intro x s os1 ob1 hs hx hr
    cases hv : evResults P fn s.F s.H with
    | none => simp [hv] at hr
    | some u =>
      simp [hv] at hr
      obtain ⟨⟨rfl, rfl, rfl⟩, rfl⟩ := hr
      obtain ⟨h1, _⟩ := evCodeL_WP ok hX hC c ((ok.code f fn c hfn hb).1 hodd) none (.inl ⟨rfl, hL fn c hfn hb⟩) _ _ _ hs hh
      exact call_of_WP hfn hb h1 hx hv
  split at h
  · rename_i s os1 ob1 hs
    exact key _ _ _ _ hs (.inl rfl) h
  · rename_i s os1 ob1 hs
    exact key _ _ _ _ hs (.inr rfl) h
  · simp at h
theorem noLoops_ok {c : Code} : LoopsOk P nt noLoops c := ⟨fun b _ s x s' o h => by simp [noLoops] at h, fun b _ s x s' o h => by simp [noLoops] at h⟩
theorem evFnL_plain (ok : ProgOk P) (hX : XSound P X) (hC : Sound P (strict pre C)) {os : Path} {f : FuncId} {args : List Value} {H : Heap} {v : Value} {H' : Heap} {l : Nat} {ob : Obs}
    (h : evFnL P X N pre C noLoops os f args H = some ((v, H', l), ob)) (hh : Holds ob) : CallOk P f args H v H' l :=
  evFnL_ok ok hX hC (fun _ _ _ _ => noLoops_ok) h hh
theorem CallOk.plain {f : FuncId} {args : List Value} {v : Value} {H' : Heap} {l : Nat} (h : CallOk P f args [] v H' l) (hargs : args.all (pf 3) = true) (hv : pf 3 v = true) (w : World) (hT : Tabs w) :
    Calls P f args.toArray w fun e w' => e = .returned v ∧ Quiet w w' := by
  have hself : VRs [] args args := ⟨rfl, fun i x x' p q => by rw [p] at q; cases q; exact pf_self 3 _ (get_all hargs p)⟩
  refine (h [] w args.toArray (by simpa using hself) (SR.empty hT)).mono ?_
  rintro e w' ⟨ρ', v', rfl, hvr, hR⟩
  refine ⟨by rw [pf_eq 3 _ _ hv hvr], hR.os, hR.tape, hR.output, hR.size, fun k hk => hR.keep k hk fun j e0 b0 hj => by simp at hj⟩
theorem Sound.strict {pre : Pre} {C : Oracle} (h : ∀ f args H v H' l, pre f args H = true → C f args H = some (v, H', l) → CallOk P f args H v H' l) : Sound P (Den.strict pre C) := by
  intro f args H v H' l hc
  unfold Den.strict at hc
  split at hc
  · rename_i hp
    exact h f args H v H' l hp hc
  · simp at hc
end
end Go.Proofs.YtpgmabpaiijipaaGreatDoor.Den
namespace Go.Proofs.YtpgmabpaiijipaaGreatDoor.Den
open Go
def pick (F : Slots) : List Nat → Slots
  | [] => []
  | t :: ks => match at? t F with
    | some v => (t, v) :: pick F ks
    | none => pick F ks
theorem pick_sub (F : Slots) (ks : List Nat) : Sub (pick F ks) F := by
  induction ks with
  | nil => intro t v h; simp [pick, at?] at h
  | cons k ks ih =>
    intro t v h
    unfold pick at h
    split at h
    · rename_i u hu
      simp only [at?] at h
      split at h
      · rename_i hb
        have : k = t := Nat.eq_of_beq_eq_true hb
        subst this
        rw [hu, h]
      · exact ih t v h
    · exact ih t v h
def bodyOf (P : Program) (f : FuncId) : Code := match P.funcs[f]? with
  | some fn => fn.body.getD .skip
  | none => .skip
def ntOf (P : Program) (f : FuncId) (n : Nat) : Nat := match P.funcs[f]? with
  | some fn => max n fn.ntmps
  | none => n
def loopAt (P : Program) (f : FuncId) (k : Nat) : Code := (loopsOf (bodyOf P f)).getD k .skip
section
variable {P : Program} {X : Ext} {pre : Pre} {C : Oracle} {L : Loops} {N nt : Nat}
def evL (P : Program) (X : Ext) (pre : Pre) (C : Oracle) (L : Loops) (N nt : Nat) (c : Code) (F : Slots) (H : Heap) (lo : Nat) (os : Path) (ks : List Nat) : Option (Ex × Slots × Heap × Nat × Obs) :=
  match evCodeL P X pre C L N nt c ⟨⟨F, H, lo⟩, os, []⟩ with
  | some (x, ⟨⟨F, H, lo⟩, _, ob⟩) => some (x, pick F ks, H, lo, ob)
  | none => none
theorem WP.run (ok : ProgOk P) (hX : XSound P X) (hC : Sound P (strict pre C)) {c : Code} (hc : codeOk c = true) (hl : LoopsOk P nt L c) {F : Slots} {H : Heap} {lo : Nat} {os : Path} (ks : List Nat) {x : Ex} {F' : Slots} {H' : Heap} {lo' : Nat} {ob : Obs}
    (h : evL P X pre C L N nt c F H lo os ks = some (x, F', H', lo', ob)) (hh : Holds ob) : WP P nt c ⟨F, H, lo⟩ x ⟨F', H', lo'⟩ := by
  unfold evL at h
  split at h
  · rename_i x1 F1 H1 lo1 os1 ob1 hs
    simp only [Option.some.injEq, Prod.mk.injEq] at h
    obtain ⟨rfl, rfl, rfl, rfl, rfl⟩ := h
    exact WPr.weaken (evCodeL_WP ok hX hC c hc none (.inl ⟨rfl, hl⟩) _ _ _ hs hh).1 (Sub.refl _) (pick_sub _ _)
  · simp at h
theorem WP.while {b : Code} {α : Type} (S : α → St) (inv : α → Prop) (μ : α → Nat) {x : Ex} {s' : St} (hx : x ≠ .normal)
    (h : ∀ a, inv a → WP P nt b (S a) x s' ∨ ∃ a', inv a' ∧ μ a' < μ a ∧ WP P nt b (S a) .normal (S a')) : ∀ a, inv a → WP P nt (.loop b) (S a) x s' := by
  have key : ∀ (n : Nat) (a : α), μ a ≤ n → inv a → ∃ (k : Nat) (R : Nat → α), R 0 = a ∧ (∀ i, i < k → WP P nt b (S (R i)) .normal (S (R (i + 1)))) ∧ WP P nt b (S (R k)) x s' := by
    intro n
    induction n with
    | zero =>
      intro a ha hi
      rcases h a hi with h1 | ⟨a', _, hl, _⟩
      · exact ⟨0, fun _ => a, rfl, fun i hi => by omega, h1⟩
      · omega
    | succ n ih =>
      intro a ha hi
      rcases h a hi with h1 | ⟨a', hi', hl, hw⟩
      · exact ⟨0, fun _ => a, rfl, fun i hi => by omega, h1⟩
      · obtain ⟨k, R, h0, h1, h2⟩ := ih a' (by omega) hi'
        refine ⟨k + 1, fun i => match i with
          | 0 => a
          | i + 1 => R i, rfl, fun i hik => ?_, h2⟩
        cases i with
        | zero => simp only [h0]; exact hw
        | succ i => exact h1 i (by omega)
  intro a ha
  obtain ⟨k, R, h0, h1, h2⟩ := key _ a (Nat.le_refl _) ha
  have := WP.loop (S := fun i => S (R i)) k hx h1 h2
  simpa only [h0] using this
theorem fnL_ok (ok : ProgOk P) (hX : XSound P X) (hC : Sound P (strict pre C)) {os : Path} {f : FuncId} {args : List Value} {H : Heap} {v : Value} {H' : Heap} {l : Nat} {ob : Obs}
    (hL : LoopsOk P (ntOf P f args.length) L (bodyOf P f)) (h : evFnL P X N pre C L os f args H = some ((v, H', l), ob)) (hh : Holds ob) : CallOk P f args H v H' l := by
  refine evFnL_ok ok hX hC (fun fn c hf hb => ?_) h hh
  have e1 : bodyOf P f = c := by unfold bodyOf; rw [hf]; simp [hb]
  have e2 : ntOf P f args.length = max args.length fn.ntmps := by unfold ntOf; rw [hf]
  rw [e1, e2] at hL
  exact hL
theorem LoopsOk.flat {c : Code} (hr : rangesOf c = []) (h : ∀ b ∈ loopsOf c, ∀ s x s' o, L.loop (firstId b) s = some (x, s', o) → Holds o → WP P nt (.loop b) s x s') : LoopsOk P nt L c :=
  ⟨h, fun b hb => by rw [hr] at hb; simp at hb⟩
theorem LoopsOk.one {c : Code} {b : Code} (h : loopsOf c = [b]) (hb : ∀ s x s' o, L.loop (firstId b) s = some (x, s', o) → Holds o → WP P nt (.loop b) s x s') (hr : rangesOf c = [] := by kernel_rfl) : LoopsOk P nt L c := by
  refine .flat hr ?_
  intro b' hb'
  rw [h] at hb'
  simp only [List.mem_singleton] at hb'
  subst hb'
  exact hb
theorem LoopsOk.names {c : Code} (h : L.loop = fun _ _ => none) : LoopsOk P nt L c := by
  refine ⟨?_, ?_⟩
  all_goals
    intro b _ s x s' o hs
    rw [h] at hs
    simp at hs
theorem LoopsOk.none {c : Code} (h : loopsOf c = []) (hr : rangesOf c = [] := by kernel_rfl) : LoopsOk P nt L c := by
  refine .flat hr ?_
  intro b' hb'
  rw [h] at hb'
  simp at hb'
theorem WPr.run (ok : ProgOk P) (hX : XSound P X) (hC : Sound P (strict pre C)) {c : Code} (hc : (codeOk c && flatC c) = true) {r : Option Nat} {F : Slots} {H : Heap} {lo : Nat} {os : Path} {ks : List Nat} {x : Ex} {F' : Slots} {H' : Heap} {lo' : Nat} {ob : Obs}
    (h : evL P X pre C L N nt c F H lo os ks = some (x, F', H', lo', ob)) (hh : Holds ob) : WPr r P nt c ⟨F, H, lo⟩ x ⟨F', H', lo'⟩ := by
  simp only [Bool.and_eq_true] at hc
  unfold evL at h
  split at h
  · rename_i x1 F1 H1 lo1 os1 ob1 hs
    simp only [Option.some.injEq, Prod.mk.injEq] at h
    obtain ⟨rfl, rfl, rfl, rfl, rfl⟩ := h
    exact WPr.weaken (evCodeL_WP ok hX hC c hc.1 r (.inr hc.2) _ _ _ hs hh).1 (Sub.refl _) (pick_sub _ _)
  · simp at h
noncomputable def cdec (p : Prop) : Bool := @decide p (Classical.propDecidable p)
theorem cdec_iff {p : Prop} : cdec p = true ↔ p := by simp [cdec]
noncomputable def sumL (id : Nat) (S0 : St) (x : Ex) (S1 : St) : Nat → St → Option (Ex × St × Obs) := fun i s => match Nat.beq i id with
  | true => some (x, S1, [(cdec (pick s.F (S0.F.map (·.1)) = S0.F), true), (cdec (s.H = S0.H), true), (cdec (s.lo = S0.lo), true)])
  | false => none
theorem LoopsOk.sum {c : Code} {id : Nat} {S0 : St} {x : Ex} {S1 : St} {L : Loops} (hL : L.loop = sumL id S0 x S1)
    (h : ∀ b ∈ loopsOf c, firstId b = id → WP P nt (.loop b) S0 x S1) (hr : rangesOf c = [] := by kernel_rfl) : LoopsOk P nt L c := by
  refine .flat hr ?_
  intro b hb s x' s' o hs ho
  rw [hL] at hs
  simp only [sumL] at hs
  split at hs
  · rename_i he
    simp only [Option.some.injEq, Prod.mk.injEq] at hs
    obtain ⟨rfl, rfl, rfl⟩ := hs
    have h1 := cdec_iff.1 (ho (cdec (pick s.F (S0.F.map (·.1)) = S0.F), true) (by simp) : cdec (pick s.F (S0.F.map (·.1)) = S0.F) = true)
    have h2 := cdec_iff.1 (ho (cdec (s.H = S0.H), true) (by simp) : cdec (s.H = S0.H) = true)
    have h3 := cdec_iff.1 (ho (cdec (s.lo = S0.lo), true) (by simp) : cdec (s.lo = S0.lo) = true)
    have hw := h b hb (Nat.eq_of_beq_eq_true he)
    obtain ⟨F, H, lo⟩ := s
    obtain ⟨F0, H0, lo0⟩ := S0
    obtain ⟨F1, H1, lo1⟩ := S1
    simp only at h1 h2 h3
    subst h2 h3
    refine hw.weaken ?_ (Sub.refl _)
    rw [← h1]
    exact pick_sub _ _
  · simp at hs
theorem sumL_ok {c : Code} {id : Nat} {S0 : St} {x : Ex} {S1 : St} (h : WP P nt c S0 x S1) {i : Nat} {s : St} {x' : Ex} {s' : St} {o : Obs} (hs : sumL id S0 x S1 i s = some (x', s', o)) (ho : Holds o) : WP P nt c s x' s' := by
  simp only [sumL] at hs
  split at hs
  · simp only [Option.some.injEq, Prod.mk.injEq] at hs
    obtain ⟨rfl, rfl, rfl⟩ := hs
    have h1 := cdec_iff.1 (ho (cdec (pick s.F (S0.F.map (·.1)) = S0.F), true) (by simp) : cdec (pick s.F (S0.F.map (·.1)) = S0.F) = true)
    have h2 := cdec_iff.1 (ho (cdec (s.H = S0.H), true) (by simp) : cdec (s.H = S0.H) = true)
    have h3 := cdec_iff.1 (ho (cdec (s.lo = S0.lo), true) (by simp) : cdec (s.lo = S0.lo) = true)
    obtain ⟨F, H, lo⟩ := s
    obtain ⟨F0, H0, lo0⟩ := S0
    obtain ⟨F1, H1, lo1⟩ := S1
    simp only at h1 h2 h3
    subst h2 h3
    refine WP.weaken h ?_ (Sub.refl _)
    rw [← h1]
    exact pick_sub _ _
  · simp at hs
theorem sumL_id {id : Nat} {S0 : St} {x : Ex} {S1 : St} {i : Nat} {s : St} {r : Ex × St × Obs} (hs : sumL id S0 x S1 i s = some r) : i = id := by
  simp only [sumL] at hs
  split at hs
  · rename_i h
    exact Nat.eq_of_beq_eq_true h
  · simp at hs
def orL (a b : Nat → St → Option (Ex × St × Obs)) : Nat → St → Option (Ex × St × Obs) := fun i s => match a i s with
  | some r => some r
  | none => b i s
end
end Go.Proofs.YtpgmabpaiijipaaGreatDoor.Den
namespace Go.Proofs.YtpgmabpaiijipaaGreatDoor.Den
open Go
def opsOf : Code → Array Oper
  | .region _ ops true => ops
  | _ => #[]
def isDraw : Code → Bool
  | .region _ _ true => true
  | _ => false
section
variable {P : Program} {X : Ext} {C : Oracle} {nt : Nat}
theorem WP.perm (ok : ProgOk P) (hX : XSound P X) (hC : Sound P C) {c : Code} (hc : (isDraw c && (opsOf c).toList.all noSel) = true) {F : Slots} {H : Heap} {lo : Nat} (ks : List Nat) (k : Nat) {F' : Slots} {H' : Heap} {lo' : Nat}
    (h : (evPerm P X C nt (opsOf c).toList (opsOf c).toList.length (List.replicate (opsOf c).toList.length false) ⟨F, H, lo⟩).map (fun L => L.map fun s => (pick s.F ks, s.H, s.lo)) = some (List.replicate k (F', H', lo'))) (hlo : lo' ≤ lo) :
    WP P nt c ⟨F, H, lo⟩ .normal ⟨F', H', lo'⟩ := by
  simp only [Bool.and_eq_true] at hc
  obtain ⟨hd, hsel⟩ := hc
  unfold isDraw at hd
  split at hd
  case h_2 => simp at hd
  rename_i id ops
  simp only [opsOf] at h hsel
  cases hL : evPerm P X C nt ops.toList ops.toList.length (List.replicate ops.toList.length false) ⟨F, H, lo⟩ with
  | none => rw [hL] at h; simp at h
  | some L =>
    rw [hL] at h
    simp only [Option.map_some, Option.some.injEq] at h
    have hall : ∀ s ∈ L, pick s.F ks = F' ∧ s.H = H' ∧ s.lo = lo' := by
      intro s hs
      have : (pick s.F ks, s.H, s.lo) ∈ L.map fun s => (pick s.F ks, s.H, s.lo) := List.mem_map.2 ⟨s, hs, rfl⟩
      rw [h] at this
      have := (List.mem_replicate.1 this).2
      simp only [Prod.mk.injEq] at this
      exact this
    intro B Ds ρ0 H0 w0 ρ a w Q hR hF hM hQ
    refine wpIn_mono (Q := onlyN (Q .normal)) ?_ (fun e a w h => by cases e <;> first | exact h | exact h.elim)
    have hq0 : Quiet w { w with drawn := w.drawn + 1 } := ⟨rfl, rfl, rfl, Nat.le_refl _, fun _ _ => rfl⟩
    have hR1 : Rel ρ H w ρ H lo { w with drawn := w.drawn + 1 } := Rel.of_quiet hR.sr hq0 lo
    refine wpIn_region_any ok.mixed (anyx hsel (onlyN_out _) _ _ _ _ (perm_any (Q := onlyN (Q .normal)) ok hX hC hsel ops.size (Array.replicate ops.size false) ⟨F, H, lo⟩ L (by simp) ?_ (by simpa using hL) ?_ ρ a _ hR1 hF))
    · unfold left
      have := List.length_filter_le (fun i => !(Array.replicate ops.size false).getD i true) (List.range ops.size)
      simpa using this
    · intro s' hs' ρ' a' w' p q
      obtain ⟨e1, e2, e3⟩ := hall s' hs'
      subst e1 e2 e3
      have hk := p.others hR.sr
      have ht := hR.trans p
      rw [Nat.min_eq_right hlo] at ht
      exact hQ ρ' Ds a' w' p.pre ht (q.sub (pick_sub _ _)) (hM.keep hk) hk
def hdC : Code → Code
  | .seq a _ => a
  | c => c
def tlC : Code → Code
  | .seq _ b => b
  | _ => .skip
def isSeq : Code → Bool
  | .seq _ _ => true
  | _ => false
theorem WP.cut {c : Code} (hc : isSeq c = true) {s s1 : St} {x : Ex} {s' : St} (h1 : WP P nt (hdC c) s .normal s1) (h2 : WP P nt (tlC c) s1 x s') : WP P nt c s x s' := by
  unfold isSeq at hc
  split at hc
  · exact h1.seq h2
  · simp at hc
theorem WP.cut_out {c : Code} (hc : isSeq c = true) {s : St} {x : Ex} {s' : St} (hx : x ≠ .normal) (h1 : WP P nt (hdC c) s x s') : WP P nt c s x s' := by
  unfold isSeq at hc
  split at hc
  · exact h1.seq_out hx
  · simp at hc
def testC : Code → Option Operand
  | .cond c _ _ => some c
  | _ => none
def thenC : Code → Code
  | .cond _ a _ => a
  | _ => .skip
theorem WP.cond_true {c : Code} {t : Operand} (hc : testC c = some t) {s : St} {x : Ex} {s' : St} (ht : ev s.F t = some (.bool true)) (h : WP P nt (thenC c) s x s') : WP P nt c s x s' := by
  unfold testC at hc
  split at hc
  · rename_i q _ _
    injection hc with hc
    subst hc
    exact fun B Ds ρ0 H0 w0 ρ a w Q hR hF hM hQ => wpIn_cond_true (bool_of (hF.opR [q] q (by simp) _ ht)) (h B Ds ρ0 H0 w0 ρ a w Q hR hF hM hQ)
  · simp at hc
theorem CallOk.walk {f : FuncId} {n : Nat} (hf : (match P.funcs[f]? with | some fn => fn.body.isSome | none => false) = true) {args : List Value} (hn : args.length = n) {H : Heap} {x : Ex} {F' : Slots} {H' : Heap} {lo' : Nat} {v : Value}
    (h : WP P (ntOf P f n) (bodyOf P f) ⟨start 0 args, H, H.length⟩ x ⟨F', H', lo'⟩) (hx : x = .normal ∨ x = .ret) (hv : (match P.funcs[f]? with | some fn => evResults P fn F' H' | none => none) = some v) : CallOk P f args H v H' lo' := by
  split at hf
  · rename_i fn hfn
    rw [hfn] at hv
    simp only at hv
    cases hb : fn.body with
    | none => rw [hb] at hf; simp at hf
    | some c =>
      have e1 : ntOf P f n = max args.length fn.ntmps := by unfold ntOf; rw [hfn, hn]
      have e2 : bodyOf P f = c := by unfold bodyOf; rw [hfn]; simp [hb]
      rw [e1, e2] at h
      exact call_of_WP hfn hb h hx hv
  · simp at hf
end
def stepPS (P : Program) (X : Ext) (pre : Pre) (C : Oracle) (nt : Nat) (ops : List Oper) (t : SS) (o : Oper) : Option SS :=
  wantS ops t.s.F o t.os t.ob fun b os ob => match b with
    | true => opS P X pre C true t.s.F t.s.H t.s.lo o os ob fun r os ob => some ⟨⟨putF nt t.s.F o.dst r.v, r.H, r.lo⟩, os, ob⟩
    | false => some ⟨⟨putF nt t.s.F o.dst undef, t.s.H, t.s.lo⟩, os, ob⟩
def evPermS (P : Program) (X : Ext) (pre : Pre) (C : Oracle) (nt : Nat) (ops : List Oper) : Nat → List Bool → SS → Option (List SS)
  | 0, _, s => some [s]
  | n + 1, done, s => match gather (fun i => match rdy ops done i with
      | true => match ops[i]? with
        | some o => match stepPS P X pre C nt ops s o with
          | some s1 => evPermS P X pre C nt ops n (done.set i true) s1
          | none => none
        | none => none
      | false => some []) (List.range ops.length) with
    | some (x :: R) => some (x :: R)
    | _ => none
section
variable {P : Program} {X : Ext} {pre : Pre} {C : Oracle} {nt : Nat}
theorem stepPS_eq {ops : List Oper} {t t' : SS} {o : Oper} (h : stepPS P X pre C nt ops t o = some t') (hh : Holds t'.ob) : stepP P X (strict pre C) nt ops t.s o = some t'.s ∧ Holds t.ob := by
  unfold stepPS at h
  obtain ⟨b, os, ob, h1, h2⟩ := wantS_eq h
  cases b with
  | true =>
    obtain ⟨r, os2, ob2, h3, h4⟩ := opS_eq h1
    simp only [Option.some.injEq] at h3
    subst h3
    obtain ⟨h5, h6⟩ := h4 hh
    obtain ⟨h7, h8⟩ := h2 h6
    exact ⟨by simp only [stepP, h7, h5, forceL_eq], h8⟩
  | false =>
    simp only [Option.some.injEq] at h1
    subst h1
    obtain ⟨h7, h8⟩ := h2 hh
    exact ⟨by simp only [stepP, h7], h8⟩
theorem gather_map {α β : Type} {f : Nat → Option (List α)} {g : Nat → Option (List β)} {m : α → β} : ∀ {l : List Nat} {R : List α}, gather f l = some R → (∀ i ∈ l, ∀ A, f i = some A → (∀ x ∈ A, x ∈ R) → g i = some (A.map m)) → gather g l = some (R.map m) := by
  intro l
  induction l with
  | nil => intro R h _; simp only [gather, Option.some.injEq] at h; subst h; rfl
  | cons j l ih =>
    intro R h hg
    simp only [gather] at h
    split at h
    · rename_i a ha
      split at h
      · rename_i b hb
        injection h with h
        subst h
        have h1 := hg j (by simp) a ha (fun x hx => List.mem_append.2 (.inl hx))
        have h2 := ih hb (fun i hi A hA hsub => hg i (by simp [hi]) A hA fun x hx => List.mem_append.2 (.inr (hsub x hx)))
        simp only [gather, h1, h2, List.map_append]
      · simp at h
    · simp at h
theorem evPermS_eq {ops : List Oper} : ∀ (n : Nat) (done : List Bool) (t : SS) (L : List SS), evPermS P X pre C nt ops n done t = some L → (∀ t' ∈ L, Holds t'.ob) →
    evPerm P X (strict pre C) nt ops n done t.s = some (L.map (·.s)) ∧ L ≠ [] ∧ Holds t.ob := by
  intro n
  induction n with
  | zero =>
    intro done t L h hh
    simp only [evPermS, Option.some.injEq] at h
    subst h
    exact ⟨rfl, by simp, hh t (by simp)⟩
  | succ n ih =>
    intro done t L h hh
    simp only [evPermS] at h
    split at h
    case h_2 => simp at h
    rename_i x R hg
    injection h with h
    subst h
    have key : ∀ i ∈ List.range ops.length, ∀ A, (match rdy ops done i with
        | true => match ops[i]? with
          | some o => match stepPS P X pre C nt ops t o with
            | some s1 => evPermS P X pre C nt ops n (done.set i true) s1
            | none => none
          | none => none
        | false => some []) = some A → (∀ y ∈ A, y ∈ x :: R) → (match rdy ops done i with
        | true => match ops[i]? with
          | some o => match stepP P X (strict pre C) nt ops t.s o with
            | some s1 => evPerm P X (strict pre C) nt ops n (done.set i true) s1
            | none => none
          | none => none
        | false => some []) = some (A.map (·.s)) ∧ (A ≠ [] → Holds t.ob) := by
      intro i _ A hA hsub
      split at hA
      · rename_i hr
        split at hA
        · rename_i o ho
          split at hA
          · rename_i s1 hs1
            obtain ⟨h1, h2, h3⟩ := ih _ _ _ hA fun t' ht' => hh t' (hsub t' ht')
            obtain ⟨h4, h5⟩ := stepPS_eq hs1 h3
            rw [h4]
            exact ⟨h1, fun _ => h5⟩
          · simp at hA
        · simp at hA
      · rename_i hr
        injection hA with hA
        subst hA
        exact ⟨rfl, fun h => (h rfl).elim⟩
    refine ⟨?_, by simp, ?_⟩
    · have := gather_map (m := fun t : SS => t.s) hg fun i hi A hA hsub => (key i hi A hA hsub).1
      have e : evPerm P X (strict pre C) nt ops (n + 1) done t.s = (match (some ((x :: R).map (·.s)) : Option (List St)) with
        | some (x :: R) => some (x :: R)
        | _ => none) := by
        rw [← this]
        rfl
      rw [e]
      rfl
    · obtain ⟨i, hi, A, hA, hne⟩ := gather_some hg (by simp)
      obtain ⟨B, hB, hsub⟩ := gather_mem hg i hi
      rw [hA] at hB
      injection hB with hB
      subst hB
      exact (key i hi A hA hsub).2 hne
theorem WP.permS (ok : ProgOk P) (hX : XSound P X) (hC : Sound P (strict pre C)) {c : Code} (hc : (isDraw c && (opsOf c).toList.all noSel) = true) {F : Slots} {H : Heap} {lo : Nat} (os : Path) (ks : List Nat) (k : Nat) {F' : Slots} {H' : Heap} {lo' : Nat} {ob : Obs}
    (h : (evPermS P X pre C nt (opsOf c).toList (opsOf c).toList.length (List.replicate (opsOf c).toList.length false) ⟨⟨F, H, lo⟩, os, []⟩).map (fun L => L.map fun t => (pick t.s.F ks, t.s.H, t.s.lo, t.ob)) = some (List.replicate k (F', H', lo', ob))) (hh : Holds ob) (hlo : lo' ≤ lo) :
    WP P nt c ⟨F, H, lo⟩ .normal ⟨F', H', lo'⟩ := by
  cases hL : evPermS P X pre C nt (opsOf c).toList (opsOf c).toList.length (List.replicate (opsOf c).toList.length false) ⟨⟨F, H, lo⟩, os, []⟩ with
  | none => rw [hL] at h; simp at h
  | some L =>
    rw [hL] at h
    simp only [Option.map_some, Option.some.injEq] at h
    have hall : ∀ t ∈ L, (pick t.s.F ks, t.s.H, t.s.lo, t.ob) = (F', H', lo', ob) := by
      intro t ht
      have : (pick t.s.F ks, t.s.H, t.s.lo, t.ob) ∈ L.map fun t => (pick t.s.F ks, t.s.H, t.s.lo, t.ob) := List.mem_map.2 ⟨t, ht, rfl⟩
      rw [h] at this
      exact (List.mem_replicate.1 this).2
    obtain ⟨h1, _, _⟩ := evPermS_eq _ _ _ _ hL fun t ht => by
      have := hall t ht
      simp only [Prod.mk.injEq] at this
      rw [this.2.2.2]
      exact hh
    refine WP.perm (k := L.length) ok hX hC hc ks ?_ hlo
    rw [h1]
    simp only [Option.map_some, Option.some.injEq, List.map_map]
    refine List.eq_replicate_iff.2 ⟨by simp, fun b hb => ?_⟩
    obtain ⟨t, ht, rfl⟩ := List.mem_map.1 hb
    have := hall t ht
    simp only [Prod.mk.injEq] at this
    simp only [Function.comp, this.1, this.2.1, this.2.2.1]
end
end Go.Proofs.YtpgmabpaiijipaaGreatDoor.Den
namespace Go.Proofs.YtpgmabpaiijipaaGreatDoor.Den
open Go
def putAll : List Nat → List Blk → Heap → Heap
  | i :: e, b :: bs, H => putAll e bs (H.set i b)
  | _, _, H => H
theorem putAll_length : ∀ (e : List Nat) (bs : List Blk) (H : Heap), (putAll e bs H).length = H.length := by
  intro e
  induction e with
  | nil => intro bs H; rfl
  | cons i e ih =>
    intro bs H
    cases bs with
    | nil => rfl
    | cons b bs => simp only [putAll]; rw [ih, List.length_set]
theorem putAll_other : ∀ (e : List Nat) (bs : List Blk) (H : Heap) (k : Nat), k ∉ e → (putAll e bs H)[k]? = H[k]? := by
  intro e
  induction e with
  | nil => intro bs H k _; rfl
  | cons i e ih =>
    intro bs H k hk
    cases bs with
    | nil => rfl
    | cons b bs =>
      simp only [putAll]
      rw [ih _ _ _ (fun h => hk (by simp [h])), List.getElem?_set, if_neg (fun h => hk (by simp [h]))]
theorem putAll_at : ∀ (e : List Nat) (bs : List Blk) (H : Heap) (j k : Nat), e.Nodup → e.length = bs.length → e[j]? = some k → k < H.length → (putAll e bs H)[k]? = bs[j]? := by
  intro e
  induction e with
  | nil => intro bs H j k _ _ h; simp at h
  | cons i e ih =>
    intro bs H j k hn hl h hk
    cases bs with
    | nil => simp at hl
    | cons b bs =>
      simp only [putAll]
      rw [List.nodup_cons] at hn
      cases j with
      | zero =>
        simp at h
        subst h
        rw [putAll_other _ _ _ _ hn.1, List.getElem?_set]
        simp [hk]
      | succ j => exact ih bs _ j k hn.2 (by simpa using hl) (by simpa using h) (by simpa using hk)
theorem CallOk.frame {P : Program} {f : FuncId} {argsS : List Value} {Hs : Heap} {vS : Value} {Hs' : Heap} {ls : Nat} (h : CallOk P f argsS Hs vS Hs' ls)
    {args : List Value} {H : Heap} {e sel : List Nat} {v : Value} {olds news : List Blk} {l : Nat} {ψ φ : Nat → Option Nat}
    (hn : e.Nodup) (hel : e.length = Hs.length) (hψ : ∀ (b c : Nat), ψ b = some c → e[c]? = some b)
    (hargs : mapAll (Den.ren ψ 3) args = some argsS)
    (hblk : ∀ (i k : Nat), e[i]? = some k → ∃ B b, H[k]? = some B ∧ Hs[i]? = some b ∧ renB ψ B = some b)
    (hne : ∀ (i : Nat) (b : Blk), H[i]? = some b → b.cells ≠ [] ∨ (b.own = false ∧ b.grown = none ∧ i ∉ e))
    (hsn : sel.Nodup) (hsel : ∀ (j i : Nat), sel[j]? = some i → Hs.length ≤ i ∧ i < Hs'.length)
    (hφ : ∀ (b c : Nat), φ b = some c → (c < H.length ∧ e[b]? = some c) ∨ (∃ j, c = H.length + j ∧ sel[j]? = some b))
    (hv : Den.ren φ 3 vS = some v)
    (holds : mapAll (renB φ) (Hs'.take Hs.length) = some olds)
    (hnews : mapAll (fun i => match Hs'[i]? with | some b => renB φ b | none => none) sel = some news)
    (hl : ∀ (j x : Nat), e[j]? = some x → ls ≤ j → l ≤ x) :
    CallOk P f args H v (putAll e olds H ++ news) l := by
  intro ρ w args' hva hs
  have hek : ∀ (i k : Nat), e[i]? = some k → k < H.length := by
    intro i k hi
    obtain ⟨B, b, h1, _⟩ := hblk i k hi
    exact (List.getElem?_eq_some_iff.1 h1).1
  let ρs : Rho := e.map fun k => ρ.getD k ⟨0, 0, 0⟩
  have hρs : ∀ (i k : Nat) (x : Ent), e[i]? = some k → ρ[k]? = some x → ρs[i]? = some x := by
    intro i k x hi hx
    simp [ρs, hi, List.getD_eq_getElem?_getD, hx]
  have hρs' : ∀ (i : Nat) (x : Ent), ρs[i]? = some x → ∃ k, e[i]? = some k ∧ ρ[k]? = some x := by
    intro i x hx
    simp only [ρs, List.getElem?_map, Option.map_eq_some_iff] at hx
    obtain ⟨k, hk, rfl⟩ := hx
    have := hek i k hk
    refine ⟨k, hk, ?_⟩
    rw [List.getD_eq_getElem?_getD, List.getElem?_eq_getElem (by rw [hs.len]; exact this)]; rfl
  have hψ1 : ∀ (b c : Nat) (x : Ent), ψ b = some c → ρ[b]? = some x → ρs[c]? = some x := fun b c x h1 h2 => hρs c b x (hψ b c h1) h2
  have hSs : SR ρs Hs w := by
    refine ⟨⟨by simp [ρs, hel], ?_, ?_⟩, hs.gl.tabs, ?_⟩
    · intro i x b hx hb
      obtain ⟨k, hk, hx2⟩ := hρs' i x hx
      obtain ⟨B, b2, h1, h2, h3⟩ := hblk i k hk
      rw [hb] at h2; injection h2 with h2; subst h2
      exact BR.ren hψ1 h3 (hs.blk k x B hx2 h1)
    · intro i j x y bx bj hij hx hy hbx hby ho hc
      obtain ⟨k, hk, hx2⟩ := hρs' i x hx
      obtain ⟨k2, hk2, hy2⟩ := hρs' j y hy
      obtain ⟨B, b, h1, h2, h3⟩ := hblk i k hk
      obtain ⟨B2, b2, g1, g2, g3⟩ := hblk j k2 hk2
      rw [hbx] at h2; injection h2 with h2; subst h2
      rw [hby] at g2; injection g2 with g2; subst g2
      exact hs.inj k k2 x y B B2 (fun hkk => hij (nodup_get hn (hkk ▸ hk) hk2)) hx2 hy2 h1 g1 ((renB_eq h3).1 ▸ ho) ((renB_ne g3).1 hc)
    · intro i x b hx hb ho
      obtain ⟨k, hk, hx2⟩ := hρs' i x hx
      obtain ⟨B, b2, h1, h2, h3⟩ := hblk i k hk
      rw [hb] at h2; injection h2 with h2; subst h2
      exact hs.gl.away k x B hx2 h1 ((renB_eq h3).1 ▸ ho)
  refine (h ρs w args' (VRs.ren (fun v u v' a b => VR.ren hψ1 3 v u v' a b) hargs hva) hSs).mono ?_
  rintro ex w' ⟨ρs', v', rfl, hvr, hR⟩
  have hsl : ∀ (j i : Nat), sel[j]? = some i → ∃ x, ρs'[i]? = some x := by
    intro j i hj
    have := (hsel j i hj).2
    exact ⟨ρs'[i]'(by rw [hR.sr.len]; exact this), List.getElem?_eq_getElem (by rw [hR.sr.len]; exact this)⟩
  let ρ' : Rho := ρ ++ sel.map fun i => ρs'.getD i ⟨0, 0, 0⟩
  have hρ'0 : ∀ (k : Nat) (x : Ent), ρ[k]? = some x → ρ'[k]? = some x := fun k x hx => prefix_get (List.prefix_append _ _) hx
  have hρ'1 : ∀ (j i : Nat) (x : Ent), sel[j]? = some i → ρs'[i]? = some x → ρ'[H.length + j]? = some x := by
    intro j i x hj hx
    simp only [ρ']
    rw [List.getElem?_append_right (by rw [hs.len]; omega), hs.len, Nat.add_sub_cancel_left]
    simp [hj, List.getD_eq_getElem?_getD, hx]
  have hφ1 : ∀ (b c : Nat) (x : Ent), φ b = some c → ρs'[b]? = some x → ρ'[c]? = some x := by
    intro b c x hb hx
    rcases hφ b c hb with ⟨h1, h2⟩ | ⟨j, rfl, h2⟩
    · obtain ⟨z, hk⟩ : ∃ z, ρ[c]? = some z := get_lt (by rw [hs.len]; exact h1)
      have h3 := prefix_get hR.pre (hρs b c _ h2 hk)
      rw [hx] at h3
      injection h3 with h3
      subst h3
      exact hρ'0 _ _ hk
    · exact hρ'1 j b x h2 hx
  obtain ⟨hol, hog⟩ := mapAll_get holds
  obtain ⟨hnl, hng⟩ := mapAll_get hnews
  have hlenS := hR.len
  have hol' : e.length = olds.length := by rw [hel, ← hol, List.length_take]; omega
  have hH0 : (putAll e olds H).length = H.length := putAll_length _ _ _
  have cas : ∀ (k : Nat) (b : Blk) (x : Ent), (putAll e olds H ++ news)[k]? = some b → ρ'[k]? = some x →
      (∃ i bs, Hs'[i]? = some bs ∧ ρs'[i]? = some x ∧ renB φ bs = some b ∧ ((e[i]? = some k ∧ ρ[k]? = some x ∧ i < Hs.length) ∨ (∃ j, k = H.length + j ∧ sel[j]? = some i))) ∨ (k ∉ e ∧ H[k]? = some b ∧ ρ[k]? = some x) := by
    intro k b x hb hx
    by_cases hk : k < H.length
    · rw [List.getElem?_append_left (by omega)] at hb
      have hx0 : ρ[k]? = some x := by
        simp only [ρ'] at hx
        rwa [List.getElem?_append_left (by rw [hs.len]; exact hk)] at hx
      by_cases hke : k ∈ e
      · obtain ⟨i, hi⟩ := List.mem_iff_getElem?.1 hke
        rw [putAll_at e olds H i k hn hol' hi hk] at hb
        obtain ⟨bs, h1, h2⟩ := mapAll_back holds hb
        have hil : i < Hs.length := by rw [← hel]; exact (List.getElem?_eq_some_iff.1 hi).1
        rw [List.getElem?_take_of_lt hil] at h1
        exact .inl ⟨i, bs, h1, prefix_get hR.pre (hρs i k x hi hx0), h2, .inl ⟨hi, hx0, hil⟩⟩
      · rw [putAll_other _ _ _ _ hke] at hb
        exact .inr ⟨hke, hb, hx0⟩
    · obtain ⟨j, rfl⟩ : ∃ j, k = H.length + j := ⟨k - H.length, by omega⟩
      rw [List.getElem?_append_right (by omega), hH0, Nat.add_sub_cancel_left] at hb
      obtain ⟨i, h1, h2⟩ := mapAll_back hnews hb
      split at h2
      · rename_i bs hbs
        obtain ⟨y, hy⟩ := hsl j i h1
        have := hρ'1 j i y h1 hy
        rw [hx] at this
        injection this with this
        subst this
        exact .inl ⟨i, bs, hbs, hy, h2, .inr ⟨j, rfl, h1⟩⟩
      · simp at h2
  have up : ∀ (j : Nat) (y : Ent) (b0 : Blk), ρs[j]? = some y → Hs[j]? = some b0 → b0.own = true → ∃ k B, e[j]? = some k ∧ ρ[k]? = some y ∧ H[k]? = some B ∧ B.own = true := by
    intro j y b0 hy hb ho
    obtain ⟨k, hk, hy2⟩ := hρs' j y hy
    obtain ⟨B, b2, h1, h2, h3⟩ := hblk j k hk
    rw [hb] at h2; injection h2 with h2; subst h2
    exact ⟨k, B, hk, hy2, h1, (renB_eq h3).1 ▸ ho⟩
  have szof : ∀ (k : Nat) (x : Ent) (b : Blk), ρ[k]? = some x → H[k]? = some b → x.r < w.heap.size := by
    intro k x b hx hb
    exact (hs.blk k x b hx hb).lt
  have hne2 : ∀ (k i : Nat) (B : Blk), e[i]? = some k → H[k]? = some B → B.cells ≠ [] := by
    intro k i B hi hB
    rcases hne k B hB with h | ⟨_, _, h⟩
    · exact h
    · exact (h (List.mem_iff_getElem?.2 ⟨i, hi⟩)).elim
  have apart1 : ∀ (i : Nat) (x : Ent) (bs : Blk) (k : Nat) (y : Ent) (b : Blk), ρs'[i]? = some x → Hs'[i]? = some bs → bs.own = true → k ∉ e → H[k]? = some b → ρ[k]? = some y → b.cells ≠ [] → x.r ≠ y.r := by
    intro i x bs k y b hx hbs ho hk hb hy hcb
    by_cases hi : i < Hs.length
    · obtain ⟨b0, hb0, ho0⟩ := hR.own i bs hi hbs ho
      have hix : ρs[i]? = some x := by
        obtain ⟨z, h1⟩ : ∃ z, ρs[i]? = some z := get_lt (by rw [hSs.len]; exact hi)
        have h2 := prefix_get hR.pre h1
        rw [hx] at h2; injection h2 with h2; rw [h2]; exact h1
      obtain ⟨k2, B, h1, h2, h3, h4⟩ := up i x b0 hix hb0 ho0
      exact hs.inj k2 k x y B b (fun hh => hk (hh ▸ List.mem_iff_getElem?.2 ⟨i, h1⟩)) h2 hy h3 hb h4 hcb
    · have := szof k y b hy hb
      rcases hR.new i x (by omega) hx with h1 | ⟨j, z, b0, h1, h2, h3, _, h4⟩
      · omega
      · obtain ⟨k2, B, g1, g2, g3, g4⟩ := up j z b0 h1 h2 h3
        rw [← h4]
        exact hs.inj k2 k z y B b (fun hh => hk (hh ▸ List.mem_iff_getElem?.2 ⟨j, g1⟩)) g2 hy g3 hb g4 hcb
  have apart2 : ∀ (i : Nat) (x : Ent) (bs : Blk) (k : Nat) (y : Ent) (b : Blk), ρs'[i]? = some x → Hs'[i]? = some bs → k ∉ e → H[k]? = some b → b.own = true → ρ[k]? = some y → y.r ≠ x.r := by
    intro i x bs k y b hx hbs hk hb ho hy
    by_cases hi : i < Hs.length
    · obtain ⟨z, h1⟩ : ∃ z, ρs[i]? = some z := get_lt (by rw [hSs.len]; exact hi)
      have h2 := prefix_get hR.pre h1
      rw [hx] at h2; injection h2 with h2
      obtain ⟨k2, g1, g2⟩ := hρs' i x (by rw [h2]; exact h1)
      obtain ⟨B, b2, g3, _, _⟩ := hblk i k2 g1
      exact hs.inj k k2 y x b B (fun hh => hk (hh ▸ List.mem_iff_getElem?.2 ⟨i, g1⟩)) hy g2 hb g3 ho (hne2 k2 i B g1 g3)
    · have := szof k y b hy hb
      rcases hR.new i x (by omega) hx with h1 | ⟨j, z, b0, h1, h2, h3, _, h4⟩
      · omega
      · obtain ⟨k2, B, g1, g2, g3, g4⟩ := up j z b0 h1 h2 h3
        rw [← h4]
        exact hs.inj k k2 y z b B (fun hh => hk (hh ▸ List.mem_iff_getElem?.2 ⟨j, g1⟩)) hy g2 hb g3 ho (hne2 k2 j B g1 g3)
  refine ⟨ρ', v', rfl, VR.ren hφ1 3 _ _ _ hv hvr, ?_⟩
  refine ⟨hs.gl, hs.len, List.prefix_append _ _, ⟨?_, ?_, ?_⟩, ?_, ?_, ?_, hR.os, hR.tape, hR.output, hR.size, ?_⟩
  · simp only [ρ', List.length_append, List.length_map, hs.len, hH0, hnl]
  · intro k x b hx hb
    rcases cas k b x hb hx with ⟨i, bs, h1, h2, h3, _⟩ | ⟨h1, h2, h3⟩
    · exact BR.ren hφ1 h3 (hR.sr.blk i x bs h2 h1)
    · have hbr := hs.blk k x b h3 h2
      by_cases hcb : b.cells = []
      ·
        obtain ⟨hlb, c, el, fz, g1, g2⟩ := hbr.rowe hcb
        have hsp : b.own = false ∧ b.grown = none := by
          rcases hne k b h2 with h | ⟨p, q, _⟩
          · exact (h hcb).elim
          · exact ⟨p, q⟩
        obtain ⟨c', el', fz', hc'⟩ : ∃ c' el' fz', w'.heap[x.r]? = some (.cells c' el' fz') := by
          by_cases hex : ∃ (j : Nat) (y : Ent) (b0 : Blk), ρs[j]? = some y ∧ Hs[j]? = some b0 ∧ y.r = x.r
          · obtain ⟨j, y, b0, hy, hb0, hyr⟩ := hex
            have hjl := (List.getElem?_eq_some_iff.1 hb0).1
            obtain ⟨bs, hbs⟩ : ∃ z, Hs'[j]? = some z := get_lt (by omega)
            obtain ⟨_, hren, _⟩ := hog j bs (by rw [List.getElem?_take_of_lt hjl]; exact hbs)
            obtain ⟨c', el', fz', hc', _⟩ := (hR.sr.blk j y bs (prefix_get hR.pre hy) hbs).row (renB_live hren)
            exact ⟨c', el', fz', by rw [← hyr]; exact hc'⟩
          · refine ⟨c, el, fz, ?_⟩
            rw [hR.keep x.r (szof k x b h3 h2) fun j y b0 hy hb0 _ _ hyr => hex ⟨j, y, b0, hy, hb0, hyr⟩]
            exact g1
        exact .inl ⟨hlb, c', el', fz', hc', fun i v hi => by rw [hcb] at hi; simp at hi, fun h => by rw [hsp.1] at h; simp at h, fun sz h => by rw [hsp.2] at h; simp at h⟩
      have hq : BR ρ w' x b := by
        refine hbr.at (hR.keep x.r (szof k x b h3 h2) ?_)
        intro j y b0 hy hb0 ho _
        obtain ⟨k2, B, q1, q2, q3, q4⟩ := up j y b0 hy hb0 ho
        exact hs.inj k2 k y x B b (fun hh => h1 (hh ▸ List.mem_iff_getElem?.2 ⟨j, q1⟩)) q2 h3 q3 h2 q4 hcb
      exact hq.mono (List.prefix_append _ _)
  · intro k1 k2 x y b1 b2 hk hx hy hb1 hb2 ho hc
    rcases cas k1 b1 x hb1 hx with ⟨i1, bs1, h1, h2, h3, h4⟩ | ⟨h1, h2, h3⟩
    · have ho' : bs1.own = true := (renB_eq h3).1 ▸ ho
      rcases cas k2 b2 y hb2 hy with ⟨i2, bs2, g1, g2, g3, g4⟩ | ⟨g1, g2, g3⟩
      · refine hR.sr.inj i1 i2 x y bs1 bs2 (fun hh => ?_) h2 g2 h1 g1 ho' ((renB_ne g3).1 hc)
        subst hh
        rcases h4 with ⟨p1, _, p3⟩ | ⟨j, p1, p2⟩
        · rcases g4 with ⟨q1, _, _⟩ | ⟨j, q1, q2⟩
          · rw [p1] at q1; injection q1 with q1; exact hk q1
          · have := (hsel j i1 q2).1; omega
        · rcases g4 with ⟨q1, _, q3⟩ | ⟨j2, q1, q2⟩
          · have := (hsel j i1 p2).1; omega
          · exact hk (by rw [p1, q1, nodup_get hsn p2 q2])
      · exact apart1 i1 x bs1 k2 y b2 h2 h1 ho' g1 g2 g3 hc
    · rcases cas k2 b2 y hb2 hy with ⟨i2, bs2, g1, g2, g3, g4⟩ | ⟨g1, g2, g3⟩
      · exact apart2 i2 y bs2 k1 x b1 g2 g1 h1 h2 ho h3
      · exact hs.inj k1 k2 x y b1 b2 hk h3 g3 h2 g2 ho hc
  · rw [List.length_append, hH0]; omega
  · intro k b hk hb ho
    obtain ⟨z, hz⟩ : ∃ z, ρ[k]? = some z := get_lt (by rw [hs.len]; exact hk)
    have hx : ρ'[k]? = some z := hρ'0 _ _ hz
    rcases cas k b _ hb hx with ⟨i, bs, h1, h2, h3, h4⟩ | ⟨h1, h2, h3⟩
    · rcases h4 with ⟨p1, _, p3⟩ | ⟨j, p1, p2⟩
      · obtain ⟨b0, hb0, ho0⟩ := hR.own i bs p3 h1 ((renB_eq h3).1 ▸ ho)
        obtain ⟨B, b2, q1, q2, q3⟩ := hblk i k p1
        rw [hb0] at q2; injection q2 with q2; subst q2
        exact ⟨B, q1, (renB_eq q3).1 ▸ ho0⟩
      · omega
    · exact ⟨b, h2, ho⟩
  · intro k x hk hx
    obtain ⟨j, rfl⟩ : ∃ j, k = H.length + j := ⟨k - H.length, by omega⟩
    have hlt := (List.getElem?_eq_some_iff.1 hx).1
    simp only [ρ', List.length_append, List.length_map, hs.len] at hlt
    obtain ⟨sj, hj⟩ : ∃ z, sel[j]? = some z := get_lt (by omega)
    obtain ⟨y, hy⟩ := hsl j _ hj
    have := hρ'1 j _ y hj hy
    rw [hx] at this
    injection this with this
    subst this
    rcases hR.new _ x (hsel j _ hj).1 hy with h1 | ⟨j0, z, b0, h1, h2, h3, h4, h5⟩
    · exact .inl h1
    · obtain ⟨k2, B, g1, g2, g3, g4⟩ := up j0 z b0 h1 h2 h3
      exact .inr ⟨k2, z, B, g2, g3, g4, hl j0 k2 g1 h4, h5⟩
  · intro k hk hh
    refine hR.keep k hk fun j y b0 hy hb0 ho hlj => ?_
    obtain ⟨k2, B, g1, g2, g3, g4⟩ := up j y b0 hy hb0 ho
    exact hh k2 y B g2 g3 g4 (hl j k2 g1 hlj)
end Go.Proofs.YtpgmabpaiijipaaGreatDoor.Den
namespace Go.Proofs.YtpgmabpaiijipaaGreatDoor.Den
open Go
def blks (φ : Nat → Option Nat) (H : Heap) (sel : List Nat) : Option (List Blk) :=
  mapAll (fun i => match H[i]? with | some b => renB φ b | none => none) sel
def cutE (e : List Nat) (args : List Value) (H : Heap) : Option (List Nat × List Value × Heap) :=
  match nodupB e && H.zipIdx.all (fun p => !p.1.cells.isEmpty || (!p.1.own && (p.1.grown.isNone && !e.contains p.2))) with
  | true => match mapAll (ren (fun b => pos b e) 3) args with
    | some a => match blks (fun b => pos b e) H e with
      | some Hs => some (e, a, Hs)
      | none => none
    | none => none
  | false => none
def cut (args : List Value) (H : Heap) : Option (List Nat × List Value × Heap) :=
  cutE (reach H 4 (addN [] (args.flatMap (refs 3)))) args H
theorem cutE_ok {e e' : List Nat} {args a : List Value} {H Hs : Heap} (h : cutE e args H = some (e', a, Hs)) :
    e' = e ∧ e.Nodup ∧ (∀ (i : Nat) (b : Blk), H[i]? = some b → b.cells ≠ [] ∨ (b.own = false ∧ b.grown = none ∧ i ∉ e)) ∧ mapAll (ren (fun b => pos b e) 3) args = some a ∧ blks (fun b => pos b e) H e = some Hs := by
  unfold cutE at h
  split at h
  · rename_i hc
    split at h
    · rename_i a0 ha
      split at h
      · rename_i Hs0 hb
        simp only [Option.some.injEq, Prod.mk.injEq] at h
        obtain ⟨rfl, rfl, rfl⟩ := h
        simp only [Bool.and_eq_true] at hc
        refine ⟨rfl, nodupB_ok hc.1, fun i b hi => ?_, ha, hb⟩
        have := List.all_eq_true.1 hc.2 (b, i) (List.mem_zipIdx_iff_getElem?.2 (by simpa using hi))
        simp only [Bool.or_eq_true, Bool.and_eq_true, Bool.not_eq_true', List.isEmpty_eq_false_iff] at this
        rcases this with h | ⟨h1, h2, h3⟩
        · exact .inl h
        · exact .inr ⟨h1, by simpa using h2, by simpa using h3⟩
      · simp at h
    · simp at h
  · simp at h
theorem blks_get {φ : Nat → Option Nat} {H : Heap} {sel : List Nat} {bs : List Blk} (h : blks φ H sel = some bs) :
    sel.length = bs.length ∧ ∀ (j i : Nat), sel[j]? = some i → ∃ B b, H[i]? = some B ∧ bs[j]? = some b ∧ renB φ B = some b := by
  obtain ⟨h1, h2⟩ := mapAll_get h
  refine ⟨h1, fun j i hj => ?_⟩
  obtain ⟨y, h3, h4⟩ := h2 j i hj
  split at h3
  · rename_i B hB
    exact ⟨B, y, hB, h4, h3⟩
  · simp at h3
def newsOf (n m : Nat) : List Nat := (List.range (m - n)).map (n + ·)
def backN (e : List Nat) (k m : Nat) (b : Nat) : Option Nat := match e[b]? with
  | some c => some c
  | none => match Nat.blt b m with
    | true => some (k + (b - e.length))
    | false => none
def back (e : List Nat) (H : Heap) (v : Value) (Hs' : Heap) (ls : Nat) : Option (Value × Heap × Nat) :=
  match ren (backN e H.length Hs'.length) 3 v with
  | some v => match mapAll (renB (backN e H.length Hs'.length)) (Hs'.take e.length) with
    | some olds => match blks (backN e H.length Hs'.length) Hs' (newsOf e.length Hs'.length) with
      | some news => some (v, putAll e olds H ++ news, (e.drop ls).foldl min H.length)
      | none => none
    | none => none
  | none => none
def frameC (C : Oracle) : Oracle := fun f args H => match cut args H with
  | some (e, a, Hs) => match C f a Hs with
    | some (v, Hs', ls) => back e H v Hs' ls
    | none => none
  | none => none
def framePre (pre : Pre) : Pre := fun f args H => match cut args H with
  | some (_, a, Hs) => pre f a Hs
  | none => true
theorem foldl_min : ∀ (l : List Nat) (a : Nat), l.foldl min a ≤ a ∧ ∀ x ∈ l, l.foldl min a ≤ x := by
  intro l
  induction l with
  | nil => intro a; simp
  | cons y l ih =>
    intro a
    obtain ⟨h1, h2⟩ := ih (min a y)
    simp only [List.foldl_cons]
    refine ⟨by omega, fun x hx => ?_⟩
    rcases List.mem_cons.1 hx with rfl | hx
    · omega
    · exact h2 x hx
theorem newsOf_get {n m j i : Nat} (h : (newsOf n m)[j]? = some i) : i = n + j ∧ i < m := by
  simp only [newsOf, List.getElem?_map, Option.map_eq_some_iff] at h
  obtain ⟨k, hk, rfl⟩ := h
  obtain ⟨h1, h2⟩ := List.getElem?_eq_some_iff.1 hk
  simp at h1 h2
  omega
theorem newsOf_nodup (n m : Nat) : (newsOf n m).Nodup :=
  List.Pairwise.map (R := (· ≠ ·)) _ (fun a b h => by omega) List.nodup_range
theorem frame_sound {P : Program} {pre : Pre} {C : Oracle} (hC : Sound P (strict pre C)) : Sound P (strict (framePre pre) (frameC C)) := by
  intro f args H v H' l h
  unfold strict at h
  split at h
  case h_2 => simp at h
  rename_i hp
  unfold frameC at h
  split at h
  case h_2 => simp at h
  rename_i e a Hs hcut
  split at h
  case h_2 => simp at h
  rename_i vS Hs' ls hc
  have hpre : pre f a Hs = true := by simpa [framePre, hcut] using hp
  have hcall : CallOk P f a Hs vS Hs' ls := hC f a Hs vS Hs' ls (by unfold strict; rw [hpre]; exact hc)
  obtain ⟨h1, h2, h3, h4, h5⟩ := cutE_ok hcut
  rw [← h1] at h2 h3 h4 h5
  obtain ⟨b1, b2⟩ := blks_get h5
  unfold back at h
  split at h
  case h_2 => simp at h
  rename_i v2 hv
  split at h
  case h_2 => simp at h
  rename_i olds ho
  split at h
  case h_2 => simp at h
  rename_i news hnw
  simp only [Option.some.injEq, Prod.mk.injEq] at h
  obtain ⟨rfl, rfl, rfl⟩ := h
  obtain ⟨m1, m2⟩ := foldl_min (e.drop ls) H.length
  refine hcall.frame (ψ := fun b => pos b e) (φ := backN e H.length Hs'.length) (sel := newsOf e.length Hs'.length) h2 b1 (fun b c hb => pos_get hb) h4 (fun i k hi => ?_) h3 (newsOf_nodup _ _) (fun j i hj => ?_) (fun b c hb => ?_) hv ?_ hnw ?_
  · obtain ⟨B, b, p, q, r⟩ := b2 i k hi
    exact ⟨B, b, p, q, r⟩
  · have := newsOf_get hj
    omega
  · unfold backN at hb
    split at hb
    · rename_i c' hc'
      injection hb with hb
      subst hb
      obtain ⟨B, _, p, _⟩ := b2 b _ hc'
      exact .inl ⟨(List.getElem?_eq_some_iff.1 p).1, hc'⟩
    · rename_i hn
      split at hb
      · rename_i hlt
        injection hb with hb
        subst hb
        have hlt' : b < Hs'.length := by simpa [Nat.blt_eq] using hlt
        have : e.length ≤ b := List.getElem?_eq_none_iff.1 hn
        refine .inr ⟨b - e.length, rfl, ?_⟩
        simp only [newsOf, List.getElem?_map]
        rw [List.getElem?_range (by omega)]
        simp
        omega
      · simp at hb
  · rw [← b1]; exact ho
  · intro j x hj hlj
    refine m2 x (List.mem_iff_getElem?.2 ⟨j - ls, ?_⟩)
    rw [List.getElem?_drop, show ls + (j - ls) = j by omega]
    exact hj
def selN (sel : List Nat) (b : Nat) : Option Nat := pos b sel
theorem CallOk.gc {P : Program} {f : FuncId} {args : List Value} {v : Value} {H' : Heap} {l : Nat} (h : CallOk P f args [] v H' l) (sel : List Nat) {v2 : Value} {H2 : Heap}
    (hargs : mapAll (ren (fun _ => none) 3) args = some args) (hs : (nodupB sel && sel.all fun i => Nat.blt i H'.length) = true)
    (hv : ren (selN sel) 3 v = some v2) (hH : blks (selN sel) H' sel = some H2) : CallOk P f args [] v2 H2 0 := by
  simp only [Bool.and_eq_true] at hs
  have hf := h.frame (args := args) (H := []) (e := []) (sel := sel) (v := v2) (olds := []) (news := H2) (l := 0) (ψ := fun _ => none) (φ := selN sel)
    List.nodup_nil rfl (fun b c hb => by simp at hb) hargs (fun i k hi => by simp at hi) (fun i b hi => by simp at hi) (nodupB_ok hs.1)
    (fun j i hj => ⟨Nat.zero_le _, by simpa [Nat.blt_eq] using List.all_eq_true.1 hs.2 i (List.mem_of_getElem? hj)⟩) (fun b c hb => .inr ⟨c, by simp, pos_get hb⟩) hv rfl hH (fun j x hj => by simp at hj)
  simpa [putAll] using hf
end Go.Proofs.YtpgmabpaiijipaaGreatDoor.Den
