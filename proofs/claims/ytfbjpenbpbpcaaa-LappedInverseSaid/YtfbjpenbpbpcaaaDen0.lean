/-
  A verified evaluator, first part: the definitions. It runs the Go code of a translated program on a small heap of its own.
-/
import Derived.Orders
import Derived.RowKit3
namespace Go.Proofs.Ytfbjpenbpbpcaaa.Den
open Go

/-- A value that holds no address, at the top. -/
def isFlat : Value → Bool
  | .bool _ | .int _ _ | .float _ _ | .complex _ _ _ | .string _ | .nilFunc | .nilIface => true
  | .pointer none | .map none | .chan none => true
  | .slice none 0 0 => true
  | _ => false

/-- No address in it, down to a depth. -/
def pf : Nat → Value → Bool
  | n + 1, .agg cs => cs.toList.all (pf n)
  | n + 1, .tuple cs => cs.toList.all (pf n)
  | n + 1, .iface _ v => pf n v
  | n + 1, .func _ a b => a.toList.all (pf n) && b.toList.all (pf n)
  | _, v => isFlat v

def oneCell : Value → Bool
  | .agg _ | .tuple _ => false
  | _ => true

/-- A block of the small heap: own: it may be written. grown: made by append (its capacity is not known). -/
structure Blk where
  own : Bool
  grown : Option Nat
  cells : List Value

abbrev Heap := List Blk

def rd (H : Heap) (a : Addr) (n : Nat) : Option (List Value) :=
  match a.spot, H[a.block]? with
  | none, some b => if a.off + n ≤ b.cells.length then some ((b.cells.drop a.off).take n) else none
  | _, _ => none

def splice (cells : List Value) (off : Nat) (vs : List Value) : List Value := cells.take off ++ (vs ++ cells.drop (off + vs.length))

/-- A row, its spine worked out first. -/
def forceL {α β : Type} : List α → (List α → β) → β
  | [], k => k []
  | x :: l, k => forceL l fun l' => k (x :: l')

@[simp] theorem forceL_eq {α β : Type} : ∀ (l : List α) (k : List α → β), forceL l k = k l
  | [], _ => rfl
  | _ :: l, _ => forceL_eq l _

def wr (H : Heap) (a : Addr) (vs : List Value) : Option Heap :=
  match a.spot, H[a.block]? with
  | none, some b => if b.own && (a.off + vs.length ≤ b.cells.length && vs.all oneCell) then forceL (splice b.cells a.off vs) fun cs => forceL (H.set a.block { b with cells := cs }) some else none
  | _, _ => none

/-- A Sem that asks nothing of the world. -/
def pureRun {α : Type} (P : Program) : Sem α → Option α
  | .pure a => some a
  | .program k => pureRun P (k P)
  | .mark _ k => pureRun P k
  | _ => none

/-- The slots that are known, the newest first. -/
abbrev Slots := List (Nat × Value)

def at? (t : Nat) : Slots → Option Value
  | [] => none
  | (u, v) :: F => match Nat.beq u t with
    | true => some v
    | false => at? t F

def ev (F : Slots) : Operand → Option Value
  | .tmp t => at? t F
  | .const v => if pf 3 v then some v else none
  | .global _ => none
  | .func f => some (.func (.func f) #[] #[])

def evs (F : Slots) : List Operand → Option (List Value)
  | [] => some []
  | x :: xs => match ev F x with
    | some v => (evs F xs).map (v :: ·)
    | none => none

/-- What a call comes to: its value, the heap behind it, the least old block that was written. -/
abbrev Oracle := FuncId → List Value → Heap → Option (Value × Heap × Nat)

/-- The functions without a body. -/
abbrev Ext := FuncId → List Value → Option Value

inductive Eff where
  | pure | read | write
  deriving DecidableEq

structure Out where
  v : Value
  H : Heap
  lo : Nat
  eff : Eff

/-- The operand values, as a function: for the operations that are run by the model's own text. -/
def look (F : Slots) (x : Operand) : Value := (ev F x).getD undef

def allFlat (F : Slots) (xs : List Operand) : Bool := xs.all fun x => match ev F x with
  | some v => pf 3 v
  | none => false

/-- An operation on values without addresses, that asks nothing of the world. -/
def evFlat (P : Program) (F : Slots) (H : Heap) (lo : Nat) (o : Oper) : Option Out :=
  if allFlat F o.op.operands.toList then
    match pureRun P (execOp (look F) o) with
    | some (.value v) => if pf 3 v then some ⟨v, H, lo, .pure⟩ else none
    | _ => none
  else none

def isAggT (P : Program) (t : TypeId) : Option Bool :=
  match P.underlying t with
  | some (.struct _) | some (.array _ _) => some true
  | some _ => some false
  | none => none

def sizeT (P : Program) (t : TypeId) : Option Nat := (P.info? t).map (·.size)
def zeroT (P : Program) (t : TypeId) : Option Value := (P.info? t).bind (·.zero)

def partV (P : Program) (t : TypeId) (cs : List Value) (off : Nat) : Option Value :=
  match isAggT P t, sizeT P t with
  | some true, some n => some (.agg ((cs.drop off).take n).toArray)
  | some false, _ => cs[off]?
  | _, _ => none

def loadV (P : Program) (H : Heap) (t : TypeId) (a : Addr) : Option Value :=
  match isAggT P t, sizeT P t with
  | some true, some n => (rd H a n).map fun cs => .agg cs.toArray
  | some false, _ => match rd H a 1 with
    | some [v] => match oneCell v with
      | true => some v
      | false => none
    | _ => none
  | _, _ => none

def storeV (P : Program) (H : Heap) (t : TypeId) (a : Addr) (v : Value) : Option Heap :=
  match sizeT P t with
  | some n => if v.cells.size = n then wr H a v.cells.toList else none
  | none => none

def newB (H : Heap) (v : Value) : Option (Value × Heap) :=
  if v.cells.toList.all oneCell then forceL (H ++ [⟨true, none, v.cells.toList⟩]) fun H' => some (.pointer (some ⟨H.length, 0, none⟩), H') else none

def evCall (C : Oracle) (f : FuncId) (args : List Value) (H : Heap) (lo : Nat) : Option Out :=
  match C f args H with
  | some (v, H', l) =>
    if l = H.length && pf 3 v then some ⟨v, H, lo, .read⟩
    else some ⟨v, H', min lo l, .write⟩
  | none => none

/-- A call whose arguments hold no address, taken in an empty heap: nothing of the heap matters to it. -/
def evCall0 (C : Oracle) (f : FuncId) (args : List Value) (H : Heap) (lo : Nat) : Option Out :=
  if args.all (pf 3) then
    match C f args [] with
    | some (v, _, _) => if pf 3 v then some ⟨v, H, lo, .pure⟩ else evCall C f args H lo
    | none => none
  else evCall C f args H lo

def asInt? : Value → Option Int
  | .int _ n => some n
  | _ => none

def bound (x : Option Value) (dflt y : Nat) : Option Nat :=
  match x with
  | none => some dflt
  | some (.int _ i) => if 0 ≤ i ∧ i ≤ y then some i.toNat else none
  | some _ => none

def evOpt (F : Slots) : Option Operand → Option (Option Value)
  | none => some none
  | some x => (ev F x).map some

/-- The same kind? -/
def eqK : IntKind → IntKind → Bool
  | .i64, .i64 | .u64, .u64 | .i8, .i8 | .i16, .i16 | .i32, .i32 | .u8, .u8 | .u16, .u16 | .u32, .u32 => true
  | _, _ => false

/-- Two whole numbers. -/
def fastBin (op : BinOp) (k : IntKind) (a : Int) (k' : IntKind) (b : Int) : Option Value :=
  match op with
  | .shl => if b < 0 then none else some (.int k (k.wrap (a * 2 ^ (min b.toNat k.bits))))
  | .shr => if b < 0 then none else some (.int k (a.fdiv (2 ^ (min b.toNat k.bits))))
  | op => match eqK k k' with
    | false => none
    | true => match op with
      | .add => some (.int k (k.wrap (a + b)))
      | .sub => some (.int k (k.wrap (a - b)))
      | .mul => some (.int k (k.wrap (a * b)))
      | .quo => if b = 0 then none else some (.int k (k.wrap (a.tdiv b)))
      | .rem => if b = 0 then none else some (.int k (a.tmod b))
      | .eql => some (.bool (a == b))
      | .neq => some (.bool (a != b))
      | .lss => some (.bool (a < b))
      | .leq => some (.bool (a ≤ b))
      | .gtr => some (.bool (a > b))
      | .geq => some (.bool (a ≥ b))
      | _ => none

/-- Whole numbers of one kind. -/
def intsOf (k : IntKind) : List Value → Option (List Int)
  | [] => some []
  | .int k' n :: r => match eqK k k' with
    | true => match intsOf k r with
      | some l => some (n :: l)
      | none => none
    | false => none
  | _ => none

/-- Two arrays of whole numbers: are they the same? -/
def aggEq (P : Program) (t : TypeId) (cs ds : Array Value) : Option Bool :=
  match P.underlying t with
  | some (.array n e) => match P.underlying e, sizeT P e with
    | some (.int k), some 1 => match intsOf k cs.toList, intsOf k ds.toList with
      | some xs, some ys => match Nat.beq xs.length n && (Nat.beq ys.length n && !P.eqGuardType P.depth t) with
        | true => some (decide (xs = ys))
        | false => none
      | _, _ => none
    | _, _ => none
  | _ => none

/-- A type whose values hold no address. -/
def flatT (P : Program) : Nat → TypeId → Bool
  | 0, _ => false
  | n + 1, t => match P.underlying t with
    | some .bool | some (.int _) | some .string => true
    | some (.array _ e) => flatT P n e
    | some (.struct fs) => fs.toList.all fun f => flatT P n f.type
    | _ => false

/-- The parts of a literal, all without addresses. -/
def evParts (F : Slots) : List (Nat × Operand) → Option (List (Nat × Value))
  | [] => some []
  | (i, x) :: xs => match ev F x with
    | some v => if pf 3 v then (evParts F xs).map ((i, v) :: ·) else none
    | none => none

def evOp (P : Program) (X : Ext) (C : Oracle) (draw : Bool) (F : Slots) (H : Heap) (lo : Nat) (o : Oper) : Option Out :=
  match o.op with
  | .move x | .assign x => (ev F x).map fun v => ⟨v, H, lo, .pure⟩
  | .binOp op t x y _ => match ev F x, ev F y with
    | some (.int k a), some (.int k' b) => match fastBin op k a k' b with
      | some v => some ⟨v, H, lo, .pure⟩
      | none => evFlat P F H lo o
    | some (.agg cs), some (.agg ds) => match op with
      | .eql => match aggEq P t cs ds with
        | some b => some ⟨.bool b, H, lo, .pure⟩
        | none => evFlat P F H lo o
      | .neq => match aggEq P t cs ds with
        | some b => some ⟨.bool (!b), H, lo, .pure⟩
        | none => evFlat P F H lo o
      | _ => evFlat P F H lo o
    | _, _ => evFlat P F H lo o
  | .convert s d x => match ev F x, P.underlying s, P.underlying d with
    | some (.int _ n), some (.int _), some (.int k) => some ⟨.int k (k.wrap n), H, lo, .pure⟩
    | _, _, _ => evFlat P F H lo o
  | .pick c a b => match ev F c, ev F a, ev F b with
    | some (.bool c), some (.bool a), some (.bool b) => some ⟨.bool (bif c then a else b), H, lo, .pure⟩
    | some (.bool c), some a, some b => some ⟨bif c then a else b, H, lo, .pure⟩
    | some (.bool true), some a, none => some ⟨a, H, lo, .pure⟩
    | some (.bool false), none, some b => some ⟨b, H, lo, .pure⟩
    | _, _, _ => none
  | .alloc t => match zeroT P t with
    | some z => if pf 3 z then (newB H z).map fun (v, H) => ⟨v, H, lo, .write⟩ else none
    | none => none
  | .box _ x => match ev F x with
    | some v => (newB H v).map fun (v, H) => ⟨v, H, lo, .write⟩
    | none => none
  | .load t x => match ev F x with
    | some (.pointer (some a)) => (loadV P H t a).map fun v => ⟨v, H, lo, .read⟩
    | _ => none
  | .store t x y => match ev F x, ev F y with
    | some (.pointer (some a)), some v => (storeV P H t a v).map fun H => ⟨undef, H, min lo a.block, .write⟩
    | _, _ => none
  | .nilCheck x => match ev F x with
    | some (.pointer (some a)) => some ⟨.pointer (some a), H, lo, .pure⟩
    | _ => none
  | .fieldAddr s x f => match ev F x, P.underlying s with
    | some (.pointer (some a)), some (.struct fs) => match fs[f]? with
      | some fd => match sizeT P fd.type with
        | some n => if n = 0 then none else some ⟨.pointer (some (a.add fd.offset)), H, lo, .pure⟩
        | none => none
      | none => none
    | _, _ => none
  | .indexAddr t x i => match ev F x, ev F i, P.underlying t with
    | some (.pointer (some a)), some (.int _ i), some (.array len e) => match sizeT P e with
      | some n => if 0 ≤ i ∧ i < len then some ⟨.pointer (some (a.add (i.toNat * n))), H, lo, .pure⟩ else none
      | none => none
    | some (.slice (some a) len _), some (.int _ i), some (.slice e) => match sizeT P e with
      | some n => if 0 ≤ i ∧ i < len then some ⟨.pointer (some (a.add (i.toNat * n))), H, lo, .pure⟩ else none
      | none => none
    | _, _, _ => none
  | .index t x i => match ev F x, ev F i, P.underlying t with
    | some (.agg cs), some (.int _ i), some (.array len e) => match sizeT P e with
      | some n => if 0 ≤ i ∧ i < len then (partV P e cs.toList (i.toNat * n)).map fun v => ⟨v, H, lo, .pure⟩ else none
      | none => none
    | _, _, _ => evFlat P F H lo o
  | .field t x f => match ev F x, P.underlying t with
    | some (.agg cs), some (.struct fs) => match fs[f]? with
      | some fd => (partV P fd.type cs.toList fd.offset).map fun v => ⟨v, H, lo, .pure⟩
      | none => none
    | _, _ => none
  | .extract x i => match ev F x with
    | some (.tuple vs) => (vs.toList[i]?).map fun v => ⟨v, H, lo, .pure⟩
    | _ => none
  | .makeInterface t x => match P.underlying t, ev F x with
    | some (.interface _), _ | none, _ => none
    | some _, some v => some ⟨.iface t v, H, lo, .pure⟩
    | _, none => none
  | .typeAssert x _ t ok => match ev F x, P.underlying t with
    | _, some (.interface _) => none
    | some (.iface u v), some _ =>
      if u = t then some ⟨if ok then .tuple #[v, .bool true] else v, H, lo, .pure⟩
      else match ok, zeroT P t with
        | true, some z => if pf 3 z then some ⟨.tuple #[z, .bool false], H, lo, .pure⟩ else none
        | _, _ => none
    | _, _ => evFlat P F H lo o
  | .makeFunc fn a b => match evs F a.toList, evs F b.toList with
    | some a, some b => some ⟨.func fn a.toArray b.toArray, H, lo, .pure⟩
    | _, _ => none
  | .slice t x l h none => match ev F x, evOpt F l, evOpt F h, P.underlying t with
    | some (.pointer (some a)), some l, some h, some (.array n e) => match bound h n n, sizeT P e with
      | some h, some sz => match bound l 0 h with
        | some l => some ⟨.slice (some (if n = l then a else a.add (l * sz))) (h - l) (n - l), H, lo, .pure⟩
        | none => none
      | _, _ => none
    | some (.slice (some a) len cap), some l, some h, some (.slice e) => if cap < len then none else match bound h len cap, sizeT P e with
      | some h, some sz => match bound l 0 h with
        | some l => some ⟨.slice (some (if cap = l then a else a.add (l * sz))) (h - l) (cap - l), H, lo, .pure⟩
        | none => none
      | _, _ => none
    | _, _, _, _ => evFlat P F H lo o
  | .buildSlice t len parts => match P.underlying t with
    | some (.slice e) => match sizeT P e, zeroT P e, evParts F parts.toList with
      | some sz, some z, some ps =>
        if 0 < len * sz ∧ len * sz ≤ 16777216 then
          match Instr.fill (fun i => some (i * sz, sz)) ((Array.range (len * sz)).map (z.cells[· % z.cells.size]!)) ps with
          | some cells => if cells.toList.all (fun v => pf 3 v && oneCell v) then some ⟨.slice (some ⟨H.length, 0, none⟩) len len, H ++ [⟨true, none, cells.toList⟩], lo, .write⟩ else none
          | none => none
        else none
      | _, _, _ => none
    | _ => none
  | .makeSlice t x y => match P.underlying t, ev F x, ev F y with
    | some (.slice e), some (.int _ l), some (.int _ c) => match P.info? e with
      | some i => match i.zero with
        | some z =>
          if 0 ≤ l ∧ l ≤ c ∧ c < 4294967296 ∧ c * i.bytes ≤ 281474976710656 ∧ 0 < c.toNat * i.size then
            let cells := (Array.range (c.toNat * i.size)).map (z.cells[· % z.cells.size]!)
            if cells.toList.all (fun v => pf 3 v && oneCell v) then some ⟨.slice (some ⟨H.length, 0, none⟩) l.toNat c.toNat, H ++ [⟨true, none, cells.toList⟩], lo, .write⟩ else none
          else none
        | none => none
      | none => none
    | _, _, _ => none
  | .call c => match c.callee with
    | .value f => match ev F f, evs F c.args.toList with
      | some (.func (.func f) a b), some args =>
        let all := a.toList ++ args ++ b.toList
        match P.funcs[f]? with
        | some fn => match fn.body with
          | some _ => match draw || fn.resultTypes.toList.all (flatT P 4) with
            | true => evCall0 C f all H lo
            | false => evCall C f all H lo
          | none => if all.all (pf 3) then (X f all).map fun v => ⟨v, H, lo, .pure⟩ else none
        | none => none
      | _, _ => none
    | .builtin .len => match c.argTypes[0]?, evs F c.args.toList with
      | some t, some [x] => match P.underlying t, x with
        | some (.slice _), .slice _ n _ => some ⟨.int .i64 n, H, lo, .pure⟩
        | some (.array n _), _ => some ⟨.int .i64 n, H, lo, .pure⟩
        | _, _ => evFlat P F H lo o
      | _, _ => none
    | .builtin .copy => match c.argTypes[0]?, evs F c.args.toList with
      | some t, some [.slice (some a) n _, .slice (some b) m _] => match P.underlying t with
        | some (.slice e) => match sizeT P e with
          | some sz => match rd H b (min m n * sz) with
            | some cs => (wr H a cs).map fun H => ⟨.int .i64 (min m n : Nat), H, min lo a.block, .write⟩
            | none => none
          | none => none
        | _ => none
      | _, _ => none
    | _ => evFlat P F H lo o
  | _ => evFlat P F H lo o

/-- nt: how many slots there are. -/
def putF (nt : Nat) (F : Slots) (dst : Option Tmp) (v : Value) : Slots :=
  match dst with
  | some d => match Nat.blt d nt with
    | true => (d, v) :: F
    | false => F
  | none => F

/-- Is the operation wanted? none: not known. -/
def wantedF (ops : List Oper) (F : Slots) (o : Oper) : Option Bool :=
  match o.guard with
  | none => some true
  | some (j, want) => match ops[j]? with
    | some oj => match oj.dst with
      | some d => match at? d F with
        | some (.bool b) => some (b == want)
        | some _ => some false
        | none => none
      | none => some false
    | none => some false

def evOps (P : Program) (X : Ext) (C : Oracle) (nt : Nat) (all : List Oper) : List Oper → Slots → Heap → Nat → Option (Slots × Heap × Nat)
  | [], F, H, lo => some (F, H, lo)
  | o :: rest, F, H, lo => match wantedF all F o with
    | some true => match evOp P X C false F H lo o with
      | some r => evOps P X C nt all rest (putF nt F o.dst r.v) r.H r.lo
      | none => none
    | some false => evOps P X C nt all rest (putF nt F o.dst undef) H lo
    | none => none

/-! ### A region that draws its order -/

/-- Which operations come ahead of which, as bits. -/
def masks (ops : List Oper) : List Nat :=
  ops.foldl (init := []) fun acc o => acc ++ [o.after.toList.foldl (fun s e => if Region.binds .any e then s ||| (2 ^ e.on) ||| acc.getD e.on 0 else s) 0]

def tmpOf : Operand → Option Tmp
  | .tmp t => some t
  | _ => none

/-- The slots that an operation looks at. -/
def looks (ops : List Oper) (o : Oper) : List Tmp :=
  o.op.operands.toList.filterMap tmpOf ++ (match o.guard with
    | some (j, _) => ((ops[j]?).bind (·.dst)).toList
    | none => [])

def noSel (o : Oper) : Bool := match o.op with
  | .select .. => false
  | _ => true

/-- What must hold of the region's own text. -/
def statOk (ops : List Oper) (ms : List Nat) : Bool :=
  (ops.zipIdx.all fun (o, i) => noSel o && o.after.toList.all fun e => !Region.binds .any e || e.on < i) &&
  (ops.zipIdx.all fun (o, i) => (ops.zipIdx.all fun (p, j) =>
    j ≤ i || ((match p.dst with
      | some d => (!(looks ops o).contains d && o.dst != some d) || (ms.getD j 0).testBit i
      | none => true) &&
     (match o.dst with
      | some d => !(looks ops p).contains d || (ms.getD j 0).testBit i
      | none => true))))

/-- A store of what was loaded from the same place: its load. -/
def selfLoad (ops : List Oper) (o : Oper) : Option Nat :=
  match o.op with
  | .store t (.tmp x) (.tmp y) =>
    match ops.zipIdx.findSome? fun (p, j) => match p.op, p.guard, p.dst with
      | .load u (.tmp z), none, some d => if u = t && z = x && d = y then some j else none
      | _, _, _ => none with
    | some j => if ops.zipIdx.all fun (p, k) => (k == j || p.dst != some y) && p.dst != some x then some j else none
    | none => none
  | _ => none

/-- One operation's part in a region's run: was it wanted, its value, what it did, the heap behind it. -/
structure Rec where
  v : Value
  eff : Eff
  H : Heap
  lo : Nat

def nextWs (e : Eff) (n ws : Nat) : Nat := match e with
  | .write => n + 1
  | _ => ws

/-- A store of what was loaded from the same place, with no write between, leaves the heap as it is. -/
def adjust (all : List Oper) (o : Oper) (n ws : Nat) (H : Heap) (r : Out) : Rec :=
  match r.eff with
  | .write => match selfLoad all o with
    | some j => if ws ≤ j && j < n then ⟨r.v, .read, H, r.lo⟩ else ⟨r.v, r.eff, r.H, r.lo⟩
    | none => ⟨r.v, r.eff, r.H, r.lo⟩
  | _ => ⟨r.v, r.eff, r.H, r.lo⟩

/-- The run in the text's order. n: how many have been run; ws: was there a write from an index on (the last write's index plus one). -/
def evRecs (P : Program) (X : Ext) (C : Oracle) (nt : Nat) (all : List Oper) : List Oper → Nat → Nat → Slots → Heap → Nat → Option (List Rec × Slots)
  | [], _, _, F, _, _ => some ([], F)
  | o :: rest, n, ws, F, H, lo => match wantedF all F o with
    | some true => match evOp P X C true F H lo o with
      | some r =>
        match adjust all o n ws H r with
        | ⟨v, eff, H', lo'⟩ => match evRecs P X C nt all rest (n + 1) (nextWs eff n ws) (putF nt F o.dst v) H' lo' with
          | some (rs, F) => some (⟨v, eff, H', lo'⟩ :: rs, F)
          | none => none
      | none => none
    | some false => match evRecs P X C nt all rest (n + 1) ws (putF nt F o.dst undef) H lo with
      | some (rs, F) => some (⟨undef, .pure, H, lo⟩ :: rs, F)
      | none => none
    | none => none

/-- What must hold of the run: whatever writes is ordered against whatever reads or writes. -/
def dynOk (ms : List Nat) (rs : List Rec) : Bool :=
  rs.zipIdx.all fun (r, i) => match r.eff with
    | .write => rs.zipIdx.all fun (q, j) => match q.eff with
      | .pure => true
      | _ => i == j || (ms.getD (max i j) 0).testBit (min i j)
    | _ => true

def evDraw (P : Program) (X : Ext) (C : Oracle) (nt : Nat) (ops : List Oper) (F : Slots) (H : Heap) (lo : Nat) : Option (Slots × Heap × Nat) :=
  match evRecs P X C nt ops ops 0 0 F H lo with
  | some (rs, F) => match dynOk (masks ops) rs with
    | true => match rs.getLast? with
      | some r => some (F, r.H, r.lo)
      | none => some (F, H, lo)
    | false => none
  | none => none

/-- What must hold of all regions of a function's text. -/
def codeOk : Code → Bool
  | .region _ ops draw => ops.toList.all noSel && (!draw || statOk ops.toList (masks ops.toList))
  | .seq a b => codeOk a && codeOk b
  | .cond _ a b => codeOk a && codeOk b
  | .block _ b => codeOk b
  | .loop b => codeOk b
  | _ => true

inductive Ex where
  | normal | exit (id : Nat) | ret

structure St where
  F : Slots
  H : Heap
  lo : Nat

/-- Of the slots that were known at a loop's head: what they hold now. -/
def forget (F : Slots) : List Nat → Slots
  | [] => []
  | t :: ts => match at? t F with
    | some v => (t, v) :: forget F ts
    | none => forget F ts

def keysOf : Slots → List Nat
  | [] => []
  | (u, _) :: F => match (keysOf F).contains u with
    | true => keysOf F
    | false => u :: keysOf F

def iter : Nat → (St → Option (Ex × St)) → List Nat → St → Option (Ex × St)
  | 0, _, _, _ => none
  | n + 1, body, m, s => match body s with
    | some (.normal, s) => iter n body m ⟨forget s.F m, s.H, s.lo⟩
    | r => r

def evCode (P : Program) (X : Ext) (C : Oracle) (N nt : Nat) : Code → St → Option (Ex × St)
  | .skip, s => some (.normal, s)
  | .label _, s => some (.normal, s)
  | .region _ ops draw, s =>
    match (match draw with
      | true => evDraw P X C nt ops.toList s.F s.H s.lo
      | false => evOps P X C nt ops.toList ops.toList s.F s.H s.lo) with
    | some (F, H, lo) => some (.normal, ⟨F, H, lo⟩)
    | none => none
  | .seq a b, s => match evCode P X C N nt a s with
    | some (.normal, s) => evCode P X C N nt b s
    | r => r
  | .cond c x y, s => match ev s.F c with
    | some (.bool true) => evCode P X C N nt x s
    | some (.bool false) => evCode P X C N nt y s
    | _ => none
  | .block id b, s => match evCode P X C N nt b s with
    | some (.exit i, s) => if i = id then some (.normal, s) else some (.exit i, s)
    | r => r
  | .loop b, s => iter N (evCode P X C N nt b) (keysOf s.F) s
  | .exit id, s => some (.exit id, s)
  | .ret, s => some (.ret, s)
  | _, _ => none

def evResult (P : Program) (F : Slots) (H : Heap) : ResultVar → Option Value
  | .tmp t => at? t F
  | .cell a t => match at? a F with
    | some (.pointer (some a)) => loadV P H t a
    | _ => none

def mapAll {α β : Type} (f : α → Option β) : List α → Option (List β)
  | [] => some []
  | x :: xs => match f x with
    | some y => (mapAll f xs).map (y :: ·)
    | none => none

def evResults (P : Program) (fn : Func) (F : Slots) (H : Heap) : Option Value :=
  match mapAll (evResult P F H) fn.results.toList with
  | some [v] => some v
  | some vs => some (.tuple vs.toArray)
  | none => none

def start : Nat → List Value → Slots
  | _, [] => []
  | i, v :: vs => (i, v) :: start (i + 1) vs

/-- One function, its callees by the oracle. -/
def evFn (P : Program) (X : Ext) (N : Nat) (C : Oracle) : Oracle := fun f args H =>
  match P.funcs[f]? with
  | some fn => match fn.body with
    | some c => match evCode P X C N (max args.length fn.ntmps) c ⟨start 0 args, H, H.length⟩ with
      | some (.normal, s) | some (.ret, s) => (evResults P fn s.F s.H).map fun v => (v, s.H, s.lo)
      | _ => none
    | none => none
  | none => none

/-- Calls down to a depth. -/
def evAll (P : Program) (X : Ext) (N : Nat) : Nat → Oracle
  | 0 => fun _ _ _ => none
  | n + 1 => evFn P X N (evAll P X N n)

end Go.Proofs.Ytfbjpenbpbpcaaa.Den
