/- Parts of the proof, joined: Den0, Den1, Den2, Den3, Den4, Den4b, Den4c, Den0b. -/
import Derived.Orders
import Derived.RowKit3
import Derived.Lib.DecodeN
import Derived.Laws.CopyRow
import Derived.Laws.Rows
import Derived.Laws.Cells
import Derived.ChangeKeysEq
import Derived.Laws.AppendOwn
import Derived.RangeFuncSeq
namespace Go.Proofs.YtpgmabpaiijipaaGreatDoor.Den
open Go
def isFlat : Value → Bool
  | .bool _ | .int _ _ | .float _ _ | .complex _ _ _ | .string _ | .nilFunc | .nilIface => true
  | .pointer none | .map none | .chan none => true
  | .slice none 0 0 => true
  | _ => false
def pf : Nat → Value → Bool
  | n + 1, .agg cs => cs.toList.all (pf n)
  | n + 1, .tuple cs => cs.toList.all (pf n)
  | n + 1, .iface _ v => pf n v
  | n + 1, .func _ a b => a.toList.all (pf n) && b.toList.all (pf n)
  | _, v => isFlat v
def oneCell : Value → Bool
  | .agg _ | .tuple _ => false
  | _ => true
structure Blk where
  own : Bool
  grown : Option Nat
  cells : List Value
abbrev Heap := List Blk
def live (b : Blk) : Bool := match b.grown with
  | some 0 => false
  | _ => true
def rd (H : Heap) (a : Addr) (n : Nat) : Option (List Value) :=
  match a.spot, H[a.block]? with
  | none, some b => match live b with
    | true => if a.off + n ≤ b.cells.length then some ((b.cells.drop a.off).take n) else none
    | false => none
  | _, _ => none
def splice (cells : List Value) (off : Nat) (vs : List Value) : List Value := cells.take off ++ (vs ++ cells.drop (off + vs.length))
def forceL {α β : Type} : List α → (List α → β) → β
  | [], k => k []
  | x :: l, k => forceL l fun l' => k (x :: l')
@[simp] theorem forceL_eq {α β : Type} : ∀ (l : List α) (k : List α → β), forceL l k = k l
  | [], _ => rfl
  | _ :: l, _ => forceL_eq l _
def forceVs {β : Type} : List Value → (List Value → β) → β
  | [], k => k []
  | .int kd n :: l, k => forceVs l fun l' => k (.int kd n :: l')
  | x :: l, k => forceVs l fun l' => k (x :: l')
@[simp] theorem forceVs_eq {β : Type} : ∀ (l : List Value) (k : List Value → β), forceVs l k = k l
  | [], _ => rfl
  | x :: l, k => by
    cases x <;> simp only [forceVs] <;> exact forceVs_eq l _
def wr (H : Heap) (a : Addr) (vs : List Value) : Option Heap :=
  match a.spot, H[a.block]? with
  | none, some b => if live b && (b.own && (a.off + vs.length ≤ b.cells.length && vs.all oneCell)) then forceL (splice b.cells a.off vs) fun cs => forceL (H.set a.block { b with cells := cs }) some else none
  | _, _ => none
def pureRun {α : Type} (P : Program) : Sem α → Option α
  | .pure a => some a
  | .program k => pureRun P (k P)
  | .mark _ k => pureRun P k
  | _ => none
abbrev Slots := List (Nat × Value)
def at? (t : Nat) : Slots → Option Value
  | [] => none
  | (u, v) :: F => match Nat.beq u t with
    | true => some v
    | false => at? t F
def ev (F : Slots) : Operand → Option Value
  | .tmp t => at? t F
  | .const v => if pf 3 v then some v else none
  | .global _ => none
  | .func f => some (.func (.func f) #[] #[])
def evs (F : Slots) : List Operand → Option (List Value)
  | [] => some []
  | x :: xs => match ev F x with
    | some v => (evs F xs).map (v :: ·)
    | none => none
abbrev Oracle := FuncId → List Value → Heap → Option (Value × Heap × Nat)
abbrev Ext := FuncId → List Value → Option Value
inductive Eff where
  | pure | read | write
  deriving DecidableEq
structure Out where
  v : Value
  H : Heap
  lo : Nat
  eff : Eff
def look (F : Slots) (x : Operand) : Value := (ev F x).getD undef
def allFlat (F : Slots) (xs : List Operand) : Bool := xs.all fun x => match ev F x with
  | some v => pf 3 v
  | none => false
def evFlat (P : Program) (F : Slots) (H : Heap) (lo : Nat) (o : Oper) : Option Out :=
  if allFlat F o.op.operands.toList then
    match pureRun P (execOp (look F) o) with
    | some (.value v) => if pf 3 v then some ⟨v, H, lo, .pure⟩ else none
    | _ => none
  else none
def isAggT (P : Program) (t : TypeId) : Option Bool :=
  match P.underlying t with
  | some (.struct _) | some (.array _ _) => some true
  | some _ => some false
  | none => none
def sizeT (P : Program) (t : TypeId) : Option Nat := (P.info? t).map (·.size)
def zeroT (P : Program) (t : TypeId) : Option Value := (P.info? t).bind (·.zero)
def partV (P : Program) (t : TypeId) (cs : List Value) (off : Nat) : Option Value :=
  match isAggT P t, sizeT P t with
  | some true, some n => some (.agg ((cs.drop off).take n).toArray)
  | some false, _ => cs[off]?
  | _, _ => none
def loadV (P : Program) (H : Heap) (t : TypeId) (a : Addr) : Option Value :=
  match isAggT P t, sizeT P t with
  | some true, some n => (rd H a n).map fun cs => .agg cs.toArray
  | some false, _ => match rd H a 1 with
    | some [v] => match oneCell v with
      | true => some v
      | false => none
    | _ => none
  | _, _ => none
def storeV (P : Program) (H : Heap) (t : TypeId) (a : Addr) (v : Value) : Option Heap :=
  match sizeT P t with
  | some n => if v.cells.size = n then wr H a v.cells.toList else none
  | none => none
def newB (H : Heap) (v : Value) : Option (Value × Heap) :=
  if v.cells.toList.all oneCell then forceL (H ++ [⟨true, none, v.cells.toList⟩]) fun H' => some (.pointer (some ⟨H.length, 0, none⟩), H') else none
def evCall (C : Oracle) (f : FuncId) (args : List Value) (H : Heap) (lo : Nat) : Option Out :=
  match C f args H with
  | some (v, H', l) =>
    if l = H.length && pf 3 v then some ⟨v, H, lo, .read⟩
    else some ⟨v, H', min lo l, .write⟩
  | none => none
def evCall0 (C : Oracle) (f : FuncId) (args : List Value) (H : Heap) (lo : Nat) : Option Out :=
  if args.all (pf 3) then
    match C f args [] with
    | some (v, _, _) => if pf 3 v then some ⟨v, H, lo, .pure⟩ else evCall C f args H lo
    | none => none
  else evCall C f args H lo
def asInt? : Value → Option Int
  | .int _ n => some n
  | _ => none
def bound (x : Option Value) (dflt y : Nat) : Option Nat :=
  match x with
  | none => some dflt
  | some (.int _ i) => if (decide (0 ≤ i) && Nat.ble i.toNat y) = true then some i.toNat else none
  | some _ => none
def evOpt (F : Slots) : Option Operand → Option (Option Value)
  | none => some none
  | some x => (ev F x).map some
def eqK : IntKind → IntKind → Bool
  | .i64, .i64 | .u64, .u64 | .i8, .i8 | .i16, .i16 | .i32, .i32 | .u8, .u8 | .u16, .u16 | .u32, .u32 => true
  | _, _ => false
def fastBin (op : BinOp) (k : IntKind) (a : Int) (k' : IntKind) (b : Int) : Option Value :=
  match op with
  | .shl => if b < 0 then none else some (.int k (k.wrap (a * 2 ^ (min b.toNat k.bits))))
  | .shr => if b < 0 then none else some (.int k (a.fdiv (2 ^ (min b.toNat k.bits))))
  | op => match eqK k k' with
    | false => none
    | true => match op with
      | .add => some (.int k (k.wrap (a + b)))
      | .sub => some (.int k (k.wrap (a - b)))
      | .mul => some (.int k (k.wrap (a * b)))
      | .quo => if b = 0 then none else some (.int k (k.wrap (a.tdiv b)))
      | .rem => if b = 0 then none else some (.int k (a.tmod b))
      | .eql => some (.bool (a == b))
      | .neq => some (.bool (a != b))
      | .lss => some (.bool (a < b))
      | .leq => some (.bool (a ≤ b))
      | .gtr => some (.bool (a > b))
      | .geq => some (.bool (a ≥ b))
      | _ => none
def intsOf (k : IntKind) : List Value → Option (List Int)
  | [] => some []
  | .int k' n :: r => match eqK k k' with
    | true => match intsOf k r with
      | some l => some (n :: l)
      | none => none
    | false => none
  | _ => none
def aggEq (P : Program) (t : TypeId) (cs ds : Array Value) : Option Bool :=
  match P.underlying t with
  | some (.array n e) => match P.underlying e, sizeT P e with
    | some (.int k), some 1 => match intsOf k cs.toList, intsOf k ds.toList with
      | some xs, some ys => match Nat.beq xs.length n && (Nat.beq ys.length n && !P.eqGuardType P.depth t) with
        | true => some (decide (xs = ys))
        | false => none
      | _, _ => none
    | _, _ => none
  | _ => none
def flatT (P : Program) : Nat → TypeId → Bool
  | 0, _ => false
  | n + 1, t => match P.underlying t with
    | some .bool | some (.int _) | some .string => true
    | some (.array _ e) => flatT P n e
    | some (.struct fs) => fs.toList.all fun f => flatT P n f.type
    | _ => false
def evParts (F : Slots) : List (Nat × Operand) → Option (List (Nat × Value))
  | [] => some []
  | (i, x) :: xs => match ev F x with
    | some v => if pf 3 v then (evParts F xs).map ((i, v) :: ·) else none
    | none => none
def forceIf {α β : Type} (fl : Bool) (l : List α) (k : List α → β) : β := match fl with
  | true => forceL l k
  | false => k l
@[simp] theorem forceIf_eq {α β : Type} (fl : Bool) (l : List α) (k : List α → β) : forceIf fl l k = k l := by
  cases fl
  · rfl
  · exact forceL_eq l k
def tm (n sz : Nat) : Nat := match sz with
  | 1 => n
  | sz => n * sz
def appS (fl : Bool) (P : Program) (F : Slots) (H : Heap) (lo : Nat) (c : Call) : Option (Bool × Out) :=
  match c.argTypes.toList, evs F c.args.toList with
  | [t, t'], some [s, .slice (some ⟨bb, off, none⟩) m _] => match Nat.beq t t', P.underlying t, H[bb]? with
    | true, some (.slice e), some blk => match P.info? e with
      | some i => match i.zero with
        | some z => match s with
          | .slice none 0 0 => match m with
            | 0 => some (true, ⟨.slice none 0 0, H, lo, .pure⟩)
            | m => forceIf fl ((blk.cells.drop off).take (tm m i.size)) fun cs => forceIf fl (H ++ [⟨true, some i.size, cs⟩]) fun H' =>
              some (decide (live blk = true ∧ z.cells.size = i.size ∧ 0 < i.size ∧ 0 < m ∧ off + tm m i.size ≤ blk.cells.length ∧ m * i.bytes ≤ 140737488355328 ∧ m ≤ 9223372036854775807),
                ⟨.slice (some ⟨H.length, 0, none⟩) m 0, H', lo, .write⟩)
          | .slice (some ⟨g, 0, none⟩) n 0 => match H[g]? with
            | some old => match old.grown with
              | some sz => forceIf fl (old.cells ++ (blk.cells.drop off).take (tm m i.size)) fun cs => forceIf fl (H.set g ⟨false, none, []⟩ ++ [⟨true, some i.size, cs⟩]) fun H' =>
                some (decide (live blk = true ∧ z.cells.size = i.size ∧ 0 < i.size ∧ off + tm m i.size ≤ blk.cells.length ∧ (n + m) * i.bytes ≤ 140737488355328 ∧ n + m ≤ 9223372036854775807 ∧ sz = i.size ∧ 0 < n ∧ old.own = true ∧ old.cells.length = tm n i.size),
                  ⟨.slice (some ⟨H.length, 0, none⟩) (n + m) 0, H', min lo g, .write⟩)
              | none => none
            | none => none
          | _ => none
        | none => none
      | none => none
    | _, _, _ => none
  | _, _ => none
def evOp1 (P : Program) (X : Ext) (C : Oracle) (draw : Bool) (F : Slots) (H : Heap) (lo : Nat) (o : Oper) : Option Out :=
  match o.op with
  | .move x | .assign x => (ev F x).map fun v => ⟨v, H, lo, .pure⟩
  | .binOp op t x y _ => match ev F x, ev F y with
    | some (.int k a), some (.int k' b) => match fastBin op k a k' b with
      | some v => some ⟨v, H, lo, .pure⟩
      | none => evFlat P F H lo o
    | some (.agg cs), some (.agg ds) => match op with
      | .eql => match aggEq P t cs ds with
        | some b => some ⟨.bool b, H, lo, .pure⟩
        | none => evFlat P F H lo o
      | .neq => match aggEq P t cs ds with
        | some b => some ⟨.bool (!b), H, lo, .pure⟩
        | none => evFlat P F H lo o
      | _ => evFlat P F H lo o
    | _, _ => evFlat P F H lo o
  | .convert s d x => match ev F x, P.underlying s, P.underlying d with
    | some (.int _ n), some (.int _), some (.int k) => some ⟨.int k (k.wrap n), H, lo, .pure⟩
    | _, _, _ => evFlat P F H lo o
  | .pick c a b => match ev F c, ev F a, ev F b with
    | some (.bool c), some (.bool a), some (.bool b) => some ⟨.bool (bif c then a else b), H, lo, .pure⟩
    | some (.bool c), some a, some b => some ⟨bif c then a else b, H, lo, .pure⟩
    | some (.bool true), some a, none => some ⟨a, H, lo, .pure⟩
    | some (.bool false), none, some b => some ⟨b, H, lo, .pure⟩
    | _, _, _ => none
  | .alloc t => match zeroT P t with
    | some z => if pf 3 z then (newB H z).map fun (v, H) => ⟨v, H, lo, .write⟩ else none
    | none => none
  | .box _ x => match ev F x with
    | some v => (newB H v).map fun (v, H) => ⟨v, H, lo, .write⟩
    | none => none
  | .load t x => match ev F x with
    | some (.pointer (some a)) => (loadV P H t a).map fun v => ⟨v, H, lo, .read⟩
    | _ => none
  | .store t x y => match ev F x, ev F y with
    | some (.pointer (some a)), some v => (storeV P H t a v).map fun H => ⟨undef, H, min lo a.block, .write⟩
    | _, _ => none
  | .nilCheck x => match ev F x with
    | some (.pointer (some a)) => some ⟨.pointer (some a), H, lo, .pure⟩
    | _ => none
  | .fieldAddr s x f => match ev F x, P.underlying s with
    | some (.pointer (some a)), some (.struct fs) => match fs[f]? with
      | some fd => match sizeT P fd.type with
        | some n => if n = 0 then none else some ⟨.pointer (some (a.add fd.offset)), H, lo, .pure⟩
        | none => none
      | none => none
    | _, _ => none
  | .indexAddr t x i => match ev F x, ev F i, P.underlying t with
    | some (.pointer (some a)), some (.int _ i), some (.array len e) => match sizeT P e with
      | some n => if 0 ≤ i ∧ i < len then some ⟨.pointer (some (a.add (i.toNat * n))), H, lo, .pure⟩ else none
      | none => none
    | some (.slice (some a) len _), some (.int _ i), some (.slice e) => match sizeT P e with
      | some n => if 0 ≤ i ∧ i < len then some ⟨.pointer (some (a.add (i.toNat * n))), H, lo, .pure⟩ else none
      | none => none
    | _, _, _ => none
  | .index t x i => match ev F x, ev F i, P.underlying t with
    | some (.agg cs), some (.int _ i), some (.array len e) => match sizeT P e with
      | some n => if 0 ≤ i ∧ i < len then (partV P e cs.toList (i.toNat * n)).map fun v => ⟨v, H, lo, .pure⟩ else none
      | none => none
    | _, _, _ => evFlat P F H lo o
  | .field t x f => match ev F x, P.underlying t with
    | some (.agg cs), some (.struct fs) => match fs[f]? with
      | some fd => (partV P fd.type cs.toList fd.offset).map fun v => ⟨v, H, lo, .pure⟩
      | none => none
    | _, _ => none
  | .extract x i => match ev F x with
    | some (.tuple vs) => (vs.toList[i]?).map fun v => ⟨v, H, lo, .pure⟩
    | _ => none
  | .makeInterface t x => match P.underlying t, ev F x with
    | some (.interface _), _ | none, _ => none
    | some _, some v => some ⟨.iface t v, H, lo, .pure⟩
    | _, none => none
  | .typeAssert x _ t ok => match ev F x, P.underlying t with
    | _, some (.interface _) => none
    | some (.iface u v), some _ =>
      if u = t then some ⟨if ok then .tuple #[v, .bool true] else v, H, lo, .pure⟩
      else match ok, zeroT P t with
        | true, some z => if pf 3 z then some ⟨.tuple #[z, .bool false], H, lo, .pure⟩ else none
        | _, _ => none
    | _, _ => evFlat P F H lo o
  | .makeFunc fn a b => match evs F a.toList, evs F b.toList with
    | some a, some b => some ⟨.func fn a.toArray b.toArray, H, lo, .pure⟩
    | _, _ => none
  | .slice t x l h none => match ev F x, evOpt F l, evOpt F h, P.underlying t with
    | some (.pointer (some a)), some l, some h, some (.array n e) => match bound h n n, sizeT P e with
      | some h, some sz => match bound l 0 h with
        | some l => some ⟨.slice (some (if n = l then a else a.add (l * sz))) (h - l) (n - l), H, lo, .pure⟩
        | none => none
      | _, _ => none
    | some (.slice (some a) len cap), some l, some h, some (.slice e) => if cap < len || a.spot.isSome then none else match bound h len cap, sizeT P e with
      | some h, some sz => match bound l 0 h with
        | some l => some ⟨.slice (some (if cap = l then a else a.add (l * sz))) (h - l) (cap - l), H, lo, .pure⟩
        | none => none
      | _, _ => none
    | _, _, _, _ => evFlat P F H lo o
  | .buildSlice t len parts => match P.underlying t with
    | some (.slice e) => match sizeT P e, zeroT P e, evParts F parts.toList with
      | some sz, some z, some ps =>
        if 0 < len * sz ∧ len * sz ≤ 16777216 then
          match Instr.fill (fun i => some (i * sz, sz)) ((Array.range (len * sz)).map (z.cells[· % z.cells.size]!)) ps with
          | some cells => if cells.toList.all (fun v => pf 3 v && oneCell v) then forceVs cells.toList fun cs => some ⟨.slice (some ⟨H.length, 0, none⟩) len len, H ++ [⟨true, none, cs⟩], lo, .write⟩ else none
          | none => none
        else none
      | _, _, _ => none
    | _ => none
  | .makeSlice t x y => match P.underlying t, ev F x, ev F y with
    | some (.slice e), some (.int _ l), some (.int _ c) => match P.info? e with
      | some i => match i.zero with
        | some z =>
          if 0 ≤ l ∧ l ≤ c ∧ c < 4294967296 ∧ c * i.bytes ≤ 281474976710656 ∧ 0 < c.toNat * i.size then
            let cells := (Array.range (c.toNat * i.size)).map (z.cells[· % z.cells.size]!)
            if cells.toList.all (fun v => pf 3 v && oneCell v) then forceVs cells.toList fun cs => some ⟨.slice (some ⟨H.length, 0, none⟩) l.toNat c.toNat, H ++ [⟨true, none, cs⟩], lo, .write⟩ else none
          else none
        | none => none
      | none => none
    | _, _, _ => none
  | .call c => match c.callee with
    | .value f => match ev F f, evs F c.args.toList with
      | some (.func (.func f) a b), some args =>
        let all := a.toList ++ args ++ b.toList
        match P.funcs[f]? with
        | some fn => match fn.body with
          | some _ => match draw || fn.resultTypes.toList.all (flatT P 4) with
            | true => evCall0 C f all H lo
            | false => evCall C f all H lo
          | none => if all.all (pf 3) then (X f all).map fun v => ⟨v, H, lo, .pure⟩ else none
        | none => none
      | _, _ => none
    | .builtin .len => match c.argTypes[0]?, evs F c.args.toList with
      | some t, some [x] => match P.underlying t, x with
        | some (.slice _), .slice _ n _ => some ⟨.int .i64 n, H, lo, .pure⟩
        | some (.array n _), _ => some ⟨.int .i64 n, H, lo, .pure⟩
        | _, _ => evFlat P F H lo o
      | _, _ => none
    | .builtin .copy => match c.argTypes[0]?, evs F c.args.toList with
      | some t, some [.slice (some a) n _, .slice (some b) m _] => match P.underlying t with
        | some (.slice e) => match sizeT P e with
          | some sz => match rd H b (min m n * sz) with
            | some cs => (wr H a cs).map fun H => ⟨.int .i64 (min m n : Nat), H, min lo a.block, .write⟩
            | none => none
          | none => none
        | _ => none
      | _, _ => none
    | .builtin .append => match appS true P F H lo c with
      | some (true, r) => some r
      | some (false, _) => none
      | none => evFlat P F H lo o
    | _ => evFlat P F H lo o
  | _ => evFlat P F H lo o
def eqNil (P : Program) (t : TypeId) (x y : Value) : Option Bool :=
  match P.underlying t, x, y with
  | some (.slice _), .slice (some _) _ _, .slice none _ _ => some false
  | some (.map _ _), .map (some _), .map none => some false
  | some (.func _ _ _), .func _ _ _, .nilFunc => some false
  | some (.pointer _), .pointer (some _), .pointer none => some false
  | some (.interface _), .iface _ _, .nilIface => some false
  | _, _, _ => none
def evPartsA (F : Slots) : List (Nat × Operand) → Option (List (Nat × Value))
  | [] => some []
  | (i, x) :: xs => match ev F x with
    | some v => (evPartsA F xs).map ((i, v) :: ·)
    | none => none
def places (P : Program) (fs : List Field) : Option (List (Nat × Nat)) :=
  match fs with
  | [] => some []
  | f :: fs => match sizeT P f.type with
    | some n => (places P fs).map ((f.offset, n) :: ·)
    | none => none
def fillV (place : Nat → Option (Nat × Nat)) : List Value → List (Nat × Value) → Option (List Value)
  | cells, [] => some cells
  | cells, (i, v) :: rest => match place i with
    | some (off, n) => if v.cells.size = n ∧ off + n ≤ cells.length then forceL (splice cells off v.cells.toList) fun cs => fillV place cs rest else none
    | none => none
def findE (k : IntKind) (n : Int) : List Value → Option (Option Value)
  | [] => some none
  | .int k' m :: v :: r => match eqK k k' with
    | true => match decide (n = m) with
      | true => some (some v)
      | false => findE k n r
    | false => none
  | _ => none
def bytesOf : List Value → Option (List UInt8)
  | [] => some []
  | .int .u8 n :: r => (bytesOf r).map (UInt8.ofNat n.toNat :: ·)
  | _ => none
def zerosOf (z : Value) (n : Nat) : List Value := ((Array.range (n * z.cells.size)).map fun i => z.cells[i % z.cells.size]!).toList
def appK (P : Program) (F : Slots) (H : Heap) (lo : Nat) (c : Call) : Option Out :=
  match c.argTypes.toList, evs F c.args.toList with
  | [t, t'], some [s, x] => match Nat.beq t t', P.underlying t with
    | true, some (.slice e) => match P.info? e with
      | some i => match i.zero, x with
        | some _, .slice none 0 0 => match s with
          | .slice (some _) 0 0 => some ⟨.slice (some ⟨0, 0, some 1⟩) 0 0, H, lo, .pure⟩
          | .slice (some _) _ _ => some ⟨s, H, lo, .pure⟩
          | _ => none
        | some z, .slice (some xa) m _ => match (if m = 0 then some [] else rd H xa (m * i.size)), s with
          | some new, .slice (some a) n cap =>
            if z.cells.size = i.size ∧ 0 < i.size ∧ (n + m) * i.bytes ≤ 140737488355328 ∧ n + m ≤ 9223372036854775807 ∧ n ≤ cap ∧ a.spot = none then
              if n + m ≤ cap then
                if m = 0 then (match n, cap with
                  | 0, 0 => some ⟨.slice (some ⟨0, 0, some 1⟩) 0 0, H, lo, .pure⟩
                  | _, _ => some ⟨s, H, lo, .pure⟩) else
                (wr H (a.add (n * i.size)) new).map fun H => ⟨.slice (some a) (n + m) cap, H, min lo a.block, .write⟩
              else match (if n = 0 then some [] else rd H a (n * i.size)) with
                | some old => forceL (old ++ new) fun cs => forceL (H ++ [⟨true, some i.size, cs⟩]) fun H' => some ⟨.slice (some ⟨H.length, 0, none⟩) (n + m) 0, H', lo, .write⟩
                | none => none
            else none
          | _, _ => none
        | _, _ => none
      | none => none
    | _, _ => none
  | _, _ => none
def appV (P : Program) (F : Slots) (H : Heap) (lo : Nat) (c : Call) : Option Out :=
  match c.argTypes.toList, evs F c.args.toList with
  | [t, t'], some [.slice (some ⟨g, 0, some 0⟩) 0 0, .slice (some xa) m _] => match Nat.beq t t', P.underlying t, H[g]? with
    | true, some (.slice e), some old => match P.info? e, old.grown with
      | some i, some sz => match i.zero, rd H xa (m * i.size) with
        | some z, some new =>
          if z.cells.size = i.size ∧ 0 < i.size ∧ 0 < m ∧ m * i.bytes ≤ 140737488355328 ∧ m ≤ 9223372036854775807 ∧ sz = i.size ∧ old.own = true ∧ old.cells.isEmpty = false then
            forceL new fun cs => forceL (H.set g ⟨false, none, []⟩ ++ [⟨true, some i.size, cs⟩]) fun H' => some ⟨.slice (some ⟨H.length, 0, none⟩) m 0, H', min lo g, .write⟩
          else none
        | _, _ => none
      | _, _ => none
    | _, _, _ => none
  | _, _ => none
def appZ (P : Program) (F : Slots) (H : Heap) (lo : Nat) (c : Call) : Option Out :=
  match c.argTypes.toList, evs F c.args.toList with
  | [t, t'], some [.slice none 0 0, .int _ (.ofNat n)] => match P.underlying t, P.underlying t' with
    | some (.slice e), some (.int _) => match P.info? e with
      | some i => match i.zero with
        | some z =>
          if z.cells.size = i.size ∧ 0 < i.size ∧ 0 < n ∧ n ≤ 1000000 ∧ n * i.bytes ≤ 140737488355328 then
            forceL (zerosOf z n) fun cs => match cs.all fun v => pf 3 v && oneCell v with
              | true => forceL (H ++ [⟨true, some i.size, cs⟩]) fun H' => some ⟨.slice (some ⟨H.length, 0, none⟩) n 0, H', lo, .write⟩
              | false => none
          else none
        | none => none
      | none => none
    | _, _ => none
  | _, _ => none
def evX (P : Program) (F : Slots) (H : Heap) (lo : Nat) (o : Oper) : Option Out :=
  match o.op with
  | .binOp .eql t x y _ => match ev F x, ev F y with
    | some a, some b => (eqNil P t a b).map fun r => ⟨.bool r, H, lo, .pure⟩
    | _, _ => none
  | .binOp .neq t x y _ => match ev F x, ev F y with
    | some a, some b => (eqNil P t a b).map fun r => ⟨.bool (!r), H, lo, .pure⟩
    | _, _ => none
  | .build t parts => match zeroT P t, evPartsA F parts.toList with
    | some z, some ps => match pf 3 z with
      | true => match P.underlying t with
        | some (.struct fs) => match places P fs.toList with
          | some pl => (fillV (fun i => pl[i]?) z.cells.toList ps).map fun cs => ⟨.agg cs.toArray, H, lo, .pure⟩
          | none => none
        | some (.array _ e) => match sizeT P e with
          | some n => (fillV (fun i => some (i * n, n)) z.cells.toList ps).map fun cs => ⟨.agg cs.toArray, H, lo, .pure⟩
          | none => none
        | _ => none
      | false => none
    | _, _ => none
  | .buildSlice t len parts => match P.underlying t with
    | some (.slice e) => match sizeT P e, zeroT P e, evPartsA F parts.toList with
      | some sz, some z, some ps =>
        if len * sz ≤ 16777216 ∧ pf 3 z = true then
          match fillV (fun i => some (i * sz, sz)) (if len * sz = 0 then [] else ((Array.range (len * sz)).map (z.cells[· % z.cells.size]!)).toList) ps with
          | some cells => if cells.all oneCell then forceL (H ++ [⟨true, none, cells⟩]) fun H' => some ⟨.slice (some ⟨H.length, 0, none⟩) len len, H', lo, .write⟩ else none
          | none => none
        else none
      | _, _, _ => none
    | _ => none
  | .makeMap t none => match P.underlying t with
    | some (.map _ _) => forceL (H ++ [⟨true, some 0, [.nilFunc]⟩]) fun H' => some ⟨.map (some H.length), H', lo, .write⟩
    | _ => none
  | .insert t m k v => match P.underlying t, ev F m, ev F k, ev F v with
    | some (.map kt _), some (.map (some b)), some (.int kk n), some v => match P.underlying kt, H[b]? with
      | some (.int _), some ⟨true, some 0, .nilFunc :: es⟩ => match findE kk n es with
        | some none => forceL (es ++ [.int kk n, v]) fun es => forceL (H.set b ⟨true, some 0, .nilFunc :: es⟩) fun H' => some ⟨undef, H', min lo b, .write⟩
        | _ => none
      | _, _ => none
    | _, _, _, _ => none
  | .lookup t m k false => match P.underlying t, ev F m, ev F k with
    | some (.map kt et), some (.map (some b)), some (.int kk n) => match P.underlying kt, H[b]? with
      | some (.int _), some ⟨_, some 0, .nilFunc :: es⟩ => match findE kk n es with
        | some (some v) => some ⟨v, H, lo, .read⟩
        | some none => match zeroT P et with
          | some z => if pf 3 z then some ⟨z, H, lo, .read⟩ else none
          | none => none
        | none => none
      | _, _ => none
    | _, _, _ => none
  | .range t x => match P.underlying t, ev F x with
    | some .string, some (.string s) => forceL (H ++ [⟨true, some 0, [.string s, .int .i64 0]⟩]) fun H' => some ⟨.pointer (some ⟨H.length, 0, none⟩), H', lo, .write⟩
    | _, _ => none
  | .next it true => match ev F it with
    | some (.pointer (some ⟨b, 0, none⟩)) => match H[b]? with
      | some ⟨true, some 0, [.string s, .int .i64 (.ofNat pos)]⟩ => match decide (pos < s.size) with
        | true => match Utf8.decode s pos with
          | (c, width) => some ⟨.tuple #[.bool true, .int .i64 pos, .int .i32 c], H.set b ⟨true, some 0, [.string s, .int .i64 (.ofNat (pos + width))]⟩, min lo b, .write⟩
        | false => some ⟨.tuple #[.bool false], H, lo, .read⟩
      | _ => none
    | _ => none
  | .slice t x l (some h) (some mx) => match ev F x, evOpt F l, ev F h, ev F mx, P.underlying t with
    | some (.slice (some ⟨b, off, none⟩) len (cap + 1)), some l, some h, some m, some (.slice e) => match sizeT P e, bound (some m) 0 (cap + 1) with
      | some sz, some m => match bound (some h) 0 m with
        | some h => match bound l 0 h with
          | some l => if len ≤ cap + 1 then some ⟨.slice (some (if m = l then ⟨b, off, none⟩ else (⟨b, off, none⟩ : Addr).add (l * sz))) (h - l) (m - l), H, lo, .pure⟩ else none
          | none => none
        | none => none
      | _, _ => none
    | _, _, _, _, _ => none
  | .slice t x l h none => match ev F x, evOpt F l, evOpt F h, P.underlying t with
    | some (.slice (some ⟨b, 0, none⟩) (len + 1) 0), some l, some h, some (.slice e) => match sizeT P e, bound h (len + 1) (len + 1) with
      | some _, some h => match bound l 0 h with
        | some 0 => some ⟨.slice (some ⟨b, 0, match h with
          | 0 => some 0
          | _ => none⟩) h 0, H, lo, .pure⟩
        | _ => none
      | _, _ => none
    | _, _, _, _ => none
  | .convert s d x => match P.underlying s, P.underlying d, ev F x with
    | some (.slice e), some .string, some (.slice (some a) n _) => match P.underlying e, sizeT P e with
      | some (.int .u8), some 1 => match (if n = 0 then some [] else rd H a n) with
        | some cs => (bytesOf cs).map fun l => ⟨.string ⟨l.toArray⟩, H, lo, .read⟩
        | none => none
      | _, _ => none
    | some .string, some (.slice e), some (.string s) => match P.underlying e with
      | some (.int .u8) => match s.data.toList with
        | [] => some ⟨.slice (some ⟨0, 0, some 1⟩) 0 0, H, lo, .write⟩
        | l => forceL (l.map fun b => Value.int .u8 b.toNat) fun cs => forceL (H ++ [⟨false, none, cs⟩]) fun H' => some ⟨.slice (some ⟨H.length, 0, none⟩) s.size 0, H', lo, .write⟩
      | _ => none
    | _, _, _ => none
  | .call c => match c.callee with
    | .builtin .append => match appK P F H lo c with
      | some r => some r
      | none => match appV P F H lo c with
        | some r => some r
        | none => appZ P F H lo c
    | .builtin .clear => match c.argTypes[0]?, evs F c.args.toList with
      | some t, some [.slice (some a) n _] => match P.underlying t with
        | some (.slice e) => match zeroT P e with
          | some z => match n with
            | 0 => some ⟨.tuple #[], H, lo, .pure⟩
            | n => if pf 3 z then (wr H a (zerosOf z n)).map fun H => ⟨.tuple #[], H, min lo a.block, .write⟩ else none
          | none => none
        | _ => none
      | _, _ => none
    | .builtin .cap => match c.argTypes[0]?, evs F c.args.toList with
      | some t, some [.slice (some _) _ (k + 1)] => match P.underlying t with
        | some (.slice _) => some ⟨.int .i64 (k + 1 : Nat), H, lo, .pure⟩
        | _ => none
      | _, _ => none
    | _ => none
  | _ => none
def evOp (P : Program) (X : Ext) (C : Oracle) (draw : Bool) (F : Slots) (H : Heap) (lo : Nat) (o : Oper) : Option Out :=
  match evOp1 P X C draw F H lo o with
  | some r => some r
  | none => evX P F H lo o
theorem evOp_of1 {P : Program} {X : Ext} {C : Oracle} {draw : Bool} {F : Slots} {H : Heap} {lo : Nat} {o : Oper} {r : Out} (h : evOp1 P X C draw F H lo o = some r) : evOp P X C draw F H lo o = some r := by
  unfold evOp
  rw [h]
theorem evOp_eq1 {P : Program} {X : Ext} {C : Oracle} {draw : Bool} {F : Slots} {H : Heap} {lo : Nat} {o : Oper} (h : evX P F H lo o = none) : evOp P X C draw F H lo o = evOp1 P X C draw F H lo o := by
  unfold evOp
  cases evOp1 P X C draw F H lo o with
  | none => rw [h]
  | some r => rfl
theorem evOp_congr {P : Program} {X : Ext} {C D : Oracle} {draw : Bool} {F : Slots} {H : Heap} {lo : Nat} {o : Oper} (h : evOp1 P X C draw F H lo o = evOp1 P X D draw F H lo o) : evOp P X C draw F H lo o = evOp P X D draw F H lo o := by
  unfold evOp
  rw [h]
def putF (nt : Nat) (F : Slots) (dst : Option Tmp) (v : Value) : Slots :=
  match dst with
  | some d => match Nat.blt d nt with
    | true => (d, v) :: F
    | false => F
  | none => F
def wantedF (ops : List Oper) (F : Slots) (o : Oper) : Option Bool :=
  match o.guard with
  | none => some true
  | some (j, want) => match ops[j]? with
    | some oj => match oj.dst with
      | some d => match at? d F with
        | some (.bool b) => some (b == want)
        | some _ => some false
        | none => none
      | none => some false
    | none => some false
def evOps (P : Program) (X : Ext) (C : Oracle) (nt : Nat) (all : List Oper) : List Oper → Slots → Heap → Nat → Option (Slots × Heap × Nat)
  | [], F, H, lo => some (F, H, lo)
  | o :: rest, F, H, lo => match wantedF all F o with
    | some true => match evOp P X C false F H lo o with
      | some r => evOps P X C nt all rest (putF nt F o.dst r.v) r.H r.lo
      | none => none
    | some false => evOps P X C nt all rest (putF nt F o.dst undef) H lo
    | none => none
def masks (ops : List Oper) : List Nat :=
  ops.foldl (init := []) fun acc o => acc ++ [o.after.toList.foldl (fun s e => if Region.binds .any e then s ||| (2 ^ e.on) ||| acc.getD e.on 0 else s) 0]
def tmpOf : Operand → Option Tmp
  | .tmp t => some t
  | _ => none
def looks (ops : List Oper) (o : Oper) : List Tmp :=
  o.op.operands.toList.filterMap tmpOf ++ (match o.guard with
    | some (j, _) => ((ops[j]?).bind (·.dst)).toList
    | none => [])
def noSel (o : Oper) : Bool := match o.op with
  | .select .. => false
  | .defer .. => false
  | _ => true
def statOk (ops : List Oper) (ms : List Nat) : Bool :=
  (ops.zipIdx.all fun (o, i) => noSel o && o.after.toList.all fun e => !Region.binds .any e || e.on < i) &&
  (ops.zipIdx.all fun (o, i) => (ops.zipIdx.all fun (p, j) =>
    j ≤ i || ((match p.dst with
      | some d => (!(looks ops o).contains d && o.dst != some d) || (ms.getD j 0).testBit i
      | none => true) &&
     (match o.dst with
      | some d => !(looks ops p).contains d || (ms.getD j 0).testBit i
      | none => true))))
def selfLoad (ops : List Oper) (o : Oper) : Option Nat :=
  match o.op with
  | .store t (.tmp x) (.tmp y) =>
    match ops.zipIdx.findSome? fun (p, j) => match p.op, p.guard, p.dst with
      | .load u (.tmp z), none, some d => if u = t && z = x && d = y then some j else none
      | _, _, _ => none with
    | some j => if ops.zipIdx.all fun (p, k) => (k == j || p.dst != some y) && p.dst != some x then some j else none
    | none => none
  | _ => none
structure Rec where
  v : Value
  eff : Eff
  H : Heap
  lo : Nat
def nextWs (e : Eff) (n ws : Nat) : Nat := match e with
  | .write => n + 1
  | _ => ws
def adjust (all : List Oper) (o : Oper) (n ws : Nat) (H : Heap) (r : Out) : Rec :=
  match r.eff with
  | .write => match selfLoad all o with
    | some j => if ws ≤ j && j < n then ⟨r.v, .read, H, r.lo⟩ else ⟨r.v, r.eff, r.H, r.lo⟩
    | none => ⟨r.v, r.eff, r.H, r.lo⟩
  | _ => ⟨r.v, r.eff, r.H, r.lo⟩
def evRecs (P : Program) (X : Ext) (C : Oracle) (nt : Nat) (all : List Oper) : List Oper → Nat → Nat → Slots → Heap → Nat → Option (List Rec × Slots)
  | [], _, _, F, _, _ => some ([], F)
  | o :: rest, n, ws, F, H, lo => match wantedF all F o with
    | some true => match evOp P X C true F H lo o with
      | some r =>
        match adjust all o n ws H r with
        | ⟨v, eff, H', lo'⟩ => match evRecs P X C nt all rest (n + 1) (nextWs eff n ws) (putF nt F o.dst v) H' lo' with
          | some (rs, F) => some (⟨v, eff, H', lo'⟩ :: rs, F)
          | none => none
      | none => none
    | some false => match evRecs P X C nt all rest (n + 1) ws (putF nt F o.dst undef) H lo with
      | some (rs, F) => some (⟨undef, .pure, H, lo⟩ :: rs, F)
      | none => none
    | none => none
def dynOk (ms : List Nat) (rs : List Rec) : Bool :=
  rs.zipIdx.all fun (r, i) => match r.eff with
    | .write => rs.zipIdx.all fun (q, j) => match q.eff with
      | .pure => true
      | _ => i == j || (ms.getD (max i j) 0).testBit (min i j)
    | _ => true
def eqV : Nat → Value → Value → Bool
  | _, .bool a, .bool b => a == b
  | _, .int k a, .int k' b => eqK k k' && decide (a = b)
  | _, .string a, .string b => decide (a.data.toList = b.data.toList)
  | _, .pointer none, .pointer none => true
  | _, .pointer (some ⟨b, o, none⟩), .pointer (some ⟨b', o', none⟩) => Nat.beq b b' && Nat.beq o o'
  | _, .slice none a b, .slice none c d => Nat.beq a c && Nat.beq b d
  | _, .slice (some ⟨b, o, none⟩) l c, .slice (some ⟨b', o', none⟩) l' c' => Nat.beq b b' && (Nat.beq o o' && (Nat.beq l l' && Nat.beq c c'))
  | _, .slice (some ⟨b, o, some m⟩) 0 0, .slice (some ⟨b', o', some m'⟩) 0 0 => Nat.beq b b' && (Nat.beq o o' && Nat.beq m m')
  | _, .map none, .map none => true
  | _, .map (some a), .map (some b) => Nat.beq a b
  | _, .nilFunc, .nilFunc => true
  | _, .nilIface, .nilIface => true
  | n + 1, .iface t v, .iface u w => Nat.beq t u && eqV n v w
  | n + 1, .func (.func f) a b, .func (.func g) c d => Nat.beq f g && (eqVs (eqV n) a.toList c.toList && eqVs (eqV n) b.toList d.toList)
  | n + 1, .agg a, .agg b => eqVs (eqV n) a.toList b.toList
  | n + 1, .tuple a, .tuple b => eqVs (eqV n) a.toList b.toList
  | _, _, _ => false
where
  eqVs (f : Value → Value → Bool) : List Value → List Value → Bool
  | [], [] => true
  | a :: l, b :: m => f a b && eqVs f l m
  | _, _ => false
def dstAt (ops : List Oper) (i : Nat) : Option Tmp := (ops[i]?).bind (·.dst)
def recAt (rs : List Rec) (i : Nat) : Rec := (rs[i]?).getD ⟨undef, .pure, [], 0⟩
def slotsAt (nt : Nat) (F0 : Slots) (ops : List Oper) (rs : List Rec) : Nat → Slots
  | 0 => F0
  | i + 1 => putF nt (slotsAt nt F0 ops rs i) (dstAt ops i) (recAt rs i).v
def heapAt (H0 : Heap) (rs : List Rec) : Nat → Heap
  | 0 => H0
  | i + 1 => (recAt rs i).H
def loAt (lo0 : Nat) (rs : List Rec) : Nat → Nat
  | 0 => lo0
  | i + 1 => (recAt rs i).lo
def isRead (v : Value) : Option Out → Bool
  | some ⟨u, _, _, .read⟩ => eqV 6 u v
  | _ => false
def reread (P : Program) (X : Ext) (C : Oracle) (nt : Nat) (ops : List Oper) (F : Slots) (H : Heap) (lo : Nat) (rs : List Rec) (j k : Nat) : Bool :=
  match ops[j]? with
  | some o => (selfLoad ops o).isNone && (isRead (recAt rs j).v (evOp P X C true (slotsAt nt F ops rs j) (heapAt H rs k) lo o) && isRead (recAt rs j).v (evOp P X C true (slotsAt nt F ops rs j) (heapAt H rs (k + 1)) lo o))
  | none => false
def dynOk2 (P : Program) (X : Ext) (C : Oracle) (nt : Nat) (ops : List Oper) (F : Slots) (H : Heap) (lo : Nat) (ms : List Nat) (rs : List Rec) : Bool :=
  rs.zipIdx.all fun (r, i) => match r.eff with
    | .write => rs.zipIdx.all fun (q, j) => match q.eff with
      | .pure => true
      | .read => i == j || ((ms.getD (max i j) 0).testBit (min i j) || reread P X C nt ops F H lo rs j i)
      | .write => i == j || (ms.getD (max i j) 0).testBit (min i j)
    | _ => true
def evDraw1 (P : Program) (X : Ext) (C : Oracle) (nt : Nat) (ops : List Oper) (F : Slots) (H : Heap) (lo : Nat) : Option (Slots × Heap × Nat) :=
  match evRecs P X C nt ops ops 0 0 F H lo with
  | some (rs, F') => match dynOk (masks ops) rs || dynOk2 P X C nt ops F H lo (masks ops) rs with
    | true => match rs.getLast? with
      | some r => some (F', r.H, r.lo)
      | none => some (F', H, lo)
    | false => none
  | none => none
def mapAll {α β : Type} (f : α → Option β) : List α → Option (List β)
  | [] => some []
  | x :: xs => match f x with
    | some y => (mapAll f xs).map (y :: ·)
    | none => none
def ren0 (φ : Nat → Option Nat) : Value → Option Value
  | .pointer (some ⟨b, o, none⟩) => match φ b with
    | some c => some (.pointer (some ⟨c, o, none⟩))
    | none => none
  | .slice (some ⟨b, o, none⟩) l k => match φ b with
    | some c => some (.slice (some ⟨c, o, none⟩) l k)
    | none => none
  | .slice (some ⟨b, 0, some 0⟩) 0 0 => match φ b with
    | some c => some (.slice (some ⟨c, 0, some 0⟩) 0 0)
    | none => none
  | .slice (some ⟨b, o, some 1⟩) 0 0 => some (.slice (some ⟨b, o, some 1⟩) 0 0)
  | v => if isFlat v then some v else none
def ren (φ : Nat → Option Nat) : Nat → Value → Option Value
  | n + 1, .agg cs => match mapAll (ren φ n) cs.toList with
    | some l => some (.agg l.toArray)
    | none => none
  | n + 1, .tuple cs => match mapAll (ren φ n) cs.toList with
    | some l => some (.tuple l.toArray)
    | none => none
  | n + 1, .iface t v => match ren φ n v with
    | some v => some (.iface t v)
    | none => none
  | n + 1, .func f a b => match mapAll (ren φ n) a.toList with
    | some a => match mapAll (ren φ n) b.toList with
      | some b => some (.func f a.toArray b.toArray)
      | none => none
    | none => none
  | _, v => ren0 φ v
def renB (φ : Nat → Option Nat) (b : Blk) : Option Blk := match live b, mapAll (ren φ 3) b.cells with
  | true, some cs => some ⟨b.own, b.grown, cs⟩
  | _, _ => none
def refs : Nat → Value → List Nat
  | n + 1, .agg cs => cs.toList.flatMap (refs n)
  | n + 1, .tuple cs => cs.toList.flatMap (refs n)
  | n + 1, .iface _ v => refs n v
  | n + 1, .func _ a b => a.toList.flatMap (refs n) ++ b.toList.flatMap (refs n)
  | _, .pointer (some a) => [a.block]
  | _, .slice (some ⟨_, _, some 1⟩) _ _ => []
  | _, .slice (some a) _ _ => [a.block]
  | _, _ => []
def addN (l : List Nat) : List Nat → List Nat
  | [] => l
  | x :: xs => match l.contains x with
    | true => addN l xs
    | false => addN (l ++ [x]) xs
def cellRefs (H : Heap) (b : Nat) : List Nat := match H[b]? with
  | some blk => blk.cells.flatMap (refs 3)
  | none => []
def reach (H : Heap) : Nat → List Nat → List Nat
  | 0, l => l
  | n + 1, l => match addN l (l.flatMap (cellRefs H)) with
    | l' => match Nat.beq l'.length l.length with
      | true => l
      | false => reach H n l'
def pos (b : Nat) : List Nat → Option Nat
  | [] => none
  | x :: l => match Nat.beq x b with
    | true => some 0
    | false => match pos b l with
      | some i => some (i + 1)
      | none => none
def nodupB : List Nat → Bool
  | [] => true
  | x :: l => !l.contains x && nodupB l
def renA (φ : Nat → Option Nat) (b : Blk) : Option Blk := match mapAll (ren φ 3) b.cells with
  | some cs => some ⟨b.own, b.grown, cs⟩
  | none => none
def gcN (K : Nat) (sel : List Nat) (b : Nat) : Option Nat := match Nat.blt b K with
  | true => some b
  | false => match pos b sel with
    | some j => some (K + j)
    | none => none
def renF (φ : Nat → Option Nat) : Slots → Option Slots
  | [] => some []
  | (t, v) :: F => match ren φ 3 v with
    | some u => match renF φ F with
      | some l => some ((t, u) :: l)
      | none => none
    | none => none
def pickF (F : Slots) : List Nat → Slots
  | [] => []
  | t :: ks => match at? t F with
    | some v => (t, v) :: pickF F ks
    | none => pickF F ks
def eqB (a b : Blk) : Bool := (a.own == b.own) && ((match a.grown, b.grown with
  | none, none => true
  | some x, some y => Nat.beq x y
  | _, _ => false) && eqV.eqVs (eqV 6) a.cells b.cells)
def eqH : Heap → Heap → Bool
  | [], [] => true
  | a :: l, b :: m => eqB a b && eqH l m
  | _, _ => false
def subF (G : Slots) : Slots → Bool
  | [] => true
  | (t, v) :: F => (match at? t G with
    | some u => eqV 6 v u
    | none => false) && subF G F
def rdy (ops : List Oper) (done : List Bool) (i : Nat) : Bool := match done.getD i true with
  | true => false
  | false => match ops[i]? with
    | some o => o.after.toList.all fun e => !Region.binds .any e || done.getD e.on false
    | none => false
structure St where
  F : Slots
  H : Heap
  lo : Nat
def canon (K : Nat) (ks : List Nat) (s : St) : Option St :=
  match pickF s.F ks with
  | F => match addN [] ((F.flatMap fun p => refs 3 p.2) ++ (s.H.take K).flatMap fun b => b.cells.flatMap (refs 3)) with
    | l0 => match (reach s.H s.H.length l0).filter fun b => Nat.ble K b with
      | sel => match nodupB sel && (sel.all (fun b => Nat.blt b s.H.length) && Nat.ble K s.H.length) with
        | true => match renF (gcN K sel) F, mapAll (renA (gcN K sel)) (s.H.take K), mapAll (fun i => match s.H[i]? with
            | some b => renA (gcN K sel) b
            | none => none) sel with
          | some F2, some olds, some news => forceL (olds ++ news) fun H2 => some ⟨F2, H2, s.lo⟩
          | _, _, _ => none
        | false => none
def stepP (P : Program) (X : Ext) (C : Oracle) (nt : Nat) (ops : List Oper) (s : St) (o : Oper) : Option St := match wantedF ops s.F o with
  | some true => match evOp P X C true s.F s.H s.lo o with
    | some r => forceL (putF nt s.F o.dst r.v) fun F => forceL r.H fun H => some ⟨F, H, r.lo⟩
    | none => none
  | some false => some ⟨putF nt s.F o.dst undef, s.H, s.lo⟩
  | none => none
def gather {α : Type} (f : Nat → Option (List α)) : List Nat → Option (List α)
  | [] => some []
  | i :: l => match f i with
    | some a => match gather f l with
      | some b => some (a ++ b)
      | none => none
    | none => none
def evPerm (P : Program) (X : Ext) (C : Oracle) (nt : Nat) (ops : List Oper) : Nat → List Bool → St → Option (List St)
  | 0, _, s => some [s]
  | n + 1, done, s => match gather (fun i => match rdy ops done i with
      | true => match ops[i]? with
        | some o => match stepP P X C nt ops s o with
          | some s1 => evPerm P X C nt ops n (done.set i true) s1
          | none => none
        | none => none
      | false => some []) (List.range ops.length) with
    | some (x :: R) => some (x :: R)
    | _ => none
def evDraw2 (P : Program) (X : Ext) (C : Oracle) (nt : Nat) (ops : List Oper) (F : Slots) (H : Heap) (lo : Nat) : Option (Slots × Heap × Nat) :=
  match evPerm P X C nt ops ops.length (List.replicate ops.length false) ⟨F, H, lo⟩ with
  | some (s :: L) => match Nat.ble s.lo lo && L.all fun s' => eqH s.H s'.H && (Nat.beq s.lo s'.lo && subF s'.F s.F) with
    | true => some (s.F, s.H, s.lo)
    | false => none
  | _ => none
def eqD : List Bool → List Bool → Bool
  | [], [] => true
  | a :: l, b :: m => (a == b) && eqD l m
  | _, _ => false
def insS (d : List Bool) (s : St) : List (List Bool × St) → List (List Bool × St)
  | [] => [(d, s)]
  | (d', s') :: L => match eqD d d' && (Nat.beq s.lo s'.lo && (eqH s.H s'.H && subF s.F s'.F)) with
    | true => (d', s') :: L
    | false => (d', s') :: insS d s L
def expand1 (P : Program) (X : Ext) (C : Oracle) (nt : Nat) (ops : List Oper) (K : Nat) (ks : List Nat) (d : List Bool) (s : St) : List Nat → List (List Bool × St) → Option (List (List Bool × St))
  | [], acc => some acc
  | i :: is, acc => match rdy ops d i with
    | true => match ops[i]? with
      | some o => match stepP P X C nt ops s o with
        | some s1 => match canon K ks s1 with
          | some s2 => expand1 P X C nt ops K ks d s is (insS (d.set i true) s2 acc)
          | none => none
        | none => none
      | none => none
    | false => expand1 P X C nt ops K ks d s is acc
def expand (P : Program) (X : Ext) (C : Oracle) (nt : Nat) (ops : List Oper) (K : Nat) (ks : List Nat) : List (List Bool × St) → List (List Bool × St) → Option (List (List Bool × St))
  | [], acc => some acc
  | (d, s) :: L, acc => match (List.range ops.length).any (rdy ops d) with
    | true => match expand1 P X C nt ops K ks d s (List.range ops.length) acc with
      | some acc => expand P X C nt ops K ks L acc
      | none => none
    | false => none
def layers (P : Program) (X : Ext) (C : Oracle) (nt : Nat) (ops : List Oper) (K : Nat) (ks : List Nat) : Nat → List (List Bool × St) → Option (List (List Bool × St))
  | 0, L => some L
  | n + 1, L => match expand P X C nt ops K ks L [] with
    | some L => layers P X C nt ops K ks n L
    | none => none
def slotsOf : Slots → List Nat
  | [] => []
  | (t, _) :: F => match (slotsOf F).contains t with
    | true => slotsOf F
    | false => t :: slotsOf F
def evDraw3 (P : Program) (X : Ext) (C : Oracle) (nt : Nat) (ops : List Oper) (F : Slots) (H : Heap) (lo : Nat) : Option (Slots × Heap × Nat) :=
  match layers P X C nt ops H.length (addN (slotsOf F) (ops.filterMap (·.dst))) ops.length [(List.replicate ops.length false, ⟨F, H, lo⟩)] with
  | some [(_, s)] => match Nat.ble s.lo lo with
    | true => some (s.F, s.H, s.lo)
    | false => none
  | _ => none
def evLook (P : Program) (F : Slots) (H : Heap) (o : Oper) : Option Value := match o.guard with
  | some _ => none
  | none => match o.op with
    | .move x => ev F x
    | .assign x => ev F x
    | .nilCheck x => match ev F x with
      | some (.pointer (some a)) => some (.pointer (some a))
      | _ => none
    | .fieldAddr s x f => match ev F x, P.underlying s with
      | some (.pointer (some a)), some (.struct fs) => match fs[f]? with
        | some fd => match sizeT P fd.type with
          | some n => if n = 0 then none else some (.pointer (some (a.add fd.offset)))
          | none => none
        | none => none
      | _, _ => none
    | .extract x i => match ev F x with
      | some (.tuple vs) => vs.toList[i]?
      | _ => none
    | .load t x => match ev F x with
      | some (.pointer (some a)) => loadV P H t a
      | _ => none
    | _ => none
abbrev RowE := Option Nat × List Nat × List Nat
def befE (o : Oper) : List Nat := (o.after.toList.filter fun e => Region.binds .any e).map (·.on)
def rowsE {β : Type} (ops : List Oper) : List Oper → (List RowE → β) → β
  | [], k => k []
  | o :: l, k => forceL (looks ops o) fun lk => forceL (befE o) fun bf => rowsE ops l fun rs => k ((o.dst, lk, bf) :: rs)
def memN (x : Nat) : List Nat → Bool
  | [] => false
  | y :: l => match Nat.beq x y with
    | true => true
    | false => memN x l
def pairE (i : Nat) (r : RowE) (j : Nat) (q : RowE) : Bool := match Nat.beq i j || (memN j r.2.2 || memN i q.2.2) with
  | true => true
  | false => (match r.1 with
    | some d => !memN d q.2.1 && (match q.1 with
      | some e => !Nat.beq d e
      | none => true)
    | none => true) && (match q.1 with
    | some e => !memN e r.2.1
    | none => true)
def freeR (i : Nat) (r : RowE) : Nat → List RowE → Bool
  | _, [] => true
  | j, q :: l => match pairE i r j q with
    | true => freeR i r (j + 1) l
    | false => false
def isLook (o : Oper) : Bool := match o.guard with
  | some _ => false
  | none => match o.op with
    | .move _ | .assign _ | .nilCheck _ | .fieldAddr .. | .extract .. | .load .. => true
    | _ => false
def looksE (rows : List RowE) : Nat → List Oper → List RowE → List Bool
  | i, o :: l, r :: rs => match isLook o && freeR i r 0 rows with
    | true => true :: looksE rows (i + 1) l rs
    | false => false :: looksE rows (i + 1) l rs
  | _, _, _ => []
def satE (P : Program) (nt : Nat) (ops : List Oper) (fr : List Bool) (H : Heap) : List Nat → List Bool → Slots → List Bool × Slots
  | [], d, F => (d, F)
  | i :: is, d, F => match rdy ops d i && fr.getD i false with
    | true => match ops[i]? with
      | some o => match evLook P F H o with
        | some v => satE P nt ops fr H is (d.set i true) (putF nt F o.dst v)
        | none => satE P nt ops fr H is d F
      | none => satE P nt ops fr H is d F
    | false => satE P nt ops fr H is d F
def expE1 (P : Program) (X : Ext) (C : Oracle) (nt : Nat) (ops : List Oper) (fr : List Bool) (H0 : Heap) (ks : List Nat) (d : List Bool) (s : St) : List Nat → List (List Bool × St) → Option (List (List Bool × St))
  | [], acc => some acc
  | i :: is, acc => match rdy ops d i with
    | true => match ops[i]? with
      | some o => match stepP P X C nt ops s o with
        | some s1 => match satE P nt ops fr H0 (List.range ops.length) (d.set i true) s1.F with
          | (d2, F2) => match canon H0.length ks ⟨F2, s1.H, s1.lo⟩ with
            | some s2 => match Nat.beq s2.lo H0.length with
              | true => expE1 P X C nt ops fr H0 ks d s is (insS d2 s2 acc)
              | false => none
            | none => none
        | none => none
      | none => none
    | false => expE1 P X C nt ops fr H0 ks d s is acc
def expE (P : Program) (X : Ext) (C : Oracle) (nt : Nat) (ops : List Oper) (fr : List Bool) (H0 : Heap) (ks : List Nat) : List (List Bool × St) → List (List Bool × St) → Option (List (List Bool × St))
  | [], acc => some acc
  | (d, s) :: L, acc => match (List.range ops.length).any (rdy ops d) with
    | true => match expE1 P X C nt ops fr H0 ks d s (List.range ops.length) acc with
      | some acc => expE P X C nt ops fr H0 ks L acc
      | none => none
    | false => none
def layersE (P : Program) (X : Ext) (C : Oracle) (nt : Nat) (ops : List Oper) (fr : List Bool) (H0 : Heap) (ks : List Nat) : Nat → List (List Bool × St) → Option (List (List Bool × St))
  | 0, L => some L
  | n + 1, L => match L.all fun p => p.1.all id with
    | true => some L
    | false => match expE P X C nt ops fr H0 ks L [] with
      | some L => layersE P X C nt ops fr H0 ks n L
      | none => none
def evDraw4 (P : Program) (X : Ext) (C : Oracle) (nt : Nat) (ops : List Oper) (F : Slots) (H : Heap) (lo : Nat) : Option (Slots × Heap × Nat) :=
  rowsE ops ops fun rows => forceL (looksE rows 0 ops rows) fun fr => match satE P nt ops fr H (List.range ops.length) (List.replicate ops.length false) F with
    | (d, F1) => match layersE P X C nt ops fr H (addN (slotsOf F) (ops.filterMap (·.dst))) ops.length [(d, ⟨F1, H, H.length⟩)] with
      | some [(d2, s)] => match d2.all id && Region.noSelect ops.toArray with
        | true => some (s.F, s.H, min lo H.length)
        | false => none
      | _ => none
def evDraw (P : Program) (X : Ext) (C : Oracle) (nt : Nat) (ops : List Oper) (F : Slots) (H : Heap) (lo : Nat) : Option (Slots × Heap × Nat) :=
  match evDraw1 P X C nt ops F H lo with
  | some r => some r
  | none => match evDraw4 P X C nt ops F H lo with
    | some r => some r
    | none => evDraw3 P X C nt ops F H lo
theorem evDraw_of1 {P : Program} {X : Ext} {C : Oracle} {nt : Nat} {ops : List Oper} {F : Slots} {H : Heap} {lo : Nat} {r : Slots × Heap × Nat} (h : evDraw1 P X C nt ops F H lo = some r) : evDraw P X C nt ops F H lo = some r := by
  unfold evDraw
  rw [h]
def codeOk : Code → Bool
  | .region _ ops draw => ops.toList.all noSel && (!draw || statOk ops.toList (masks ops.toList))
  | .seq a b => codeOk a && codeOk b
  | .cond _ a b => codeOk a && codeOk b
  | .block _ b => codeOk b
  | .loop b => codeOk b
  | .rangeFunc _ _ a b => codeOk a && codeOk b
  | .scope b => codeOk b
  | _ => true
inductive Ex where
  | normal | exit (id : Nat) | ret
def forget (F : Slots) : List Nat → Slots
  | [] => []
  | t :: ts => match at? t F with
    | some v => (t, v) :: forget F ts
    | none => forget F ts
def keysOf : Slots → List Nat
  | [] => []
  | (u, _) :: F => match (keysOf F).contains u with
    | true => keysOf F
    | false => u :: keysOf F
def iter : Nat → (St → Option (Ex × St)) → List Nat → St → Option (Ex × St)
  | 0, _, _, _ => none
  | n + 1, body, m, s => match body s with
    | some (.normal, s) => iter n body m ⟨forget s.F m, s.H, s.lo⟩
    | r => r
def evCode (P : Program) (X : Ext) (C : Oracle) (N nt : Nat) : Code → St → Option (Ex × St)
  | .skip, s => some (.normal, s)
  | .label _, s => some (.normal, s)
  | .region _ ops draw, s =>
    match (match draw with
      | true => evDraw P X C nt ops.toList s.F s.H s.lo
      | false => evOps P X C nt ops.toList ops.toList s.F s.H s.lo) with
    | some (F, H, lo) => some (.normal, ⟨F, H, lo⟩)
    | none => none
  | .seq a b, s => match evCode P X C N nt a s with
    | some (.normal, s) => evCode P X C N nt b s
    | r => r
  | .cond c x y, s => match ev s.F c with
    | some (.bool true) => evCode P X C N nt x s
    | some (.bool false) => evCode P X C N nt y s
    | _ => none
  | .block id b, s => match evCode P X C N nt b s with
    | some (.exit i, s) => if i = id then some (.normal, s) else some (.exit i, s)
    | r => r
  | .loop b, s => iter N (evCode P X C N nt b) (keysOf s.F) s
  | .exit id, s => some (.exit id, s)
  | .ret, s => some (.ret, s)
  | _, _ => none
def evResult (P : Program) (F : Slots) (H : Heap) : ResultVar → Option Value
  | .tmp t => at? t F
  | .cell a t => match at? a F with
    | some (.pointer (some a)) => loadV P H t a
    | _ => none
def evResults (P : Program) (fn : Func) (F : Slots) (H : Heap) : Option Value :=
  match mapAll (evResult P F H) fn.results.toList with
  | some [v] => some v
  | some vs => some (.tuple vs.toArray)
  | none => none
def start : Nat → List Value → Slots
  | _, [] => []
  | i, v :: vs => (i, v) :: start (i + 1) vs
def isOdd (f : FuncId) : Bool := Nat.beq f 198
def fnBody (f : FuncId) (fn : Func) : Option Code := match isOdd f with
  | true => none
  | false => fn.body
theorem fnBody_eq {f : FuncId} {fn : Func} {c : Code} (h : fnBody f fn = some c) : isOdd f = false ∧ fn.body = some c := by
  unfold fnBody at h
  split at h
  · simp at h
  · rename_i h1
    exact ⟨h1, h⟩
def evFn (P : Program) (X : Ext) (N : Nat) (C : Oracle) : Oracle := fun f args H =>
  match P.funcs[f]? with
  | some fn => match fnBody f fn with
    | some c => match evCode P X C N (max args.length fn.ntmps) c ⟨start 0 args, H, H.length⟩ with
      | some (.normal, s) | some (.ret, s) => (evResults P fn s.F s.H).map fun v => (v, s.H, s.lo)
      | _ => none
    | none => none
  | none => none
def evAll (P : Program) (X : Ext) (N : Nat) : Nat → Oracle
  | 0 => fun _ _ _ => none
  | n + 1 => evFn P X N (evAll P X N n)
end Go.Proofs.YtpgmabpaiijipaaGreatDoor.Den
namespace Go.Proofs.YtpgmabpaiijipaaGreatDoor.Den
open Go
structure Ent where
  r : Nat
  d : Nat
  k : Nat
abbrev Rho := List Ent
inductive VR (ρ : Rho) : Value → Value → Prop
  | flat {v : Value} (h : isFlat v = true) : VR ρ v v
  | ptr {b o : Nat} {e : Ent} (h : ρ[b]? = some e) : VR ρ (.pointer (some ⟨b, o, none⟩)) (.pointer (some ⟨e.r, e.d + o, none⟩))
  | slice {b o l c : Nat} {e : Ent} (h : ρ[b]? = some e) (hl : l ≤ c) : VR ρ (.slice (some ⟨b, o, none⟩) l c) (.slice (some ⟨e.r, e.d + o, none⟩) l c)
  | sliceU {b l : Nat} {e : Ent} (h : ρ[b]? = some e) (h0 : 0 < l) (hl : l ≤ e.k) : VR ρ (.slice (some ⟨b, 0, none⟩) l 0) (.slice (some ⟨e.r, e.d, none⟩) l e.k)
  | sliceV {b : Nat} {e : Ent} (h : ρ[b]? = some e) : VR ρ (.slice (some ⟨b, 0, some 0⟩) 0 0) (.slice (some ⟨e.r, e.d, none⟩) 0 e.k)
  | gone {b o c : Nat} {a : Addr} : VR ρ (.slice (some ⟨b, o, some 1⟩) 0 0) (.slice (some a) 0 c)
  | map {b : Nat} {e : Ent} (h : ρ[b]? = some e) : VR ρ (.map (some b)) (.map (some e.r))
  | agg {cs cs' : Array Value} (hn : cs.size = cs'.size) (h : ∀ (i : Nat) (v v' : Value), cs[i]? = some v → cs'[i]? = some v' → VR ρ v v') : VR ρ (.agg cs) (.agg cs')
  | tuple {cs cs' : Array Value} (hn : cs.size = cs'.size) (h : ∀ (i : Nat) (v v' : Value), cs[i]? = some v → cs'[i]? = some v' → VR ρ v v') : VR ρ (.tuple cs) (.tuple cs')
  | iface {t : TypeId} {v v' : Value} (h : VR ρ v v') : VR ρ (.iface t v) (.iface t v')
  | func {fn : Fn} {a a' b b' : Array Value} (ha : a.size = a'.size) (h : ∀ (i : Nat) (v v' : Value), a[i]? = some v → a'[i]? = some v' → VR ρ v v')
      (hb : b.size = b'.size) (h2 : ∀ (i : Nat) (v v' : Value), b[i]? = some v → b'[i]? = some v' → VR ρ v v') : VR ρ (.func fn a b) (.func fn a' b')
def VRs (ρ : Rho) (l l' : List Value) : Prop := l.length = l'.length ∧ ∀ (i : Nat) (v v' : Value), l[i]? = some v → l'[i]? = some v' → VR ρ v v'
theorem prefix_get {ρ ρ' : Rho} (h : ρ <+: ρ') {i : Nat} {e : Ent} (hi : ρ[i]? = some e) : ρ'[i]? = some e := by
  obtain ⟨t, rfl⟩ := h
  rw [List.getElem?_append_left (List.getElem?_eq_some_iff.1 hi).1]; exact hi
theorem VR.mono {ρ ρ' : Rho} (hp : ρ <+: ρ') {v v' : Value} (h : VR ρ v v') : VR ρ' v v' := by
  induction h with
  | flat h => exact .flat h
  | ptr h => exact .ptr (prefix_get hp h)
  | slice h hl => exact .slice (prefix_get hp h) hl
  | sliceU h h0 hl => exact .sliceU (prefix_get hp h) h0 hl
  | sliceV h => exact .sliceV (prefix_get hp h)
  | gone => exact .gone
  | map h => exact .map (prefix_get hp h)
  | agg hn _ ih => exact .agg hn ih
  | tuple hn _ ih => exact .tuple hn ih
  | iface _ ih => exact .iface ih
  | func ha _ hb _ ih ih2 => exact .func ha ih hb ih2
theorem VRs.mono {ρ ρ' : Rho} (hp : ρ <+: ρ') {l l' : List Value} (h : VRs ρ l l') : VRs ρ' l l' :=
  ⟨h.1, fun i v v' a b => (h.2 i v v' a b).mono hp⟩
theorem isFlat_eq {ρ : Rho} {v v' : Value} (hf : isFlat v = true) (h : VR ρ v v') : v' = v := by
  cases h <;> first | rfl | simp [isFlat] at hf
theorem get_all {l : List Value} {p : Value → Bool} (h : l.all p = true) {i : Nat} {v : Value} (hi : l[i]? = some v) : p v = true :=
  List.all_eq_true.1 h v (List.mem_of_getElem? hi)
theorem arr_get_all {l : Array Value} {p : Value → Bool} (h : l.toList.all p = true) {i : Nat} {v : Value} (hi : l[i]? = some v) : p v = true :=
  get_all (i := i) h (by rw [← hi]; simp)
theorem pf_self {ρ : Rho} : ∀ (n : Nat) (v : Value), pf n v = true → VR ρ v v := by
  intro n
  induction n with
  | zero => intro v h; exact .flat (by simpa [pf] using h)
  | succ n ih =>
    intro v h
    cases v with
    | agg cs =>
      simp only [pf] at h
      exact .agg rfl fun i v v' a b => by rw [a] at b; cases b; exact ih _ (arr_get_all h a)
    | tuple cs =>
      simp only [pf] at h
      exact .tuple rfl fun i v v' a b => by rw [a] at b; cases b; exact ih _ (arr_get_all h a)
    | iface t x => simp only [pf] at h; exact .iface (ih _ h)
    | func fn x y =>
      simp only [pf, Bool.and_eq_true] at h
      exact .func rfl (fun i v v' a b => by rw [a] at b; cases b; exact ih _ (arr_get_all h.1 a)) rfl (fun i v v' a b => by rw [a] at b; cases b; exact ih _ (arr_get_all h.2 a))
    | _ => exact .flat (by simpa [pf] using h)
theorem arr_ext {a b : Array Value} (hn : a.size = b.size) (h : ∀ (i : Nat) (v v' : Value), a[i]? = some v → b[i]? = some v' → v' = v) : b = a := by
  refine Array.ext hn.symm fun i h1 h2 => ?_
  exact h i _ _ (Array.getElem?_eq_getElem h2) (Array.getElem?_eq_getElem h1)
theorem pf_eq {ρ : Rho} : ∀ (n : Nat) (v v' : Value), pf n v = true → VR ρ v v' → v' = v := by
  intro n
  induction n with
  | zero => intro v v' h hv; exact isFlat_eq (by simpa [pf] using h) hv
  | succ n ih =>
    intro v v' h hv
    cases hv with
    | flat _ => rfl
    | ptr _ => simp [pf, isFlat] at h
    | slice _ _ => simp [pf, isFlat] at h
    | sliceU _ _ _ => simp [pf, isFlat] at h
    | sliceV _ => simp [pf, isFlat] at h
    | gone => simp [pf, isFlat] at h
    | map _ => simp [pf, isFlat] at h
    | agg hn hh => simp only [pf] at h; rw [arr_ext hn fun i v v' a b => ih _ _ (arr_get_all h a) (hh i v v' a b)]
    | tuple hn hh => simp only [pf] at h; rw [arr_ext hn fun i v v' a b => ih _ _ (arr_get_all h a) (hh i v v' a b)]
    | iface hh => simp only [pf] at h; rw [ih _ _ h hh]
    | func ha h1 hb h2 =>
      simp only [pf, Bool.and_eq_true] at h
      rw [arr_ext ha fun i v v' a b => ih _ _ (arr_get_all h.1 a) (h1 i v v' a b), arr_ext hb fun i v v' a b => ih _ _ (arr_get_all h.2 a) (h2 i v v' a b)]
theorem VR.oneCell {ρ : Rho} {v v' : Value} (h : VR ρ v v') : oneCell v' = oneCell v := by cases h <;> rfl
def RowR (ρ : Rho) (w : World) (e : Ent) (b : Blk) : Prop :=
  ∃ c el fz, w.heap[e.r]? = some (.cells c el fz) ∧ (∀ (i : Nat) (v : Value), b.cells[i]? = some v → oneCell v = true ∧ ∃ v', c[e.d + i]? = some v' ∧ VR ρ v v') ∧
    (b.own = true → fz = (0, 0)) ∧ (∀ sz, b.grown = some sz → e.d = 0 ∧ c.size = e.k * sz)
def ObjOf (ρ : Rho) (e : Ent) (cells : List Value) : Obj → Prop
  | .map es _ => ∃ kvs, cells = .nilFunc :: kvs ∧ VRs ρ kvs (es.toList.flatMap fun x => [x.key, x.val])
  | .stringIter s pos => e.d = 0 ∧ cells = [.string s, .int .i64 pos]
  | _ => False
theorem ObjOf.ne {ρ : Rho} {e : Ent} {cells : List Value} {o : Obj} (h : ObjOf ρ e cells o) : cells ≠ [] := by
  rintro rfl
  cases o <;> simp [ObjOf] at h
theorem ObjOf.mono {ρ ρ' : Rho} (hp : ρ <+: ρ') {e : Ent} {cells : List Value} {o : Obj} (h : ObjOf ρ e cells o) : ObjOf ρ' e cells o := by
  cases o <;> first
    | exact h.elim
    | exact h
    | (obtain ⟨kvs, h1, h2⟩ := h; exact ⟨kvs, h1, h2.mono hp⟩)
def BR (ρ : Rho) (w : World) (e : Ent) (b : Blk) : Prop := (live b = true ∧ RowR ρ w e b) ∨ (live b = false ∧ ∃ o, w.heap[e.r]? = some o ∧ ObjOf ρ e b.cells o)
theorem BR.row {ρ : Rho} {w : World} {e : Ent} {b : Blk} (h : BR ρ w e b) (hl : live b = true) : RowR ρ w e b := by
  rcases h with h | h
  · exact h.2
  · rw [hl] at h; cases h.1
theorem BR.rowe {ρ : Rho} {w : World} {e : Ent} {b : Blk} (h : BR ρ w e b) (hl : b.cells = []) : live b = true ∧ RowR ρ w e b := by
  rcases h with h | ⟨_, o, _, h2⟩
  · exact h
  · exact (h2.ne hl).elim
theorem BR.lt {ρ : Rho} {w : World} {e : Ent} {b : Blk} (h : BR ρ w e b) : e.r < w.heap.size := by
  rcases h with ⟨_, c, el, fz, h1, _⟩ | ⟨_, o, h1, _⟩
  · exact (Array.getElem?_eq_some_iff.1 h1).1
  · exact (Array.getElem?_eq_some_iff.1 h1).1
theorem BR.at {ρ : Rho} {w w' : World} {e : Ent} {b : Blk} (h : BR ρ w e b) (hk : w'.heap[e.r]? = w.heap[e.r]?) : BR ρ w' e b := by
  rcases h with ⟨h0, c, el, fz, h1, h2⟩ | ⟨h0, o, h1, h2⟩
  · exact .inl ⟨h0, c, el, fz, by rw [hk]; exact h1, h2⟩
  · exact .inr ⟨h0, o, by rw [hk]; exact h1, h2⟩
def Tabs (w : World) : Prop :=
  (∀ c, c < 256 → w.cell? ⟨0, c, none⟩ = some (.int .u8 (Lib.firstT c))) ∧
  (∀ i, i < 16 → w.cell? ⟨1, 2 * i, none⟩ = some (.int .u8 (Lib.accLo i)) ∧ w.cell? ⟨1, 2 * i + 1, none⟩ = some (.int .u8 (Lib.accHi i)))
theorem Tabs.keep {w w' : World} (h : Tabs w) (h0 : w'.heap[0]? = w.heap[0]?) (h1 : w'.heap[1]? = w.heap[1]?) : Tabs w' := by
  have c0 : ∀ c : Nat, w'.cell? ⟨0, c, none⟩ = w.cell? ⟨0, c, none⟩ := fun c => by simp only [World.cell?, h0]
  have c1 : ∀ c : Nat, w'.cell? ⟨1, c, none⟩ = w.cell? ⟨1, c, none⟩ := fun c => by simp only [World.cell?, h1]
  exact ⟨fun c hc => (c0 c).trans (h.1 c hc), fun i hi => ⟨(c1 _).trans (h.2 i hi).1, (c1 _).trans (h.2 i hi).2⟩⟩
theorem Tabs.size {w : World} (h : Tabs w) : 1 < w.heap.size := by
  rcases Nat.lt_or_ge 1 w.heap.size with h' | h'
  · exact h'
  · have := (h.2 0 (by omega)).1
    simp [World.cell?, Array.getElem?_eq_none h'] at this
structure Gl (ρ : Rho) (H : Heap) (w : World) : Prop where
  tabs : Tabs w
  away : ∀ (i : Nat) (e : Ent) (b : Blk), ρ[i]? = some e → H[i]? = some b → b.own = true → e.r ≠ 0 ∧ e.r ≠ 1
structure SR0 (ρ : Rho) (H : Heap) (w : World) : Prop where
  len : ρ.length = H.length
  blk : ∀ (i : Nat) (e : Ent) (b : Blk), ρ[i]? = some e → H[i]? = some b → BR ρ w e b
  inj : ∀ (i j : Nat) (e e' : Ent) (b b' : Blk), i ≠ j → ρ[i]? = some e → ρ[j]? = some e' → H[i]? = some b → H[j]? = some b' → b.own = true → b'.cells ≠ [] → e.r ≠ e'.r
structure SR (ρ : Rho) (H : Heap) (w : World) : Prop extends SR0 ρ H w where
  gl : Gl ρ H w
structure Quiet (w w' : World) : Prop where
  os : w'.os = w.os
  tape : w'.tape = w.tape
  output : w'.output = w.output
  size : w.heap.size ≤ w'.heap.size
  keep : ∀ k, k < w.heap.size → w'.heap[k]? = w.heap[k]?
theorem Quiet.refl (w : World) : Quiet w w := ⟨rfl, rfl, rfl, Nat.le_refl _, fun _ _ => rfl⟩
theorem Quiet.trans {a b c : World} (h : Quiet a b) (k : Quiet b c) : Quiet a c :=
  ⟨k.os.trans h.os, k.tape.trans h.tape, k.output.trans h.output, Nat.le_trans h.size k.size,
   fun i hi => (k.keep i (Nat.lt_of_lt_of_le hi h.size)).trans (h.keep i hi)⟩
theorem BR.quiet {ρ : Rho} {w w' : World} {e : Ent} {b : Blk} (h : BR ρ w e b) (q : Quiet w w') : BR ρ w' e b := h.at (q.keep e.r h.lt)
theorem BR.mono {ρ ρ' : Rho} (hp : ρ <+: ρ') {w : World} {e : Ent} {b : Blk} (h : BR ρ w e b) : BR ρ' w e b := by
  rcases h with ⟨h0, c, el, fz, h1, h2, h3⟩ | ⟨h0, o, h1, h2⟩
  · exact .inl ⟨h0, c, el, fz, h1, fun i v hv => let ⟨o, v', a, b⟩ := h2 i v hv; ⟨o, v', a, b.mono hp⟩, h3⟩
  · exact .inr ⟨h0, o, h1, h2.mono hp⟩
theorem SR.quiet {ρ : Rho} {H : Heap} {w w' : World} (h : SR ρ H w) (q : Quiet w w') : SR ρ H w' :=
  ⟨⟨h.len, fun i e b a c => (h.blk i e b a c).quiet q, h.inj⟩, h.gl.tabs.keep (q.keep 0 (by have := h.gl.tabs.size; omega)) (q.keep 1 h.gl.tabs.size), h.gl.away⟩
structure Rel (ρ0 : Rho) (H0 : Heap) (w0 : World) (ρ : Rho) (H : Heap) (lo : Nat) (w : World) : Prop where
  gl0 : Gl ρ0 H0 w0
  len0 : ρ0.length = H0.length
  pre : ρ0 <+: ρ
  sr0 : SR0 ρ H w
  len : H0.length ≤ H.length
  own : ∀ (i : Nat) (b : Blk), i < H0.length → H[i]? = some b → b.own = true → ∃ b0, H0[i]? = some b0 ∧ b0.own = true
  new : ∀ (i : Nat) (e : Ent), H0.length ≤ i → ρ[i]? = some e → w0.heap.size ≤ e.r ∨ ∃ (j : Nat) (e0 : Ent) (b0 : Blk), ρ0[j]? = some e0 ∧ H0[j]? = some b0 ∧ b0.own = true ∧ lo ≤ j ∧ e0.r = e.r
  os : w.os = w0.os
  tape : w.tape = w0.tape
  output : w.output = w0.output
  size : w0.heap.size ≤ w.heap.size
  keep : ∀ k, k < w0.heap.size → (∀ (j : Nat) (e0 : Ent) (b0 : Blk), ρ0[j]? = some e0 → H0[j]? = some b0 → b0.own = true → lo ≤ j → e0.r ≠ k) → w.heap[k]? = w0.heap[k]?
theorem Rel.sr {ρ0 : Rho} {H0 : Heap} {w0 : World} {ρ : Rho} {H : Heap} {lo : Nat} {w : World} (h : Rel ρ0 H0 w0 ρ H lo w) : SR ρ H w := by
  refine ⟨h.sr0, ?_, ?_⟩
  · have hs := h.gl0.tabs.size
    exact h.gl0.tabs.keep (h.keep 0 (by omega) fun j e0 b0 a b c _ => (h.gl0.away j e0 b0 a b c).1) (h.keep 1 hs fun j e0 b0 a b c _ => (h.gl0.away j e0 b0 a b c).2)
  · intro i e b hi hb ho
    have hs := h.gl0.tabs.size
    by_cases hlt : i < H0.length
    · obtain ⟨b0, hb0, ho0⟩ := h.own i b hlt hb ho
      have hρ0 : i < ρ0.length := by rw [h.len0]; exact hlt
      have e0 : ρ0[i]? = some ρ0[i] := List.getElem?_eq_getElem hρ0
      have := prefix_get h.pre e0
      rw [hi] at this
      injection this with this
      rw [this]
      exact h.gl0.away i _ b0 e0 hb0 ho0
    · rcases h.new i e (by omega) hi with h1 | ⟨j, e0, b0, a, b, c, d, f⟩
      · omega
      · rw [← f]; exact h.gl0.away j e0 b0 a b c
theorem Rel.of_quiet {ρ : Rho} {H : Heap} {w w' : World} (h : SR ρ H w) (q : Quiet w w') (lo : Nat) : Rel ρ H w ρ H lo w' where
  gl0 := h.gl
  len0 := h.len
  pre := List.prefix_refl _
  sr0 := (h.quiet q).toSR0
  len := Nat.le_refl _
  own := fun _ b _ hb ho => ⟨b, hb, ho⟩
  new := fun i e hi he => by
    have := (List.getElem?_eq_some_iff.1 he).1
    have := h.len
    omega
  os := q.os
  tape := q.tape
  output := q.output
  size := q.size
  keep := fun k hk _ => q.keep k hk
theorem Rel.mono {ρ0 : Rho} {H0 : Heap} {w0 : World} {ρ : Rho} {H : Heap} {lo lo' : Nat} {w : World} (h : Rel ρ0 H0 w0 ρ H lo' w) (hl : lo ≤ lo') : Rel ρ0 H0 w0 ρ H lo w :=
  { h with
    new := fun i e hi he => (h.new i e hi he).imp id fun ⟨j, e0, b0, a, b, c, d, f⟩ => ⟨j, e0, b0, a, b, c, Nat.le_trans hl d, f⟩
    keep := fun k hk hh => h.keep k hk fun j e0 b0 a b c d => hh j e0 b0 a b c (Nat.le_trans hl d) }
theorem Rel.trans {ρ0 : Rho} {H0 : Heap} {w0 : World} {ρ : Rho} {H : Heap} {lo : Nat} {w : World} {ρ' : Rho} {H' : Heap} {l : Nat} {w' : World}
    (h : Rel ρ0 H0 w0 ρ H lo w) (k : Rel ρ H w ρ' H' l w') : Rel ρ0 H0 w0 ρ' H' (min lo l) w' := by
  have key : ∀ (j : Nat) (e : Ent) (b : Blk), ρ[j]? = some e → H[j]? = some b → b.own = true → l ≤ j →
      w0.heap.size ≤ e.r ∨ ∃ (j0 : Nat) (e0 : Ent) (b0 : Blk), ρ0[j0]? = some e0 ∧ H0[j0]? = some b0 ∧ b0.own = true ∧ min lo l ≤ j0 ∧ e0.r = e.r := by
    intro j e b hj hb ho hlj
    by_cases hlt : j < H0.length
    · obtain ⟨b0, hb0, ho0⟩ := h.own j b hlt hb ho
      have hρ0 : j < ρ0.length := by rw [h.len0]; exact hlt
      have e0 : ρ0[j]? = some ρ0[j] := List.getElem?_eq_getElem hρ0
      have := prefix_get h.pre e0
      rw [hj] at this
      injection this with this
      exact .inr ⟨j, ρ0[j], b0, e0, hb0, ho0, by omega, by rw [this]⟩
    · rcases h.new j e (by omega) hj with h1 | ⟨j0, e0, b0, a, b, c, d, f⟩
      · exact .inl h1
      · exact .inr ⟨j0, e0, b0, a, b, c, by omega, f⟩
  have hlen := h.len
  have hsz := h.size
  refine ⟨h.gl0, h.len0, h.pre.trans k.pre, k.sr0, Nat.le_trans h.len k.len, ?_, ?_, k.os.trans h.os, k.tape.trans h.tape, k.output.trans h.output, Nat.le_trans h.size k.size, ?_⟩
  · intro i b hi hb ho
    obtain ⟨b1, hb1, ho1⟩ := k.own i b (by omega) hb ho
    exact h.own i b1 hi hb1 ho1
  · intro i e hi he
    by_cases hlt : i < H.length
    · have hi' : i < ρ.length := by rw [k.len0]; exact hlt
      have e1 : ρ[i]? = some ρ[i] := List.getElem?_eq_getElem hi'
      have := prefix_get k.pre e1
      rw [he] at this
      injection this with this
      rw [this]
      rcases h.new i _ hi e1 with h1 | ⟨j0, e0, b0, a, b, c, d, f⟩
      · exact .inl h1
      · exact .inr ⟨j0, e0, b0, a, b, c, by omega, f⟩
    · rcases k.new i e (by omega) he with h1 | ⟨j, e1, b1, a, b, c, d, f⟩
      · exact .inl (by omega)
      · rw [← f]; exact key j e1 b1 a b c d
  · intro q hq hh
    rw [k.keep q (by omega) ?_]
    · exact h.keep q hq fun j e0 b0 a b c d => hh j e0 b0 a b c (by omega)
    · intro j e b hj hb ho hlj
      rcases key j e b hj hb ho hlj with h1 | ⟨j0, e0, b0, a, b, c, d, f⟩
      · omega
      · rw [← f]; exact hh j0 e0 b0 a b c d
end Go.Proofs.YtpgmabpaiijipaaGreatDoor.Den
namespace Go.Proofs.YtpgmabpaiijipaaGreatDoor.Den
open Go
theorem heapOld (w : World) (o : Obj) (i : Nat) (h : i < w.heap.size) : (w.alloc o).heap[i]? = w.heap[i]? := by
  show (w.heap.push o)[i]? = w.heap[i]?
  rw [Array.getElem?_push, if_neg (Nat.ne_of_lt h)]
theorem oneCell_eq (v : Value) : v.oneCell' = oneCell v := by cases v <;> rfl
theorem VRs.nil {ρ : Rho} : VRs ρ [] [] := ⟨rfl, fun i v v' a _ => by simp at a⟩
theorem VRs.cons {ρ : Rho} {v v' : Value} {l l' : List Value} (h : VR ρ v v') (t : VRs ρ l l') : VRs ρ (v :: l) (v' :: l') :=
  ⟨by simp [t.1], fun i x x' a b => by
    cases i with
    | zero => simp at a b; subst a b; exact h
    | succ i => simp at a b; exact t.2 i x x' a b⟩
theorem VRs.append {ρ : Rho} {a a' b b' : List Value} (h : VRs ρ a a') (k : VRs ρ b b') : VRs ρ (a ++ b) (a' ++ b') :=
  ⟨by simp [h.1, k.1], fun i v v' x y => by
    rw [List.getElem?_append] at x y
    by_cases hi : i < a.length
    · rw [if_pos hi] at x
      rw [if_pos (by rw [← h.1]; exact hi)] at y
      exact h.2 i v v' x y
    · rw [if_neg hi] at x
      rw [if_neg (by rw [← h.1]; exact hi), ← h.1] at y
      exact k.2 _ v v' x y⟩
theorem VRs.take {ρ : Rho} {a a' : List Value} (h : VRs ρ a a') (n : Nat) : VRs ρ (a.take n) (a'.take n) :=
  ⟨by simp [h.1], fun i v v' x y => by
    rw [List.getElem?_take] at x y
    split at x
    · rename_i hi; rw [if_pos hi] at y; exact h.2 i v v' x y
    · simp at x⟩
theorem VRs.drop {ρ : Rho} {a a' : List Value} (h : VRs ρ a a') (n : Nat) : VRs ρ (a.drop n) (a'.drop n) :=
  ⟨by simp [h.1], fun i v v' x y => by
    rw [List.getElem?_drop] at x y
    exact h.2 _ v v' x y⟩
theorem VRs.allOne {ρ : Rho} {a a' : List Value} (h : VRs ρ a a') (ho : a.all oneCell = true) : ∀ v ∈ a', v.oneCell' = true := by
  intro v' hv
  obtain ⟨i, hi⟩ := List.getElem?_of_mem hv
  have hlt : i < a.length := by rw [h.1]; exact (List.getElem?_eq_some_iff.1 hi).1
  have hx : a[i]? = some a[i] := List.getElem?_eq_getElem hlt
  rw [oneCell_eq, (h.2 i _ v' hx hi).oneCell]
  exact get_all ho hx
theorem VR.arr {ρ : Rho} {cs cs' : Array Value} (hn : cs.size = cs'.size) (h : ∀ (i : Nat) (v v' : Value), cs[i]? = some v → cs'[i]? = some v' → VR ρ v v') : VRs ρ cs.toList cs'.toList :=
  ⟨by simpa using hn, fun i v v' a b => h i v v' (by simpa using a) (by simpa using b)⟩
theorem VRs.toAgg {ρ : Rho} {l l' : List Value} (h : VRs ρ l l') : VR ρ (.agg l.toArray) (.agg l'.toArray) :=
  .agg (by simpa using h.1) fun i v v' a b => h.2 i v v' (by simpa using a) (by simpa using b)
theorem VRs.toTuple {ρ : Rho} {l l' : List Value} (h : VRs ρ l l') : VR ρ (.tuple l.toArray) (.tuple l'.toArray) :=
  .tuple (by simpa using h.1) fun i v v' a b => h.2 i v v' (by simpa using a) (by simpa using b)
theorem VR.cells {ρ : Rho} {v v' : Value} (h : VR ρ v v') : VRs ρ v.cells.toList v'.cells.toList := by
  have one : VRs ρ [v] [v'] := VRs.cons h VRs.nil
  cases h with
  | agg hn h => exact VR.arr hn h
  | flat hf => cases v <;> first | exact one | simp [isFlat] at hf
  | _ => exact one
theorem VRs.eq_of_pf {ρ : Rho} {n : Nat} {l l' : List Value} (h : VRs ρ l l') (hp : l.all (pf n) = true) : l' = l := by
  refine List.ext_getElem? fun i => ?_
  by_cases hi : i < l.length
  · have a : l[i]? = some l[i] := List.getElem?_eq_getElem hi
    have b : l'[i]? = some (l'[i]'(by rw [← h.1]; exact hi)) := List.getElem?_eq_getElem _
    rw [a, b, pf_eq n _ _ (get_all hp a) (h.2 i _ _ a b)]
  · have := h.1; rw [List.getElem?_eq_none (by omega), List.getElem?_eq_none (by omega)]
theorem cell_at {w : World} {r d o i : Nat} {c : Array Value} {el : TypeId} {fz : Nat × Nat} (h : w.heap[r]? = some (.cells c el fz)) :
    w.cell? ((⟨r, d + o, none⟩ : Addr).add i) = c[d + (o + i)]? := by
  have e : (⟨r, d + o, none⟩ : Addr).add i = ⟨r, d + o + i, none⟩ := by unfold Addr.add; split <;> simp_all
  rw [e, cell_of_row w r _ c el fz h]
  congr 1
  omega
theorem rd_sound {ρ : Rho} {H : Heap} {w : World} (hs : SR ρ H w) {a : Addr} {n : Nat} {cs : List Value} {e : Ent} (h : rd H a n = some cs) (he : ρ[a.block]? = some e) :
    a.spot = none ∧ cs.length = n ∧ cs.all oneCell = true ∧ ∃ cs', VRs ρ cs cs' ∧ ∀ j v, cs'[j]? = some v → w.cell? ((⟨e.r, e.d + a.off, none⟩ : Addr).add j) = some v := by
  unfold rd at h
  split at h
  · rename_i b hsp hb
    split at h
    case h_2 => simp at h
    rename_i hlive
    split at h
    · rename_i hle
      injection h with h
      subst h
      obtain ⟨c, el, fz, h1, h2, _, _⟩ := (hs.blk _ _ _ he hb).row hlive
      have hone : ∀ v ∈ (b.cells.drop a.off).take n, oneCell v = true := by
        intro v hv
        obtain ⟨j, hj⟩ := List.getElem?_of_mem hv
        rw [List.getElem?_take] at hj
        split at hj
        · rw [List.getElem?_drop] at hj; exact (h2 _ v hj).1
        · simp at hj
      have hlen : ((b.cells.drop a.off).take n).length = n := by simp; omega
      have hc : ∀ j, j < n → ∃ v v', ((b.cells.drop a.off).take n)[j]? = some v ∧ c[e.d + (a.off + j)]? = some v' ∧ VR ρ v v' := by
        intro j hj
        have hlt : a.off + j < b.cells.length := by omega
        have hx : b.cells[a.off + j]? = some b.cells[a.off + j] := List.getElem?_eq_getElem hlt
        obtain ⟨_, v', x, y⟩ := h2 _ _ hx
        refine ⟨b.cells[a.off + j], v', ?_, x, y⟩
        rw [List.getElem?_take, if_pos hj, List.getElem?_drop, hx]
      refine ⟨hsp, hlen, List.all_eq_true.2 hone, (List.range n).map fun j => (c[e.d + (a.off + j)]?).getD undef, ⟨by rw [hlen]; simp, ?_⟩, ?_⟩
      · intro i v v' x y
        rw [List.getElem?_map, List.getElem?_range (by
          have := (List.getElem?_eq_some_iff.1 x).1; omega)] at y
        obtain ⟨u, u', p, q, r⟩ := hc i (by have := (List.getElem?_eq_some_iff.1 x).1; omega)
        rw [x] at p
        injection p with p
        simp [q] at y
        rw [p, ← y]; exact r
      · intro j v hj
        rw [List.getElem?_map] at hj
        by_cases hjn : j < n
        · rw [List.getElem?_range hjn] at hj
          obtain ⟨u, u', p, q, r⟩ := hc j hjn
          rw [cell_at h1, q]
          simpa [q] using hj
        · rw [List.getElem?_eq_none (by simp; omega)] at hj
          simp at hj
    · simp at h
  · simp at h
theorem rd_spot {H : Heap} {a : Addr} {n : Nat} {cs : List Value} (h : rd H a n = some cs) : a.spot = none := by
  unfold rd at h
  split at h
  · assumption
  · simp at h
theorem wr_spot {H H' : Heap} {a : Addr} {vs : List Value} (h : wr H a vs = some H') : a.spot = none := by
  unfold wr at h
  split at h
  · assumption
  · simp at h
theorem frozen_setRow {w : World} {g : Nat} {cur cs : Array Value} {el : TypeId} {fz : Nat × Nat} (hg : w.heap[g]? = some (.cells cur el fz)) (a : Addr) : (w.setRow g cs).frozen? a = w.frozen? a := by
  by_cases h : a.block = g
  · have e1 : (w.setRow g cs).heap[a.block]? = some (.cells cs el fz) := by rw [h]; exact setRow_heap w g cur cs el fz hg
    have e2 : w.heap[a.block]? = some (.cells cur el fz) := by rw [h]; exact hg
    simp [World.frozen?, e1, e2]
  · have e1 : (w.setRow g cs).heap[a.block]? = w.heap[a.block]? := by
      simp only [World.setRow, Array.getElem?_modify]
      rw [if_neg (fun e => h e.symm)]
    simp [World.frozen?, e1]
theorem heap_setRow_other {w : World} {g k : Nat} {cs : Array Value} (h : k ≠ g) : (w.setRow g cs).heap[k]? = w.heap[k]? := by
  simp only [World.setRow, Array.getElem?_modify]
  rw [if_neg (fun e => h e.symm)]
theorem get_splice {cells vs : List Value} {off i : Nat} {v : Value} (hfit : off + vs.length ≤ cells.length) (h : (splice cells off vs)[i]? = some v) :
    (off ≤ i ∧ i < off + vs.length ∧ vs[i - off]? = some v) ∨ ((i < off ∨ off + vs.length ≤ i) ∧ cells[i]? = some v) := by
  unfold splice at h
  have ht : (cells.take off).length = off := by simp; omega
  rw [List.getElem?_append, ht] at h
  split at h
  · rename_i hi
    rw [List.getElem?_take, if_pos hi] at h
    exact .inr ⟨.inl hi, h⟩
  · rename_i hi
    rw [List.getElem?_append] at h
    split at h
    · rename_i hj
      exact .inl ⟨by omega, by omega, h⟩
    · rename_i hj
      rw [List.getElem?_drop] at h
      rw [show off + vs.length + (i - off - vs.length) = i by omega] at h
      exact .inr ⟨.inr (by omega), h⟩
theorem length_splice {cells vs : List Value} {off : Nat} (hfit : off + vs.length ≤ cells.length) : (splice cells off vs).length = cells.length := by
  unfold splice; simp; omega
theorem wr_sound {P : Program} {ρ : Rho} {H H' : Heap} {w : World} (hs : SR ρ H w) {a : Addr} {vs vs' : List Value} {e : Ent} (h : wr H a vs = some H') (he : ρ[a.block]? = some e) (hv : VRs ρ vs vs') :
    a.spot = none ∧ ∃ w', (storeCells ⟨e.r, e.d + a.off, none⟩ vs').run P w = .ok () w' ∧ Rel ρ H w ρ H' a.block w' := by
  unfold wr at h
  simp only [forceL_eq] at h
  split at h
  · rename_i b hsp hb
    split at h
    · rename_i hc
      simp only [Bool.and_eq_true, decide_eq_true_eq] at hc
      obtain ⟨hlive, hown, hfit, hone⟩ := hc
      injection h with h
      subst h
      refine ⟨hsp, ?_⟩
      obtain ⟨c, el, fz, h1, h2, h3, h4⟩ := (hs.blk _ _ _ he hb).row hlive
      have hfz := h3 hown
      subst hfz
      have hblen : a.block < H.length := (List.getElem?_eq_some_iff.1 hb).1
      cases vs with
      | nil =>
        have hv0 : vs' = [] := by have := hv.1; simpa using this.symm
        subst hv0
        have hsame : H.set a.block { b with cells := splice b.cells a.off [] } = H := by
          have e1 : splice b.cells a.off [] = b.cells := by simp [splice]
          rw [e1]
          refine List.ext_getElem? fun i => ?_
          rw [List.getElem?_set]
          split
          · rename_i hi
            subst hi
            rw [hb]
          · rfl
        rw [hsame]
        exact ⟨w, rfl, Rel.of_quiet hs (Quiet.refl w) _⟩
      | cons v0 vr =>
        have hrow : e.d + a.off + vs'.length ≤ c.size := by
          have hlt : a.off + (v0 :: vr).length - 1 < b.cells.length := by simp at hfit ⊢; omega
          have hx := List.getElem?_eq_getElem hlt
          obtain ⟨_, v', x, _⟩ := h2 _ _ hx
          have h5 := (Array.getElem?_eq_some_iff.1 x).1
          have h6 := hv.1
          simp only [List.length_cons] at h5 h6
          omega
        have hst := run_storeCells_at P e.r (e.d + a.off) el vs' 0 c w h1 (by simpa using hrow) (hv.allOne hone)
        simp only [Nat.add_zero] at hst
        refine ⟨_, hst, ?_⟩
        generalize hnew : (c.toList.take (e.d + a.off) ++ vs' ++ c.toList.drop (e.d + a.off + vs'.length)).toArray = new
        have hnews : new.size = c.size := by rw [← hnew]; simp; omega
        have hr' : (w.setRow e.r new).heap[e.r]? = some (.cells new el (0, 0)) := setRow_heap w e.r c new el _ h1
        have hrlt : e.r < w.heap.size := (Array.getElem?_eq_some_iff.1 h1).1
        have hnget : ∀ k, new[k]? = if k < e.d + a.off then c[k]? else if k < e.d + a.off + vs'.length then vs'[k - (e.d + a.off)]? else c[k]? := by
          intro k
          rw [← hnew]
          have ht : (c.toList.take (e.d + a.off)).length = e.d + a.off := by simp; omega
          simp only [List.getElem?_toArray, List.append_assoc]
          rw [List.getElem?_append, ht]
          split
          · rename_i hk; rw [List.getElem?_take, if_pos hk]; simp
          · rename_i hk
            rw [List.getElem?_append]
            split
            · rename_i hk2; rw [if_pos (by omega)]
            · rename_i hk2
              rw [if_neg (by omega), List.getElem?_drop, show e.d + a.off + vs'.length + (k - (e.d + a.off) - vs'.length) = k by omega]
              simp
        have hH' : ∀ (i : Nat) (b' : Blk), (H.set a.block { b with cells := splice b.cells a.off (v0 :: vr) })[i]? = some b' → (i = a.block ∧ b' = { b with cells := splice b.cells a.off (v0 :: vr) }) ∨ (i ≠ a.block ∧ H[i]? = some b') := by
          intro i b' hi
          rw [List.getElem?_set] at hi
          split at hi
          · rename_i heq
            subst heq
            injection hi with hi
            exact .inl ⟨rfl, hi.symm⟩
          · rename_i hne
            exact .inr ⟨fun h => hne h.symm, hi⟩
        have hown' : ∀ (i : Nat) (b' : Blk), (H.set a.block { b with cells := splice b.cells a.off (v0 :: vr) })[i]? = some b' → ∃ b0, H[i]? = some b0 ∧ b0.own = b'.own ∧ (b0.cells = [] → b'.cells = []) := by
          intro i b' hi
          rcases hH' i b' hi with ⟨rfl, rfl⟩ | ⟨_, hi⟩
          · refine ⟨b, hb, rfl, fun h0 => ?_⟩
            rw [h0] at hfit
            simp at hfit
          · exact ⟨b', hi, rfl, id⟩
        refine ⟨hs.gl, hs.len, List.prefix_refl _, ⟨?_, ?_, ?_⟩, by simp, ?_, ?_, rfl, rfl, rfl, by simp [World.setRow], ?_⟩
        · simpa using hs.len
        · intro i e' b' hi hb'
          rcases hH' i b' hb' with ⟨rfl, rfl⟩ | ⟨hne, hb'⟩
          · rw [he] at hi
            injection hi with hi
            subst hi
            refine .inl ⟨hlive, new, el, (0, 0), hr', ?_, fun _ => rfl, fun sz hsz => by rw [hnews]; exact h4 sz hsz⟩
            intro k v hk
            have h6 := hv.1
            rcases get_splice hfit hk with ⟨p, q, r⟩ | ⟨p, q⟩
            · have hlt : k - a.off < vs'.length := by omega
              have hx : vs'[k - a.off]? = some vs'[k - a.off] := List.getElem?_eq_getElem hlt
              refine ⟨get_all hone r, _, ?_, hv.2 _ _ _ r hx⟩
              rw [hnget, if_neg (by omega), if_pos (by omega), show e.d + k - (e.d + a.off) = k - a.off by omega, hx]
            · obtain ⟨o1, v', x, y⟩ := h2 _ _ q
              refine ⟨o1, v', ?_, y⟩
              rw [hnget, ← x]
              split
              · rfl
              · rw [if_neg (by omega)]
          · by_cases hcell : b'.cells = []
            · obtain ⟨hl', c', el', fz', x, y, z, t⟩ := (hs.blk i e' b' hi hb').rowe hcell
              by_cases hee : e'.r = e.r
              · rw [hee] at x
                rw [h1] at x
                injection x with x
                injection x with x1 x2 x3
                subst x1 x2 x3
                refine .inl ⟨hl', new, el, (0, 0), by rw [hee]; exact hr', fun k v hk => by rw [hcell] at hk; simp at hk, fun _ => rfl, fun sz hsz => by rw [hnews]; exact t sz hsz⟩
              · exact .inl ⟨hl', c', el', fz', by rw [heap_setRow_other hee]; exact x, y, z, t⟩
            · have hee : e.r ≠ e'.r := hs.inj _ _ _ _ _ _ (fun h => hne h.symm) he hi hb hb' hown hcell
              exact (hs.blk i e' b' hi hb').at (heap_setRow_other (fun h => hee h.symm))
        · intro i j e1 e2 b1 b2 hij hi hj hb1 hb2 ho1 hc2
          obtain ⟨b1', x1, y1, _⟩ := hown' i b1 hb1
          obtain ⟨b2', x2, _, z2⟩ := hown' j b2 hb2
          exact hs.inj i j e1 e2 b1' b2' hij hi hj x1 x2 (by rw [y1]; exact ho1) (fun h => hc2 (z2 h))
        · intro i b1 _ hb1 ho1
          obtain ⟨b1', x1, y1, _⟩ := hown' i b1 hb1
          exact ⟨b1', x1, by rw [y1]; exact ho1⟩
        · intro i e1 hi hi2
          have := (List.getElem?_eq_some_iff.1 hi2).1
          have := hs.len
          omega
        · intro k hk hh
          exact heap_setRow_other (fun h => hh a.block e b he hb hown (Nat.le_refl _) h.symm)
    · simp at h
  · simp at h
theorem new_sound {ρ : Rho} {H : Heap} {w : World} (hs : SR ρ H w) {vs vs' : List Value} (hone : vs.all oneCell = true) (hv : VRs ρ vs vs') (t : TypeId) (lo : Nat) :
    Rel ρ H w (ρ ++ [⟨w.heap.size, 0, 0⟩]) (H ++ [⟨true, none, vs⟩]) lo (w.alloc (.cells vs'.toArray t)) ∧
      (ρ ++ [⟨w.heap.size, 0, 0⟩] : Rho)[H.length]? = some ⟨w.heap.size, 0, 0⟩ := by
  have hlast : (ρ ++ [⟨w.heap.size, 0, 0⟩] : Rho)[H.length]? = some ⟨w.heap.size, 0, 0⟩ := by rw [← hs.len]; simp
  have hpre : ρ <+: ρ ++ [⟨w.heap.size, 0, 0⟩] := ⟨_, rfl⟩
  have old : ∀ (i : Nat) (e : Ent) (b : Blk), (ρ ++ [⟨w.heap.size, 0, 0⟩] : Rho)[i]? = some e → (H ++ [⟨true, none, vs⟩] : Heap)[i]? = some b →
      (i < H.length ∧ ρ[i]? = some e ∧ H[i]? = some b) ∨ (i = H.length ∧ e = ⟨w.heap.size, 0, 0⟩ ∧ b = ⟨true, none, vs⟩) := by
    intro i e b hi hb
    by_cases hlt : i < H.length
    · refine .inl ⟨hlt, ?_, ?_⟩
      · rwa [List.getElem?_append_left (by rw [hs.len]; exact hlt)] at hi
      · rwa [List.getElem?_append_left hlt] at hb
    · have h1 := (List.getElem?_eq_some_iff.1 hb).1
      simp at h1
      have : i = H.length := by omega
      subst this
      rw [hlast] at hi
      simp at hb
      exact .inr ⟨rfl, by injection hi with hi; exact hi.symm, hb.symm⟩
  have rlt : ∀ (i : Nat) (e : Ent) (b : Blk), ρ[i]? = some e → H[i]? = some b → e.r < w.heap.size := by
    intro i e b hi hb
    exact (hs.blk i e b hi hb).lt
  refine ⟨⟨hs.gl, hs.len, hpre, ⟨by simp [hs.len], ?_, ?_⟩, by simp, ?_, ?_, rfl, rfl, rfl, by simp, ?_⟩, hlast⟩
  · intro i e b hi hb
    rcases old i e b hi hb with ⟨hlt, hi, hb⟩ | ⟨rfl, rfl, rfl⟩
    · exact ((hs.blk i e b hi hb).mono hpre).at (heapOld w _ _ (rlt i e b hi hb))
    · refine .inl ⟨rfl, vs'.toArray, t, (0, 0), heap_alloc_new w _, ?_, fun _ => rfl, fun sz h => by simp at h⟩
      intro k v hk
      have hlt : k < vs'.length := by rw [← hv.1]; exact (List.getElem?_eq_some_iff.1 hk).1
      have hx : vs'[k]? = some vs'[k] := List.getElem?_eq_getElem hlt
      refine ⟨get_all hone hk, vs'[k], by simp [hx], (hv.2 k v _ hk hx).mono hpre⟩
  · intro i j e e' b b' hij hi hj hb hb' ho hc
    rcases old i e b hi hb with ⟨hlt, hi, hb⟩ | ⟨rfl, rfl, rfl⟩ <;> rcases old j e' b' hj hb' with ⟨hlt', hj, hb'⟩ | ⟨rfl, rfl, rfl⟩
    · exact hs.inj i j e e' b b' hij hi hj hb hb' ho hc
    · have := rlt i e b hi hb
      show e.r ≠ w.heap.size
      omega
    · have := rlt j e' b' hj hb'
      show w.heap.size ≠ e'.r
      omega
    · exact (hij rfl).elim
  · intro i b hi hb ho
    rw [List.getElem?_append_left hi] at hb
    exact ⟨b, hb, ho⟩
  · intro i e hi he
    have h1 := (List.getElem?_eq_some_iff.1 he).1
    simp at h1
    have h2 := hs.len
    have : i = H.length := by omega
    subst this
    rw [hlast] at he
    injection he with he
    subst he
    exact .inl (Nat.le_refl _)
  · intro k hk _
    exact heapOld w _ _ hk
end Go.Proofs.YtpgmabpaiijipaaGreatDoor.Den
namespace Go.Proofs.YtpgmabpaiijipaaGreatDoor.Den
open Go
def OpR (ρ : Rho) (F : Slots) (a : Act) (xs : List Operand) : Prop := ∀ x ∈ xs, ∀ v, ev F x = some v → VR ρ v (a.eval x)
def Sound (P : Program) (C : Oracle) : Prop :=
  ∀ (f : FuncId) (args : List Value) (H : Heap) (v : Value) (H' : Heap) (l : Nat), C f args H = some (v, H', l) →
    ∀ (ρ : Rho) (w : World) (args' : Array Value), VRs ρ args args'.toList → SR ρ H w →
      Calls P f args' w fun e w' => ∃ ρ' v', e = .returned v' ∧ VR ρ' v v' ∧ Rel ρ H w ρ' H' l w'
theorem pureRun_sound {α : Type} {P : Program} : ∀ (s : Sem α) (x : α), pureRun P s = some x → ∀ w, s.run P w = .ok x w := by
  intro s
  induction s with
  | pure a => intro x h w; simp [pureRun] at h; subst h; rfl
  | program k ih => intro x h w; exact ih P x h w
  | mark m k ih => intro x h w; exact ih x h w
  | _ => intro x h; simp [pureRun] at h
theorem allFlat_look {ρ : Rho} {F : Slots} {a : Act} {xs : List Operand} (h : allFlat F xs = true) (hr : OpR ρ F a xs) : ∀ x ∈ xs, look F x = a.eval x := by
  intro x hx
  have h1 := List.all_eq_true.1 h x hx
  unfold look
  split at h1
  · rename_i v hv
    rw [hv]
    exact (pf_eq 3 _ _ h1 (hr x hx v hv)).symm
  · simp at h1
theorem evFlat_sound {P : Program} {F : Slots} {H : Heap} {lo : Nat} {o : Oper} {r : Out} (hsel : noSel o = true) (h : evFlat P F H lo o = some r) :
    r.eff = .pure ∧ r.H = H ∧ r.lo = lo ∧ ∀ (ρ : Rho) (a : Act) (w : World), OpR ρ F a o.op.operands.toList → VR ρ r.v r.v ∧ (execOp a.eval o).run P w = .ok (.value r.v) w := by
  unfold evFlat at h
  split at h
  · rename_i hf
    split at h
    · rename_i v hv
      split at h
      · rename_i hp
        injection h with h
        subst h
        refine ⟨rfl, rfl, rfl, fun ρ a w hr => ⟨pf_self 3 _ hp, ?_⟩⟩
        have hc : execOp (look F) o = execOp a.eval o := execOp_congr o (by
          intro cs b hb
          simp [noSel, hb] at hsel) (fun x hx => allFlat_look hf hr x (by simpa using hx))
        rw [← hc]
        exact pureRun_sound _ _ hv w
      · simp at h
    · simp at h
  · simp at h
theorem evs_sound {ρ : Rho} {F : Slots} {a : Act} : ∀ (xs : List Operand) (vs : List Value), evs F xs = some vs → OpR ρ F a xs → VRs ρ vs (xs.map a.eval)
  | [], vs, h, _ => by simp [evs] at h; subst h; exact VRs.nil
  | x :: xs, vs, h, hr => by
    unfold evs at h
    split at h
    · rename_i v hv
      cases he : evs F xs with
      | none => simp [he] at h
      | some us =>
        simp [he] at h
        subst h
        exact VRs.cons (hr x (by simp) v hv) (evs_sound xs us he fun y hy => hr y (by simp [hy]))
    · simp at h
structure OpSound (P : Program) (F : Slots) (H : Heap) (lo : Nat) (o : Oper) (r : Out) : Prop where
  pure : r.eff = .pure → r.H = H ∧ r.lo = lo ∧ ∀ (ρ : Rho) (a : Act) (w : World) (next : Act → World → Prop) (Q : Exit → Act → World → Prop), OpR ρ F a o.op.operands.toList → Tabs w →
    (∀ v' w', VR ρ r.v v' → Quiet w w' → next (a.put o.dst v') w') → o.wp P a w next Q
  read : r.eff = .read → r.H = H ∧ r.lo = lo ∧ ∀ (ρ : Rho) (a : Act) (w : World) (next : Act → World → Prop) (Q : Exit → Act → World → Prop), OpR ρ F a o.op.operands.toList → SR ρ H w →
    (∀ v' w', VR ρ r.v v' → Quiet w w' → next (a.put o.dst v') w') → o.wp P a w next Q
  write : r.eff = .write → ∃ l, r.lo = min lo l ∧ ∀ (ρ : Rho) (a : Act) (w : World) (next : Act → World → Prop) (Q : Exit → Act → World → Prop), OpR ρ F a o.op.operands.toList → SR ρ H w →
    (∀ ρ' v' w', VR ρ' r.v v' → Rel ρ H w ρ' r.H l w' → next (a.put o.dst v') w') → o.wp P a w next Q
theorem OpSound.of_pure {P : Program} {F : Slots} {H : Heap} {lo : Nat} {o : Oper} {v : Value}
    (h : ∀ (ρ : Rho) (a : Act) (w : World), OpR ρ F a o.op.operands.toList → ∃ v', VR ρ v v' ∧ (execOp a.eval o).run P w = .ok (.value v') w) : OpSound P F H lo o ⟨v, H, lo, .pure⟩ where
  pure _ := ⟨rfl, rfl, fun ρ a w next Q hr _ hn => by
    obtain ⟨v', h1, h2⟩ := h ρ a w hr
    unfold Oper.wp
    rw [h2]
    exact hn v' w h1 (Quiet.refl w)⟩
  read h := by cases h
  write h := by cases h
theorem OpSound.of_read {P : Program} {F : Slots} {H : Heap} {lo : Nat} {o : Oper} {v : Value}
    (h : ∀ (ρ : Rho) (a : Act) (w : World), OpR ρ F a o.op.operands.toList → SR ρ H w → ∃ v', VR ρ v v' ∧ (execOp a.eval o).run P w = .ok (.value v') w) : OpSound P F H lo o ⟨v, H, lo, .read⟩ where
  read _ := ⟨rfl, rfl, fun ρ a w next Q hr hs hn => by
    obtain ⟨v', h1, h2⟩ := h ρ a w hr hs
    unfold Oper.wp
    rw [h2]
    exact hn v' w h1 (Quiet.refl w)⟩
  pure h := by cases h
  write h := by cases h
theorem OpSound.of_write {P : Program} {F : Slots} {H H' : Heap} {lo l : Nat} {o : Oper} {v : Value}
    (h : ∀ (ρ : Rho) (a : Act) (w : World), OpR ρ F a o.op.operands.toList → SR ρ H w → ∃ ρ' v' w', VR ρ' v v' ∧ Rel ρ H w ρ' H' l w' ∧
      ((execOp a.eval o).run P w = .ok (.value v') w' ∨ ((execOp a.eval o).run P w = .ok .skip w' ∧ v' = undef))) : OpSound P F H lo o ⟨v, H', min lo l, .write⟩ where
  write _ := ⟨l, rfl, fun ρ a w next Q hr hs hn => by
    obtain ⟨ρ', v', w', h1, h2, h3⟩ := h ρ a w hr hs
    unfold Oper.wp
    rcases h3 with h3 | ⟨h3, rfl⟩ <;> (rw [h3]; exact hn _ _ _ h1 h2)⟩
  pure h := by cases h
  read h := by cases h
theorem isAgg_run {P : Program} {t : TypeId} {b : Bool} (h : isAggT P t = some b) (w : World) : (isAgg t).run P w = .ok b w := by
  unfold isAggT at h
  cases hu : P.underlying t with
  | none => simp [hu] at h
  | some d =>
    rw [hu] at h
    unfold isAgg
    simp only [Sem.run_bind, run_underlying hu, Result.andThen_ok]
    cases d <;> simp at h <;> subst h <;> rfl
theorem sizeOf_run {P : Program} {t : TypeId} {n : Nat} (h : sizeT P t = some n) (w : World) : (sizeOf t).run P w = .ok n w := by
  unfold sizeT at h
  cases hi : P.info? t with
  | none => simp [hi] at h
  | some i => simp [hi] at h; simp [sizeOf, typeInfo, hi, h]
theorem zero_run {P : Program} {t : TypeId} {z : Value} (h : zeroT P t = some z) (w : World) : (zeroValue t).run P w = .ok z w := by
  unfold zeroT at h
  cases hi : P.info? t with
  | none => simp [hi] at h
  | some i => simp [hi] at h; simp [zeroValue, typeInfo, hi, h]
theorem ptr_of {ρ : Rho} {a : Addr} {v' : Value} (h : VR ρ (.pointer (some a)) v') : ∃ e, ρ[a.block]? = some e ∧ a.spot = none ∧ v' = .pointer (some ⟨e.r, e.d + a.off, none⟩) := by
  cases h with
  | flat hf => simp [isFlat] at hf
  | ptr h => exact ⟨_, h, rfl, rfl⟩
theorem slice_of {ρ : Rho} {a : Addr} {l c : Nat} {v' : Value} (h : VR ρ (.slice (some a) l c) v') (hp : a.spot = none ∨ 0 < l) :
    ∃ e c', ρ[a.block]? = some e ∧ a.spot = none ∧ v' = .slice (some ⟨e.r, e.d + a.off, none⟩) l c' ∧ (l ≤ c → c' = c) ∧ l ≤ c' := by
  cases h with
  | flat hf => simp [isFlat] at hf
  | slice h hl => exact ⟨_, _, h, rfl, rfl, fun _ => rfl, hl⟩
  | sliceU h h0 hl => exact ⟨_, _, h, rfl, rfl, fun hh => by omega, hl⟩
  | sliceV h =>
    rcases hp with hp | hp
    · cases hp
    · omega
  | gone =>
    rcases hp with hp | hp
    · cases hp
    · omega
theorem slice_any {ρ : Rho} {a : Addr} {l c : Nat} {v' : Value} (h : VR ρ (.slice (some a) l c) v') : ∃ a' c', v' = .slice (some a') l c' ∧ l ≤ c' := by
  cases h with
  | flat hf => simp [isFlat] at hf
  | slice h hl => exact ⟨_, _, rfl, hl⟩
  | sliceU h h0 hl => exact ⟨_, _, rfl, hl⟩
  | sliceV h => exact ⟨_, _, rfl, Nat.zero_le _⟩
  | gone => exact ⟨_, _, rfl, Nat.zero_le _⟩
theorem map_of {ρ : Rho} {b : Nat} {v' : Value} (h : VR ρ (.map (some b)) v') : ∃ e, ρ[b]? = some e ∧ v' = .map (some e.r) := by
  cases h with
  | flat hf => simp [isFlat] at hf
  | map h => exact ⟨_, h, rfl⟩
theorem loadV_sound {P : Program} {ρ : Rho} {H : Heap} {w : World} (hs : SR ρ H w) {t : TypeId} {a : Addr} {v : Value} {e : Ent} (h : loadV P H t a = some v) (he : ρ[a.block]? = some e) :
    ∃ v', VR ρ v v' ∧ (loadVar t ⟨e.r, e.d + a.off, none⟩).run P w = .ok v' w := by
  unfold loadV at h
  split at h
  · rename_i n hag hsz
    cases hr : rd H a n with
    | none => simp [hr] at h
    | some cs =>
      simp [hr] at h
      subst h
      obtain ⟨_, hlen, _, cs', h1, h2⟩ := rd_sound hs hr he
      refine ⟨.agg cs'.toArray, h1.toAgg, ?_⟩
      have hl := run_loadCells_list (P := P) w ⟨e.r, e.d + a.off, none⟩ cs' h2
      rw [← h1.1, hlen] at hl
      unfold loadVar
      simp [isAgg_run hag, sizeOf_run hsz, hl]
  · rename_i hag
    split at h
    · rename_i x hr
      split at h
      case h_2 => simp at h
      injection h with h
      subst h
      obtain ⟨_, _, _, cs', h1, h2⟩ := rd_sound hs hr he
      have hn : cs'.length = 1 := by rw [← h1.1]; rfl
      match cs', hn with
      | [x'], _ =>
        refine ⟨x', h1.2 0 _ _ rfl rfl, ?_⟩
        have hc := h2 0 x' rfl
        have e0 : (⟨e.r, e.d + a.off, none⟩ : Addr).add 0 = ⟨e.r, e.d + a.off, none⟩ := rfl
        rw [e0] at hc
        unfold loadVar
        simp [isAgg_run hag, load, Sem.run, hc]
    · simp at h
  · simp at h
theorem storeV_sound {P : Program} {ρ : Rho} {H H' : Heap} {w : World} (hs : SR ρ H w) {t : TypeId} {a : Addr} {v v' : Value} {e : Ent} (h : storeV P H t a v = some H') (he : ρ[a.block]? = some e) (hv : VR ρ v v') :
    ∃ w', (storeVar t ⟨e.r, e.d + a.off, none⟩ v').run P w = .ok () w' ∧ Rel ρ H w ρ H' a.block w' := by
  unfold storeV at h
  split at h
  · rename_i n hsz
    split at h
    · rename_i hn
      obtain ⟨_, w', h1, h2⟩ := wr_sound (P := P) hs h he hv.cells
      refine ⟨w', ?_, h2⟩
      have hl : v'.cells.size = n := by have := hv.cells.1; simp at this; omega
      unfold storeVar
      simp [sizeOf_run hsz, hl, h1]
    · simp at h
  · simp at h
theorem newB_sound {ρ : Rho} {H H' : Heap} {w : World} (hs : SR ρ H w) {v v' p : Value} (h : newB H v = some (p, H')) (hv : VR ρ v v') (t : TypeId) (lo : Nat) :
    ∃ ρ', VR ρ' p (.pointer (some ⟨w.heap.size, 0, none⟩)) ∧ Rel ρ H w ρ' H' lo (w.alloc (.cells v'.cells t)) := by
  unfold newB at h
  simp only [forceL_eq] at h
  split at h
  · rename_i hone
    injection h with h
    obtain ⟨rfl, rfl⟩ := Prod.mk.inj h
    obtain ⟨h1, h2⟩ := new_sound hs hone hv.cells t lo
    refine ⟨_, .ptr h2, ?_⟩
    simpa using h1
  · simp at h
end Go.Proofs.YtpgmabpaiijipaaGreatDoor.Den
namespace Go.Proofs.YtpgmabpaiijipaaGreatDoor.Den
open Go
theorem flat_sound {P : Program} {F : Slots} {H : Heap} {lo : Nat} {o : Oper} {r : Out} (hsel : noSel o = true) (h : evFlat P F H lo o = some r) : OpSound P F H lo o r := by
  obtain ⟨h1, h2, h3, h4⟩ := evFlat_sound hsel h
  obtain ⟨v, H', lo', eff⟩ := r
  subst h1 h2 h3
  exact OpSound.of_pure fun ρ a w hr => ⟨v, (h4 ρ a w hr).1, (h4 ρ a w hr).2⟩
theorem int_of {ρ : Rho} {k : IntKind} {n : Int} {v' : Value} (h : VR ρ (.int k n) v') : v' = .int k n := isFlat_eq rfl h
theorem bool_of {ρ : Rho} {b : Bool} {v' : Value} (h : VR ρ (.bool b) v') : v' = .bool b := isFlat_eq rfl h
theorem eqK_eq {k k' : IntKind} (h : eqK k k' = true) : k = k' := by cases k <;> cases k' <;> first | rfl | simp [eqK] at h
theorem fastBin_run {P : Program} {op : BinOp} {k k' : IntKind} {a b : Int} {v : Value} (t : TypeId) (x y : Operand) (h : fastBin op k a k' b = some v) (w : World) :
    (do eqGuard op t x y (.int k a) (.int k' b); binOp op t (.int k a) (.int k' b) : Sem Value).run P w = .ok v w := by
  have hg : eqGuard op t x y (.int k a) (.int k' b) = pure () := by cases op <;> rfl
  rw [hg]
  unfold fastBin at h
  have pass : ∀ s : Sem Value, (do pure (); s : Sem Value).run P w = s.run P w := fun s => by simp
  rw [pass]
  split at h
  · split at h
    · simp at h
    · rename_i hb
      injection h with h
      subst h
      simp [binOp, Op.shift, hb]
  · split at h
    · simp at h
    · rename_i hb
      injection h with h
      subst h
      simp [binOp, Op.shift, hb]
  · split at h
    · simp at h
    · rename_i hk
      have hk := eqK_eq hk
      subst hk
      split at h
      all_goals first
        | (injection h with h; subst h; simp [binOp, Op.intArith, Op.intCmp]; done)
        | (split at h
           · simp at h
           · rename_i hb
             injection h with h
             subst h
             simp [binOp, Op.intDiv, hb])
        | simp at h
theorem zip_get {ρ : Rho} {vs vs' : List Value} (h : VRs ρ vs vs') {i : Nat} {v : Value} (hv : vs[i]? = some v) : ∃ v', vs'[i]? = some v' ∧ VR ρ v v' := by
  have hlt : i < vs'.length := by rw [← h.1]; exact (List.getElem?_eq_some_iff.1 hv).1
  exact ⟨vs'[i], List.getElem?_eq_getElem hlt, h.2 i v _ hv (List.getElem?_eq_getElem hlt)⟩
theorem agg_of {ρ : Rho} {cs : Array Value} {v' : Value} (h : VR ρ (.agg cs) v') : ∃ cs' : Array Value, v' = .agg cs' ∧ VRs ρ cs.toList cs'.toList := by
  cases h with
  | flat hf => simp [isFlat] at hf
  | agg hn h => exact ⟨_, rfl, VR.arr hn h⟩
theorem tuple_of {ρ : Rho} {cs : Array Value} {v' : Value} (h : VR ρ (.tuple cs) v') : ∃ cs' : Array Value, v' = .tuple cs' ∧ VRs ρ cs.toList cs'.toList := by
  cases h with
  | flat hf => simp [isFlat] at hf
  | tuple hn h => exact ⟨_, rfl, VR.arr hn h⟩
theorem iface_of {ρ : Rho} {t : TypeId} {v v' : Value} (h : VR ρ (.iface t v) v') : ∃ u, v' = .iface t u ∧ VR ρ v u := by
  cases h with
  | flat hf => simp [isFlat] at hf
  | iface h => exact ⟨_, rfl, h⟩
theorem func_of {ρ : Rho} {fn : Fn} {a b : Array Value} {v' : Value} (h : VR ρ (.func fn a b) v') : ∃ a' b' : Array Value, v' = .func fn a' b' ∧ VRs ρ a.toList a'.toList ∧ VRs ρ b.toList b'.toList := by
  cases h with
  | flat hf => simp [isFlat] at hf
  | func ha h1 hb h2 => exact ⟨_, _, rfl, VR.arr ha h1, VR.arr hb h2⟩
theorem ptr_add {ρ : Rho} {a : Addr} {e : Ent} (h : ρ[a.block]? = some e) (hs : a.spot = none) (n : Nat) : VR ρ (.pointer (some (a.add n))) (.pointer (some ((⟨e.r, e.d + a.off, none⟩ : Addr).add n))) := by
  obtain ⟨b, o, s⟩ := a
  simp only at hs
  subst hs
  have e1 : (⟨b, o, none⟩ : Addr).add n = ⟨b, o + n, none⟩ := by unfold Addr.add; split <;> simp_all
  have e2 : (⟨e.r, e.d + o, none⟩ : Addr).add n = ⟨e.r, e.d + (o + n), none⟩ := by unfold Addr.add; split <;> simp_all <;> omega
  rw [e1]
  show VR ρ _ (.pointer (some ((⟨e.r, e.d + o, none⟩ : Addr).add n)))
  rw [e2]
  exact .ptr h
theorem slice_add {ρ : Rho} {a : Addr} {e : Ent} (h : ρ[a.block]? = some e) (hs : a.spot = none) (n l c : Nat) (hl : l ≤ c) : VR ρ (.slice (some (a.add n)) l c) (.slice (some ((⟨e.r, e.d + a.off, none⟩ : Addr).add n)) l c) := by
  obtain ⟨b, o, s⟩ := a
  simp only at hs
  subst hs
  have e1 : (⟨b, o, none⟩ : Addr).add n = ⟨b, o + n, none⟩ := by unfold Addr.add; split <;> simp_all
  have e2 : (⟨e.r, e.d + o, none⟩ : Addr).add n = ⟨e.r, e.d + (o + n), none⟩ := by unfold Addr.add; split <;> simp_all <;> omega
  rw [e1]
  show VR ρ _ (.slice (some ((⟨e.r, e.d + o, none⟩ : Addr).add n)) _ _)
  rw [e2]
  exact .slice h hl
theorem partV_run {P : Program} {ρ : Rho} {t : TypeId} {cs : List Value} {cs' : Array Value} {off : Nat} {v : Value} (h : partV P t cs off = some v) (hv : VRs ρ cs cs'.toList) (w : World) :
    ∃ v', VR ρ v v' ∧ (part t cs' off).run P w = .ok v' w := by
  unfold partV at h
  split at h
  · rename_i n hag hsz
    injection h with h
    subst h
    refine ⟨.agg ((cs'.toList.drop off).take n).toArray, ((hv.drop off).take n).toAgg, ?_⟩
    have e1 : cs'.extract off (off + n) = ((cs'.toList.drop off).take n).toArray := by
      apply Array.ext'
      simp [Array.toList_extract, List.extract]
    unfold part
    simp [isAgg_run hag, sizeOf_run hsz, e1]
  · rename_i hag
    obtain ⟨v', h1, h2⟩ := zip_get hv h
    refine ⟨v', h2, ?_⟩
    have h1' : cs'[off]? = some v' := by simpa using h1
    unfold part
    simp [isAgg_run hag, h1']
  · simp at h
def bsem (x : Option Value) (d y : Nat) (code : BoundsCode) : Sem Nat := match x with
  | some v => Instr.sliceBound v y code
  | none => pure d
theorem bound_run {P : Program} {x : Option Value} {d y n : Nat} (h : bound x d y = some n) (hd : d ≤ y) : n ≤ y ∧ ∀ (code : BoundsCode) (w : World), (bsem x d y code).run P w = .ok n w := by
  cases x with
  | none =>
    simp [bound] at h
    subst h
    exact ⟨hd, fun _ w => rfl⟩
  | some v =>
    cases v with
    | int k i =>
      simp only [bound] at h
      split at h
      · rename_i hi
        simp only [Bool.and_eq_true, decide_eq_true_eq, Nat.ble_eq] at hi
        have hi : 0 ≤ i ∧ i ≤ y := ⟨hi.1, by omega⟩
        injection h with h
        subst h
        refine ⟨by omega, fun code w => ?_⟩
        simp [bsem, Instr.sliceBound, asIntOf, hi]
      · simp at h
    | _ => simp [bound] at h
theorem evOpt_sound {ρ : Rho} {F : Slots} {a : Act} {x : Option Operand} {v : Option Value} (h : evOpt F x = some v) (hr : OpR ρ F a x.toList) :
    (x = none ∧ v = none) ∨ ∃ y u, x = some y ∧ v = some u ∧ VR ρ u (a.eval y) := by
  unfold evOpt at h
  split at h
  · injection h with h; exact .inl ⟨rfl, h.symm⟩
  · rename_i y
    cases he : ev F y with
    | none => simp [he] at h
    | some u => simp [he] at h; exact .inr ⟨y, u, rfl, h.symm, hr y (by simp) u he⟩
theorem bound_map {ρ : Rho} {F : Slots} {a : Act} {x : Option Operand} {v : Option Value} {d y n : Nat} (h : evOpt F x = some v) (hr : OpR ρ F a x.toList) (hb : bound v d y = some n) : bound (x.map a.eval) d y = some n := by
  rcases evOpt_sound h hr with ⟨rfl, rfl⟩ | ⟨z, u, rfl, rfl, hv⟩
  · exact hb
  · unfold bound at hb
    cases u with
    | int k i => rw [Option.map_some, int_of hv]; exact hb
    | _ => simp at hb
end Go.Proofs.YtpgmabpaiijipaaGreatDoor.Den
namespace Go.Proofs.YtpgmabpaiijipaaGreatDoor.Den
open Go
set_option linter.unusedSimpArgs false
theorem intsOf_eq {k : IntKind} : ∀ (cs : List Value) (xs : List Int), intsOf k cs = some xs → cs = xs.map (.int k) := by
  intro cs
  induction cs with
  | nil => intro xs h; simp [intsOf] at h; subst h; rfl
  | cons c cs ih =>
    intro xs h
    unfold intsOf at h
    split at h
    · rename_i he; cases he
    · rename_i k' n r he
      cases he
      split at h
      · rename_i hk
        have hk := eqK_eq hk
        subst hk
        split at h
        · rename_i l hl
          simp only [Option.some.injEq] at h
          subst h
          rw [ih l hl]
          rfl
        · simp at h
      · simp at h
    · simp at h
theorem eqItems_run {P : Program} {e : TypeId} {k : IntKind} (he : P.underlying e = some (.int k)) (hsz : sizeT P e = some 1) (xs ys : List Int) (d : Nat) :
    ∀ (is : List Nat), (∀ i ∈ is, i < xs.length ∧ i < ys.length) → ∀ w : World, (Op.eqItems (d + 1) e 1 (xs.map (Value.int k)).toArray (ys.map (Value.int k)).toArray is).run P w = .ok (is.all fun i => xs.getD i 0 == ys.getD i 0) w := by
  intro is
  induction is with
  | nil => intro _ w; simp [Op.eqItems]
  | cons i is ih =>
    intro h w
    obtain ⟨h1, h2⟩ := h i (by simp)
    have agg : isAggT P e = some false := by unfold isAggT; rw [he]
    have prt : ∀ (zs : List Int), i < zs.length → ∀ w : World, (part e (zs.map (Value.int k)).toArray (i * 1)).run P w = .ok (.int k (zs.getD i 0)) w := by
      intro zs hz w
      have hp : partV P e (zs.map (Value.int k)) (i * 1) = some (.int k (zs.getD i 0)) := by
        unfold partV
        rw [agg, hsz]
        simp [hz]
      obtain ⟨v', hv, hr⟩ := partV_run (ρ := []) (cs' := (zs.map (Value.int k)).toArray) hp ⟨by simp, fun j v v' a b => by
        simp only [List.getElem?_map, List.getElem?_toArray] at a b
        rw [a] at b
        injection b with b
        subst b
        cases hj : zs[j]? with
        | none => simp [hj] at a
        | some z => simp [hj] at a; subst a; exact .flat rfl⟩ w
      rw [hr, int_of hv]
    simp only [Op.eqItems, Sem.run_bind, prt xs h1, prt ys h2, Result.andThen_ok, run_equalIn_int w d e k k _ _ he]
    cases hc : (xs.getD i 0 == ys.getD i 0) with
    | false => simp only [Bool.not_false, if_true, List.all_cons, hc, Bool.false_and, Sem.run_pure]
    | true =>
      simp only [Bool.not_true, Bool.false_eq_true, if_false, List.all_cons, hc, Bool.true_and]
      exact ih (fun j hj => h j (by simp [hj])) w
theorem aggEq_run {P : Program} {t : TypeId} {cs ds : Array Value} {b : Bool} (h : aggEq P t cs ds = some b) (x y : Operand) (w : World) :
    (do eqGuard .eql t x y (.agg cs) (.agg ds); binOp .eql t (.agg cs) (.agg ds) : Sem Value).run P w = .ok (.bool b) w ∧
    (do eqGuard .neq t x y (.agg cs) (.agg ds); binOp .neq t (.agg cs) (.agg ds) : Sem Value).run P w = .ok (.bool (!b)) w := by
  unfold aggEq at h
  split at h
  · rename_i n e ht
    split at h
    · rename_i k he hsz
      split at h
      · rename_i xs ys hxs hys
        split at h
        · rename_i hc
          simp only [Bool.and_eq_true, Bool.not_eq_true'] at hc
          obtain ⟨c1, c2, c3⟩ := hc
          have c1 := Nat.eq_of_beq_eq_true c1
          have c2 := Nat.eq_of_beq_eq_true c2
          simp only [Option.some.injEq] at h
          subst h
          have e1 := intsOf_eq _ _ hxs
          have e2 := intsOf_eq _ _ hys
          have f1 : cs = (xs.map (Value.int k)).toArray := by rw [← e1]
          have f2 : ds = (ys.map (Value.int k)).toArray := by rw [← e2]
          obtain ⟨i, hi⟩ : ∃ i, P.info? e = some i := by
            cases hq : P.info? e with
            | none => simp [sizeT, hq] at hsz
            | some i => exact ⟨i, rfl⟩
          have hcell : P.cellsOf e = 1 := by
            simp [sizeT, hi] at hsz
            simp [Program.cellsOf, hi, hsz]
          have heq : (Op.equal t (.agg cs) (.agg ds)).run P w = .ok (decide (xs = ys)) w := by
            show (Op.equalIn (9999 + 1) t (.agg cs) (.agg ds)).run P w = _
            rw [run_equalIn_array w 9999 cs ds ht hi, hcell, f1, f2]
            rw [eqItems_run he hsz xs ys 9998 (List.range n) (fun i hi => by have := List.mem_range.1 hi; omega) w]
            congr 1
            rw [Bool.eq_iff_iff]
            simp only [List.all_eq_true, List.mem_range, beq_iff_eq, decide_eq_true_eq]
            constructor
            · intro h
              apply List.ext_getElem?
              intro i
              by_cases hin : i < n
              · have := h i hin
                rw [List.getD_eq_getElem?_getD, List.getD_eq_getElem?_getD] at this
                rw [List.getElem?_eq_getElem (by omega), List.getElem?_eq_getElem (by omega)] at this ⊢
                simpa using this
              · rw [List.getElem?_eq_none (by omega), List.getElem?_eq_none (by omega)]
            · intro h i _
              rw [h]
          constructor
          · simp [eqGuard, binOp, Sem.run_bind, c3, heq]
          · simp [eqGuard, binOp, Sem.run_bind, c3, heq]
        · simp at h
      · simp at h
    · simp at h
  · simp at h
theorem pf_ints (k : IntKind) (xs : List Int) : pf 3 (.agg (xs.map (Value.int k)).toArray) = true := by
  simp [pf, isFlat]
theorem aggEq_pf {P : Program} {t : TypeId} {cs ds : Array Value} {b : Bool} (h : aggEq P t cs ds = some b) : pf 3 (.agg cs) = true ∧ pf 3 (.agg ds) = true := by
  unfold aggEq at h
  split at h
  · split at h
    · rename_i k he hsz
      split at h
      · rename_i xs ys hxs hys
        have e1 := intsOf_eq _ _ hxs
        have e2 := intsOf_eq _ _ hys
        have f1 : cs = (xs.map (Value.int k)).toArray := by rw [← e1]
        have f2 : ds = (ys.map (Value.int k)).toArray := by rw [← e2]
        rw [f1, f2]
        exact ⟨pf_ints _ _, pf_ints _ _⟩
      · simp at h
    · simp at h
  · simp at h
end Go.Proofs.YtpgmabpaiijipaaGreatDoor.Den
namespace Go.Proofs.YtpgmabpaiijipaaGreatDoor.Den
open Go
theorem tm_eq (n sz : Nat) : tm n sz = n * sz := by
  unfold tm
  split
  · simp
  · rfl
theorem quiet_drew (w : World) : Quiet w w.drew := ⟨rfl, rfl, rfl, Nat.le_refl _, fun _ _ => rfl⟩
theorem live_pos {sz : Nat} (h : 0 < sz) {o : Bool} {cs : List Value} : live ⟨o, some sz, cs⟩ = true := by
  cases sz with
  | zero => omega
  | succ n => rfl
theorem live_some {b : Blk} {sz : Nat} (hg : b.grown = some sz) (h : 0 < sz) : live b = true := by
  obtain ⟨o, g, cs⟩ := b
  simp only at hg
  subst hg
  exact live_pos h
theorem grown_new {ρ : Rho} {H : Heap} {w : World} (hs : SR ρ H w) {vs vs' extra : List Value} (hone : vs.all oneCell = true) (hv : VRs ρ vs vs') {cap sz : Nat} (hpos : 0 < sz) (hsz : (vs' ++ extra).length = cap * sz) (t : TypeId) (lo : Nat) :
    Rel ρ H w (ρ ++ [⟨w.heap.size, 0, cap⟩]) (H ++ [⟨true, some sz, vs⟩]) lo (w.alloc (.cells (vs' ++ extra).toArray t)) ∧
      (ρ ++ [⟨w.heap.size, 0, cap⟩] : Rho)[H.length]? = some ⟨w.heap.size, 0, cap⟩ := by
  have hlast : (ρ ++ [⟨w.heap.size, 0, cap⟩] : Rho)[H.length]? = some ⟨w.heap.size, 0, cap⟩ := by rw [← hs.len]; simp
  have hpre : ρ <+: ρ ++ [⟨w.heap.size, 0, cap⟩] := ⟨_, rfl⟩
  have old : ∀ (i : Nat) (e : Ent) (b : Blk), (ρ ++ [⟨w.heap.size, 0, cap⟩] : Rho)[i]? = some e → (H ++ [⟨true, some sz, vs⟩] : Heap)[i]? = some b →
      (i < H.length ∧ ρ[i]? = some e ∧ H[i]? = some b) ∨ (i = H.length ∧ e = ⟨w.heap.size, 0, cap⟩ ∧ b = ⟨true, some sz, vs⟩) := by
    intro i e b hi hb
    by_cases hlt : i < H.length
    · refine .inl ⟨hlt, ?_, ?_⟩
      · rwa [List.getElem?_append_left (by rw [hs.len]; exact hlt)] at hi
      · rwa [List.getElem?_append_left hlt] at hb
    · have h1 := (List.getElem?_eq_some_iff.1 hb).1
      simp at h1
      have : i = H.length := by omega
      subst this
      rw [hlast] at hi
      simp at hb
      exact .inr ⟨rfl, by injection hi with hi; exact hi.symm, hb.symm⟩
  have rlt : ∀ (i : Nat) (e : Ent) (b : Blk), ρ[i]? = some e → H[i]? = some b → e.r < w.heap.size := by
    intro i e b hi hb
    exact (hs.blk i e b hi hb).lt
  refine ⟨⟨hs.gl, hs.len, hpre, ⟨by simp [hs.len], ?_, ?_⟩, by simp, ?_, ?_, rfl, rfl, rfl, by simp, ?_⟩, hlast⟩
  · intro i e b hi hb
    rcases old i e b hi hb with ⟨hlt, hi, hb⟩ | ⟨rfl, rfl, rfl⟩
    · exact ((hs.blk i e b hi hb).mono hpre).at (heapOld w _ _ (rlt i e b hi hb))
    · refine .inl ⟨live_pos hpos, (vs' ++ extra).toArray, t, (0, 0), heap_alloc_new w _, ?_, fun _ => rfl, fun s h => ?_⟩
      · intro k v hk
        have hlt : k < vs'.length := by rw [← hv.1]; exact (List.getElem?_eq_some_iff.1 hk).1
        have hx : vs'[k]? = some vs'[k] := List.getElem?_eq_getElem hlt
        refine ⟨get_all hone hk, vs'[k], ?_, (hv.2 k v _ hk hx).mono hpre⟩
        simp only [Nat.zero_add, List.getElem?_toArray]
        rw [List.getElem?_append_left hlt, hx]
      · injection h with h
        subst h
        exact ⟨rfl, by simpa using hsz⟩
  · intro i j e e' b b' hij hi hj hb hb' ho hc
    rcases old i e b hi hb with ⟨hlt, hi, hb⟩ | ⟨rfl, rfl, rfl⟩ <;> rcases old j e' b' hj hb' with ⟨hlt', hj, hb'⟩ | ⟨rfl, rfl, rfl⟩
    · exact hs.inj i j e e' b b' hij hi hj hb hb' ho hc
    · have := rlt i e b hi hb
      show e.r ≠ w.heap.size
      omega
    · have := rlt j e' b' hj hb'
      show w.heap.size ≠ e'.r
      omega
    · exact (hij rfl).elim
  · intro i b hi hb ho
    rw [List.getElem?_append_left hi] at hb
    exact ⟨b, hb, ho⟩
  · intro i e hi he
    have h1 := (List.getElem?_eq_some_iff.1 he).1
    simp at h1
    have h2 := hs.len
    have : i = H.length := by omega
    subst this
    rw [hlast] at he
    injection he with he
    subst he
    exact .inl (Nat.le_refl _)
  · intro k hk _
    exact heapOld w _ _ hk
theorem set_get {H : Heap} {g i : Nat} {s b : Blk} (h : (H.set g s)[i]? = some b) : (i = g ∧ b = s ∧ g < H.length) ∨ (i ≠ g ∧ H[i]? = some b) := by
  rw [List.getElem?_set] at h
  split at h
  · rename_i hi
    split at h
    · rename_i hlt
      injection h with h
      exact .inl ⟨hi.symm, h.symm, by omega⟩
    · simp at h
  · rename_i hi
    exact .inr ⟨fun e => hi e.symm, h⟩
theorem spent_sound {ρ : Rho} {H : Heap} {w : World} (hs : SR ρ H w) (g lo : Nat) (hlive : ∀ b, H[g]? = some b → live b = true) : Rel ρ H w ρ (H.set g ⟨false, none, []⟩) lo w := by
  have key : SR0 ρ (H.set g ⟨false, none, []⟩) w := by
    refine ⟨by simpa using hs.len, ?_, ?_⟩
    · intro i e b hi hb
      rcases set_get hb with ⟨rfl, rfl, hlt⟩ | ⟨_, hb⟩
      · obtain ⟨c, el, fz, x, _⟩ := (hs.blk i e H[i] hi (List.getElem?_eq_getElem hlt)).row (hlive _ (List.getElem?_eq_getElem hlt))
        exact .inl ⟨rfl, c, el, fz, x, fun k v hk => by simp at hk, fun h => by simp at h, fun s h => by simp at h⟩
      · exact hs.blk i e b hi hb
    · intro i j e e' b b' hij hi hj hb hb' ho hc
      rcases set_get hb with ⟨rfl, rfl, _⟩ | ⟨_, hb⟩
      · simp at ho
      · rcases set_get hb' with ⟨rfl, rfl, _⟩ | ⟨_, hb'⟩
        · simp at hc
        · exact hs.inj i j e e' b b' hij hi hj hb hb' ho hc
  refine ⟨hs.gl, hs.len, List.prefix_refl _, key, by simp, ?_, ?_, rfl, rfl, rfl, Nat.le_refl _, fun _ _ _ => rfl⟩
  · intro i b _ hb ho
    rcases set_get hb with ⟨rfl, rfl, _⟩ | ⟨_, hb⟩
    · simp at ho
    · exact ⟨b, hb, ho⟩
  · intro i e hi he
    have := (List.getElem?_eq_some_iff.1 he).1
    have := hs.len
    omega
theorem append_room_run {P : Program} (w : World) (t ty e el : TypeId) (i : TypeInfo) (ht : P.underlying t = some (.slice e)) (hi : P.info? e = some i)
    (g sLen sCap : Nat) (cur : Array Value) (hg : w.heap[g]? = some (.cells cur el (0, 0)))
    (a : Addr) (m c : Nat) (news : List Value) (hl : news.length = m * i.size) (hnews : ∀ j u, news[j]? = some u → w.cell? (a.add j) = some u) (h1 : ∀ u ∈ news, u.oneCell' = true)
    (hroom : sLen + m ≤ sCap) (hfit : sLen * i.size + news.length ≤ cur.size) :
    (Builtin.append_ #[t, t] ty #[.slice (some ⟨g, 0, none⟩) sLen sCap, .slice (some a) m c]).run P w =
      .ok (.slice (some ⟨g, 0, none⟩) (sLen + m) sCap) (w.setRow g (cur.toList.take (sLen * i.size) ++ news ++ cur.toList.drop (sLen * i.size + news.length)).toArray) := by
  have hf := run_firstCells_some (P := P) w i.size m a m c news hl hnews
  have hst := run_storeCells_at P g (sLen * i.size) el news 0 cur w hg (by simpa using hfit) h1
  simp only [Nat.add_zero] at hst
  simp [Builtin.append_, run_underlying ht, sizeOf, typeInfo, hi, Builtin.lenOf, hroom, hf, Addr.add_lit, hst]
theorem room_sound {ρ : Rho} {H : Heap} {w : World} (hs : SR ρ H w) {g : Nat} {e : Ent} {old : Blk} (he : ρ[g]? = some e) (hb : H[g]? = some old) (hown : old.own = true) {sz n m : Nat} (hgr : old.grown = some sz)
    (hlen : n * sz ≤ old.cells.length) (hcne : old.cells ≠ []) (hsz : 0 < sz) {news news' : List Value} (hone : news.all oneCell = true) (hv : VRs ρ news news') (hnl : news.length = m * sz) (hroom : n + m ≤ e.k) :
    ∃ c el, w.heap[e.r]? = some (.cells c el (0, 0)) ∧ e.d = 0 ∧ n * sz + news'.length ≤ c.size ∧
      Rel ρ H w (ρ ++ [⟨e.r, 0, e.k⟩]) (H.set g ⟨false, none, []⟩ ++ [⟨true, some sz, old.cells.take (n * sz) ++ news⟩]) g
        (w.setRow e.r (c.toList.take (n * sz) ++ news' ++ c.toList.drop (n * sz + news'.length)).toArray) := by
  obtain ⟨c, el, fz, h1, h2, h3, h4⟩ := (hs.blk _ _ _ he hb).row (live_some hgr hsz)
  have hfz := h3 hown
  subst hfz
  obtain ⟨hd, hcs⟩ := h4 sz hgr
  have hnl' : news'.length = m * sz := by rw [← hv.1]; exact hnl
  have hfit : n * sz + news'.length ≤ c.size := by
    rw [hcs, hnl', ← Nat.add_mul]; exact Nat.mul_le_mul_right _ hroom
  refine ⟨c, el, h1, hd, hfit, ?_⟩
  have hglen : g < H.length := (List.getElem?_eq_some_iff.1 hb).1
  generalize hnew : (c.toList.take (n * sz) ++ news' ++ c.toList.drop (n * sz + news'.length)).toArray = new
  have hnews : new.size = c.size := by rw [← hnew]; simp; omega
  have hr' : (w.setRow e.r new).heap[e.r]? = some (.cells new el (0, 0)) := setRow_heap w e.r c new el _ h1
  have hnget : ∀ k, new[k]? = if k < n * sz then c[k]? else if k < n * sz + news'.length then news'[k - n * sz]? else c[k]? := by
    intro k
    rw [← hnew]
    have ht : (c.toList.take (n * sz)).length = n * sz := by simp; omega
    simp only [List.getElem?_toArray, List.append_assoc]
    rw [List.getElem?_append, ht]
    split
    · rename_i hk; rw [List.getElem?_take, if_pos hk]; simp
    · rename_i hk
      rw [List.getElem?_append]
      split
      · rename_i hk2; rw [if_pos (by omega)]
      · rename_i hk2
        rw [if_neg (by omega), List.getElem?_drop, show n * sz + news'.length + (k - n * sz - news'.length) = k by omega]
        simp
  have hlast : (ρ ++ [⟨e.r, 0, e.k⟩] : Rho)[H.length]? = some ⟨e.r, 0, e.k⟩ := by rw [← hs.len]; simp
  have hpre : ρ <+: ρ ++ [⟨e.r, 0, e.k⟩] := ⟨_, rfl⟩
  have cases3 : ∀ (i : Nat) (e1 : Ent) (b : Blk), (ρ ++ [⟨e.r, 0, e.k⟩] : Rho)[i]? = some e1 → (H.set g ⟨false, none, []⟩ ++ [⟨true, some sz, old.cells.take (n * sz) ++ news⟩] : Heap)[i]? = some b →
      (i = g ∧ e1 = e ∧ b = ⟨false, none, []⟩) ∨ (i ≠ g ∧ i < H.length ∧ ρ[i]? = some e1 ∧ H[i]? = some b) ∨ (i = H.length ∧ e1 = ⟨e.r, 0, e.k⟩ ∧ b = ⟨true, some sz, old.cells.take (n * sz) ++ news⟩) := by
    intro i e1 b hi hbi
    by_cases hlt : i < H.length
    · rw [List.getElem?_append_left (by rw [hs.len]; exact hlt)] at hi
      rw [List.getElem?_append_left (by simpa using hlt)] at hbi
      rcases set_get hbi with ⟨rfl, rfl, _⟩ | ⟨hne, hbi⟩
      · rw [he] at hi; injection hi with hi
        exact .inl ⟨rfl, hi.symm, rfl⟩
      · exact .inr (.inl ⟨hne, hlt, hi, hbi⟩)
    · have h5 := (List.getElem?_eq_some_iff.1 hbi).1
      simp at h5
      have : i = H.length := by omega
      subst this
      rw [hlast] at hi
      rw [List.getElem?_append_right (by simp)] at hbi
      simp at hbi
      exact .inr (.inr ⟨rfl, by injection hi with hi; exact hi.symm, hbi.symm⟩)
  refine ⟨hs.gl, hs.len, hpre, ⟨by simp [hs.len], ?_, ?_⟩, by simp, ?_, ?_, rfl, rfl, rfl, by simp [World.setRow], ?_⟩
  · intro i e1 b hi hbi
    rcases cases3 i e1 b hi hbi with ⟨rfl, rfl, rfl⟩ | ⟨hne, hlt, hi, hbi⟩ | ⟨rfl, rfl, rfl⟩
    · exact .inl ⟨rfl, new, el, (0, 0), hr', fun k v hk => by simp at hk, fun _ => rfl, fun s h => by simp at h⟩
    · by_cases hcell : b.cells = []
      · obtain ⟨hl', c', el', fz', x, y, z, t⟩ := ((hs.blk i e1 b hi hbi).mono hpre).rowe hcell
        by_cases hee : e1.r = e.r
        · rw [hee] at x
          rw [h1] at x
          injection x with x
          injection x with x1 x2 x3
          subst x1 x2 x3
          exact .inl ⟨hl', new, el, (0, 0), by rw [hee]; exact hr', fun k v hk => by rw [hcell] at hk; simp at hk, fun _ => rfl, fun s hsz => by rw [hnews]; exact t s hsz⟩
        · exact .inl ⟨hl', c', el', fz', by rw [heap_setRow_other hee]; exact x, y, z, t⟩
      · have hee : e.r ≠ e1.r := hs.inj _ _ _ _ _ _ (fun h => hne h.symm) he hi hb hbi hown hcell
        exact ((hs.blk i e1 b hi hbi).mono hpre).at (heap_setRow_other (fun h => hee h.symm))
    · refine .inl ⟨live_pos hsz, new, el, (0, 0), hr', ?_, fun _ => rfl, fun s h => by injection h with h; subst h; exact ⟨rfl, by rw [hnews]; exact hcs⟩⟩
      intro k v hk
      simp only [Nat.zero_add]
      simp only at hk
      rw [List.getElem?_append, List.length_take, Nat.min_eq_left hlen] at hk
      split at hk
      · rename_i hlt
        rw [List.getElem?_take, if_pos hlt] at hk
        obtain ⟨o1, v', x, y⟩ := h2 _ _ hk
        rw [hd, Nat.zero_add] at x
        exact ⟨o1, v', by rw [hnget, if_pos hlt, x], y.mono hpre⟩
      · rename_i hge
        have hlt2 : k - n * sz < news'.length := by rw [← hv.1]; exact (List.getElem?_eq_some_iff.1 hk).1
        have hx : news'[k - n * sz]? = some news'[k - n * sz] := List.getElem?_eq_getElem hlt2
        exact ⟨get_all hone hk, _, by rw [hnget, if_neg hge, if_pos (by omega), hx], (hv.2 _ _ _ hk hx).mono hpre⟩
  · intro i j e1 e2 b1 b2 hij hi hj hb1 hb2 ho1 hc2
    rcases cases3 i e1 b1 hi hb1 with ⟨rfl, rfl, rfl⟩ | ⟨hne, hlt, hi, hb1⟩ | ⟨rfl, rfl, rfl⟩
    · simp at ho1
    · rcases cases3 j e2 b2 hj hb2 with ⟨rfl, rfl, rfl⟩ | ⟨hne2, hlt2, hj, hb2⟩ | ⟨rfl, rfl, rfl⟩
      · simp at hc2
      · exact hs.inj i j e1 e2 b1 b2 hij hi hj hb1 hb2 ho1 hc2
      · exact hs.inj i g e1 e b1 old hne hi he hb1 hb ho1 hcne
    · rcases cases3 j e2 b2 hj hb2 with ⟨rfl, rfl, rfl⟩ | ⟨hne2, hlt2, hj, hb2⟩ | ⟨rfl, rfl, rfl⟩
      · simp at hc2
      · exact hs.inj g j e e2 old b2 (fun h => hne2 h.symm) he hj hb hb2 hown hc2
      · exact (hij rfl).elim
  · intro i b hi hbi ho
    rw [List.getElem?_append_left (by simpa using hi)] at hbi
    rcases set_get hbi with ⟨rfl, rfl, _⟩ | ⟨_, hbi⟩
    · simp at ho
    · exact ⟨b, hbi, ho⟩
  · intro i e1 hi he1
    have h5 := (List.getElem?_eq_some_iff.1 he1).1
    simp at h5
    have h6 := hs.len
    have : i = H.length := by omega
    subst this
    rw [hlast] at he1
    injection he1 with he1
    subst he1
    exact .inr ⟨g, e, old, he, hb, hown, Nat.le_refl _, rfl⟩
  · intro k hk hh
    exact heap_setRow_other (fun h => hh g e old he hb hown (Nat.le_refl _) h.symm)
theorem rd_here {H : Heap} {bb off n : Nat} {blk : Blk} (hb : H[bb]? = some blk) (hl : live blk = true) (h : off + n ≤ blk.cells.length) : rd H ⟨bb, off, none⟩ n = some ((blk.cells.drop off).take n) := by
  simp only [rd, hb, hl]
  rw [if_pos h]
theorem of_new' {P : Program} {F : Slots} {H H' : Heap} {lo : Nat} {o : Oper} {v : Value}
    (h : ∀ (ρ : Rho) (a : Act) (w : World), OpR ρ F a o.op.operands.toList → SR ρ H w → ∃ ρ' v' w', VR ρ' v v' ∧ Rel ρ H w ρ' H' lo w' ∧
      ((execOp a.eval o).run P w = .ok (.value v') w' ∨ ((execOp a.eval o).run P w = .ok .skip w' ∧ v' = undef))) : OpSound P F H lo o ⟨v, H', lo, .write⟩ := by
  have h1 := OpSound.of_write (lo := lo) (l := lo) h
  rwa [Nat.min_self] at h1
theorem appS_sound {fl : Bool} {P : Program} {F : Slots} {H : Heap} {lo : Nat} {o : Oper} {c : Call} (hc : o.op = .call c) (hcal : c.callee = .builtin .append) {r : Out} (h : appS fl P F H lo c = some (true, r)) : OpSound P F H lo o r := by
  obtain ⟨callee, cargs, cats⟩ := c
  simp only at hcal
  subst hcal
  unfold appS at h
  simp only [forceIf_eq] at h
  split at h
  case h_2 => simp at h
  rename_i t t' s bb off m cm htys hargs
  split at h
  case h_2 => simp at h
  rename_i e blk hbe hu hblk
  have htt : t = t' := Nat.eq_of_beq_eq_true hbe
  subst htt
  split at h
  case h_2 => simp at h
  rename_i i hinf
  split at h
  case h_2 => simp at h
  rename_i z hz
  have hcats : cats = #[t, t] := by apply Array.ext'; simpa using htys
  subst hcats
  have hrun : ∀ (ρ : Rho) (a : Act) (w : World), OpR ρ F a o.op.operands.toList →
      ∃ s' e2 c2, VR ρ s s' ∧ ρ[bb]? = some e2 ∧ (execOp a.eval o).run P w = (do pure (.value (← Builtin.append_ #[t, t] o.type #[s', .slice (some ⟨e2.r, e2.d + off, none⟩) m c2])) : Sem Next).run P w := by
    intro ρ a w hr
    have h2 := evs_sound (a := a) _ _ hargs (fun x hx => hr x (by rw [hc]; simpa [Op.operands, Call.operands] using hx))
    have h3 : VRs ρ [s, .slice (some ⟨bb, off, none⟩) m cm] (cargs.map a.eval).toList := by simpa using h2
    match hl : (cargs.map a.eval).toList, h3.1 with
    | [x', y'], _ =>
      have hx := h3.2 0 _ _ rfl (by rw [hl]; rfl)
      have hy := h3.2 1 _ _ rfl (by rw [hl]; rfl)
      obtain ⟨e2, c2, he2, _, hv2, _, _⟩ := slice_of hy (.inl rfl)
      have he : cargs.map a.eval = #[x', y'] := by apply Array.ext'; simpa using hl
      exact ⟨x', e2, c2, hx, he2, by simp [execOp, hc, resolve, invoke, builtin, he, hv2]⟩
  have news_of : ∀ {ρ : Rho} {w : World} (hs : SR ρ H w) {e2 : Ent} (he2 : ρ[bb]? = some e2) (hl : live blk = true) (hfit : off + m * i.size ≤ blk.cells.length),
      ∃ news', ((blk.cells.drop off).take (m * i.size)).all oneCell = true ∧ ((blk.cells.drop off).take (m * i.size)).length = m * i.size ∧ VRs ρ ((blk.cells.drop off).take (m * i.size)) news' ∧
        ∀ j u, news'[j]? = some u → w.cell? ((⟨e2.r, e2.d + off, none⟩ : Addr).add j) = some u := by
    intro ρ w hs e2 he2 hl hfit
    obtain ⟨_, hl, hone, cs', g1, g2⟩ := rd_sound hs (rd_here hblk hl hfit) he2
    exact ⟨cs', hone, hl, g1, g2⟩
  split at h
  ·
    split at h
    ·
      simp only [Option.some.injEq, Prod.mk.injEq, true_and] at h
      subst h
      refine OpSound.of_pure fun ρ a w hr => ?_
      obtain ⟨s', e2, cap2, hvs, he2, hx⟩ := hrun ρ a w hr
      obtain rfl := isFlat_eq rfl hvs
      refine ⟨.slice none 0 0, .flat rfl, ?_⟩
      rw [hx]
      simp [Builtin.append_, run_underlying hu, sizeOf, typeInfo, hinf, Builtin.lenOf, Builtin.firstCells, loadCells, loadCellsFrom]
    rename_i hm0
    simp only [Option.some.injEq, Prod.mk.injEq, decide_eq_true_eq] at h
    obtain ⟨⟨c0, c1, c2, c3, c4, c5, c6⟩, rfl⟩ := h
    rw [tm_eq] at c4
    rw [tm_eq]
    refine of_new' fun ρ a w hr hs => ?_
    obtain ⟨s', e2, cap2, hvs, he2, hx⟩ := hrun ρ a w hr
    obtain rfl := isFlat_eq rfl hvs
    obtain ⟨news', n1, n2, n3, n4⟩ := news_of hs he2 c0 c4
    have hnl : news'.length = m * i.size := by rw [← n3.1]; exact n2
    have hr0 := run_append_nil (P := P) w t o.type e i z hu hinf hz ⟨e2.r, e2.d + off, none⟩ m cap2 news' hnl n4 c3 (by omega) (by omega)
    have hge := grownCap_ge w m 0 e
    have hq := quiet_drew w
    obtain ⟨g1, g2⟩ := grown_new (hs.quiet hq) (extra := (Builtin.zeroCells z.cells (grownCap w m 0 e - m)).toList) n1 n3 (cap := grownCap w m 0 e) (sz := i.size) c2 (by
      have h5 : (Builtin.zeroCells z.cells (grownCap w m 0 e - m)).toList.length = (grownCap w m 0 e - m) * i.size := by rw [Array.length_toList, size_zeroCells, c1]
      rw [List.length_append, hnl, h5, ← Nat.add_mul]; congr 1; omega) e lo
    have g3 := (Rel.of_quiet hs hq lo).trans g1
    rw [Nat.min_self] at g3
    refine ⟨_, .slice (some ⟨w.heap.size, 0, none⟩) m (grownCap w m 0 e), _, .sliceU g2 c3 hge, g3, .inl ?_⟩
    rw [hx]
    simp only [Sem.run_bind, hr0, Result.andThen_ok]
    have : news'.toArray ++ Builtin.zeroCells z.cells (grownCap w m 0 e - m) = (news' ++ (Builtin.zeroCells z.cells (grownCap w m 0 e - m)).toList).toArray := by
      apply Array.ext'; simp
    rw [this]
    rfl
  · rename_i g n
    split at h
    case h_2 => simp at h
    rename_i old hold
    split at h
    case h_2 => simp at h
    rename_i sz hgr
    simp only [Option.some.injEq, Prod.mk.injEq, decide_eq_true_eq] at h
    obtain ⟨⟨c0, c1, c2, c4, c5, c6, c7, c8, c9, c10⟩, rfl⟩ := h
    rw [tm_eq] at c4 c10
    rw [tm_eq]
    subst c7
    refine OpSound.of_write fun ρ a w hr hs => ?_
    obtain ⟨s', e2, cap2, hvs, he2, hx⟩ := hrun ρ a w hr
    obtain ⟨news', n1, n2, n3, n4⟩ := news_of hs he2 c0 c4
    have hnl : news'.length = m * i.size := by rw [← n3.1]; exact n2
    cases hvs with
    | flat hf => simp [isFlat] at hf
    | slice _ hl => omega
    | sliceU he h0 hl =>
      rename_i en
      obtain ⟨cw, el0, fz0, b1, b2, b3, b4⟩ := (hs.blk _ _ _ he hold).row (live_some hgr c2)
      obtain ⟨hd, hcs⟩ := b4 i.size hgr
      have hdd : (⟨en.r, en.d, none⟩ : Addr) = ⟨en.r, 0, none⟩ := by rw [hd]
      by_cases hroom : n + m ≤ en.k
      · obtain ⟨cc, el, h1, _, hfit, hR⟩ := room_sound hs he hold c9 hgr (n := n) (by omega) (by intro h; rw [h] at c10; have := Nat.mul_pos c8 c2; simp at c10; omega) c2 n1 n3 n2 hroom
        rw [← c10, List.take_length, c10] at hR
        have hr0 := append_room_run (P := P) w t o.type e el i hu hinf en.r n en.k cc h1 ⟨e2.r, e2.d + off, none⟩ m cap2 news' hnl n4 (n3.allOne n1) hroom hfit
        refine ⟨_, .slice (some ⟨en.r, 0, none⟩) (n + m) en.k, _, .sliceU (e := ⟨en.r, 0, en.k⟩) (by rw [← hs.len]; simp) (by omega) hroom, hR, .inl ?_⟩
        rw [hx, hdd]
        simp only [Sem.run_bind, hr0, Result.andThen_ok]
        rfl
      ·
        have hlo : rd H ⟨g, 0, none⟩ (n * i.size) = some old.cells := by
          rw [rd_here hold (live_some hgr c2) (by omega)]
          congr 1
          rw [List.drop_zero, ← c10, List.take_length]
        obtain ⟨_, o1, o2, olds', o3, o4⟩ := rd_sound hs hlo he
        have hol : olds'.length = n * i.size := by rw [← o3.1]; exact o1
        simp only [Nat.add_zero] at o4
        have hr0 := run_append_grow (P := P) w t o.type e i z hu hinf hz ⟨en.r, en.d, none⟩ n en.k olds' hol o4 ⟨e2.r, e2.d + off, none⟩ m cap2 news' hnl n4 (by omega) (by omega) (growslice_fits (by omega) c5)
        have hge := grownCap_ge w (n + m) en.k e
        have hq := quiet_drew w
        have s1 := spent_sound hs g g (fun b hb => by rw [hold] at hb; injection hb with hb; subst hb; exact live_some hgr c2)
        have s2 := Rel.of_quiet s1.sr hq g
        obtain ⟨g1, g2⟩ := grown_new (s1.sr.quiet hq) (vs := old.cells ++ (blk.cells.drop off).take (m * i.size)) (vs' := olds' ++ news') (extra := (Builtin.zeroCells z.cells (grownCap w (n + m) en.k e - (n + m))).toList)
          (by rw [List.all_append, o2, n1]; rfl) (o3.append n3) (cap := grownCap w (n + m) en.k e) (sz := i.size) c2 (by
          have h5 : (Builtin.zeroCells z.cells (grownCap w (n + m) en.k e - (n + m))).toList.length = (grownCap w (n + m) en.k e - (n + m)) * i.size := by rw [Array.length_toList, size_zeroCells, c1]
          rw [List.length_append, List.length_append, hnl, hol, h5, ← Nat.add_mul, ← Nat.add_mul]; congr 1; omega) e g
        have g3 := (s1.trans s2).trans g1
        simp only [Nat.min_self] at g3
        simp only [List.length_set] at g2
        refine ⟨_, .slice (some ⟨w.heap.size, 0, none⟩) (n + m) (grownCap w (n + m) en.k e), _, .sliceU g2 (by omega) hge, g3, .inl ?_⟩
        rw [hx]
        simp only [Sem.run_bind, hr0, Result.andThen_ok]
        have : olds'.toArray ++ news'.toArray ++ Builtin.zeroCells z.cells (grownCap w (n + m) en.k e - (n + m)) = (olds' ++ news' ++ (Builtin.zeroCells z.cells (grownCap w (n + m) en.k e - (n + m))).toList).toArray := by
          apply Array.ext'; simp
        rw [this]
        rfl
  · simp at h
theorem appS_fl {fl fl' : Bool} {P : Program} {F : Slots} {H : Heap} {lo : Nat} {c : Call} : appS fl P F H lo c = appS fl' P F H lo c := by
  unfold appS
  simp only [forceIf_eq]
end Go.Proofs.YtpgmabpaiijipaaGreatDoor.Den
namespace Go.Proofs.YtpgmabpaiijipaaGreatDoor.Den
open Go
def isBk (f : FuncId) : Bool := Nat.beq f 192
structure BackOk (P : Program) (f : FuncId) : Prop where
  enters : ∀ (args : Array Value) (w : World), (callFunc f args).run P w = .ok (.enter f args) w
  calls : ∀ (l br bo b off len cap : Nat) (J : Nat → World → Prop) (Jx : World → Prop) (W : World), len ≤ cap → len ≤ 4294967296 →
    W.cell? ⟨br, bo, none⟩ = some (.slice (some ⟨b, off, none⟩) len cap) →
    (∀ k W, k < len → J (k + 1) W → W.cell? ⟨br, bo, none⟩ = some (.slice (some ⟨b, off, none⟩) len cap) ∧ ∃ v : Int, W.cell? ⟨b, off + k, none⟩ = some (.int .i64 v) ∧
      YieldAt Fence.wide 0 P l #[.int .i64 (k : Nat), .int .i64 v] W fun e W' => (e = .returned (.bool true) ∧ J k W') ∨ (e = .returned (.bool false) ∧ Jx W')) →
    J len W → CallsIn Fence.wide 0 P f #[.func (.yield l) #[] #[], .pointer (some ⟨br, bo, none⟩)] W fun e W' => (∃ v, e = .returned v) ∧ (J 0 W' ∨ Jx W')
end Go.Proofs.YtpgmabpaiijipaaGreatDoor.Den
