/- Part 0 of a proof about this seat: Vm0, Vm1, Vm2, Vm3, Vm4, Vm5, Vm6, Vm7, Vm8, Vm9, Vm10, Vm11, Vm12, Vm13. (Own work of this repo.) -/
import Derived.Calls
import Derived.Laws.World
import Derived.Laws.Sem
import Derived.Laws.Cells
import Derived.Laws.CopyRow
set_option linter.unusedVariables false
set_option linter.unusedSimpArgs false
/- A small machine over pure values that stands for the model's machine: its definitions. (Own work of this repo.) -/
namespace Vm
open Go

/-- Values without addresses of the model's memory: a slice that nobody writes any more is its elements ('lst'); what is still written lies in a heap of the machine's own ('ref', 'ptr'). -/
inductive AV where
  | int (k : IntKind) (n : Int)
  | bool (b : Bool)
  | str (s : ByteArray)
  | lst (nil : Bool) (xs : List AV)
  | ref (id off len : Nat)
  | ptr (id off : Nat)
  | imm (cells : List AV)
  | nilp
  | fn (f : FuncId) (first captured : List AV)
  | nilf
  | iface (t : TypeId) (v : AV)
  | nili
  | agg (cells : List AV)
  | tup (vs : List AV)
  /-- What a loop over a function does in each round (in the heap's row of such a loop alone). -/
  | code (ps : Array Tmp) (a b : Code)
  deriving Inhabited

def AV.cells : AV → List AV
  | .agg cs => cs
  | v => [v]
def undef : AV := .tup []
/-- May it stand in one cell? -/
def AV.scal : AV → Bool
  | .agg _ => false
  | .tup _ => false
  | _ => true

mutual
/-- No address of the heap in it. -/
def AV.pure : AV → Bool
  | .lst _ xs => AV.pureL xs
  | .ref _ _ _ => false
  | .ptr _ _ => false
  | .imm xs => AV.pureL xs
  | .fn _ a b => AV.pureL a && AV.pureL b
  | .iface _ v => v.pure
  | .agg xs => AV.pureL xs
  | .tup xs => AV.pureL xs
  | .int _ _ => true
  | .bool _ => true
  | .str _ => true
  | .nilp => true
  | .nilf => true
  | .nili => true
  | .code _ _ _ => false
def AV.pureL : List AV → Bool
  | [] => true
  | x :: xs => x.pure && AV.pureL xs
end

/-- A row of cells that is written (or was): 'esz' cells an element, each an aggregate or not. -/
structure Blk where
  cells : List AV
  agg : Bool
  esz : Nat
  fz : Bool

abbrev Heap := Nat → Option Blk
def Heap.empty : Heap := fun _ => none
def Heap.upd (h : Heap) (i : Nat) (b : Option Blk) : Heap := fun j => if j = i then b else h j
def Heap.upds (h : Heap) : List (Nat × Option Blk) → Heap
  | [] => h
  | (i, b) :: r => Heap.upds (h.upd i b) r

inductive TD where
  | int (k : IntKind) | bool | str
  | slice (e : TypeId) | ptr (e : TypeId)
  | struct (fs : List (Nat × TypeId)) | array (n : Nat) (e : TypeId)
  | func | iface | other
structure TI where
  size : Nat
  bytes : Nat
  agg : Bool
  zero : AV
  desc : TD

structure Env where
  T : TypeId → Option TI
  fn : FuncId → Option Func
  /-- Is the function called over the caller's own heap? -/
  opn : FuncId → Bool
  /-- The functions that defer a closure. -/
  df : FuncId → Option Func

def scalConst : Value → Option AV
  | .int k n => some (.int k n)
  | .bool b => some (.bool b)
  | .string s => some (.str s)
  | .pointer none => some .nilp
  | .slice none 0 0 => some (.lst true [])
  | .nilFunc => some .nilf
  | .nilIface => some .nili
  | _ => none
def scalConsts : List Value → Option (List AV)
  | [] => some []
  | v :: vs => match scalConst v, scalConsts vs with
    | some x, some xs => some (x :: xs)
    | _, _ => none
def ofConst : Value → Option AV
  | .agg cs => (scalConsts cs.toList).map .agg
  | .tuple cs => if cs.toList.isEmpty then some (.tup []) else none
  | v => scalConst v

def ev (sl : List AV) : Operand → Option AV
  | .tmp t => some (sl.getD t undef)
  | .const v => ofConst v
  | .func f => if f = 1000003 then none else some (.fn f [] [])
  | .global _ => none
def evs (sl : List AV) : List Operand → Option (List AV)
  | [] => some []
  | x :: xs => match ev sl x, evs sl xs with
    | some v, some vs => some (v :: vs)
    | _, _ => none
def evps (sl : List AV) : List (Nat × Operand) → Option (List (Nat × AV))
  | [] => some []
  | (i, x) :: xs => match ev sl x, evps sl xs with
    | some v, some vs => some ((i, v) :: vs)
    | _, _ => none
def evo (sl : List AV) : Option Operand → Option (Option AV)
  | none => some none
  | some x => (ev sl x).map some

inductive Out where
  | val (v : AV)
  | skip
  | panic (v : AV)
structure Eff where
  out : Out
  rds : List Nat
  ups : List (Nat × Option Blk)
  /-- Is a new number of the heap used? -/
  new : Bool

def Eff.v (x : AV) : Option Eff := some ⟨.val x, [], [], false⟩

/-- Cells 'off', 'off + 1', .. replaced. -/
def setCells : List AV → Nat → List AV → List AV
  | cs, _, [] => cs
  | cs, off, v :: vs => setCells (cs.set off v) (off + 1) vs
def fillAll (place : Nat → Option (Nat × Nat)) (cells : List AV) : List (Nat × AV) → Option (List AV)
  | [] => some cells
  | (i, v) :: rest => match place i with
    | none => none
    | some (off, size) => if v.cells.length = size ∧ off + size ≤ cells.length then fillAll place (setCells cells off v.cells) rest else none
/-- Where a struct's fields lie, and how many cells they take. -/
def places (E : Env) : List (Nat × TypeId) → Option (List (Nat × Nat))
  | [] => some []
  | (o, u) :: fs => match E.T u, places E fs with
    | some tu, some l => some ((o, tu.size) :: l)
    | _, _ => none
/-- A row's elements. -/
def elems (agg : Bool) (esz : Nat) : Nat → List AV → List AV
  | 0, _ => []
  | n + 1, cs => (if agg then .agg (cs.take esz) else cs.headD undef) :: elems agg esz n (cs.drop esz)
def flat : List AV → List AV
  | [] => []
  | x :: xs => x.cells ++ flat xs
def reps : Nat → List AV → List AV
  | 0, _ => []
  | n + 1, z => z ++ reps n z

/-- How many bits a kind has. -/
def kb (k : IntKind) : Nat := k.bits
def intBin (op : BinOp) (k : IntKind) (a b : Int) : Option AV :=
  match op with
  | .add => some (.int k (k.wrap (a + b)))
  | .sub => some (.int k (k.wrap (a - b)))
  | .mul => some (.int k (k.wrap (a * b)))
  | .quo => if b = 0 then none else some (.int k (k.wrap (a.tdiv b)))
  | .rem => if b = 0 then none else some (.int k (a.tmod b))
  | .and => some (.int k (k.wrap (BitVec.ofInt (kb k) a &&& BitVec.ofInt (kb k) b).toNat))
  | .or => some (.int k (k.wrap (BitVec.ofInt (kb k) a ||| BitVec.ofInt (kb k) b).toNat))
  | .xor => some (.int k (k.wrap (BitVec.ofInt (kb k) a ^^^ BitVec.ofInt (kb k) b).toNat))
  | .andNot => some (.int k (k.wrap (BitVec.ofInt (kb k) a &&& ~~~ (BitVec.ofInt (kb k) b)).toNat))
  | .shl => if b < 0 then none else some (.int k (k.wrap (a * 2 ^ (min b.toNat (kb k)))))
  | .shr => if b < 0 then none else some (.int k (a.fdiv (2 ^ (min b.toNat (kb k)))))
  | .eql => some (.bool (decide (a = b)))
  | .neq => some (.bool (!decide (a = b)))
  | .lss => some (.bool (decide (a < b)))
  | .leq => some (.bool (decide (a ≤ b)))
  | .gtr => some (.bool (decide (b < a)))
  | .geq => some (.bool (decide (b ≤ a)))
def bothInt (op : BinOp) (k k' : IntKind) : Bool :=
  match op with
  | .shl | .shr => true
  | _ => k == k'
/-- Are two values equal (the ones that can be asked here)? -/
def eqOf : TD → AV → AV → Option Bool
  | .bool, .bool a, .bool b => some (a == b)
  | .slice _, .lst n _, .lst true _ => some n
  | .slice _, .lst true _, .lst n _ => some n
  | .ptr _, .nilp, .nilp => some true
  | .iface, .nili, .iface _ _ => some false
  | .iface, .iface _ _, .nili => some false
  | .func, .nilf, .nilf => some true
  | .func, .fn _ _ _, .nilf => some false
  | .func, .nilf, .fn _ _ _ => some false
  | _, _, _ => none
/-- Are two cells equal? -/
def eqSc : TD → AV → AV → Option Bool
  | .int _, .int k a, .int k' b => if k = k' then some (a == b) else none
  | .bool, .bool a, .bool b => some (a == b)
  | .str, .str a, .str b => some (a == b)
  | _, _, _ => none
/-- Are two structs of plain fields equal? -/
def eqFs (E : Env) : List (Nat × TypeId) → List AV → List AV → Option Bool
  | [], _, _ => some true
  | (o, u) :: fs, xs, ys => match E.T u, xs[o]?, ys[o]? with
    | some tu, some x, some y => if tu.agg then none else (match eqSc tu.desc x y, eqFs E fs xs ys with
      | some b, some c => some (b && c)
      | _, _ => none)
    | _, _, _ => none
def eqAgg (E : Env) (t : TypeId) (xs ys : List AV) : Option Bool :=
  match E.T t with
  | some ti => (match ti.desc with
    | .struct fs => eqFs E fs xs ys
    | _ => none)
  | none => none
def binEff (E : Env) (op : BinOp) (t : TypeId) : AV → AV → Option Eff
  | .agg xs, .agg ys => match op with
    | .eql => (eqAgg E t xs ys).map fun b => ⟨.val (.bool b), [], [], false⟩
    | .neq => (eqAgg E t xs ys).map fun b => ⟨.val (.bool (!b)), [], [], false⟩
    | _ => none
  | .int k a, .int k' b => if bothInt op k k' then (intBin op k a b).map fun v => ⟨.val v, [], [], false⟩ else none
  | .str a, .str b => match op with
    | .add => if a.size + b.size ≤ 140737488355328 then Eff.v (.str (a ++ b)) else none
    | .eql => Eff.v (.bool (a.toList == b.toList))
    | .neq => Eff.v (.bool (!(a.toList == b.toList)))
    | _ => none
  | x, y => match op, E.T t with
    | .eql, some ti => (eqOf ti.desc x y).map fun b => ⟨.val (.bool b), [], [], false⟩
    | .neq, some ti => (eqOf ti.desc x y).map fun b => ⟨.val (.bool (!b)), [], [], false⟩
    | _, _ => none

/-- A nil interface against the literal nil. -/
def nilEff (E : Env) (op : BinOp) (t : TypeId) (y : Operand) : Option Eff :=
  match y, E.T t with
  | .const _, some ti => (match ti.desc, op with
    | .iface, .eql => Eff.v (.bool true)
    | .iface, .neq => Eff.v (.bool false)
    | _, _ => none)
  | _, _ => none
def inRange (i : Int) (lo hi : Nat) : Option Nat := if (lo : Int) ≤ i ∧ i ≤ (hi : Int) then some i.toNat else none
/-- The bounds of a cut: low, high, both within the length; the maximum, if there is one, is the high bound. -/
def cutBounds (len : Nat) (lo hi mx : Option AV) : Option (Nat × Nat) :=
  let h : Option Nat := match hi with
    | none => some len
    | some (.int _ i) => inRange i 0 len
    | _ => none
  let m : Option Nat := match mx with
    | none => h
    | some (.int _ i) => inRange i 0 len
    | _ => none
  match h, m with
  | some h, some m => if mx.isSome && hi.isNone then none else if h = m then (match lo with
    | none => some (0, h)
    | some (.int _ i) => (inRange i 0 h).map fun l => (l, h)
    | _ => none) else none
  | _, _ => none

/-- The cells that a slice (or a string) holds, for an append or a copy; and what is read. -/
def srcCells (H : Heap) : AV → Option (List AV × Nat × List Nat)
  | .lst _ xs => some (flat xs, xs.length, [])
  | .ref id off len => match H id with
    | some b => if off + len * b.esz ≤ b.cells.length then some ((b.cells.drop off).take (len * b.esz), len, [id]) else none
    | none => none
  | .str s => some (s.data.toList.map fun b => .int .u8 b.toNat, s.size, [])
  | _ => none

def appendEff (E : Env) (H : Heap) (nid : Nat) (ts tx : TypeId) (s x : AV) : Option Eff :=
  match E.T ts, E.T tx with
  | some ti, some tj => (match ti.desc, tj.desc with
    | .slice e, .int _ => none
    | .slice e, _ => (match E.T e, srcCells H x with
      | some te, some (cs, n, rd) =>
        if te.size = 0 ∨ te.bytes = 0 ∨ cs.length ≠ n * te.size then none else
        (match s with
        | .lst true _ => if n = 0 then some ⟨.val (.lst true []), rd, [], false⟩
          else if (2 * n + 1000) * te.bytes ≤ 281474976710656 then some ⟨.val (.ref nid 0 n), nid :: rd, [(nid, some ⟨cs, te.agg, te.size, false⟩)], true⟩ else none
        | .ref id off len => (match H id with
          | some b => if b.fz = false ∧ off = 0 ∧ b.esz = te.size ∧ len * b.esz = b.cells.length then
              (if n = 0 then some ⟨.val (.ref id off len), id :: rd, [], false⟩
              else if (2 * (len + n) + 1000) * te.bytes ≤ 281474976710656 then
                some ⟨.val (.ref nid 0 (len + n)), nid :: id :: rd, [(id, none), (nid, some ⟨b.cells ++ cs, b.agg, b.esz, false⟩)], true⟩ else none)
            else none
          | none => none)
        | _ => none)
      | _, _ => none)
    | _, _ => none)
  | _, _ => none

def copyEff (E : Env) (H : Heap) (ts : TypeId) (d x : AV) : Option Eff :=
  match E.T ts with
  | some ti => (match ti.desc with
    | .slice e => (match E.T e, srcCells H x, d with
      | some te, some (cs, n, rd), .ref id off len => (match H id with
        | some b =>
          let m := min n len
          if b.fz = false ∧ b.esz = te.size ∧ te.size ≠ 0 ∧ cs.length = n * te.size ∧ off + len * te.size ≤ b.cells.length then
            some ⟨.val (.int .i64 m), id :: rd, [(id, some { b with cells := setCells b.cells off (cs.take (m * te.size)) })], false⟩
          else none
        | none => none)
      | _, _, _ => none)
    | _ => none)
  | none => none

def loadEff (E : Env) (H : Heap) (t : TypeId) : AV → Option Eff
  | .ptr id off => (match E.T t, H id with
    | some ti, some b => if ti.agg then (if off + ti.size ≤ b.cells.length then some ⟨.val (.agg ((b.cells.drop off).take ti.size)), [id], [], false⟩ else none)
      else (match b.cells[off]? with | some v => some ⟨.val v, [id], [], false⟩ | none => none)
    | _, _ => none)
  | .imm cs => (match E.T t with
    | some ti => if ti.agg then (if ti.size ≤ cs.length then Eff.v (.agg (cs.take ti.size)) else none)
      else (match cs with | v :: _ => Eff.v v | [] => none)
    | none => none)
  | _ => none
def storeEff (E : Env) (H : Heap) (t : TypeId) (v : AV) : AV → Option Eff
  | .ptr id off => (match E.T t, H id with
    | some ti, some b => if b.fz = false ∧ v.cells.length = ti.size ∧ off + ti.size ≤ b.cells.length ∧ v.cells.all AV.scal then
        some ⟨.skip, [id], [(id, some { b with cells := setCells b.cells off v.cells })], false⟩ else none
    | _, _ => none)
  | _ => none

def partOf (E : Env) (t : TypeId) (cs : List AV) (off : Nat) : Option Eff :=
  match E.T t with
  | some ti => if ti.agg then (if off + ti.size ≤ cs.length then Eff.v (.agg ((cs.drop off).take ti.size)) else none)
    else (match cs[off]? with | some v => Eff.v v | none => none)
  | none => none

/-- The function that a call calls, and its arguments. -/
def target (sl : List AV) : Op → Option (FuncId × List AV)
  | .call c => (match c.callee with
    | .value f => (match ev sl f, evs sl c.args.toList with
      | some (.fn g a b), some l => some (g, a ++ l ++ b)
      | _, _ => none)
    | _ => none)
  | _ => none

def builtinEff (E : Env) (H : Heap) (nid : Nat) (b : Builtin) (ts : List TypeId) (l : List AV) : Option Eff :=
  match b, ts, l with
  | .len, [t], [x] => (match E.T t with
    | some ti => (match ti.desc, x with
      | .slice _, .lst _ xs => Eff.v (.int .i64 xs.length)
      | .slice _, .ref id off n => (match H id with | some _ => some ⟨.val (.int .i64 n), [id], [], false⟩ | none => none)
      | .str, .str s => Eff.v (.int .i64 s.size)
      | .array n _, _ => Eff.v (.int .i64 n)
      | _, _ => none)
    | none => none)
  | .append, [t, u], [s, x] => appendEff E H nid t u s x
  | .copy, t :: _, [d, x] => copyEff E H t d x
  | .min, _, [.int k a, .int _ b] => Eff.v (.int k (if b < a then b else a))
  | .max, _, [.int k a, .int _ b] => Eff.v (.int k (if a < b then b else a))
  | _, _, _ => none

def byteOf : AV → Option UInt8
  | .int .u8 n => some (UInt8.ofNat n.toNat)
  | _ => none
def bytesOf : List AV → Option (List UInt8)
  | [] => some []
  | c :: cs => match byteOf c, bytesOf cs with
    | some b, some bs => some (b :: bs)
    | _, _ => none
/-- A row of bytes as a string. -/
def strOf (cs : List AV) (n : Nat) (rd : List Nat) : Option Eff :=
  if cs.length = n then (match bytesOf cs with
    | some bs => some ⟨.val (.str ⟨bs.toArray⟩), rd, [], false⟩
    | none => none) else none
def strEff (E : Env) (H : Heap) (tj : TI) (v : AV) : Option Eff :=
  match tj.desc, v with
  | .slice _, .str _ => none
  | .slice e, w => (match E.T e with
    | some te => (match te.desc with
      | .int .u8 => (match srcCells H w with
        | some (cs, n, rd) => strOf cs n rd
        | none => none)
      | _ => none)
    | none => none)
  | _, _ => none

/-- An operation that calls no function of the program. -/
def opEff (E : Env) (H : Heap) (nid : Nat) (sl : List AV) (op : Op) : Option Eff :=
  match op with
  | .move x | .assign x => (ev sl x).map fun v => ⟨.val v, [], [], false⟩
  | .pick c a b => (match ev sl c with
    | some (.bool t) => (ev sl (if t then a else b)).map fun v => ⟨.val v, [], [], false⟩
    | _ => none)
  | .alloc t => (match E.T t with
    | some ti => if ti.size ≠ 0 ∧ ti.zero.cells.all AV.scal then some ⟨.val (.ptr nid 0), [nid], [(nid, some ⟨ti.zero.cells, ti.agg, ti.size, false⟩)], true⟩ else none
    | none => none)
  | .box t x => (match E.T t, ev sl x with
    | some ti, some v => if ti.size ≠ 0 ∧ v.cells.all AV.scal then some ⟨.val (.ptr nid 0), [nid], [(nid, some ⟨v.cells, ti.agg, ti.size, false⟩)], true⟩ else none
    | _, _ => none)
  | .build t ps => (match E.T t, evps sl ps.toList with
    | some ti, some l => (match ti.desc with
      | .struct fs => (match places E fs with
        | some pl => (match fillAll (fun i => pl[i]?) ti.zero.cells l with
          | some cs => Eff.v (.agg cs)
          | none => none)
        | none => none)
      | .array _ e => (match E.T e with
        | some te => (match fillAll (fun i => some (i * te.size, te.size)) ti.zero.cells l with
          | some cs => Eff.v (.agg cs)
          | none => none)
        | none => none)
      | _ => none)
    | _, _ => none)
  | .buildSlice t len ps => (match E.T t, evps sl ps.toList with
    | some ti, some l => (match ti.desc with
      | .slice e => (match E.T e with
        | some te => if te.size ≠ 0 ∧ te.zero.cells.length = te.size ∧ len * te.size ≤ 16777216 then
            (match fillAll (fun i => some (i * te.size, te.size)) (reps len te.zero.cells) l with
            | some cs => if cs.all AV.scal then some ⟨.val (.ref nid 0 len), [nid], [(nid, some ⟨cs, te.agg, te.size, false⟩)], true⟩ else none
            | none => none)
          else none
        | none => none)
      | _ => none)
    | _, _ => none)
  | .load t a => (match ev sl a with
    | some x => loadEff E H t x
    | none => none)
  | .store t a x => (match ev sl a, ev sl x with
    | some y, some v => storeEff E H t v y
    | _, _ => none)
  | .nilCheck x => (match ev sl x with
    | some (.ptr id off) => (match H id with | some _ => some ⟨.val (.ptr id off), [id], [], false⟩ | none => none)
    | some (.imm cs) => Eff.v (.imm cs)
    | some (.fn f a b) => Eff.v (.fn f a b)
    | _ => none)
  | .binOp op t x y _ => (match ev sl x, ev sl y with
    | some a, some b => (match a, b with
      | .nili, .nili => nilEff E op t y
      | _, _ => binEff E op t a b)
    | _, _ => none)
  | .unOp op _ x => (match op, ev sl x with
    | .neg, some (.int k n) => Eff.v (.int k (k.wrap (0 - n)))
    | .not, some (.bool b) => Eff.v (.bool (!b))
    | .xor, some (.int k n) => (intBin .xor k (if k.signed then -1 else k.max) n).map fun v => ⟨.val v, [], [], false⟩
    | _, _ => none)
  | .convert s u x => (match E.T s, E.T u, ev sl x with
    | some tj, some ti, some v => (match ti.desc, v with
      | .int k, .int _ n => Eff.v (.int k (k.wrap n))
      | .str, w => strEff E H tj w
      | _, _ => none)
    | _, _, _ => none)
  | .makeInterface t x => (match E.T t, ev sl x with
    | some ti, some v => (match ti.desc with
      | .iface => none
      | .other => none
      | _ => Eff.v (.iface t v))
    | _, _ => none)
  | .makeFunc (.func f) a b => (match evs sl a.toList, evs sl b.toList with
    | some l, some m => if f = 1000003 then none else Eff.v (.fn f l m)
    | _, _ => none)
  | .makeSlice t l c => (match E.T t, ev sl l, ev sl c with
    | some ti, some (.int _ n), some (.int _ m) => (match ti.desc with
      | .slice e => (match E.T e with
        | some te => if te.size ≠ 0 ∧ te.zero.cells.length = te.size ∧ te.zero.cells.all AV.scal ∧ 0 ≤ n ∧ n ≤ m ∧ m * te.bytes ≤ 281474976710656 ∧ m ≤ 9223372036854775807 then
            some ⟨.val (.ref nid 0 n.toNat), [nid], [(nid, some ⟨reps n.toNat te.zero.cells, te.agg, te.size, false⟩)], true⟩
          else none
        | none => none)
      | _ => none)
    | _, _, _ => none)
  | .slice t x lo hi mx => (match E.T t, ev sl x, evo sl lo, evo sl hi, evo sl mx with
    | some ti, some v, some l, some h, some m => (match ti.desc, v with
      | .str, .str s => if m.isSome then none else (match cutBounds s.size l h none with
        | some (a, b) => Eff.v (.str (s.extract a b))
        | none => none)
      | .slice e, .lst nl xs => (match E.T e, cutBounds xs.length l h m with
        | some te, some (a, b) => if a = 0 ∨ a = b then Eff.v (.lst nl ((xs.take b).drop a))
          else (match xs[a]? with
            | some y => if y.cells.length = te.size then Eff.v (.lst nl ((xs.take b).drop a)) else none
            | none => none)
        | _, _ => none)
      | .slice e, .ref id off len => (match H id, E.T e, cutBounds len l h m with
        | some blk, some te, some (a, b) => if blk.esz = te.size then
            (if a = b then (if a = 0 then some ⟨.val (.ref id off 0), [id], [], false⟩ else some ⟨.val (.lst false []), [id], [], false⟩)
            else some ⟨.val (.ref id (off + a * te.size) (b - a)), [id], [], false⟩) else none
        | _, _, _ => none)
      | _, _ => none)
    | _, _, _, _, _ => none)
  | .fieldAddr s x f => (match E.T s, ev sl x with
    | some ti, some v => (match ti.desc with
      | .struct fs => (match fs[f]? with
        | some (o, u) => (match E.T u, v with
          | some tu, .ptr id off => if tu.size = 0 then none else (match H id with | some _ => some ⟨.val (.ptr id (off + o)), [id], [], false⟩ | none => none)
          | some tu, .imm cs => if tu.size = 0 then none else Eff.v (.imm (cs.drop o))
          | _, _ => none)
        | none => none)
      | _ => none)
    | _, _ => none)
  | .field t x f => (match E.T t, ev sl x with
    | some ti, some (.agg cs) => (match ti.desc with
      | .struct fs => (match fs[f]? with
        | some (o, u) => partOf E u cs o
        | none => none)
      | _ => none)
    | _, _ => none)
  | .indexAddr t x i => (match E.T t, ev sl x, ev sl i with
    | some ti, some v, some (.int _ n) => (match ti.desc with
      | .slice e => (match E.T e, v with
        | some te, .lst _ xs => if 0 ≤ n then (match xs[n.toNat]? with
          | some y => if y.cells.length = te.size then Eff.v (.imm y.cells) else none
          | none => none) else none
        | some te, .ref id off len => if 0 ≤ n ∧ n < len then (match H id with
          | some b => if b.esz = te.size then some ⟨.val (.ptr id (off + n.toNat * te.size)), [id], [], false⟩ else none
          | none => none) else none
        | _, _ => none)
      | .array m e => (match E.T e, v with
        | some te, .ptr id off => if 0 ≤ n ∧ n < m then (match H id with
          | some _ => some ⟨.val (.ptr id (off + n.toNat * te.size)), [id], [], false⟩
          | none => none) else none
        | some te, .imm cs => if 0 ≤ n ∧ n < m then Eff.v (.imm (cs.drop (n.toNat * te.size))) else none
        | _, _ => none)
      | _ => none)
    | _, _, _ => none)
  | .index t x i => (match E.T t, ev sl x, ev sl i with
    | some ti, some v, some (.int _ n) => (match ti.desc, v with
      | .str, .str s => if 0 ≤ n then (match s.data.toList[n.toNat]? with | some b => Eff.v (.int .u8 b.toNat) | none => none) else none
      | .array m e, .agg cs => (match E.T e with
        | some te => if 0 ≤ n ∧ n < m then partOf E e cs (n.toNat * te.size) else none
        | none => none)
      | _, _ => none)
    | _, _, _ => none)
  | .typeAssert x _ u ok => (match E.T u, ev sl x with
    | some ti, some v => (match ti.desc with
      | .iface => none
      | .other => none
      | _ => (match v with
        | .iface t y => if t = u then Eff.v (if ok then .tup [y, .bool true] else y)
          else if ok then Eff.v (.tup [ti.zero, .bool false]) else none
        | .nili => if ok then Eff.v (.tup [ti.zero, .bool false]) else none
        | _ => none))
    | _, _ => none)
  | .extract t i => (match ev sl t with
    | some (.tup vs) => (match vs[i]? with | some v => Eff.v v | none => none)
    | _ => none)
  | .call c => (match c.callee with
    | .builtin b => (match evs sl c.args.toList with
      | some l => builtinEff E H nid b c.argTypes.toList l
      | none => none)
    | _ => none)
  | .panic x => (match ev sl x with
    | some (.iface t v) => some ⟨.panic (.iface t v), [], [], false⟩
    | _ => none)
  | _ => none

/-! #### Freezing: a value without addresses, out of one with them -/
/-- Every value of a list, and all the numbers. -/
def mapL (p : AV → Option (AV × List Nat)) : List AV → Option (List AV × List Nat)
  | [] => some ([], [])
  | x :: xs => match p x, mapL p xs with
    | some (y, i), some (ys, j) => some (y :: ys, i ++ j)
    | _, _ => none
/-- What a closure has captured: an address gives the cells behind it. -/
def capt (p : AV → Option (AV × List Nat)) (H : Heap) (v : AV) : Option (AV × List Nat) :=
  match v with
  | .ptr id off => (match H id with
    | some b => if off ≤ b.cells.length ∧ b.esz ≠ 0 then
        (match mapL p (b.cells.drop off) with
        | some (cs, ids) => some (.imm cs, id :: ids)
        | none => none)
      else none
    | none => none)
  | v => p v
def purify : Nat → Heap → AV → Option (AV × List Nat)
  | 0, _, _ => none
  | n + 1, H, v => match v with
    | .ref id off len => (match H id with
      | some b => if off + len * b.esz ≤ b.cells.length ∧ b.esz ≠ 0 ∧ (b.agg = true ∨ b.esz = 1) then
          (match mapL (purify n H) ((b.cells.drop off).take (len * b.esz)) with
          | some (cs, ids) => some (.lst false (elems b.agg b.esz len cs), id :: ids)
          | none => none)
        else none
      | none => none)
    | .agg cs => (match mapL (purify n H) cs with
      | some (ds, ids) => some (.agg ds, ids)
      | none => none)
    | .tup cs => (match mapL (purify n H) cs with
      | some (ds, ids) => some (.tup ds, ids)
      | none => none)
    | .fn f a b => if (AV.fn f a b).pure then some (.fn f a b, []) else if f = 1000003 then none else
      (match mapL (capt (purify n H) H) a, mapL (capt (purify n H) H) b with
      | some (a', i), some (b', j) => some (.fn f a' b', i ++ j)
      | _, _ => none)
    | v => if v.pure then some (v, []) else none
end Vm

/- A small machine over pure values that stands for the model's machine: how it runs; that its runs are a least fixed point. (Own work of this repo.) -/
namespace Vm
open Go

inductive Res where
  | ret (v : AV)
  | panic (v : AV)

structure St where
  sl : List AV
  h : Heap
  nx : Nat

def put (sl : List AV) (d : Option Nat) (v : AV) : List AV :=
  match d with
  | some d => sl.set d v
  | none => sl

def freezes (H : Heap) : List Nat → List (Nat × Option Blk)
  | [] => []
  | i :: is => (i, (H i).map fun b => { b with fz := true }) :: freezes H is

/-- How deep a value is made free of addresses. -/
def deep : Nat := 5

def pcallEff (dp : FuncId → List AV → Option Res) (H : Heap) (g : FuncId) (l : List AV) : Option Eff :=
  match mapL (purify deep H) l with
  | some (l', ids) => (match dp g l' with
    | some (.ret v) => some ⟨.val v, ids, freezes H ids, false⟩
    | some (.panic v) => some ⟨.panic v, ids, freezes H ids, false⟩
    | none => none)
  | none => none

mutual
/-- The addresses on its surface. -/
def AV.surf : AV → List Nat
  | .ref id _ _ => [id]
  | .ptr id _ => [id]
  | .fn _ a b => AV.surfL a ++ AV.surfL b
  | .iface _ v => v.surf
  | .agg xs => AV.surfL xs
  | .tup xs => AV.surfL xs
  | .lst _ _ => []
  | .imm _ => []
  | .int _ _ => []
  | .bool _ => []
  | .str _ => []
  | .nilp => []
  | .nilf => []
  | .nili => []
  | .code _ _ _ => []
def AV.surfL : List AV → List Nat
  | [] => []
  | x :: xs => x.surf ++ AV.surfL xs
end
mutual
/-- Does it hold addresses of these rows only? -/
def AV.within (R : List Nat) : AV → Bool
  | .ref id _ _ => R.contains id
  | .ptr id _ => R.contains id
  | .fn _ a b => AV.withinL R a && AV.withinL R b
  | .iface _ v => v.within R
  | .agg xs => AV.withinL R xs
  | .tup xs => AV.withinL R xs
  | .lst _ xs => AV.pureL xs
  | .imm xs => AV.pureL xs
  | .int _ _ => true
  | .bool _ => true
  | .str _ => true
  | .nilp => true
  | .nilf => true
  | .nili => true
  | .code _ _ _ => false
def AV.withinL (R : List Nat) : List AV → Bool
  | [] => true
  | x :: xs => x.within R && AV.withinL R xs
end
/-- The rows that can be reached. -/
def cellsAt (H : Heap) (i : Nat) : List AV := match H i with | some b => b.cells | none => []
def reach (H : Heap) : Nat → List AV → List Nat
  | 0, _ => []
  | n + 1, l => AV.surfL l ++ reach H n ((AV.surfL l).flatMap (cellsAt H))
def Heap.only (H : Heap) (R : List Nat) : Heap := fun i => if i ∈ R then H i else none
/-- The rows that were lent, as they come back. -/
def lendUps (_ H' : Heap) (R : List Nat) : List (Nat × Option Blk) := R.map fun i => (i, H' i)
/-- Is a part of the heap to be lent to a call? -/
def lends (l : List AV) : Bool := l.any fun | .ptr _ _ => true | _ => false
/-- May the part come back? -/
def lendOk (H H' : Heap) (R : List Nat) : Bool := R.all fun i => (H i).isSome && (match H' i with | some b => AV.withinL R b.cells | none => true)
/-- A call that is lent the rows that its arguments reach. -/
noncomputable def lendEff (co : FuncId → List AV → Heap → Nat → Option (Res × Heap × Nat)) (H : Heap) (N : Nat) (g : FuncId) (l : List AV) : Option Eff :=
  match co g l (H.only (reach H 3 l)) N with
  | some (.ret v, H', _) => if v.pure && lendOk H H' (reach H 3 l) then some ⟨.val v, reach H 3 l, lendUps H H' (reach H 3 l), false⟩ else none
  | _ => none

/-- An operation whose effect is told: calls have theirs from 'ce'. -/
def anyEff (E : Env) (ce : Heap → FuncId → List AV → Option Eff) (H : Heap) (nid : Nat) (sl : List AV) (op : Op) : Option Eff :=
  match target sl op with
  | some (g, l) => ce H g l
  | none => opEff E H nid sl op

/-- Is the operation carried out? ('none': that cannot be told.) -/
def want (all : List Oper) (sl : List AV) (o : Oper) : Option Bool :=
  match o.guard with
  | none => some true
  | some (j, w) => (match all[j]? with
    | none => some false
    | some q => (match q.dst with
      | none => some false
      | some d => (match sl[d]? with
        | none => some false
        | some (.bool b) => some (b == w)
        | some (.tup _) => some false
        | _ => none)))

inductive Ex where
  | norm
  | exit (id : Nat)
  | ret
  | panic (v : AV)

def St.eff (σ : St) (e : Eff) : St := ⟨σ.sl, σ.h.upds e.ups, if e.new then σ.nx + 1 else σ.nx⟩
def St.put (σ : St) (d : Option Nat) (v : AV) : St := { σ with sl := Vm.put σ.sl d v }

/-- The calls: of a function over a heap of its own, and over the caller's. -/
structure Cl where
  p : FuncId → List AV → Option Res
  o : FuncId → List AV → Heap → Nat → Option (Res × Heap × Nat)

/-- Is it the same thrown number? -/
def sameP : AV → AV → Bool
  | .iface t (.int k n), .iface t' (.int k' n') => t == t' && k == k' && n == n'
  | _, _ => false
/-- A call that panics with a plain value leaves the rows that it has read as they were. -/
def mild (e : Eff) : Eff := match e.out with
  | .panic v => { e with ups := if sameP v v then [] else e.ups }
  | _ => e
/-- The effect of a call in a statement that leaves its order open; rows from N on are free. -/
noncomputable def callEff (E : Env) (C : Cl) (N : Nat) (H : Heap) (g : FuncId) (l : List AV) : Option Eff :=
  if E.opn g && lends l && g != 1000003 then lendEff C.o H N g l else (pcallEff C.p H g l).map mild

def runOps (E : Env) (C : Cl) (all : List Oper) : List Oper → St → Option (Ex × St)
  | [], σ => some (.norm, σ)
  | o :: os, σ =>
    match want all σ.sl o with
    | some true =>
      (match target σ.sl o.op with
      | some (g, l) =>
        if E.opn g then
          (match C.o g l σ.h σ.nx with
          | some (.ret v, h, n) => runOps E C all os (St.put ⟨σ.sl, h, n⟩ o.dst v)
          | some (.panic v, h, n) => some (.panic v, ⟨σ.sl, h, n⟩)
          | none => none)
        else
          (match pcallEff C.p σ.h g l with
          | some e => (match e.out with
            | .val v => runOps E C all os ((σ.eff e).put o.dst v)
            | .skip => runOps E C all os ((σ.eff e).put o.dst undef)
            | .panic v => some (.panic v, σ.eff e))
          | none => none)
      | none =>
        (match opEff E σ.h σ.nx σ.sl o.op with
        | some e => (match e.out with
          | .val v => runOps E C all os ((σ.eff e).put o.dst v)
          | .skip => runOps E C all os ((σ.eff e).put o.dst undef)
          | .panic v => some (.panic v, σ.eff e))
        | none => none))
    | some false => runOps E C all os (σ.put o.dst undef)
    | none => none

/-! #### A statement that leaves its order open -/
inductive RK where
  | ok
  | pan
  | dead
/-- What an operation's effect hangs on in the one row that it reads. -/
inductive Dep where
  | all
  | shape (esz : Nat)
  | cells (t : TypeId) (off : Nat) (v : AV)
def depOf (sl : List AV) (H : Heap) (op : Op) (e : Eff) : Dep :=
  match e.rds with
  | [x] => (match H x with
    | some b => (match op with
      | .load t a => (match ev sl a, e.out with
        | some (.ptr _ off), .val v => .cells t off v
        | _, _ => .all)
      | .nilCheck _ => .shape b.esz
      | .fieldAddr _ _ _ => .shape b.esz
      | .indexAddr _ _ _ => .shape b.esz
      | .slice _ _ _ _ _ => .shape b.esz
      | .call c => (match c.callee with
        | .builtin .len => .shape b.esz
        | _ => .all)
      | _ => .all)
    | none => .all)
  | _ => .all
def Dep.ok (E : Env) : Dep → Option Blk → Prop
  | .shape n, some b => b.esz = n
  | .cells t off v, some b => loadEff E (Heap.empty.upd 0 (some b)) t (.ptr 0 off) = some ⟨.val v, [0], [], false⟩
  | _, _ => False
structure Rec where
  k : RK
  dst : Option Nat
  val : AV
  rds : List Nat
  ups : List (Nat × Option Blk)
  nid : Option Nat
  dep : Dep

/-- What must stand before an operation: the bits of its number. -/
def maskOf (acc : List Nat) : List Edge → Nat
  | [] => 0
  | e :: es => if Region.binds .any e then maskOf acc es ||| 2 ^ e.on ||| acc.getD e.on 0 else maskOf acc es
def masks : List Oper → List Nat → List Nat
  | [], acc => acc
  | o :: os, acc => masks os (acc ++ [maskOf acc o.after.toList])
def befBit (all : List Oper) (i q : Nat) : Bool := ((masks all []).getD i 0).testBit q

def recs (E : Env) (dp : Heap → FuncId → List AV → Option Eff) (all : List Oper) : List Oper → Nat → Option (List Nat × AV) → St → Option (List Rec × Option (List Nat × AV) × St)
  | [], _, p, σ => some ([], p, σ)
  | o :: os, i, p, σ =>
    match (match p with | some (qs, _) => qs.any (befBit all i) | none => false) with
    | true =>
      (match recs E dp all os (i + 1) p σ with
      | some (rs, p', σ') => some (⟨.dead, none, undef, [], [], none, .all⟩ :: rs, p', σ')
      | none => none)
    | false => (match want all σ.sl o with
      | some true =>
        (match anyEff E dp σ.h σ.nx σ.sl o.op with
        | some e => (match e.out with
          | .val v => (match recs E dp all os (i + 1) p ((σ.eff e).put o.dst v) with
            | some (rs, p', σ') => some (⟨.ok, o.dst, v, e.rds, e.ups, if e.new then some σ.nx else none, depOf σ.sl σ.h o.op e⟩ :: rs, p', σ')
            | none => none)
          | .skip => (match recs E dp all os (i + 1) p ((σ.eff e).put o.dst undef) with
            | some (rs, p', σ') => some (⟨.ok, o.dst, undef, e.rds, e.ups, if e.new then some σ.nx else none, depOf σ.sl σ.h o.op e⟩ :: rs, p', σ')
            | none => none)
          | .panic v => (match p with
            | some (qs, w) => if sameP w v && (e.ups.isEmpty && !e.new) then (match recs E dp all os (i + 1) (some (i :: qs, w)) σ with
              | some (rs, p', σ') => some (⟨.pan, none, v, e.rds, [], none, .all⟩ :: rs, p', σ')
              | none => none) else none
            | none => if e.ups.isEmpty && !e.new then (match recs E dp all os (i + 1) (some ([i], v)) σ with
              | some (rs, p', σ') => some (⟨.pan, none, v, e.rds, [], none, .all⟩ :: rs, p', σ')
              | none => none) else none))
        | none => none)
      | some false => (match recs E dp all os (i + 1) p (σ.put o.dst undef) with
        | some (rs, p', σ') => some (⟨.ok, o.dst, undef, [], [], none, .all⟩ :: rs, p', σ')
        | none => none)
      | none => none)

def disj (a b : List Nat) : Bool := a.all fun x => !b.contains x
def Rec.ids (r : Rec) : List Nat := r.ups.map (·.1)
/-- May the two change places? -/
def Rec.free (r s : Rec) : Bool := disj r.ids (s.rds ++ s.ids) && disj s.ids r.rds
def Rec.quiet (r : Rec) : Bool := r.ups.isEmpty
def dynOne (all : List Oper) (i : Nat) (r : Rec) : Nat → List Rec → Bool
  | _, [] => true
  | j, s :: ss => (match r.free s with | true => true | false => befBit all j i) && dynOne all i r (j + 1) ss
def dynOk (all : List Oper) : Nat → List Rec → Bool
  | _, [] => true
  | i, r :: rs => dynOne all i r (i + 1) rs && dynOk all (i + 1) rs

/-- What a row may hold when an operation is carried out. -/
def vis (all : List Oper) (i x : Nat) : List Rec → Nat → List (Option Blk) → List (Option Blk)
  | [], _, acc => acc
  | s :: ss, k, acc => vis all i x ss (k + 1) (match s.ids.contains x, decide (k < i), decide (i < k), befBit all i k, befBit all k i with
    | true, true, _, true, _ => [(Heap.empty.upds s.ups) x]
    | true, true, _, false, _ => (Heap.empty.upds s.ups) x :: acc
    | true, false, true, _, false => (Heap.empty.upds s.ups) x :: acc
    | _, _, _, _, _ => acc)
def Stable (E : Env) (all : List Oper) (rs : List Rec) (H : Heap) (i : Nat) (r : Rec) : Prop := r.ids = [] ∧ ∃ x, r.rds = [x] ∧ ∀ b ∈ vis all i x rs 0 [H x], r.dep.ok E b
def PairOk (E : Env) (all : List Oper) (rs : List Rec) (H : Heap) (j k : Nat) (r s : Rec) : Prop :=
  (∀ i, i ∈ r.ids → i ∉ s.ids) ∧ (Stable E all rs H k s ∨ ∀ i, i ∈ r.ids → i ∉ s.rds) ∧ (Stable E all rs H j r ∨ ∀ i, i ∈ s.ids → i ∉ r.rds)
def DynP (E : Env) (all : List Oper) (rs : List Rec) (H : Heap) : Prop :=
  ∀ (j k : Nat) (r s : Rec), rs[j]? = some r → rs[k]? = some s → j < k → befBit all k j = false → PairOk E all rs H j k r s

open Classical in
noncomputable def runDraw (E : Env) (C : Cl) (ops : List Oper) (σ : St) : Option (Ex × St) :=
  match recs E (callEff E C (σ.nx + ops.length)) ops ops 0 none σ with
  | some (rs, none, σ') => (match (match rs.all Rec.quiet with | true => true | false => dynOk ops 0 rs) with
    | true => some (.norm, σ')
    | false => if DynP E ops rs σ.h then some (.norm, σ') else none)
  | some (rs, some (_, v), σ') => (match (match rs.all Rec.quiet with | true => true | false => dynOk ops 0 rs && rs.all (fun r => r.ids.all fun i => σ.nx ≤ i)) with
    | true => some (.panic v, ⟨σ.sl, σ.h, σ'.nx⟩)
    | false => none)
  | none => none


def opTmps (op : Op) : List Nat := op.operands.toList.filterMap fun | .tmp t => some t | _ => none
/-! #### what is asked of the text once and for all -/
def looks (all : List Oper) (o : Oper) : List Nat :=
  opTmps o.op ++ (match o.guard with
    | some (g, _) => (match all[g]? with
      | some q => q.dst.toList
      | none => [])
    | none => [])
def slotFree (all : List Oper) (x y : Oper) : Bool :=
  (match x.dst with
  | some d => !(looks all y).contains d && y.dst != some d
  | none => true) &&
  (match y.dst with
  | some d => !(looks all x).contains d
  | none => true)
def statOne (all : List Oper) (b : List Nat) (i : Nat) (x : Oper) : Nat → List Oper → Bool
  | _, [] => true
  | j, y :: ys => (slotFree all x y || (b.getD j 0).testBit i) && statOne all b i x (j + 1) ys
def statAll (all : List Oper) (b : List Nat) : Nat → List Oper → Bool
  | _, [] => true
  | i, x :: xs => statOne all b i x (i + 1) xs && statAll all b (i + 1) xs
def edgesOk : Nat → List Oper → Bool
  | _, [] => true
  | i, o :: os => o.after.toList.all (fun e => !Region.binds .any e || decide (e.on < i)) && edgesOk (i + 1) os
def regOk (ops : List Oper) : Bool := statAll ops (masks ops []) 0 ops && edgesOk 0 ops

/-- No loop over a function, nothing deferred. -/
def rOk : Code → Bool
  | .region _ ops _ => ops.toList.all fun o => match o.op with | .defer _ => false | _ => true
  | .seq a b => rOk a && rOk b
  | .cond _ a b => rOk a && rOk b
  | .block _ c => rOk c
  | .loop c => rOk c
  | .rangeFunc _ _ _ _ => false
  | _ => true
def codeOk : Code → Bool
  | .region _ ops draw => !draw || regOk ops.toList
  | .seq a b => codeOk a && codeOk b
  | .cond _ a b => codeOk a && codeOk b
  | .block _ c => codeOk c
  | .loop c => codeOk c
  | .rangeFunc _ _ a b => codeOk a && codeOk b && rOk a && rOk b
  | _ => true

/-! #### Code -/
/-- The row of a loop over a function: its state (0: a round may begin; 1: a round is under way; 2: left by 'return'; 3 + i: left by the exit i), what a round does, the slots that a round begins with. -/
def loopRow (s : Nat) (ps : Array Tmp) (asg bd : Code) (sl : List AV) : Blk := ⟨[.int .i64 s, .code ps asg bd, .tup sl], true, 0, false⟩
def statusOf : Option Blk → Option Nat
  | some ⟨[.int .i64 x, _, _], true, 0, false⟩ => some x.toNat
  | _ => none
/-- A loop's row goes on to another state. -/
def turn (s s' : Nat) : Option Blk → Option Blk
  | some ⟨[.int .i64 x, c, t], true, 0, false⟩ => if x = s then some ⟨[.int .i64 s', c, t], true, 0, false⟩ else none
  | _ => none
/-- How a loop is left. -/
def leftBy : Nat → Option Ex
  | 0 => some .norm
  | 1 => none
  | 2 => some .ret
  | i + 3 => some (.exit i)
noncomputable def step (E : Env) (C : Cl) (again : Code → St → Option (Ex × St)) : Code → St → Option (Ex × St)
  | .skip, σ => some (.norm, σ)
  | .region _ ops draw, σ => if draw then runDraw E C ops.toList σ else runOps E C ops.toList ops.toList σ
  | .seq a b, σ => (match step E C again a σ with
    | some (.norm, σ') => step E C again b σ'
    | some (.exit i, σ') => some (.exit i, σ')
    | some (.ret, σ') => some (.ret, σ')
    | some (.panic v, σ') => some (.panic v, σ')
    | none => none)
  | .cond c a b, σ => (match ev σ.sl c with
    | some (.bool true) => step E C again a σ
    | some (.bool false) => step E C again b σ
    | _ => none)
  | .block i c, σ => (match step E C again c σ with
    | some (.norm, σ') => some (.norm, σ')
    | some (.exit j, σ') => if j = i then some (.norm, σ') else some (.exit j, σ')
    | some (.ret, σ') => some (.ret, σ')
    | some (.panic v, σ') => some (.panic v, σ')
    | none => none)
  | .loop c, σ => (match again c σ with
    | some (.norm, σ') => again (.loop c) σ'
    | some (.exit i, σ') => some (.exit i, σ')
    | some (.ret, σ') => some (.ret, σ')
    | some (.panic v, σ') => some (.panic v, σ')
    | none => none)
  | .exit i, σ => some (.exit i, σ)
  | .ret, σ => some (.ret, σ)
  | .rangeFunc fo ps asg bd, σ => (match ev σ.sl fo with
    | some (.fn g a b) => if g = 1000003 then none else
      (match C.o g (a ++ [.fn 1000003 [] [.ref σ.nx 0 0]] ++ b) (σ.h.upd σ.nx (some (loopRow 0 ps asg bd σ.sl))) (σ.nx + 1) with
      | some (.ret _, h, n) => (match statusOf (h σ.nx) with
        | some s => (match leftBy s with
          | some e => some (e, ⟨σ.sl, h.upd σ.nx none, n⟩)
          | none => none)
        | none => none)
      | _ => none)
    | _ => none)
  | _, _ => none

/-- What a function hands back. -/
def resOf (E : Env) (h : Heap) (sl : List AV) : List ResultVar → Option (List AV)
  | [] => some []
  | .tmp t :: rs => (match resOf E h sl rs with
    | some vs => some (sl.getD t undef :: vs)
    | none => none)
  | .cell a t :: rs => (match loadEff E h t (sl.getD a undef), resOf E h sl rs with
    | some ⟨.val v, _, _, _⟩, some vs => some (v :: vs)
    | _, _ => none)
def one : List AV → AV
  | [v] => v
  | vs => .tup vs

/-- The slots of a round: the loop's variables. -/
def setAll (sl : List AV) : List (Tmp × AV) → List AV
  | [] => sl
  | (t, v) :: r => setAll (sl.set t v) r
/-- How a round ends: its state, and whether the loop goes on. -/
def roundBy : Ex → Option (Nat × Bool)
  | .norm => some (0, true)
  | .ret => some (2, false)
  | .exit i => some (i + 3, false)
  | .panic _ => none
def roundEnd (id : Nat) (r : Ex × St) : Option (Res × Heap × Nat) :=
  match roundBy r.1 with
  | some (s, b) => (match turn 1 s (r.2.h id) with
    | some blk => some (.ret (.bool b), r.2.h.upd id (some blk), r.2.nx)
    | none => none)
  | none => none
def refOf : Option AV → Option Nat
  | some (.ref id 0 0) => some id
  | _ => none
/-- What a loop's row says, if a round may begin. -/
def rowOf : Option Blk → Option (Array Tmp × Code × Code × List AV)
  | some ⟨[.int .i64 x, .code ps asg bd, .tup sl], true, 0, false⟩ => if x = 0 then some (ps, asg, bd, sl) else none
  | _ => none
/-- One round of a loop over a function: what its 'yield' does. -/
def yieldR (again : Code → St → Option (Ex × St)) (id : Nat) (args : List AV) (h : Heap) (nx : Nat) : Option (Res × Heap × Nat) :=
  match rowOf (h id) with
  | some (ps, asg, bd, sl) =>
    if args.length = ps.size then
      (match again asg ⟨setAll sl (ps.toList.zip args), h, nx⟩ with
      | some (.norm, σ) => (match turn 0 1 (σ.h id) with
        | some blk => (match again bd ⟨σ.sl, σ.h.upd id (some blk), σ.nx⟩ with
          | some r => roundEnd id r
          | none => none)
        | none => none)
      | _ => none)
    else none
  | none => none
def yieldB (again : Code → St → Option (Ex × St)) (l : List AV) (h : Heap) (nx : Nat) : Option (Res × Heap × Nat) :=
  match refOf l.getLast? with
  | some id => yieldR again id l.dropLast h nx
  | none => none
/-! #### a deferred closure -/
/-- Operations that call nothing. -/
def runPl (E : Env) (all : List Oper) : List Oper → St → Option St
  | [], σ => some σ
  | o :: os, σ =>
    match want all σ.sl o with
    | some true => (match opEff E σ.h σ.nx σ.sl o.op with
      | some e => (match e.out with
        | .val v => runPl E all os ((σ.eff e).put o.dst v)
        | .skip => runPl E all os ((σ.eff e).put o.dst undef)
        | .panic _ => none)
      | none => none)
    | some false => runPl E all os (σ.put o.dst undef)
    | none => none
/-- A plain piece of code, without calls and loops; true: it returns. -/
def runS (E : Env) : Code → St → Option (Bool × St)
  | .skip, σ => some (false, σ)
  | .region _ ops draw, σ => if draw then none else (match runPl E ops.toList ops.toList σ with
    | some σ' => some (false, σ')
    | none => none)
  | .seq a b, σ => (match runS E a σ with
    | some (false, σ') => runS E b σ'
    | some (true, σ') => some (true, σ')
    | none => none)
  | .cond c a b, σ => (match ev σ.sl c with
    | some (.bool true) => runS E a σ
    | some (.bool false) => runS E b σ
    | _ => none)
  | .ret, σ => some (true, σ)
  | _, _ => none
/-- Is it 'recover'? -/
def isRec (o : Oper) : Bool := o.guard.isNone && (match o.op with
  | .call c => (match c.callee with
    | .builtin .recover => true
    | _ => false)
  | _ => false)
/-- The code of a closure that recovers at once. -/
def splitR : Code → Option (Oper × List Oper × Array Oper × Code)
  | .seq (.region _ ops draw) rest => if draw then none else (match ops.toList with
    | o :: os => if isRec o then some (o, os, ops, rest) else none
    | [] => none)
  | _ => none
/-- The slot of the closure that a statement defers as its last operation. -/
def deferSlot (ops : Array Oper) : Option Nat := match ops.toList.getLast? with
  | some o => if o.guard.isNone && o.dst.isNone then (match o.op with
    | .defer c => (match c.callee, c.args.toList with
      | .value (.tmp k), [] => some k
      | _, _ => none)
    | _ => none) else none
  | none => none
/-- A function that defers a closure: what it does ahead of that, the statement that defers, the slot, the next statement, and what follows. -/
def splitD : Code → Option (List (Array Oper) × Array Oper × Nat × Code × Code)
  | .seq (.region _ ops draw) b => if draw then none else (match deferSlot ops with
    | some k => (match b with
      | .seq (.region i ops2 false) r => some ([], ops, k, .region i ops2 false, r)
      | _ => none)
    | none => (match splitD b with
      | some (pre, r) => some (ops :: pre, r)
      | none => none))
  | _ => none
def runPre (E : Env) : List (Array Oper) → St → Option St
  | [], σ => some σ
  | ops :: l, σ => match runPl E ops.toList ops.toList σ with
    | some σ' => runPre E l σ'
    | none => none
/-- A deferred closure's call: none: the function returns; some v: it panics with v, and that is recovered. -/
def callD (E : Env) (g : FuncId) (l : List AV) (m : Option AV) (h : Heap) (nx : Nat) : Option (Heap × Nat) :=
  match E.fn g with
  | some fn => (match fn.body, fn.results.toList with
    | some c, [] => (match splitR c with
      | some (o, os, ops, rest) => (match runPl E ops.toList os ((⟨l ++ List.replicate (fn.ntmps - l.length) undef, h, nx⟩ : St).put o.dst (m.getD .nili)) with
        | some σ1 => (match runS E rest σ1 with
          | some (_, σ2) => some (σ2.h, σ2.nx)
          | none => none)
        | none => none)
      | none => none)
    | _, _ => none)
  | none => none
def leaveD (E : Env) (fn : Func) (g : FuncId) (l : List AV) (m : Option AV) (σ : St) : Option (Res × Heap × Nat) :=
  match callD E g l m σ.h σ.nx with
  | some (h, n) => (match resOf E h σ.sl fn.results.toList with
    | some vs => some (.ret (one vs), h, n)
    | none => none)
  | none => none
/-- What a function that defers does behind that. -/
def restD (again : Code → St → Option (Ex × St)) (c1 c2 : Code) (σ : St) : Option (Option AV × St) :=
  match again c1 σ with
  | some (.norm, σ') => (match again c2 σ' with
    | some (.norm, σ2) => some (none, σ2)
    | some (.ret, σ2) => some (none, σ2)
    | _ => none)
  | some (.panic v, σ') => some (some v, σ')
  | _ => none
def clOf : Option AV → Option (FuncId × List AV)
  | some (.fn g a b) => if g = 1000003 then none else some (g, a ++ b)
  | _ => none
def bodyD (E : Env) (again : Code → St → Option (Ex × St)) (fn : Func) (l : List AV) (h : Heap) (nx : Nat) : Option (Res × Heap × Nat) :=
  match fn.body with
  | some c => (match splitD c with
    | some (pre, ops, k, c1, c2) => (match runPre E pre ⟨l ++ List.replicate (fn.ntmps - l.length) undef, h, nx⟩ with
      | some σ0 => (match runPl E ops.toList ops.toList.dropLast σ0 with
        | some σ1 => (match clOf (σ1.sl[k]?), restD again c1 c2 σ1 with
          | some (g, x), some (m, σ2) => leaveD E fn g x m σ2
          | _, _ => none)
        | none => none)
      | none => none)
    | none => none)
  | none => none
/-- A function's body over a heap. -/
def body (E : Env) (again : Code → St → Option (Ex × St)) (f : FuncId) (l : List AV) (h : Heap) (nx : Nat) : Option (Res × Heap × Nat) :=
  match E.fn f with
  | some fn => (match fn.body with
    | some c => (match again c ⟨l ++ List.replicate (fn.ntmps - l.length) undef, h, nx⟩ with
      | some (.norm, σ) | some (.ret, σ) => (match resOf E σ.h σ.sl fn.results.toList with
        | some vs => some (.ret (one vs), σ.h, σ.nx)
        | none => none)
      | some (.panic v, σ) => some (.panic v, σ.h, σ.nx)
      | _ => none)
    | none => none)
  | none => (match E.df f with
    | some fn => bodyD E again fn l h nx
    | none => if f = 1000003 then yieldB again l h nx else none)
/-- A function over a heap of its own: its arguments and results bear no address. -/
def bodyP (E : Env) (again : Code → St → Option (Ex × St)) (f : FuncId) (l : List AV) : Option Res :=
  if AV.pureL l then
    (match body E again f l Heap.empty 0 with
    | some (.ret v, h, _) => (match purify deep h v with
      | some (v', _) => some (.ret v')
      | none => none)
    | some (.panic v, h, _) => (match purify deep h v with
      | some (v', _) => some (.panic v')
      | none => none)
    | none => none)
  else none
def cl (E : Env) (again : Code → St → Option (Ex × St)) : Cl := ⟨bodyP E again, body E again⟩

noncomputable def exec (E : Env) : Nat → Code → St → Option (Ex × St)
  | 0 => fun _ _ => none
  | n + 1 => step E (cl E (exec E n)) (exec E n)
end Vm

/- The machine over pure values and the model's world: when the one stands for the other; that this stays so. (Own work of this repo.) -/
namespace Vm
open Go

structure Cx where
  H : Heap
  /-- where a row of the heap lies in the world -/
  at_ : Nat → Nat
  /-- blocks that stand outside: of the callers' heaps -/
  F : Nat → Prop
  /-- numbers that have been given -/
  B : Nat → Prop
  w : World

def Cx.own (C : Cx) (b : Nat) : Prop := ∃ i blk, C.H i = some blk ∧ blk.fz = false ∧ C.at_ i = b
def Cx.wr (C : Cx) (b : Nat) : Prop := C.F b ∨ C.own b

inductive Rep (C : Cx) : Value → AV → Prop
  | int (k n) : Rep C (.int k n) (.int k n)
  | bool (b) : Rep C (.bool b) (.bool b)
  | str (s) : Rep C (.string s) (.str s)
  | lnil : Rep C (.slice none 0 0) (.lst true [])
  | lst (a : Addr) (cap esz : Nat) (xs : List AV) (u : Nat → Nat → Value) (hc : xs.length ≤ cap) (hz : ∀ x ∈ xs, x.cells.length = esz)
      (hm : xs ≠ [] → a.spot = none ∧ a.block < C.w.heap.size ∧ ¬ C.wr a.block)
      (hu : ∀ (i : Nat) (x : AV), xs[i]? = some x → ∀ (j : Nat) (c : AV), x.cells[j]? = some c → C.w.cell? ⟨a.block, a.off + (i * esz + j), none⟩ = some (u i j))
      (ho : ∀ (i : Nat) (x : AV), xs[i]? = some x → ∀ (j : Nat) (c : AV), x.cells[j]? = some c → (u i j).oneCell' = true)
      (hr : ∀ (i : Nat) (x : AV), xs[i]? = some x → ∀ (j : Nat) (c : AV), x.cells[j]? = some c → Rep C (u i j) c) : Rep C (.slice (some a) xs.length cap) (.lst false xs)
  | ref (v : Value) (id off len : Nat) (h1 : v.oneCell' = true) (hB : C.B id)
      (h : ∀ blk, C.H id = some blk → ∃ cap, v = .slice (some ⟨C.at_ id, off, none⟩) len cap ∧ len ≤ cap ∧ ∃ cs t fz, C.w.heap[C.at_ id]? = some (.cells cs t fz) ∧ off + cap * blk.esz ≤ cs.size) : Rep C v (.ref id off len)
  | ptr (v : Value) (id off : Nat) (h1 : v.oneCell' = true) (hB : C.B id) (h : ∀ blk, C.H id = some blk → v = .pointer (some ⟨C.at_ id, off, none⟩) ∧ blk.esz ≠ 0) : Rep C v (.ptr id off)
  | imm (a : Addr) (cs : List AV) (u : Nat → Value) (hm : cs ≠ [] → a.spot = none ∧ a.block < C.w.heap.size ∧ ¬ C.wr a.block)
      (hu : ∀ (j : Nat) (c : AV), cs[j]? = some c → C.w.cell? ⟨a.block, a.off + j, none⟩ = some (u j)) (hr : ∀ (j : Nat) (c : AV), cs[j]? = some c → Rep C (u j) c) : Rep C (.pointer (some a)) (.imm cs)
  | nilp : Rep C (.pointer none) .nilp
  | fn (f) (fi ca : Array Value) (l m : List AV) (hy : f ≠ 1000003) (h1 : fi.size = l.length) (h2 : ca.size = m.length) (r1 : ∀ (j : Nat) (v : Value) (x : AV), fi[j]? = some v → l[j]? = some x → Rep C v x)
      (r2 : ∀ (j : Nat) (v : Value) (x : AV), ca[j]? = some v → m[j]? = some x → Rep C v x) : Rep C (.func (.func f) fi ca) (.fn f l m)
  | yld (L id : Nat) (hB : C.B id) (h : ∀ blk, C.H id = some blk → L = C.at_ id ∧ blk.esz = 0) : Rep C (.func (.yield L) #[] #[]) (.fn 1000003 [] [.ref id 0 0])
  | nilf : Rep C .nilFunc .nilf
  | iface (t) (v : Value) (x : AV) (h : Rep C v x) : Rep C (.iface t v) (.iface t x)
  | nili : Rep C .nilIface .nili
  | agg (vs : Array Value) (cs : List AV) (h : vs.size = cs.length) (r : ∀ (j : Nat) (v : Value) (x : AV), vs[j]? = some v → cs[j]? = some x → Rep C v x) : Rep C (.agg vs) (.agg cs)
  | tup (vs : Array Value) (cs : List AV) (h : vs.size = cs.length) (r : ∀ (j : Nat) (v : Value) (x : AV), vs[j]? = some v → cs[j]? = some x → Rep C v x) : Rep C (.tuple vs) (.tup cs)

/-- What the machine's own steps leave alone. -/
def Alike (w w' : World) : Prop := w'.os = w.os ∧ w'.tape = w.tape ∧ w'.output = w.output
/-- What stays when the world goes on. -/
structure Cx.Le (C C' : Cx) : Prop where
  mem : ∀ b, b < C.w.heap.size → ¬ C.own b → C'.w.heap[b]? = C.w.heap[b]?
  owns : ∀ b, b < C.w.heap.size → C'.own b → C.own b
  out : C'.F = C.F
  live : ∀ i blk', C.B i → C'.H i = some blk' → ∃ blk, C.H i = some blk ∧ blk.esz = blk'.esz ∧ C'.at_ i = C.at_ i
  born : ∀ i, C.B i → C'.B i
  shape : ∀ (b : Nat) (cs : Array Value) (t : TypeId) (fz : Nat × Nat), C.w.heap[b]? = some (Obj.cells cs t fz) → ∃ cs' : Array Value, C'.w.heap[b]? = some (Obj.cells cs' t fz) ∧ cs'.size = cs.size
  size : C.w.heap.size ≤ C'.w.heap.size
  env : Alike C.w C'.w

theorem Cx.Le.refl (C : Cx) : C.Le C := ⟨fun _ _ _ => rfl, fun _ _ h => h, rfl, fun _ b _ h => ⟨b, h, rfl, rfl⟩, fun _ h => h, fun _ cs _ _ h => ⟨cs, h, rfl⟩, Nat.le_refl _, rfl, rfl, rfl⟩

theorem cell_congr {w w' : World} {b : Nat} (h : w'.heap[b]? = w.heap[b]?) (o : Nat) : w'.cell? ⟨b, o, none⟩ = w.cell? ⟨b, o, none⟩ := by
  simp only [World.cell?, h]

theorem Cx.Le.wr {C C' : Cx} (h : C.Le C') : ∀ b, b < C.w.heap.size → C'.wr b → C.wr b := fun b hb hw => by
  rcases hw with hF | hO
  · exact .inl (by rw [← h.out]; exact hF)
  · exact .inr (h.owns b hb hO)
theorem Cx.wr_own {C : Cx} {b : Nat} (h : ¬ C.wr b) : ¬ C.own b := fun g => h (.inr g)

theorem cell_cells {w : World} {b o : Nat} {v : Value} (h : w.cell? ⟨b, o, none⟩ = some v) : ∃ cs t fz, w.heap[b]? = some (Obj.cells cs t fz) := by
  simp only [World.cell?] at h
  cases hb : w.heap[b]? with
  | none => simp [hb] at h
  | some ob => cases ob <;> first | exact ⟨_, _, _, rfl⟩ | simp [hb] at h
/-- Both ways on: of values without addresses it is asked only what may be written. -/
theorem Rep.onC {C C' : Cx} (mem : ∀ b, b < C.w.heap.size → ¬ C.wr b → (∃ cs t fz, C.w.heap[b]? = some (Obj.cells cs t fz)) → C'.w.heap[b]? = C.w.heap[b]?) (hwr : ∀ b, b < C.w.heap.size → C'.wr b → C.wr b) (size : C.w.heap.size ≤ C'.w.heap.size)
    (ids : Prop) (live : ids → ∀ i blk', C.B i → C'.H i = some blk' → ∃ blk, C.H i = some blk ∧ blk.esz = blk'.esz ∧ C'.at_ i = C.at_ i) (born : ids → ∀ i, C.B i → C'.B i)
    (shape : ids → ∀ (b : Nat) (cs : Array Value) (t : TypeId) (fz : Nat × Nat), C.w.heap[b]? = some (Obj.cells cs t fz) → ∃ cs' : Array Value, C'.w.heap[b]? = some (Obj.cells cs' t fz) ∧ cs'.size = cs.size)
    {v : Value} {x : AV} (h : Rep C v x) (hp : ids ∨ x.pure = true) : Rep C' v x := by
  have pl : ∀ (l : List AV), AV.pureL l = true → ∀ x ∈ l, x.pure = true := by
    intro l
    induction l with
    | nil => intro _ x hx; cases hx
    | cons y ys ih =>
      intro h x hx
      simp only [AV.pureL, Bool.and_eq_true] at h
      rcases List.mem_cons.1 hx with rfl | hx
      · exact h.1
      · exact ih h.2 x hx
  have pc : ∀ (x c : AV), x.pure = true → c ∈ x.cells → c.pure = true := by
    intro x c hx hc
    cases x with
    | agg cs => simp only [AV.pure] at hx; exact pl _ hx c hc
    | _ => simp only [AV.cells, List.mem_singleton] at hc; subst hc; exact hx
  induction h with
  | int k n => exact .int k n
  | bool b => exact .bool b
  | str s => exact .str s
  | lnil => exact .lnil
  | lst a cap esz xs u hc hz hm hu ho hr ih =>
    refine .lst a cap esz xs u hc hz (fun hne => ?_) (fun i x hx j c hj => ?_) ho (fun i x hx j c hj => ih i x hx j c hj ?_)
    · obtain ⟨h1, h2, h3⟩ := hm hne
      exact ⟨h1, Nat.lt_of_lt_of_le h2 size, fun h => h3 (hwr _ h2 h)⟩
    · have hne : xs ≠ [] := by intro e; rw [e] at hx; simp at hx
      obtain ⟨h1, h2, h3⟩ := hm hne
      rw [cell_congr (mem _ h2 h3 (cell_cells (hu i x hx j c hj)))]
      exact hu i x hx j c hj
    · rcases hp with hp | hp
      · exact .inl hp
      · simp only [AV.pure] at hp
        exact .inr (pc x c (pl _ hp x (List.mem_of_getElem? hx)) (List.mem_of_getElem? hj))
  | ref v id off len h1 hB h =>
    rcases hp with hp | hp
    · refine .ref v id off len h1 (born hp _ hB) fun blk' hb' => ?_
      obtain ⟨blk, hb, he, ha⟩ := live hp id blk' hB hb'
      obtain ⟨cap, hv, hl, cs, t, fz, hh, hs⟩ := h blk hb
      obtain ⟨cs', hh', hs'⟩ := shape hp _ cs t fz hh
      exact ⟨cap, by rw [ha]; exact hv, hl, cs', t, fz, by rw [ha]; exact hh', by rw [hs', ← he]; exact hs⟩
    · simp [AV.pure] at hp
  | ptr v id off h1 hB h =>
    rcases hp with hp | hp
    · refine .ptr v id off h1 (born hp _ hB) fun blk' hb' => ?_
      obtain ⟨blk, hb, he, ha⟩ := live hp id blk' hB hb'
      rw [ha, ← he]
      exact h blk hb
    · simp [AV.pure] at hp
  | imm a cs u hm hu hr ih =>
    refine .imm a cs u (fun hne => ?_) (fun j c hj => ?_) (fun j c hj => ih j c hj ?_)
    · obtain ⟨h1, h2, h3⟩ := hm hne
      exact ⟨h1, Nat.lt_of_lt_of_le h2 size, fun h => h3 (hwr _ h2 h)⟩
    · have hne : cs ≠ [] := by intro e; rw [e] at hj; simp at hj
      obtain ⟨h1, h2, h3⟩ := hm hne
      rw [cell_congr (mem _ h2 h3 (cell_cells (hu j c hj)))]
      exact hu j c hj
    · rcases hp with hp | hp
      · exact .inl hp
      · simp only [AV.pure] at hp
        exact .inr (pl _ hp c (List.mem_of_getElem? hj))
  | nilp => exact .nilp
  | yld L id hB h =>
    rcases hp with hp | hp
    · refine .yld L id (born hp _ hB) fun blk' hb' => ?_
      obtain ⟨blk, hb, he, ha⟩ := live hp id blk' hB hb'
      rw [ha, ← he]
      exact h blk hb
    · simp [AV.pure, AV.pureL] at hp
  | fn f fi ca l m hy h1 h2 r1 r2 ih1 ih2 =>
    refine .fn f fi ca l m hy h1 h2 (fun j v x hv hx => ih1 j v x hv hx ?_) (fun j v x hv hx => ih2 j v x hv hx ?_)
    · rcases hp with hp | hp
      · exact .inl hp
      · simp only [AV.pure, Bool.and_eq_true] at hp; exact .inr (pl _ hp.1 x (List.mem_of_getElem? hx))
    · rcases hp with hp | hp
      · exact .inl hp
      · simp only [AV.pure, Bool.and_eq_true] at hp; exact .inr (pl _ hp.2 x (List.mem_of_getElem? hx))
  | nilf => exact .nilf
  | iface t v x h ih =>
    refine .iface t v x (ih ?_)
    rcases hp with hp | hp
    · exact .inl hp
    · simp only [AV.pure] at hp; exact .inr hp
  | nili => exact .nili
  | agg vs cs h r ih =>
    refine .agg vs cs h fun j v x hv hx => ih j v x hv hx ?_
    rcases hp with hp | hp
    · exact .inl hp
    · simp only [AV.pure] at hp; exact .inr (pl _ hp x (List.mem_of_getElem? hx))
  | tup vs cs h r ih =>
    refine .tup vs cs h fun j v x hv hx => ih j v x hv hx ?_
    rcases hp with hp | hp
    · exact .inl hp
    · simp only [AV.pure] at hp; exact .inr (pl _ hp x (List.mem_of_getElem? hx))

theorem Rep.on {C C' : Cx} (mem : ∀ b, b < C.w.heap.size → ¬ C.wr b → C'.w.heap[b]? = C.w.heap[b]?) (hwr : ∀ b, b < C.w.heap.size → C'.wr b → C.wr b) (size : C.w.heap.size ≤ C'.w.heap.size)
    (ids : Prop) (live : ids → ∀ i blk', C.B i → C'.H i = some blk' → ∃ blk, C.H i = some blk ∧ blk.esz = blk'.esz ∧ C'.at_ i = C.at_ i) (born : ids → ∀ i, C.B i → C'.B i)
    (shape : ids → ∀ (b : Nat) (cs : Array Value) (t : TypeId) (fz : Nat × Nat), C.w.heap[b]? = some (Obj.cells cs t fz) → ∃ cs' : Array Value, C'.w.heap[b]? = some (Obj.cells cs' t fz) ∧ cs'.size = cs.size)
    {v : Value} {x : AV} (h : Rep C v x) (hp : ids ∨ x.pure = true) : Rep C' v x := Rep.onC (fun b h1 h2 _ => mem b h1 h2) hwr size ids live born shape h hp

theorem Rep.le {C C' : Cx} (h : C.Le C') {v : Value} {x : AV} (r : Rep C v x) : Rep C' v x :=
  Rep.on (fun b hb hm => h.mem b hb (Cx.wr_own hm)) h.wr h.size True (fun _ => h.live) (fun _ => h.born) (fun _ => h.shape) r (.inl trivial)
theorem Rep.pureOn {C C' : Cx} (mem : ∀ b, b < C.w.heap.size → ¬ C.wr b → C'.w.heap[b]? = C.w.heap[b]?) (hwr : ∀ b, b < C.w.heap.size → C'.wr b → C.wr b) (size : C.w.heap.size ≤ C'.w.heap.size)
    {v : Value} {x : AV} (r : Rep C v x) (hp : x.pure = true) : Rep C' v x :=
  Rep.on mem hwr size False (fun h => h.elim) (fun h => h.elim) (fun h => h.elim) r (.inr hp)

theorem Cx.Le.trans {A B C : Cx} (h : A.Le B) (g : B.Le C) : A.Le C where
  mem b hb ho := by rw [g.mem b (Nat.lt_of_lt_of_le hb h.size) (fun hB => ho (h.owns b hb hB)), h.mem b hb ho]
  owns b hb hm := h.owns b hb (g.owns b (Nat.lt_of_lt_of_le hb h.size) hm)
  out := g.out.trans h.out
  live i blk' hB hC := by
    obtain ⟨b2, h2, e2, a2⟩ := g.live i blk' (h.born i hB) hC
    obtain ⟨b1, h1, e1, a1⟩ := h.live i b2 hB h2
    exact ⟨b1, h1, e1.trans e2, a2.trans a1⟩
  born i hB := g.born i (h.born i hB)
  shape b cs t fz hc := by
    obtain ⟨c1, h1, s1⟩ := h.shape b cs t fz hc
    obtain ⟨c2, h2, s2⟩ := g.shape b c1 t fz h1
    exact ⟨c2, h2, s2.trans s1⟩
  size := Nat.le_trans h.size g.size
  env := ⟨g.env.1.trans h.env.1, g.env.2.1.trans h.env.2.1, g.env.2.2.trans h.env.2.2⟩

/-- What the state of a loop's row says of the loop's record. -/
def LpSt (s : Nat) (r : Loop) : Prop := match s with
  | 0 => r.state = .ready ∧ r.pending = none
  | 1 => r.state = .busy
  | 2 => r.state = .done ∧ r.pending = some .ret
  | i + 3 => r.state = .done ∧ r.pending = some (.exit i)
/-- A loop over a function lies in the world. -/
def LpRel (C : Cx) (i : Nat) (b : Blk) : Prop := ∃ (s : Nat) (ps : Array Tmp) (asg bd : Code) (sl : List AV) (r : Loop), b.cells = [.int .i64 s, .code ps asg bd, .tup sl] ∧ C.w.heap[C.at_ i]? = some (.loop r) ∧
  r.params = ps ∧ r.assign = asg ∧ r.body = bd ∧ (codeOk asg = true ∧ codeOk bd = true ∧ rOk asg = true ∧ rOk bd = true) ∧ LpSt s r ∧ r.tmps.size = sl.length ∧ ∀ (j : Nat) (v : Value) (x : AV), r.tmps[j]? = some v → sl[j]? = some x → Rep C v x
theorem LpRel.le {C C' : Cx} (h : C.Le C') {i i' : Nat} {b : Blk} (hw : C'.w.heap[C'.at_ i']? = C.w.heap[C.at_ i]?) (hr : LpRel C i b) : LpRel C' i' b := by
  obtain ⟨s, ps, asg, bd, sl, r, h1, h2, h3, h4, h5, h6, h7, h8, h9⟩ := hr
  exact ⟨s, ps, asg, bd, sl, r, h1, by rw [hw]; exact h2, h3, h4, h5, h6, h7, h8, fun j v x hv hx => (h9 j v x hv hx).le h⟩
theorem LpRel.cells {C : Cx} {i : Nat} {b b' : Blk} (hb : b'.cells = b.cells) (hr : LpRel C i b) : LpRel C i b' := by
  obtain ⟨s, ps, asg, bd, sl, r, h1, h2⟩ := hr
  exact ⟨s, ps, asg, bd, sl, r, hb.trans h1, h2⟩
theorem LpRel.noCells {C : Cx} {i : Nat} {b : Blk} (hr : LpRel C i b) {cs : Array Value} {t : TypeId} {fz : Nat × Nat} (h : C.w.heap[C.at_ i]? = some (.cells cs t fz)) : False := by
  obtain ⟨s, ps, asg, bd, sl, r, h1, h2, _⟩ := hr
  rw [h2] at h; cases h

/-- The machine's heap lies in the world. -/
structure Cx.Ok (C : Cx) : Prop where
  inj : ∀ i j bi bj, C.H i = some bi → C.H j = some bj → C.at_ i = C.at_ j → i = j
  nF : ∀ i b, C.H i = some b → ¬ C.F (C.at_ i)
  born : ∀ i b, C.H i = some b → C.B i
  blk : ∀ i b, C.H i = some b → b.esz ≠ 0 → ∃ cs t, C.w.heap[C.at_ i]? = some (.cells cs t (0, 0)) ∧ b.cells.length ≤ cs.size ∧ ∀ (j : Nat) (c : AV), b.cells[j]? = some c → ∃ v, cs[j]? = some v ∧ Rep C v c ∧ v.oneCell' = true
  Fsz : ∀ b, C.F b → b < C.w.heap.size
  lp : ∀ i b, C.H i = some b → b.esz = 0 → LpRel C i b
theorem Cx.Ok.lt {C : Cx} (h : C.Ok) {i : Nat} {b : Blk} (hb : C.H i = some b) : C.at_ i < C.w.heap.size := by
  by_cases hz : b.esz = 0
  · obtain ⟨s, ps, asg, bd, sl, r, _, hh, _⟩ := h.lp i b hb hz
    exact (Array.getElem?_eq_some_iff.1 hh).1
  · obtain ⟨cs, t, hh, _⟩ := h.blk i b hb hz
    exact (Array.getElem?_eq_some_iff.1 hh).1
end Vm

/- The machine over pure values and the model's world: types, and how the world moves. (Own work of this repo.) -/
namespace Vm
open Go

def dOf : TypeDesc → Option TD
  | .int k => some (.int k)
  | .bool => some .bool
  | .string => some .str
  | .slice e => some (.slice e)
  | .pointer e => some (.ptr e)
  | .struct fs => some (.struct (fs.toList.map fun f => (f.offset, f.type)))
  | .array n e => some (.array n e)
  | .func _ _ _ => some .func
  | .interface _ => some .iface
  | _ => none
def aggD : TypeDesc → Bool
  | .struct _ => true
  | .array _ _ => true
  | _ => false
def tiOf (P : Program) (t : TypeId) : Option TI :=
  match P.info? t, P.underlying t with
  | some i, some d => (match i.zero with
    | some z => (match ofConst z, dOf d with
      | some az, some ad => if az.cells.length = i.size then some ⟨i.size, i.bytes, aggD d, az, ad⟩ else none
      | _, _ => none)
    | none => none)
  | _, _ => none

structure TyFacts (P : Program) (t : TypeId) (ti : TI) (i : TypeInfo) (d : TypeDesc) (z : Value) : Prop where
  info : P.info? t = some i
  und : P.underlying t = some d
  zero : i.zero = some z
  size : i.size = ti.size
  bytes : i.bytes = ti.bytes
  az : ofConst z = some ti.zero
  ad : dOf d = some ti.desc
  agg : ti.agg = aggD d
  zlen : ti.zero.cells.length = ti.size
theorem tiOf_facts {P : Program} {t : TypeId} {ti : TI} (h : tiOf P t = some ti) : ∃ i d z, TyFacts P t ti i d z := by
  unfold tiOf at h
  split at h
  · rename_i i d hi hd
    split at h
    · rename_i z hz
      split at h
      · rename_i az ad ha hb
        split at h
        · rename_i hl
          cases h
          exact ⟨i, d, z, hi, hd, hz, rfl, rfl, ha, hb, rfl, hl⟩
        · cases h
      · cases h
    · cases h
  · cases h

section
variable {P : Program} {t : TypeId} {ti : TI} {i : TypeInfo} {d : TypeDesc} {z : Value} (F : TyFacts P t ti i d z) (w : World)
include F
theorem TyFacts.run_und : (underlying t).run P w = .ok d w := by simp [underlying, F.und]
theorem TyFacts.run_info : (typeInfo t).run P w = .ok i w := by simp [typeInfo, F.info]
theorem TyFacts.run_size : (Go.sizeOf t).run P w = .ok ti.size w := by simp [Go.sizeOf, typeInfo, F.info, F.size]
theorem TyFacts.run_zero : (zeroValue t).run P w = .ok z w := by simp [zeroValue, typeInfo, F.info, F.zero]
theorem TyFacts.run_agg : (isAgg t).run P w = .ok ti.agg w := by
  simp only [isAgg, Sem.run_bind, F.run_und, Result.andThen_ok, F.agg]
  cases d <;> rfl
end

/-! #### constants -/
theorem scalConst_rep {C : Cx} {v : Value} {x : AV} (h : scalConst v = some x) : Rep C v x := by
  unfold scalConst at h
  split at h <;> first | cases h
  all_goals constructor
theorem scalConst_one {v : Value} {x : AV} (h : scalConst v = some x) : v.oneCell' = true := by
  unfold scalConst at h
  split at h <;> first | rfl | cases h
theorem scalConsts_get {vs : List Value} {xs : List AV} (h : scalConsts vs = some xs) : vs.length = xs.length ∧ ∀ (j : Nat) (v : Value) (x : AV), vs[j]? = some v → xs[j]? = some x → scalConst v = some x := by
  induction vs generalizing xs with
  | nil => simp [scalConsts] at h; subst h; simp
  | cons v vs ih =>
    simp only [scalConsts] at h
    split at h
    · rename_i y ys hy hys
      cases h
      obtain ⟨hl, hg⟩ := ih hys
      refine ⟨by simp [hl], fun j v' x' hv hx => ?_⟩
      cases j with
      | zero => simp at hv hx; subst hv hx; exact hy
      | succ j => simp at hv hx; exact hg j v' x' hv hx
    · cases h
theorem ofConst_rep {C : Cx} {v : Value} {x : AV} (h : ofConst v = some x) : Rep C v x := by
  unfold ofConst at h
  split at h
  · rename_i cs
    cases hs : scalConsts cs.toList with
    | none => simp [hs] at h
    | some xs =>
      simp [hs] at h
      subst h
      obtain ⟨hl, hg⟩ := scalConsts_get hs
      exact .agg cs xs (by simpa using hl) fun j v x hv hx => scalConst_rep (hg j v x (by simpa using hv) hx)
  · rename_i cs
    split at h
    · rename_i he
      cases h
      have : cs = #[] := by
        have := List.isEmpty_iff.1 he
        simpa using this
      subst this
      exact .tup #[] [] rfl (by simp)
    · cases h
  · exact scalConst_rep h
/-- A constant's cells, one by one. -/
theorem ofConst_cells {v : Value} {x : AV} (h : ofConst v = some x) : v.cells.size = x.cells.length ∧ ((∃ vs, v = .tuple vs) ∨ ∀ (j : Nat) (c : AV), x.cells[j]? = some c → ∃ u, v.cells[j]? = some u ∧ scalConst u = some c) := by
  unfold ofConst at h
  split at h
  · rename_i cs
    cases hs : scalConsts cs.toList with
    | none => simp [hs] at h
    | some xs =>
      simp [hs] at h
      subst h
      obtain ⟨hl, hg⟩ := scalConsts_get hs
      refine ⟨by simpa [Value.cells, AV.cells] using hl, .inr fun j c hc => ?_⟩
      simp only [AV.cells] at hc
      have hj : j < cs.toList.length := by
        have := (List.getElem?_eq_some_iff.1 hc).1
        omega
      refine ⟨cs.toList[j], ?_, hg j _ c (List.getElem?_eq_getElem hj) hc⟩
      simp only [Value.cells]
      rw [← Array.getElem?_toList]
      exact List.getElem?_eq_getElem hj
  · rename_i cs
    split at h
    · cases h; exact ⟨rfl, .inl ⟨cs, rfl⟩⟩
    · cases h
  · rename_i h1 h2
    have hv : v.cells = #[v] := by
      cases v <;> first | rfl | (exact absurd rfl (h1 _))
    have hx : x.cells = [x] := by
      unfold scalConst at h
      split at h <;> first | (cases h; rfl) | cases h
    rw [hv, hx]
    refine ⟨rfl, .inr fun j c hc => ?_⟩
    cases j with
    | zero => simp at hc; subst hc; exact ⟨v, rfl, h⟩
    | succ j => simp at hc

/-! #### slots -/
def SRel (C : Cx) (sl : List AV) (tm : Array Value) : Prop := tm.size = sl.length ∧ ∀ (i : Nat) (v : Value) (x : AV), tm[i]? = some v → sl[i]? = some x → Rep C v x
def RepL (C : Cx) : List Value → List AV → Prop
  | [], [] => True
  | v :: vs, x :: xs => Rep C v x ∧ RepL C vs xs
  | _, _ => False
theorem RepL.length {C : Cx} : ∀ {vs : List Value} {xs : List AV}, RepL C vs xs → vs.length = xs.length
  | [], [], _ => rfl
  | _ :: _, _ :: _, h => by simp [RepL.length h.2]
  | [], _ :: _, h => h.elim
  | _ :: _, [], h => h.elim
theorem RepL.get {C : Cx} : ∀ {vs : List Value} {xs : List AV}, RepL C vs xs → ∀ (j : Nat) (v : Value) (x : AV), vs[j]? = some v → xs[j]? = some x → Rep C v x
  | [], [], _, j, v, x, hv, _ => by simp at hv
  | _ :: _, _ :: _, h, 0, v, x, hv, hx => by simp at hv hx; subst hv hx; exact h.1
  | _ :: _, _ :: _, h, j + 1, v, x, hv, hx => RepL.get h.2 j v x (by simpa using hv) (by simpa using hx)
  | [], _ :: _, h, _, _, _, _, _ => h.elim
  | _ :: _, [], h, _, _, _, _, _ => h.elim
theorem RepL.of_get {C : Cx} : ∀ {vs : List Value} {xs : List AV}, vs.length = xs.length → (∀ (j : Nat) (v : Value) (x : AV), vs[j]? = some v → xs[j]? = some x → Rep C v x) → RepL C vs xs
  | [], [], _, _ => trivial
  | v :: _, x :: _, hl, h => ⟨h 0 v x rfl rfl, RepL.of_get (by simpa using hl) fun j v x hv hx => h (j + 1) v x (by simpa using hv) (by simpa using hx)⟩
  | [], _ :: _, hl, _ => by simp at hl
  | _ :: _, [], hl, _ => by simp at hl
theorem RepL.app {C : Cx} : ∀ {vs us : List Value} {xs ys : List AV}, RepL C vs xs → RepL C us ys → RepL C (vs ++ us) (xs ++ ys)
  | [], _, [], _, _, g => g
  | _ :: _, _, _ :: _, _, h, g => ⟨h.1, RepL.app h.2 g⟩
  | [], _, _ :: _, _, h, _ => h.elim
  | _ :: _, _, [], _, h, _ => h.elim
theorem RepL.le {C C' : Cx} (hl : C.Le C') : ∀ {vs : List Value} {xs : List AV}, RepL C vs xs → RepL C' vs xs
  | [], [], _ => trivial
  | _ :: _, _ :: _, h => ⟨h.1.le hl, RepL.le hl h.2⟩
  | [], _ :: _, h => h.elim
  | _ :: _, [], h => h.elim
theorem rep_undef (C : Cx) : Rep C Go.undef undef := .tup #[] [] rfl (by simp)
theorem SRel.le {C C' : Cx} (hl : C.Le C') {sl : List AV} {tm : Array Value} (h : SRel C sl tm) : SRel C' sl tm := ⟨h.1, fun i v x hv hx => (h.2 i v x hv hx).le hl⟩
theorem SRel.put {C : Cx} {sl : List AV} {a : Act} (h : SRel C sl a.tmps) (d : Option Tmp) {v : Value} {x : AV} (r : Rep C v x) : SRel C (put sl d x) (a.put d v).tmps := by
  cases d with
  | none => exact h
  | some d =>
    refine ⟨by simp [Act.put, Vm.put, h.1], fun i u y hu hy => ?_⟩
    simp only [Act.put, Vm.put] at hu hy
    by_cases hi : d = i
    · subst hi
      have hd : d < a.tmps.size := by
        rcases Nat.lt_or_ge d a.tmps.size with h' | h'
        · exact h'
        · rw [Array.getElem?_eq_none (by simpa using h')] at hu; cases hu
      rw [Array.getElem?_setIfInBounds_self_of_lt hd] at hu
      rw [List.getElem?_set_self (by rw [← h.1]; exact hd)] at hy
      cases hu; cases hy; exact r
    · rw [Array.getElem?_setIfInBounds_ne hi] at hu
      rw [List.getElem?_set_ne hi] at hy
      exact h.2 i u y hu hy
theorem ev_rep {C : Cx} {sl : List AV} {a : Act} (h : SRel C sl a.tmps) {o : Operand} {x : AV} (he : ev sl o = some x) : Rep C (a.eval o) x := by
  cases o with
  | tmp t =>
    simp only [ev, Option.some.injEq] at he
    subst he
    simp only [Act.eval, Array.getD_eq_getD_getElem?, List.getD_eq_getElem?_getD]
    by_cases ht : t < a.tmps.size
    · have ht' : t < sl.length := by rw [← h.1]; exact ht
      have h1 : a.tmps[t]? = some a.tmps[t] := Array.getElem?_eq_getElem ht
      have h2 : sl[t]? = some sl[t] := List.getElem?_eq_getElem ht'
      rw [h1, h2]
      exact h.2 t _ _ h1 h2
    · rw [Array.getElem?_eq_none (Nat.le_of_not_lt ht), List.getElem?_eq_none (by rw [← h.1]; exact Nat.le_of_not_lt ht)]
      exact rep_undef C
  | const v => exact ofConst_rep he
  | global g => simp [ev] at he
  | func f =>
    simp only [ev] at he
    split at he <;> cases he
    rename_i hf
    exact .fn f #[] #[] [] [] hf rfl rfl (by simp) (by simp)
theorem evs_rep {C : Cx} {sl : List AV} {a : Act} (h : SRel C sl a.tmps) : ∀ {l : List Operand} {xs : List AV}, evs sl l = some xs → RepL C (l.map a.eval) xs
  | [], xs, he => by simp [evs] at he; subst he; trivial
  | o :: l, xs, he => by
    simp only [evs] at he
    split at he
    · rename_i v vs hv hvs
      cases he
      exact ⟨ev_rep h hv, evs_rep h hvs⟩
    · cases he
theorem evps_rep {C : Cx} {sl : List AV} {a : Act} (h : SRel C sl a.tmps) : ∀ {l : List (Nat × Operand)} {xs : List (Nat × AV)}, evps sl l = some xs →
    RepL C ((l.map fun p => (p.1, a.eval p.2)).map (·.2)) (xs.map (·.2)) ∧ (l.map fun p => (p.1, a.eval p.2)).map (·.1) = xs.map (·.1)
  | [], xs, he => by simp [evps] at he; subst he; exact ⟨trivial, rfl⟩
  | (i, o) :: l, xs, he => by
    simp only [evps] at he
    split at he
    · rename_i v vs hv hvs
      cases he
      obtain ⟨h1, h2⟩ := evps_rep h hvs
      exact ⟨⟨ev_rep h hv, h1⟩, by simpa using h2⟩
    · cases he

/-! #### the heap of the machine -/
theorem Heap.upd_same (h : Heap) (i : Nat) (b : Option Blk) : h.upd i b i = b := by simp [Heap.upd]
theorem Heap.upd_ne (h : Heap) {i j : Nat} (b : Option Blk) (hn : j ≠ i) : h.upd i b j = h j := by simp [Heap.upd, hn]

/-! #### how the world moves -/
theorem setRow_other (w : World) (g : Nat) (cs : Array Value) (b : Nat) (h : g ≠ b) : (w.setRow g cs).heap[b]? = w.heap[b]? := by
  simp [World.setRow, Array.getElem?_modify, h]
theorem push_get {α : Type} (h : Array α) (o : α) {b : Nat} (hb : b < h.size) : (h.push o)[b]? = h[b]? := by
  rw [Array.getElem?_push, if_neg (by omega)]

/-- Nothing but the tape moves. -/
theorem Cx.Ok.same {C : Cx} (h : C.Ok) {w : World} (hw : w.heap = C.w.heap) (hw2 : Alike C.w w := by exact ⟨rfl, rfl, rfl⟩) : C.Le { C with w := w } ∧ ({ C with w := w } : Cx).Ok := by
  have l : C.Le { C with w := w } := ⟨fun b _ _ => by simp [hw], fun _ _ hm => hm, rfl, fun i b _ hb => ⟨b, hb, rfl, rfl⟩, fun _ hB => hB, fun b cs t fz hb => ⟨cs, by simp [hw, hb], rfl⟩, by simp [hw], hw2⟩
  exact ⟨l, h.inj, h.nF, h.born, fun i b hb hz => by
    obtain ⟨cs, t, h1, h2, h3⟩ := h.blk i b hb hz
    exact ⟨cs, t, by simpa [hw] using h1, h2, fun j c hc => let ⟨v, hv, hr, h1⟩ := h3 j c hc; ⟨v, hv, hr.le l, h1⟩⟩, fun b hb => by simpa [hw] using h.Fsz b hb,
    fun i b hb hz => (h.lp i b hb hz).le l (by dsimp only; rw [hw])⟩

/-- A new row. -/
theorem Cx.Ok.grow {C : Cx} (h : C.Ok) {nid : Nat} (hn : C.H nid = none) (hB : ¬ C.B nid) {w : World} {cs : Array Value} {t : TypeId} (hw : w.heap = C.w.heap.push (.cells cs t)) (blk : Blk)
    (hz : blk.esz ≠ 0) (hs : blk.cells.length ≤ cs.size) (hr : ∀ (j : Nat) (c : AV), blk.cells[j]? = some c → ∃ v, cs[j]? = some v ∧ Rep C v c ∧ v.oneCell' = true) (hw2 : Alike C.w w := by exact ⟨rfl, rfl, rfl⟩) :
    C.Le ⟨C.H.upd nid (some blk), fun i => if i = nid then C.w.heap.size else C.at_ i, C.F, fun i => C.B i ∨ i = nid, w⟩ ∧
    (⟨C.H.upd nid (some blk), fun i => if i = nid then C.w.heap.size else C.at_ i, C.F, fun i => C.B i ∨ i = nid, w⟩ : Cx).Ok := by
  have l : C.Le ⟨C.H.upd nid (some blk), fun i => if i = nid then C.w.heap.size else C.at_ i, C.F, fun i => C.B i ∨ i = nid, w⟩ := by
    refine ⟨fun b hb _ => by simp only [hw]; exact push_get _ _ hb, fun b hb hm => ?_, rfl, fun i b' hi hb' => ?_, fun i hi => .inl hi, fun b cs' t' fz hb => ⟨cs', ?_, rfl⟩, by simp [hw], hw2⟩
    · obtain ⟨i, b', h1, h2, h3⟩ := hm
      by_cases hi : i = nid
      · simp only [hi, if_true] at h3; omega
      · simp only [hi, if_false] at h3
        simp only [Heap.upd_ne _ _ hi] at h1
        exact ⟨i, b', h1, h2, h3⟩
    · have hne : i ≠ nid := fun e => hB (e ▸ hi)
      simp only [Heap.upd_ne _ _ hne] at hb'
      exact ⟨b', hb', rfl, by simp [hne]⟩
    · simp only [hw]
      rw [push_get _ _ (Array.getElem?_eq_some_iff.1 hb).1]
      exact hb
  refine ⟨l, ?_, ?_, ?_, ?_, ?_, ?_⟩
  · intro i j bi bj hi hj he
    dsimp only at hi hj he
    by_cases h1 : i = nid <;> by_cases h2 : j = nid
    · rw [h1, h2]
    · rw [Heap.upd_ne _ _ h2] at hj
      simp only [h1, h2, if_true, if_false] at he
      have := h.lt hj
      omega
    · rw [Heap.upd_ne _ _ h1] at hi
      simp only [h1, h2, if_true, if_false] at he
      have := h.lt hi
      omega
    · rw [Heap.upd_ne _ _ h1] at hi
      rw [Heap.upd_ne _ _ h2] at hj
      simp only [h1, h2, if_false] at he
      exact h.inj i j bi bj hi hj he
  · intro i b hi hF
    dsimp only at hi hF
    by_cases h1 : i = nid
    · simp only [h1, if_true] at hF
      have := h.Fsz _ hF
      omega
    · rw [Heap.upd_ne _ _ h1] at hi
      simp only [h1, if_false] at hF
      exact h.nF i b hi hF
  · intro i b hi
    dsimp only at hi
    by_cases h1 : i = nid
    · exact .inr h1
    · rw [Heap.upd_ne _ _ h1] at hi
      exact .inl (h.born i b hi)
  · intro i b hi hbz
    dsimp only at hi
    by_cases h1 : i = nid
    · subst h1
      rw [Heap.upd_same] at hi
      cases hi
      refine ⟨cs, t, by simp [hw], hs, fun j c hc => ?_⟩
      obtain ⟨v, hv, hrv, h1⟩ := hr j c hc
      exact ⟨v, hv, hrv.le l, h1⟩
    · rw [Heap.upd_ne _ _ h1] at hi
      obtain ⟨cs', t', h2, h3, h4⟩ := h.blk i b hi hbz
      refine ⟨cs', t', ?_, h3, fun j c hc => ?_⟩
      · simp only [h1, if_false, hw]
        rw [push_get _ _ (h.lt hi)]
        exact h2
      · obtain ⟨v, hv, hrv, h5⟩ := h4 j c hc
        exact ⟨v, hv, hrv.le l, h5⟩
  · intro b hb
    have := h.Fsz b hb
    simp [hw]
    omega
  · intro i b hi hbz
    dsimp only at hi
    by_cases h1 : i = nid
    · subst h1
      rw [Heap.upd_same] at hi
      cases hi
      exact absurd hbz hz
    · rw [Heap.upd_ne _ _ h1] at hi
      refine (h.lp i b hi hbz).le l ?_
      simp only [h1, if_false, hw]
      exact push_get _ _ (h.lt hi)
end Vm

/- The machine over pure values and the model's world: stores, appends in place, freezing. (Own work of this repo.) -/
namespace Vm
open Go

theorem Cx.Ok.lt' {C : Cx} (h : C.Ok) {i : Nat} {b : Blk} (hb : C.H i = some b) {cs : Array Value} {t : TypeId} {fz : Nat × Nat} (_ : C.w.heap[C.at_ i]? = some (.cells cs t fz)) : C.at_ i < C.w.heap.size := h.lt hb

/-- A row is written. -/
theorem Cx.Ok.store {C : Cx} (h : C.Ok) {id : Nat} {blk : Blk} (hb : C.H id = some blk) (hf : blk.fz = false) {cs cs' : Array Value} {t : TypeId} (hh : C.w.heap[C.at_ id]? = some (.cells cs t (0, 0)))
    (hsz : cs'.size = cs.size) (cells : List AV) (hlen : cells.length ≤ cs'.size) (hr : ∀ (j : Nat) (c : AV), cells[j]? = some c → ∃ v, cs'[j]? = some v ∧ Rep C v c ∧ v.oneCell' = true) :
    C.Le ⟨C.H.upd id (some { blk with cells := cells }), C.at_, C.F, C.B, C.w.setRow (C.at_ id) cs'⟩ ∧ (⟨C.H.upd id (some { blk with cells := cells }), C.at_, C.F, C.B, C.w.setRow (C.at_ id) cs'⟩ : Cx).Ok := by
  have own : C.own (C.at_ id) := ⟨id, blk, hb, hf, rfl⟩
  have szeq : (C.w.setRow (C.at_ id) cs').heap.size = C.w.heap.size := by simp [World.setRow]
  have lv : ∀ i b', (C.H.upd id (some { blk with cells := cells })) i = some b' → ∃ b, C.H i = some b ∧ b.esz = b'.esz ∧ b.fz = b'.fz := by
    intro i b' hi
    by_cases e : i = id
    · subst e; rw [Heap.upd_same] at hi; cases hi; exact ⟨blk, hb, rfl, rfl⟩
    · rw [Heap.upd_ne _ _ e] at hi; exact ⟨b', hi, rfl, rfl⟩
  have l : C.Le ⟨C.H.upd id (some { blk with cells := cells }), C.at_, C.F, C.B, C.w.setRow (C.at_ id) cs'⟩ := by
    refine ⟨fun b hb' ho => ?_, fun b hb' hm => ?_, rfl, fun i b' _ hb' => ?_, fun i hi => hi, fun b c' t' fz hb' => ?_, by dsimp only; omega, rfl, rfl, rfl⟩
    · exact setRow_other _ _ _ _ (fun e => ho (e ▸ own))
    · obtain ⟨i, b', h1, h2, h3⟩ := hm
      obtain ⟨b0, h4, _, h5⟩ := lv i b' h1
      exact ⟨i, b0, h4, by rw [h5]; exact h2, h3⟩
    · obtain ⟨b0, h4, h5, _⟩ := lv i b' hb'
      exact ⟨b0, h4, h5, rfl⟩
    · by_cases e : C.at_ id = b
      · subst e
        rw [hh] at hb'
        cases hb'
        exact ⟨cs', setRow_heap _ _ _ _ _ _ hh, hsz⟩
      · exact ⟨c', by dsimp only; rw [setRow_other _ _ _ _ e]; exact hb', rfl⟩
  refine ⟨l, fun i j bi bj hi hj he => ?_, fun i b hi hF => ?_, fun i b hi => ?_, fun i b hi hbz => ?_, fun b hb' => by dsimp only; rw [szeq]; exact h.Fsz b hb', fun i b hi hbz => ?_⟩
  · obtain ⟨b0, h4, _⟩ := lv i bi hi
    obtain ⟨b1, h5, _⟩ := lv j bj hj
    exact h.inj i j b0 b1 h4 h5 he
  · obtain ⟨b0, h4, _⟩ := lv i b hi
    exact h.nF i b0 h4 hF
  · obtain ⟨b0, h4, _⟩ := lv i b hi
    exact h.born i b0 h4
  · by_cases e : i = id
    · subst e
      dsimp only at hi ⊢
      rw [Heap.upd_same] at hi
      cases hi
      refine ⟨cs', t, setRow_heap _ _ _ _ _ _ hh, hlen, fun j c hc => ?_⟩
      obtain ⟨v, hv, hrv, h1⟩ := hr j c hc
      exact ⟨v, hv, hrv.le l, h1⟩
    · dsimp only at hi ⊢
      rw [Heap.upd_ne _ _ e] at hi
      obtain ⟨c0, t0, h2, h3, h4⟩ := h.blk i b hi hbz
      refine ⟨c0, t0, ?_, h3, fun j c hc => ?_⟩
      · rw [setRow_other _ _ _ _ (fun e' => e (h.inj _ _ _ _ hi hb e'.symm))]
        exact h2
      · obtain ⟨v, hv, hrv, h5⟩ := h4 j c hc
        exact ⟨v, hv, hrv.le l, h5⟩
  · by_cases e : i = id
    · subst e
      dsimp only at hi
      rw [Heap.upd_same] at hi
      cases hi
      exact ((h.lp i blk hb hbz).noCells hh).elim
    · dsimp only at hi
      rw [Heap.upd_ne _ _ e] at hi
      refine (h.lp i b hi hbz).le l ?_
      exact setRow_other _ _ _ _ (fun e' => e (h.inj _ _ _ _ hi hb e'.symm))

/-- An append within the capacity: the row goes on under a new number. -/
theorem Cx.Ok.move {C : Cx} (h : C.Ok) {id nid : Nat} {blk : Blk} (hb : C.H id = some blk) (hf : blk.fz = false) (hn : C.H nid = none) (hB : ¬ C.B nid) {cs cs' : Array Value} {t : TypeId}
    (hh : C.w.heap[C.at_ id]? = some (.cells cs t (0, 0))) (hsz : cs'.size = cs.size) (cells : List AV) (hlen : cells.length ≤ cs'.size)
    (hr : ∀ (j : Nat) (c : AV), cells[j]? = some c → ∃ v, cs'[j]? = some v ∧ Rep C v c ∧ v.oneCell' = true) :
    C.Le ⟨(C.H.upd id none).upd nid (some { blk with cells := cells }), fun i => if i = nid then C.at_ id else C.at_ i, C.F, fun i => C.B i ∨ i = nid, C.w.setRow (C.at_ id) cs'⟩ ∧
    (⟨(C.H.upd id none).upd nid (some { blk with cells := cells }), fun i => if i = nid then C.at_ id else C.at_ i, C.F, fun i => C.B i ∨ i = nid, C.w.setRow (C.at_ id) cs'⟩ : Cx).Ok := by
  have own : C.own (C.at_ id) := ⟨id, blk, hb, hf, rfl⟩
  have hne : id ≠ nid := fun e => by rw [e, hn] at hb; cases hb
  have szeq : (C.w.setRow (C.at_ id) cs').heap.size = C.w.heap.size := by simp [World.setRow]
  -- what lives behind the append lived before it: the new number is the old row
  have lv : ∀ i b', ((C.H.upd id none).upd nid (some { blk with cells := cells })) i = some b' →
      (i = nid ∧ b' = { blk with cells := cells }) ∨ (i ≠ nid ∧ i ≠ id ∧ C.H i = some b') := by
    intro i b' hi
    by_cases e : i = nid
    · subst e; rw [Heap.upd_same] at hi; cases hi; exact .inl ⟨rfl, rfl⟩
    · rw [Heap.upd_ne _ _ e] at hi
      by_cases e' : i = id
      · subst e'; rw [Heap.upd_same] at hi; cases hi
      · rw [Heap.upd_ne _ _ e'] at hi; exact .inr ⟨e, e', hi⟩
  have l : C.Le ⟨(C.H.upd id none).upd nid (some { blk with cells := cells }), fun i => if i = nid then C.at_ id else C.at_ i, C.F, fun i => C.B i ∨ i = nid, C.w.setRow (C.at_ id) cs'⟩ := by
    refine ⟨fun b hb' ho => ?_, fun b hb' hm => ?_, rfl, fun i b' hi hb' => ?_, fun i hi => .inl hi, fun b c' t' fz hb' => ?_, by dsimp only; omega, rfl, rfl, rfl⟩
    · exact setRow_other _ _ _ _ (fun e => ho (e ▸ own))
    · obtain ⟨i, b', h1, h2, h3⟩ := hm
      dsimp only at h3
      rcases lv i b' h1 with ⟨e, _⟩ | ⟨e, _, h4⟩
      · rw [if_pos e] at h3; exact h3 ▸ own
      · rw [if_neg e] at h3; exact ⟨i, b', h4, h2, h3⟩
    · rcases lv i b' hb' with ⟨e, _⟩ | ⟨e, _, h4⟩
      · exact absurd (e ▸ hi) hB
      · exact ⟨b', h4, rfl, by dsimp only; rw [if_neg e]⟩
    · by_cases e : C.at_ id = b
      · subst e
        rw [hh] at hb'
        cases hb'
        exact ⟨cs', setRow_heap _ _ _ _ _ _ hh, hsz⟩
      · exact ⟨c', by dsimp only; rw [setRow_other _ _ _ _ e]; exact hb', rfl⟩
  refine ⟨l, fun i j bi bj hi hj he => ?_, fun i b hi hF => ?_, fun i b hi => ?_, fun i b hi hbz => ?_, fun b hb' => by dsimp only; rw [szeq]; exact h.Fsz b hb', fun i b hi hbz => ?_⟩
  · dsimp only at he
    rcases lv i bi hi with ⟨e1, _⟩ | ⟨e1, f1, h1⟩ <;> rcases lv j bj hj with ⟨e2, _⟩ | ⟨e2, f2, h2⟩
    · rw [e1, e2]
    · rw [if_pos e1, if_neg e2] at he; exact absurd (h.inj _ _ _ _ hb h2 he).symm f2
    · rw [if_neg e1, if_pos e2] at he; exact absurd (h.inj _ _ _ _ h1 hb he) f1
    · rw [if_neg e1, if_neg e2] at he; exact h.inj _ _ _ _ h1 h2 he
  · dsimp only at hF
    rcases lv i b hi with ⟨e1, _⟩ | ⟨e1, _, h1⟩
    · rw [if_pos e1] at hF; exact h.nF _ _ hb hF
    · rw [if_neg e1] at hF; exact h.nF _ _ h1 hF
  · rcases lv i b hi with ⟨e1, _⟩ | ⟨_, _, h1⟩
    · exact .inr e1
    · exact .inl (h.born _ _ h1)
  · dsimp only
    rcases lv i b hi with ⟨e1, e2⟩ | ⟨e1, f1, h1⟩
    · rw [if_pos e1, e2]
      refine ⟨cs', t, setRow_heap _ _ _ _ _ _ hh, hlen, fun j c hc => ?_⟩
      obtain ⟨v, hv, hrv, h1⟩ := hr j c hc
      exact ⟨v, hv, hrv.le l, h1⟩
    · rw [if_neg e1]
      obtain ⟨c0, t0, h2, h3, h4⟩ := h.blk i b h1 hbz
      refine ⟨c0, t0, ?_, h3, fun j c hc => ?_⟩
      · rw [setRow_other _ _ _ _ (fun e' => f1 (h.inj _ _ _ _ h1 hb e'.symm))]
        exact h2
      · obtain ⟨v, hv, hrv, h5⟩ := h4 j c hc
        exact ⟨v, hv, hrv.le l, h5⟩
  · rcases lv i b hi with ⟨e1, e2⟩ | ⟨e1, f1, h1⟩
    · rw [e2] at hbz
      exact ((h.lp id blk hb hbz).noCells hh).elim
    · refine (h.lp i b h1 hbz).le l ?_
      dsimp only
      rw [if_neg e1]
      exact setRow_other _ _ _ _ (fun e' => f1 (h.inj _ _ _ _ h1 hb e'.symm))

/-- An append that needs a new row: the old row is given up, a new one comes. -/
theorem Cx.Ok.drop {C : Cx} (h : C.Ok) (id : Nat) : C.Le { C with H := C.H.upd id none } ∧ ({ C with H := C.H.upd id none } : Cx).Ok := by
  have lv : ∀ i b', (C.H.upd id none) i = some b' → C.H i = some b' := by
    intro i b' hi
    by_cases e : i = id
    · subst e; rw [Heap.upd_same] at hi; cases hi
    · rwa [Heap.upd_ne _ _ e] at hi
  have l : C.Le { C with H := C.H.upd id none } := ⟨fun _ _ _ => rfl, fun b hb hm => let ⟨i, b', h1, h2, h3⟩ := hm; ⟨i, b', lv _ _ h1, h2, h3⟩, rfl, fun i b _ hb => ⟨b, lv _ _ hb, rfl, rfl⟩, fun _ hB => hB, fun b cs t fz hb => ⟨cs, hb, rfl⟩, Nat.le_refl _, rfl, rfl, rfl⟩
  refine ⟨l, fun i j bi bj hi hj he => h.inj i j bi bj (lv _ _ hi) (lv _ _ hj) he, fun i b hi => h.nF i b (lv _ _ hi), fun i b hi => h.born i b (lv _ _ hi), fun i b hi hbz => ?_, h.Fsz, fun i b hi hbz => (h.lp i b (lv _ _ hi) hbz).le l rfl⟩
  obtain ⟨cs, t, h1, h2, h3⟩ := h.blk i b (lv _ _ hi) hbz
  exact ⟨cs, t, h1, h2, fun j c hc => let ⟨v, hv, hr, h1⟩ := h3 j c hc; ⟨v, hv, hr.le l, h1⟩⟩

theorem freezes_get (H : Heap) : ∀ (ids : List Nat) (G : Heap) (i : Nat), (∀ j, G j = H j ∨ G j = (H j).map fun b => { b with fz := true }) →
    (G.upds (freezes H ids)) i = H i ∨ (G.upds (freezes H ids)) i = (H i).map fun b => { b with fz := true }
  | [], G, i, h => h i
  | k :: ids, G, i, h => by
    simp only [freezes, Heap.upds]
    refine freezes_get H ids _ i fun j => ?_
    by_cases e : j = k
    · subst e; rw [Heap.upd_same]; exact .inr rfl
    · rw [Heap.upd_ne _ _ e]; exact h j
theorem freezes_in (H : Heap) : ∀ (ids : List Nat) (G : Heap) (i : Nat), (i ∈ ids ∨ G i = (H i).map fun b => { b with fz := true }) → (G.upds (freezes H ids)) i = (H i).map fun b => { b with fz := true }
  | [], G, i, h => by
    rcases h with h | h
    · cases h
    · exact h
  | k :: ids, G, i, h => by
    simp only [freezes, Heap.upds]
    refine freezes_in H ids _ i ?_
    by_cases e : i = k
    · subst e; exact .inr (Heap.upd_same _ _ _)
    · rw [Heap.upd_ne _ _ e]
      rcases h with h | h
      · rcases List.mem_cons.1 h with h | h
        · exact absurd h e
        · exact .inl h
      · exact .inr h

/-- Freezing. -/
theorem Cx.Ok.freeze {C : Cx} (h : C.Ok) (ids : List Nat) : C.Le { C with H := C.H.upds (freezes C.H ids) } ∧ ({ C with H := C.H.upds (freezes C.H ids) } : Cx).Ok := by
  have lv : ∀ i b', (C.H.upds (freezes C.H ids)) i = some b' → ∃ b, C.H i = some b ∧ b.esz = b'.esz ∧ b.cells = b'.cells ∧ (b'.fz = false → b.fz = false) := by
    intro i b' hi
    rcases freezes_get C.H ids C.H i (fun j => .inl rfl) with e | e
    · rw [e] at hi; exact ⟨b', hi, rfl, rfl, id⟩
    · rw [e] at hi
      cases hH : C.H i with
      | none => simp [hH] at hi
      | some b => simp [hH] at hi; subst hi; exact ⟨b, rfl, rfl, rfl, fun h => by simp at h⟩
  have l : C.Le { C with H := C.H.upds (freezes C.H ids) } := by
    refine ⟨fun _ _ _ => rfl, fun b hb hm => ?_, rfl, fun i b' _ hb => ?_, fun _ hB => hB, fun b cs t fz hb => ⟨cs, hb, rfl⟩, Nat.le_refl _, rfl, rfl, rfl⟩
    · obtain ⟨i, b', h1, h2, h3⟩ := hm
      obtain ⟨b0, h4, _, _, h5⟩ := lv i b' h1
      exact ⟨i, b0, h4, h5 h2, h3⟩
    · obtain ⟨b0, h4, h5, _⟩ := lv i b' hb
      exact ⟨b0, h4, h5, rfl⟩
  refine ⟨l, fun i j bi bj hi hj he => ?_, fun i b hi => ?_, fun i b hi => ?_, fun i b hi hbz => ?_, h.Fsz, fun i b hi hbz => ?_⟩
  · obtain ⟨b0, h4, _⟩ := lv i bi hi
    obtain ⟨b1, h5, _⟩ := lv j bj hj
    exact h.inj i j _ _ h4 h5 he
  · obtain ⟨b0, h4, _⟩ := lv i b hi
    exact h.nF i b0 h4
  · obtain ⟨b0, h4, _⟩ := lv i b hi
    exact h.born i b0 h4
  · obtain ⟨b0, h4, h6, h5, _⟩ := lv i b hi
    obtain ⟨cs, t, h1, h2, h3⟩ := h.blk i b0 h4 (by rw [h6]; exact hbz)
    rw [h5] at h2 h3
    exact ⟨cs, t, h1, h2, fun j c hc => let ⟨v, hv, hr, h1⟩ := h3 j c hc; ⟨v, hv, hr.le l, h1⟩⟩
  · obtain ⟨b0, h4, h6, h5, _⟩ := lv i b hi
    exact ((h.lp i b0 h4 (by rw [h6]; exact hbz)).le l rfl).cells h5.symm

/-! #### What a value without addresses stands for, behind freezing -/
theorem pureL_of {l : List AV} (h : ∀ x ∈ l, x.pure = true) : AV.pureL l = true := by
  induction l with
  | nil => rfl
  | cons x xs ih => simp only [AV.pureL, Bool.and_eq_true]; exact ⟨h x (by simp), ih fun y hy => h y (by simp [hy])⟩
theorem of_pureL {l : List AV} (h : AV.pureL l = true) : ∀ x ∈ l, x.pure = true := by
  induction l with
  | nil => intro x hx; cases hx
  | cons y ys ih =>
    simp only [AV.pureL, Bool.and_eq_true] at h
    intro x hx
    rcases List.mem_cons.1 hx with rfl | hx
    · exact h.1
    · exact ih h.2 x hx
theorem mapL_get {p : AV → Option (AV × List Nat)} : ∀ {l m : List AV} {ids : List Nat}, mapL p l = some (m, ids) → l.length = m.length ∧ ∀ (j : Nat) (x y : AV), l[j]? = some x → m[j]? = some y → ∃ is, p x = some (y, is) ∧ ∀ i ∈ is, i ∈ ids
  | [], m, ids, h => by simp [mapL] at h; obtain ⟨rfl, rfl⟩ := h; simp
  | x :: xs, m, ids, h => by
    simp only [mapL] at h
    split at h
    · rename_i y i ys j hy hys
      cases h
      obtain ⟨hl, hg⟩ := mapL_get hys
      refine ⟨by simp [hl], fun k x' y' hx hy' => ?_⟩
      cases k with
      | zero => simp at hx hy'; subst hx hy'; exact ⟨i, hy, fun a ha => by simp [ha]⟩
      | succ k =>
        obtain ⟨is, h1, h2⟩ := hg k x' y' (by simpa using hx) (by simpa using hy')
        exact ⟨is, h1, fun a ha => by simp [h2 a ha]⟩
    · cases h
theorem elems_length (ag : Bool) (esz : Nat) : ∀ (n : Nat) (cs : List AV), (elems ag esz n cs).length = n
  | 0, _ => rfl
  | n + 1, cs => by simp [elems, elems_length ag esz n]
theorem elems_get (ag : Bool) (esz : Nat) : ∀ (n : Nat) (cs : List AV) (i : Nat), i < n → (elems ag esz n cs)[i]? = some (if ag then .agg ((cs.drop (i * esz)).take esz) else (cs.drop (i * esz)).headD undef)
  | 0, _, i, h => by omega
  | n + 1, cs, 0, _ => by simp [elems]
  | n + 1, cs, i + 1, h => by
    simp only [elems, List.getElem?_cons_succ]
    rw [elems_get ag esz n (cs.drop esz) i (by omega)]
    simp only [List.drop_drop, Nat.succ_mul, Nat.add_comm]

end Vm

/- The machine over pure values and the model's world: a value made free of addresses stands for the same. (Own work of this repo.) -/
namespace Vm
open Go

theorem rep_scal {C : Cx} {v : Value} {c : AV} (h : Rep C v c) (h1 : v.oneCell' = true) : c.cells = [c] := by
  cases h <;> first | rfl | simp [Value.oneCell'] at h1

/-- All of 'ids' frozen. -/
def Cx.fr (C : Cx) (ids : List Nat) : Cx := { C with H := C.H.upds (freezes C.H ids) }

theorem Cx.Ok.not_wr {C : Cx} (h : C.Ok) {ids : List Nat} {id : Nat} {b : Blk} (hb : C.H id = some b) (hi : id ∈ ids) : ¬ (C.fr ids).wr (C.at_ id) := by
  rintro (hF | ⟨i, b', h1, h2, h3⟩)
  · exact h.nF id b hb hF
  · have e : (C.fr ids).H id = (C.H id).map fun b => { b with fz := true } := freezes_in C.H ids C.H id (.inl hi)
    have e' : (C.fr ids).H id = some { b with fz := true } := by rw [e, hb]; rfl
    obtain rfl := (h.freeze ids).2.inj i id _ _ h1 e' h3
    rw [e'] at h1
    cases h1
    simp at h2

theorem purify_sound {C : Cx} (h : C.Ok) (S : List Nat) : ∀ (n : Nat) (v : AV) (v' : AV) (ids : List Nat) (u : Value), purify n C.H v = some (v', ids) → (∀ i ∈ ids, i ∈ S) → Rep C u v → Rep (C.fr S) u v' ∧ v'.pure = true
  | 0, v, v', ids, u, he, _, _ => by simp [purify] at he
  | n + 1, v, v', ids, u, he, hS, hr => by
    have le : C.Le (C.fr S) := (h.freeze S).1
    have dflt : ∀ x : AV, (if x.pure then some (x, ([] : List Nat)) else none) = some (v', ids) → Rep C u x → Rep (C.fr S) u v' ∧ v'.pure = true := by
      intro x hx hrx
      split at hx
      · rename_i hp; cases hx; exact ⟨hrx.le le, hp⟩
      · cases hx
    cases v with
    | ref id off len =>
      simp only [purify] at he
      split at he
      · rename_i b hb
        split at he
        · rename_i hc
          obtain ⟨hlen, hz, hag⟩ := hc
          split at he
          · rename_i cs is hm
            cases he
            obtain ⟨hl, hg⟩ := mapL_get hm
            have hcs : cs.length = len * b.esz := by rw [← hl]; simp; omega
            cases hr with
            | ref v id off len h1 hB hh =>
              obtain ⟨cap, rfl, hcap, cs0, t0, fz0, hh0, hcc⟩ := hh b hb
              obtain ⟨cc, t, hb1, hb2, hb3⟩ := h.blk id b hb hz
              -- cell k of the slice
              have cell : ∀ (k : Nat) (c : AV), cs[k]? = some c → ∃ v, C.w.cell? ⟨C.at_ id, off + k, none⟩ = some v ∧ Rep (C.fr S) v c ∧ c.pure = true ∧ v.oneCell' = true := by
                intro k c hk
                have hk' : k < len * b.esz := by rw [← hcs]; exact (List.getElem?_eq_some_iff.1 hk).1
                have hx : ((b.cells.drop off).take (len * b.esz))[k]? = some b.cells[off + k] := by
                  rw [List.getElem?_take_of_lt hk', List.getElem?_drop]
                  exact List.getElem?_eq_getElem (by omega)
                obtain ⟨is', hp, hsub⟩ := hg k _ _ hx hk
                obtain ⟨v, hv, hrv, h1⟩ := hb3 (off + k) _ (List.getElem?_eq_getElem (by omega))
                obtain ⟨r1, r2⟩ := purify_sound h S n _ _ _ v hp (fun i hi => hS i (by simp [hsub i hi])) hrv
                exact ⟨v, by simp only [World.cell?, hb1]; simpa using hv, r1, r2, h1⟩
              -- element i
              have elem : ∀ (i : Nat) (x : AV), (elems b.agg b.esz len cs)[i]? = some x → i < len ∧ x.cells.length = b.esz ∧ ∀ (j : Nat) (c : AV), x.cells[j]? = some c → cs[i * b.esz + j]? = some c := by
                intro i x hx
                have hi : i < len := by
                  have := (List.getElem?_eq_some_iff.1 hx).1
                  rwa [elems_length] at this
                refine ⟨hi, ?_⟩
                rw [elems_get _ _ _ _ _ hi] at hx
                have hmul : i * b.esz + b.esz ≤ len * b.esz := by
                  have : (i + 1) * b.esz ≤ len * b.esz := Nat.mul_le_mul_right _ hi
                  rwa [Nat.succ_mul] at this
                cases hagg : b.agg with
                | true =>
                  simp only [hagg, if_true, Option.some.injEq] at hx
                  subst hx
                  simp only [AV.cells]
                  refine ⟨by simp; omega, fun j c hj => ?_⟩
                  have hj' : j < b.esz := by
                    have := (List.getElem?_eq_some_iff.1 hj).1
                    simp at this
                    omega
                  rw [List.getElem?_take_of_lt hj', List.getElem?_drop] at hj
                  exact hj
                | false =>
                  have e1 : b.esz = 1 := by rcases hag with h' | h'; · rw [hagg] at h'; cases h'
                                            · exact h'
                  simp only [hagg, e1, Nat.mul_one, Bool.false_eq_true, if_false, Option.some.injEq] at hx
                  have hi' : i < cs.length := by rw [hcs, e1]; omega
                  have hd : (cs.drop i).headD undef = cs[i] := by
                    rw [List.drop_eq_getElem_cons hi']; rfl
                  rw [hd] at hx
                  obtain ⟨v, _, rv, _, ov⟩ := cell i cs[i] (List.getElem?_eq_getElem hi')
                  have hc1 := rep_scal rv ov
                  rw [← hx, hc1]
                  refine ⟨by simp [e1], fun j c hj => ?_⟩
                  cases j with
                  | zero => simp at hj; subst hj; simp [e1, List.getElem?_eq_getElem hi']
                  | succ j => simp at hj
              refine ⟨?_, ?_⟩
              · have hl2 : (elems b.agg b.esz len cs).length = len := elems_length _ _ _ _
                have := Rep.lst (C := C.fr S) ⟨C.at_ id, off, none⟩ cap b.esz (elems b.agg b.esz len cs) (fun i j => (C.w.cell? ⟨C.at_ id, off + (i * b.esz + j), none⟩).getD Go.undef)
                  (by rw [hl2]; exact hcap) (fun x hx => by obtain ⟨i, hi⟩ := List.getElem?_of_mem hx; exact (elem i x hi).2.1)
                  (fun _ => ⟨rfl, h.lt hb, h.not_wr hb (hS id (by simp))⟩)
                  (fun i x hx j c hj => by
                    obtain ⟨_, _, h3⟩ := elem i x hx
                    obtain ⟨v, hv, _⟩ := cell _ c (h3 j c hj)
                    show C.w.cell? _ = _
                    rw [hv]; rfl)
                  (fun i x hx j c hj => by
                    obtain ⟨_, _, h3⟩ := elem i x hx
                    obtain ⟨v, hv, _, _, ov⟩ := cell _ c (h3 j c hj)
                    rw [hv]; exact ov)
                  (fun i x hx j c hj => by
                    obtain ⟨_, _, h3⟩ := elem i x hx
                    obtain ⟨v, hv, rv, _⟩ := cell _ c (h3 j c hj)
                    rw [hv]; exact rv)
                rwa [hl2] at this
              · simp only [AV.pure]
                refine pureL_of fun x hx => ?_
                obtain ⟨i, hi⟩ := List.getElem?_of_mem hx
                obtain ⟨_, _, h3⟩ := elem i x hi
                have all : ∀ c ∈ x.cells, c.pure = true := by
                  intro c hc
                  obtain ⟨j, hj⟩ := List.getElem?_of_mem hc
                  obtain ⟨_, _, _, hp, _⟩ := cell _ c (h3 j c hj)
                  exact hp
                cases x with
                | agg ds => simp only [AV.pure]; exact pureL_of all
                | _ => exact all _ (by simp [AV.cells])
          · cases he
        · cases he
      · cases he
    | agg cs =>
      simp only [purify] at he
      split at he
      · rename_i ds is hm
        cases he
        obtain ⟨hl, hg⟩ := mapL_get hm
        cases hr with
        | agg vs _ hsz hrr =>
          have each : ∀ (j : Nat) (y : AV), ds[j]? = some y → ∃ v, vs[j]? = some v ∧ Rep (C.fr S) v y ∧ y.pure = true := by
            intro j y hy
            have hj : j < ds.length := (List.getElem?_eq_some_iff.1 hy).1
            obtain ⟨is', hp, hsub⟩ := hg j _ y (List.getElem?_eq_getElem (by omega)) hy
            have hv : vs[j]? = some vs[j] := Array.getElem?_eq_getElem (by omega)
            obtain ⟨r1, r2⟩ := purify_sound h S n _ _ _ _ hp (fun i hi => hS i (hsub i hi)) (hrr j _ _ hv (List.getElem?_eq_getElem (by omega)))
            exact ⟨_, hv, r1, r2⟩
          refine ⟨.agg vs ds (by omega) fun j v x hv hx => ?_, ?_⟩
          · obtain ⟨v', hv', r, _⟩ := each j x hx
            rw [hv] at hv'; cases hv'; exact r
          · simp only [AV.pure]
            refine pureL_of fun x hx => ?_
            obtain ⟨j, hj⟩ := List.getElem?_of_mem hx
            obtain ⟨_, _, _, hp⟩ := each j x hj
            exact hp
      · cases he
    | tup cs =>
      simp only [purify] at he
      split at he
      · rename_i ds is hm
        cases he
        obtain ⟨hl, hg⟩ := mapL_get hm
        cases hr with
        | tup vs _ hsz hrr =>
          have each : ∀ (j : Nat) (y : AV), ds[j]? = some y → ∃ v, vs[j]? = some v ∧ Rep (C.fr S) v y ∧ y.pure = true := by
            intro j y hy
            have hj : j < ds.length := (List.getElem?_eq_some_iff.1 hy).1
            obtain ⟨is', hp, hsub⟩ := hg j _ y (List.getElem?_eq_getElem (by omega)) hy
            have hv : vs[j]? = some vs[j] := Array.getElem?_eq_getElem (by omega)
            obtain ⟨r1, r2⟩ := purify_sound h S n _ _ _ _ hp (fun i hi => hS i (hsub i hi)) (hrr j _ _ hv (List.getElem?_eq_getElem (by omega)))
            exact ⟨_, hv, r1, r2⟩
          refine ⟨.tup vs ds (by omega) fun j v x hv hx => ?_, ?_⟩
          · obtain ⟨v', hv', r, _⟩ := each j x hx
            rw [hv] at hv'; cases hv'; exact r
          · simp only [AV.pure]
            refine pureL_of fun x hx => ?_
            obtain ⟨j, hj⟩ := List.getElem?_of_mem hx
            obtain ⟨_, _, _, hp⟩ := each j x hj
            exact hp
      · cases he
    | int k i => exact dflt (.int k i) he hr
    | bool b => exact dflt (.bool b) he hr
    | str s => exact dflt (.str s) he hr
    | lst nl xs => exact dflt (.lst nl xs) he hr
    | ptr id off => exact dflt (.ptr id off) he hr
    | imm cs => exact dflt (.imm cs) he hr
    | nilp => exact dflt (.nilp) he hr
    | fn f a b =>
      simp only [purify] at he
      split at he
      · rename_i hp; cases he; exact ⟨hr.le le, hp⟩
      · split at he
        · cases he
        · rename_i hf
          have cap : ∀ (x y : AV) (is : List Nat) (u : Value), capt (purify n C.H) C.H x = some (y, is) → (∀ i ∈ is, i ∈ S) → Rep C u x → Rep (C.fr S) u y ∧ y.pure = true := by
            intro x y is u hx hsub hrx
            by_cases hptr : ∃ id off, x = .ptr id off
            · obtain ⟨id, off, rfl⟩ := hptr
              simp only [capt] at hx
              split at hx
              · rename_i blk hb
                split at hx
                · rename_i hc
                  split at hx
                  · rename_i cs js hm
                    cases hx
                    obtain ⟨hl, hg⟩ := mapL_get hm
                    cases hrx with
                    | ptr v id off h1 hB hh =>
                      obtain ⟨rfl, hz⟩ := hh blk hb
                      obtain ⟨cc, t, hb1, hb2, hb3⟩ := h.blk id blk hb hz
                      have cell : ∀ (k : Nat) (c : AV), cs[k]? = some c → ∃ v, C.w.cell? ⟨C.at_ id, off + k, none⟩ = some v ∧ Rep (C.fr S) v c ∧ c.pure = true := by
                        intro k c hk
                        have hk' : k < cs.length := (List.getElem?_eq_some_iff.1 hk).1
                        have hk2 : off + k < blk.cells.length := by rw [← hl, List.length_drop] at hk'; omega
                        have hx : (blk.cells.drop off)[k]? = some blk.cells[off + k] := by
                          rw [List.getElem?_drop]
                          exact List.getElem?_eq_getElem hk2
                        obtain ⟨is', hp, hsub'⟩ := hg k _ _ hx hk
                        obtain ⟨v, hv, hrv, _⟩ := hb3 (off + k) _ (List.getElem?_eq_getElem hk2)
                        obtain ⟨r1, r2⟩ := purify_sound h S n _ _ _ v hp (fun i hi => hsub i (by simp [hsub' i hi])) hrv
                        exact ⟨v, by simp only [World.cell?, hb1]; simpa using hv, r1, r2⟩
                      refine ⟨Rep.imm (C := C.fr S) ⟨C.at_ id, off, none⟩ cs (fun k => (C.w.cell? ⟨C.at_ id, off + k, none⟩).getD Go.undef) (fun _ => ⟨rfl, h.lt hb, h.not_wr hb (hsub id (by simp))⟩) (fun k c hk => ?_) (fun k c hk => ?_), ?_⟩
                      · obtain ⟨v, hv, _⟩ := cell k c hk
                        show C.w.cell? _ = _
                        rw [hv]; rfl
                      · obtain ⟨v, hv, rv, _⟩ := cell k c hk
                        rw [hv]; exact rv
                      · simp only [AV.pure]
                        refine pureL_of fun x hx => ?_
                        obtain ⟨j, hj⟩ := List.getElem?_of_mem hx
                        obtain ⟨_, _, _, hp⟩ := cell j x hj
                        exact hp
                  · cases hx
                · cases hx
              · cases hx
            · have e : capt (purify n C.H) C.H x = purify n C.H x := by
                cases x <;> first | rfl | exact absurd ⟨_, _, rfl⟩ hptr
              rw [e] at hx
              exact purify_sound h S n _ _ _ u hx hsub hrx
          split at he
          · rename_i a' i b' j ha hb
            cases he
            obtain ⟨hl1, hg1⟩ := mapL_get ha
            obtain ⟨hl2, hg2⟩ := mapL_get hb
            cases hr with
            | fn _ fi ca _ _ hy s1 s2 r1 r2 =>
              have each1 : ∀ (k : Nat) (y : AV), a'[k]? = some y → ∃ v, fi[k]? = some v ∧ Rep (C.fr S) v y ∧ y.pure = true := by
                intro k y hy
                have hk : k < a'.length := (List.getElem?_eq_some_iff.1 hy).1
                obtain ⟨is', hp, hsub⟩ := hg1 k _ y (List.getElem?_eq_getElem (by omega)) hy
                have hv : fi[k]? = some fi[k] := Array.getElem?_eq_getElem (by omega)
                obtain ⟨q1, q2⟩ := cap _ _ _ _ hp (fun i hi => hS i (by simp [hsub i hi])) (r1 k _ _ hv (List.getElem?_eq_getElem (by omega)))
                exact ⟨_, hv, q1, q2⟩
              have each2 : ∀ (k : Nat) (y : AV), b'[k]? = some y → ∃ v, ca[k]? = some v ∧ Rep (C.fr S) v y ∧ y.pure = true := by
                intro k y hy
                have hk : k < b'.length := (List.getElem?_eq_some_iff.1 hy).1
                obtain ⟨is', hp, hsub⟩ := hg2 k _ y (List.getElem?_eq_getElem (by omega)) hy
                have hv : ca[k]? = some ca[k] := Array.getElem?_eq_getElem (by omega)
                obtain ⟨q1, q2⟩ := cap _ _ _ _ hp (fun i hi => hS i (by simp [hsub i hi])) (r2 k _ _ hv (List.getElem?_eq_getElem (by omega)))
                exact ⟨_, hv, q1, q2⟩
              refine ⟨.fn f fi ca a' b' hy (by omega) (by omega) (fun k v x hv hx => ?_) (fun k v x hv hx => ?_), ?_⟩
              · obtain ⟨v', hv', r, _⟩ := each1 k x hx
                rw [hv] at hv'; cases hv'; exact r
              · obtain ⟨v', hv', r, _⟩ := each2 k x hx
                rw [hv] at hv'; cases hv'; exact r
              · simp only [AV.pure, Bool.and_eq_true]
                refine ⟨pureL_of fun x hx => ?_, pureL_of fun x hx => ?_⟩
                · obtain ⟨k, hk⟩ := List.getElem?_of_mem hx
                  obtain ⟨_, _, _, hp⟩ := each1 k x hk
                  exact hp
                · obtain ⟨k, hk⟩ := List.getElem?_of_mem hx
                  obtain ⟨_, _, _, hp⟩ := each2 k x hk
                  exact hp
            | yld => exact absurd rfl hf
          · cases he
    | nilf => exact dflt (.nilf) he hr
    | iface t x => exact dflt (.iface t x) he hr
    | nili => exact dflt (.nili) he hr
    | code ps a b => cases hr

theorem purifyL_sound {C : Cx} (h : C.Ok) {n : Nat} {l m : List AV} {ids : List Nat} {vs : List Value} (he : mapL (purify n C.H) l = some (m, ids)) (hr : RepL C vs l) : RepL (C.fr ids) vs m ∧ AV.pureL m = true := by
  obtain ⟨hl, hg⟩ := mapL_get he
  have hlen := hr.length
  have each : ∀ (j : Nat) (v : Value) (y : AV), vs[j]? = some v → m[j]? = some y → Rep (C.fr ids) v y ∧ y.pure = true := by
    intro j v y hv hy
    have hj : j < m.length := (List.getElem?_eq_some_iff.1 hy).1
    obtain ⟨is', hp, hsub⟩ := hg j _ y (List.getElem?_eq_getElem (by omega)) hy
    exact purify_sound h ids n _ _ _ _ hp hsub (hr.get j v _ hv (List.getElem?_eq_getElem (by omega)))
  refine ⟨RepL.of_get (by omega) fun j v x hv hx => (each j v x hv hx).1, pureL_of fun x hx => ?_⟩
  obtain ⟨j, hj⟩ := List.getElem?_of_mem hx
  have hj' : j < vs.length := by have := (List.getElem?_eq_some_iff.1 hj).1; omega
  exact (each j vs[j] x (List.getElem?_eq_getElem hj') hj).2
end Vm

/- The machine over pure values and the model's world: one operation (I). (Own work of this repo.) -/
namespace Vm
open Go

structure After (C : Cx) (e : Eff) (nid : Nat) (C' : Cx) : Prop where
  H : C'.H = C.H.upds e.ups
  B : C'.B = fun i => C.B i ∨ (e.new = true ∧ i = nid)
  ok : C'.Ok
  le : C.Le C'
def OpOk (P : Program) (o : Oper) (a : Act) (C : Cx) (e : Eff) (nid : Nat) : Prop :=
  match e.out with
  | .val x => ∃ v C', (execOp a.eval o).run P C.w = .ok (.value v) C'.w ∧ After C e nid C' ∧ Rep C' v x
  | .skip => ∃ C', (execOp a.eval o).run P C.w = .ok .skip C'.w ∧ After C e nid C'
  | .panic x => ∃ v, (execOp a.eval o).run P C.w = .halt (.panic v) C.w ∧ Rep C v x ∧ e.ups = [] ∧ e.new = false

section
variable {P : Program} {o : Oper} {a : Act} {C : Cx} {nid : Nat}
theorem After.same (h : C.Ok) {out : Out} {rds : List Nat} : After C ⟨out, rds, [], false⟩ nid C :=
  ⟨rfl, by funext i; simp, h, Cx.Le.refl C⟩
theorem OpOk.pure (h : C.Ok) {v : Value} {x : AV} {rds : List Nat} (hrun : (execOp a.eval o).run P C.w = .ok (.value v) C.w) (r : Rep C v x) : OpOk P o a C ⟨.val x, rds, [], false⟩ nid :=
  ⟨v, C, hrun, .same h, r⟩
theorem run_v {P : Program} {w : World} (s : Sem Value) : (do pure (Next.value (← s)) : Sem Next).run P w = (s.run P w).andThen fun v w => .ok (.value v) w := by simp
theorem Eff.v_eq {x : AV} {e : Eff} (h : Eff.v x = some e) : e = ⟨.val x, [], [], false⟩ := by cases h; rfl

theorem rep_bool {v : Value} {b : Bool} (h : Rep C v (.bool b)) : v = .bool b := by cases h; rfl
theorem rep_int {v : Value} {k : IntKind} {n : Int} (h : Rep C v (.int k n)) : v = .int k n := by cases h; rfl
theorem rep_str {v : Value} {s : ByteArray} (h : Rep C v (.str s)) : v = .string s := by cases h; rfl
theorem rep_agg {v : Value} {cs : List AV} (h : Rep C v (.agg cs)) : ∃ vs, v = .agg vs ∧ vs.size = cs.length ∧ ∀ (j : Nat) (v : Value) (x : AV), vs[j]? = some v → cs[j]? = some x → Rep C v x := by
  cases h with | agg vs _ h r => exact ⟨vs, rfl, h, r⟩

/-- Cells against cells. -/
def CRel (C : Cx) (vs : Array Value) (cs : List AV) : Prop := vs.size = cs.length ∧ ∀ (j : Nat) (c : AV), cs[j]? = some c → ∃ v, vs[j]? = some v ∧ Rep C v c
theorem cells_one {v : Value} (h : v.oneCell' = true) : v.cells = #[v] := by cases v <;> first | rfl | simp [Value.oneCell'] at h
theorem rep_cells {v : Value} {x : AV} (h : Rep C v x) : CRel C v.cells x.cells := by
  have one : ∀ (v : Value) (x : AV), v.cells = #[v] → x.cells = [x] → Rep C v x → CRel C v.cells x.cells := by
    intro v x h1 h2 h
    rw [h1, h2]
    refine ⟨rfl, fun j c hc => ?_⟩
    cases j with
    | zero => simp at hc; subst hc; exact ⟨v, rfl, h⟩
    | succ j => simp at hc
  cases h with
  | agg vs cs hs r =>
    refine ⟨hs, fun j c hc => ?_⟩
    have hj : j < cs.length := (List.getElem?_eq_some_iff.1 hc).1
    have hv : vs[j]? = some vs[j] := Array.getElem?_eq_getElem (by omega)
    exact ⟨_, hv, r j _ _ hv hc⟩
  | tup vs cs hs r => exact one _ _ rfl rfl (.tup vs cs hs r)
  | int k n => exact one _ _ rfl rfl (.int k n)
  | bool b => exact one _ _ rfl rfl (.bool b)
  | str s => exact one _ _ rfl rfl (.str s)
  | lnil => exact one _ _ rfl rfl .lnil
  | lst a cap esz xs u hc hz hm hu ho hr => exact one _ _ rfl rfl (.lst a cap esz xs u hc hz hm hu ho hr)
  | ref v id off len h1 hB h => exact one _ _ (cells_one h1) rfl (.ref v id off len h1 hB h)
  | ptr v id off h1 hB h => exact one _ _ (cells_one h1) rfl (.ptr v id off h1 hB h)
  | imm a cs u hm hu hr => exact one _ _ rfl rfl (.imm a cs u hm hu hr)
  | nilp => exact one _ _ rfl rfl .nilp
  | fn f fi ca l m hy h1 h2 r1 r2 => exact one _ _ rfl rfl (.fn f fi ca l m hy h1 h2 r1 r2)
  | yld L id hB h => exact one _ _ rfl rfl (.yld L id hB h)
  | nilf => exact one _ _ rfl rfl .nilf
  | iface t v x h => exact one _ _ rfl rfl (.iface t v x h)
  | nili => exact one _ _ rfl rfl .nili
end
end Vm

/- The machine over pure values and the model's world: one operation (II): what makes, reads and writes rows. (Own work of this repo.) -/
namespace Vm
open Go

/-- A struct of plain fields. -/
def flatS (T : TypeId → Option TI) (fs : List (Nat × TypeId)) : Bool := fs.all fun p => match T p.2 with
  | some tu => !tu.agg && (match tu.desc with | .int _ | .bool | .str => true | _ => false)
  | none => false
/-- May values of the type be compared? -/
def sqOk (P : Program) (t : TypeId) : Bool := !P.stoodInHeld t && !P.eqGuardType P.depth t && (match P.underlying t with | some (.struct fs) => fs.toList.all (fun f => f.name != "_") | _ => false)
def sqAll (P : Program) (T : TypeId → Option TI) (n : Nat) : Bool := (List.range n).all fun t => match T t with
  | some ti => (match ti.desc with | .struct fs => !flatS T fs || sqOk P t | _ => true)
  | none => true
/-- What is asked of the environment. -/
structure EOk (P : Program) (E : Env) : Prop where
  ty : ∀ t ti, E.T t = some ti → tiOf P t = some ti
  sq : ∀ t ti fs, E.T t = some ti → ti.desc = .struct fs → flatS E.T fs = true → sqOk P t = true

section
variable {P : Program} {E : Env} {o : Oper} {a : Act} {C : Cx} {nid : Nat} {sl : List AV}

theorem setCells_length : ∀ (vs cs : List AV) (off : Nat), (setCells cs off vs).length = cs.length
  | [], _, _ => rfl
  | v :: vs, cs, off => by simp [setCells, setCells_length vs]
theorem setCells_get : ∀ (vs cs : List AV) (off j : Nat), off + vs.length ≤ cs.length → (setCells cs off vs)[j]? = if off ≤ j ∧ j < off + vs.length then vs[j - off]? else cs[j]?
  | [], cs, off, j, _ => by
    simp only [setCells, List.length_nil, Nat.add_zero]
    rw [if_neg (by omega)]
  | v :: vs, cs, off, j, h => by
    simp only [List.length_cons] at h
    simp only [setCells]
    rw [setCells_get vs (cs.set off v) (off + 1) j (by simp; omega)]
    simp only [List.length_cons]
    by_cases h1 : off + 1 ≤ j ∧ j < off + 1 + vs.length
    · rw [if_pos h1, if_pos (by omega)]
      rw [show j - off = (j - (off + 1)) + 1 by omega, List.getElem?_cons_succ]
    · rw [if_neg h1]
      by_cases h2 : j = off
      · subst h2
        rw [if_pos (by omega), List.getElem?_set_self (by omega)]
        simp
      · rw [if_neg (by omega), List.getElem?_set_ne (by omega)]

theorem foldl_set (off : Nat) : ∀ (l : List Value) (k : Nat) (cells : Array Value), (l.zipIdx k).foldl (fun (cs : Array Value) (p : Value × Nat) => cs.setIfInBounds (off + p.2) p.1) cells = (List.foldl (fun (p : Array Value × Nat) c => (p.1.setIfInBounds (off + p.2) c, p.2 + 1)) (cells, k) l).1
  | [], k, cells => rfl
  | v :: l, k, cells => by simp only [List.zipIdx_cons, List.foldl_cons]; exact foldl_set off l (k + 1) _
theorem fill_cells (off : Nat) : ∀ (l : List Value) (k : Nat) (cells : Array Value) (xs : List AV) (cs : List AV), CRel C cells cs → l.length = xs.length → (∀ (j : Nat) (c : AV), xs[j]? = some c → ∃ v, l[j]? = some v ∧ Rep C v c) → off + k + l.length ≤ cells.size →
    CRel C (List.foldl (fun (p : Array Value × Nat) c => (p.1.setIfInBounds (off + p.2) c, p.2 + 1)) (cells, k) l).1 (setCells cs (off + k) xs)
  | [], k, cells, [], cs, h, _, _, _ => h
  | v :: l, k, cells, x :: xs, cs, h, hl, hx, hb => by
    simp only [List.foldl_cons, setCells]
    have hx0 : Rep C v x := by obtain ⟨u, hu, r⟩ := hx 0 x rfl; simp at hu; subst hu; exact r
    have := fill_cells off l (k + 1) (cells.setIfInBounds (off + k) v) xs (cs.set (off + k) x) ?_ (by simpa using hl) (fun j c hj => by simpa using hx (j + 1) c (by simpa using hj)) (by simp at hb ⊢; omega)
    · rwa [show off + k + 1 = off + (k + 1) by omega]
    · refine ⟨by simp [h.1], fun j c hc => ?_⟩
      by_cases hj : off + k = j
      · subst hj
        have hlt : off + k < cs.length := by have := (List.getElem?_eq_some_iff.1 hc).1; simpa using this
        rw [List.getElem?_set_self hlt] at hc
        cases hc
        exact ⟨v, Array.getElem?_setIfInBounds_self_of_lt (by rw [h.1]; exact hlt), hx0⟩
      · rw [List.getElem?_set_ne hj] at hc
        obtain ⟨u, hu, r⟩ := h.2 j c hc
        exact ⟨u, by rw [Array.getElem?_setIfInBounds_ne hj]; exact hu, r⟩
  | [], _, _, _ :: _, _, _, hl, _, _ => by simp at hl
  | _ :: _, _, _, [], _, _, hl, _, _ => by simp at hl

theorem fill_ok {place : Nat → Option (Nat × Nat)} {pl' : Nat → Option (Nat × Nat)} (hp : ∀ i q, pl' i = some q → place i = some q) : ∀ (ps : List (Nat × Value)) (l : List (Nat × AV)) (cells : Array Value) (cs ds : List AV), CRel C cells cs → RepL C (ps.map (·.2)) (l.map (·.2)) → ps.map (·.1) = l.map (·.1) →
    fillAll pl' cs l = some ds → ∃ cells', Instr.fill place cells ps = some cells' ∧ CRel C cells' ds
  | [], [], cells, cs, ds, h, _, _, he => by simp [fillAll] at he; subst he; exact ⟨cells, rfl, h⟩
  | (i, v) :: ps, (k, x) :: l, cells, cs, ds, h, hr, hi, he => by
    simp only [List.map_cons, List.cons.injEq] at hi
    obtain ⟨rfl, hi⟩ := hi
    simp only [fillAll] at he
    split at he
    · cases he
    · rename_i off size hpl
      split at he
      · rename_i hc
        obtain ⟨h1, h2⟩ := hc
        have hrc := rep_cells hr.1
        simp only [Instr.fill, hp _ _ hpl]
        have hsz : v.cells.size = size := by rw [hrc.1]; exact h1
        rw [if_neg (by simp only [not_or, Bool.or_eq_true, decide_eq_true_eq, ne_eq]; rw [h.1]; omega)]
        have e : v.cells.zipIdx.foldl (fun cs (x : Value × Nat) => cs.setIfInBounds (off + x.2) x.1) cells = (List.foldl (fun (p : Array Value × Nat) c => (p.1.setIfInBounds (off + p.2) c, p.2 + 1)) (cells, 0) v.cells.toList).1 := by
          rw [← foldl_set, ← Array.foldl_toList, Array.toList_zipIdx]
        rw [show (v.cells.zipIdx.foldl (fun cs (x : Value × Nat) => match x with | (c, j) => cs.setIfInBounds (off + j) c) cells) = (List.foldl (fun (p : Array Value × Nat) c => (p.1.setIfInBounds (off + p.2) c, p.2 + 1)) (cells, 0) v.cells.toList).1 from e]
        refine fill_ok hp ps l _ _ ds ?_ hr.2 hi he
        have := fill_cells (C := C) off v.cells.toList 0 cells x.cells cs h (by simpa using hrc.1) (fun j c hj => by obtain ⟨u, hu, r⟩ := hrc.2 j c hj; exact ⟨u, by simpa using hu, r⟩) (by simp; rw [hsz, h.1]; omega)
        simpa using this
      · cases he
  | [], _ :: _, _, _, _, _, hr, _, _ => hr.elim
  | _ :: _, [], _, _, _, _, hr, _, _ => hr.elim

theorem zero_rel {t : TypeId} {ti : TI} {i : TypeInfo} {d : TypeDesc} {z : Value} (F : TyFacts P t ti i d z) : CRel C z.cells ti.zero.cells := rep_cells (ofConst_rep F.az)
theorem CRel.scal {vs : Array Value} {cs : List AV} (h : CRel C vs cs) (hs : cs.all AV.scal = true) : ∀ (j : Nat) (c : AV), cs[j]? = some c → ∃ v, vs[j]? = some v ∧ Rep C v c ∧ v.oneCell' = true := by
  intro j c hc
  obtain ⟨v, hv, r⟩ := h.2 j c hc
  refine ⟨v, hv, r, ?_⟩
  have := List.all_eq_true.1 hs c (List.mem_of_getElem? hc)
  cases r <;> first | rfl | (simp [AV.scal] at this; done) | assumption

/-- A new row of the heap. -/
theorem grow_ok (h : C.Ok) (hn : C.H nid = none) (hB : ¬ C.B nid) {w : World} {cs : Array Value} {t : TypeId} (hw : w.heap = C.w.heap.push (.cells cs t)) (blk : Blk) (hz : blk.esz ≠ 0)
    (hs : blk.cells.length ≤ cs.size) (hr : ∀ (j : Nat) (c : AV), blk.cells[j]? = some c → ∃ v, cs[j]? = some v ∧ Rep C v c ∧ v.oneCell' = true) {out : Out} {rds : List Nat} (hw2 : Alike C.w w := by exact ⟨rfl, rfl, rfl⟩) :
    ∃ C', C'.w = w ∧ C'.at_ nid = C.w.heap.size ∧ C'.H nid = some blk ∧ C'.B nid ∧ After C ⟨out, rds, [(nid, some blk)], true⟩ nid C' := by
  obtain ⟨le, ok⟩ := h.grow hn hB hw blk hz hs hr hw2
  exact ⟨_, rfl, by simp, Heap.upd_same _ _ _, (Or.inr rfl : C.B nid ∨ nid = nid), rfl, by funext i; simp, ok, le⟩

theorem alloc_ok (hE : EOk P E) (h : C.Ok) (hn : C.H nid = none) (hB : ¬ C.B nid) {t : TypeId} (hop : o.op = .alloc t) {e : Eff} (he : opEff E C.H nid sl o.op = some e) : OpOk P o a C e nid := by
  simp only [hop, opEff] at he
  split at he
  · rename_i ti ht
    split at he
    · rename_i hsc
      cases he
      obtain ⟨i, d, z, F⟩ := tiOf_facts (hE.ty _ _ ht)
      have hz : CRel C z.cells ti.zero.cells := zero_rel F
      obtain ⟨C', hw, hat, hH, hBB, hA⟩ := grow_ok (out := .val (.ptr nid 0)) (rds := [nid]) h hn hB (w := C.w.alloc (.cells z.cells t)) rfl ⟨ti.zero.cells, ti.agg, ti.size, false⟩ hsc.1 (by simp [hz.1]) (hz.scal hsc.2)
      refine ⟨.pointer (some ⟨C.w.heap.size, 0, none⟩), C', ?_, hA, .ptr _ _ _ rfl hBB fun blk hbl => ⟨by rw [hat], by rw [hH] at hbl; cases hbl; exact hsc.1⟩⟩
      simp only [execOp, hop, Instr.alloc, Sem.run_bind, F.run_zero, Result.andThen_ok, newVar, newRow, run_newObj, Sem.run_pure, hw]
      rfl
    · cases he
  · cases he
theorem box_ok (hE : EOk P E) (h : C.Ok) (hs : SRel C sl a.tmps) (hn : C.H nid = none) (hB : ¬ C.B nid) {t : TypeId} {x : Operand} (hop : o.op = .box t x) {e : Eff} (he : opEff E C.H nid sl o.op = some e) : OpOk P o a C e nid := by
  simp only [hop, opEff] at he
  split at he
  · rename_i ti v ht hv
    split at he
    · rename_i hsc
      cases he
      have hr := rep_cells (ev_rep hs hv)
      obtain ⟨C', hw, hat, hH, hBB, hA⟩ := grow_ok (out := .val (.ptr nid 0)) (rds := [nid]) h hn hB (w := C.w.alloc (.cells (a.eval x).cells t)) rfl ⟨v.cells, ti.agg, ti.size, false⟩ hsc.1 (by simp [hr.1]) (hr.scal hsc.2)
      refine ⟨.pointer (some ⟨C.w.heap.size, 0, none⟩), C', ?_, hA, .ptr _ _ _ rfl hBB fun blk hbl => ⟨by rw [hat], by rw [hH] at hbl; cases hbl; exact hsc.1⟩⟩
      simp only [execOp, hop, Instr.box, Sem.run_bind, Result.andThen_ok, newVar, newRow, run_newObj, Sem.run_pure, hw]
      rfl
    · cases he
  · cases he

theorem reps_length : ∀ (n : Nat) (z : List AV), (reps n z).length = n * z.length
  | 0, z => by simp [reps]
  | n + 1, z => by simp [reps, reps_length n z, Nat.succ_mul, Nat.add_comm]
theorem reps_get : ∀ (n : Nat) (z : List AV) (j : Nat), j < n * z.length → (reps n z)[j]? = z[j % z.length]?
  | 0, z, j, h => by simp at h
  | n + 1, z, j, h => by
    simp only [reps]
    by_cases hj : j < z.length
    · rw [List.getElem?_append_left hj, Nat.mod_eq_of_lt hj]
    · rw [List.getElem?_append_right (by omega), reps_get n z _ (by rw [Nat.succ_mul] at h; omega)]
      congr 1
      rw [Nat.mod_eq_sub_mod (Nat.le_of_not_lt hj)]
theorem zeros_rel {z : Array Value} {zs : List AV} (h : CRel C z zs) (hne : zs.length ≠ 0) (n : Nat) : CRel C ((Array.range (n * zs.length)).map (z[· % z.size]!)) (reps n zs) := by
  refine ⟨by simp [reps_length], fun j c hc => ?_⟩
  have hj : j < n * zs.length := by have := (List.getElem?_eq_some_iff.1 hc).1; rwa [reps_length] at this
  rw [reps_get _ _ _ hj] at hc
  obtain ⟨v, hv, r⟩ := h.2 _ c hc
  refine ⟨v, ?_, r⟩
  have hm : j % z.size < z.size := Nat.mod_lt _ (by rw [h.1]; omega)
  rw [← h.1] at hv
  simp only [Array.getElem?_map, Array.getElem?_range, hj, if_true, Option.map_some, Option.some.injEq]
  rw [getElem!_pos z _ hm]
  rw [Array.getElem?_eq_getElem hm] at hv
  cases hv
  rfl
theorem reps_all {p : AV → Bool} {z : List AV} (h : z.all p = true) : ∀ n, (reps n z).all p = true
  | 0 => rfl
  | n + 1 => by simp only [reps, List.all_append, h, reps_all h n, Bool.and_self]

theorem buildSlice_ok (hE : EOk P E) (h : C.Ok) (hs : SRel C sl a.tmps) (hn : C.H nid = none) (hB : ¬ C.B nid) {t : TypeId} {len : Nat} {ps : Array (Nat × Operand)} (hop : o.op = .buildSlice t len ps) {e : Eff} (he : opEff E C.H nid sl o.op = some e) : OpOk P o a C e nid := by
  simp only [hop, opEff] at he
  split at he <;> try cases he
  rename_i ti l ht hl
  split at he <;> try cases he
  rename_i el hd
  split at he <;> try cases he
  rename_i te hte
  split at he <;> try cases he
  rename_i hc
  obtain ⟨hz0, hzl, hbig⟩ := hc
  split at he <;> try cases he
  rename_i cs hfill
  split at he <;> try cases he
  rename_i hsc
  obtain ⟨i, d, z, F⟩ := tiOf_facts (hE.ty _ _ ht)
  obtain ⟨i', d', z', F'⟩ := tiOf_facts (hE.ty _ _ hte)
  have hd' : d = .slice el := by
    have := F.ad; rw [hd] at this
    cases d <;> simp [dOf] at this
    rw [this]
  subst hd'
  have hz := zero_rel (C := C) F'
  obtain ⟨r1, r2⟩ := evps_rep hs hl
  -- the row of zeros
  have hzero : ∀ w : World, (if len * te.size = 0 then (Pure.pure #[] : Sem (Array Value)) else do Pure.pure (← zeroValue el).cells).run P w = .ok (if len * te.size = 0 then #[] else z'.cells) w := by
    intro w; split <;> simp [F'.run_zero]
  have hrel : CRel C ((Array.range (len * te.size)).map ((if len * te.size = 0 then #[] else z'.cells)[· % (if len * te.size = 0 then #[] else z'.cells).size]!)) (reps len te.zero.cells) := by
    by_cases h0 : len * te.size = 0
    · have : len = 0 := by
        rcases Nat.mul_eq_zero.1 h0 with h | h
        · exact h
        · exact absurd h hz0
      subst this
      simp only [Nat.zero_mul, if_true]
      exact ⟨by simp [reps], by simp [reps]⟩
    · simp only [h0, if_false]
      have := zeros_rel hz (by omega) len
      rwa [hzl] at this
  obtain ⟨cells', hf, hrel'⟩ := fill_ok (C := C) (place := fun i => some (i * te.size, te.size)) (fun _ _ h => h) (ps.toList.map fun p => (p.1, a.eval p.2)) l _ _ cs hrel r1 r2 hfill
  have hlen : cs.length = cells'.size := hrel'.1.symm
  have hcl : cells'.size = len * te.size := by
    have fl : ∀ (pl : Nat → Option (Nat × Nat)) (l : List (Nat × AV)) (c d : List AV), fillAll pl c l = some d → d.length = c.length := by
      intro pl l
      induction l with
      | nil => intro c d h; simp [fillAll] at h; rw [h]
      | cons p l ih =>
        intro c d h
        obtain ⟨i, v⟩ := p
        simp only [fillAll] at h
        split at h
        · cases h
        · split at h
          · rw [ih _ _ h, setCells_length]
          · cases h
    rw [← hlen, fl _ _ _ _ hfill, reps_length, hzl]
  obtain ⟨C', hw, hat, hH, hBB, hA⟩ := grow_ok (out := .val (.ref nid 0 len)) (rds := [nid]) h hn hB (w := C.w.alloc (.cells cells' el)) rfl ⟨cs, te.agg, te.size, false⟩ hz0 (by simp [hlen]) (hrel'.scal hsc)
  refine ⟨.slice (some ⟨C.w.heap.size, 0, none⟩) len len, C', ?_, hA, .ref _ _ _ _ rfl hBB fun blk hb => ⟨len, by rw [hat], Nat.le_refl _, cells', el, (0, 0), ?_, ?_⟩⟩
  · simp only [execOp, hop, Instr.buildSlice, Sem.run_bind, F.run_und, F'.run_size, Result.andThen_ok]
    rw [if_neg (by omega)]
    have hps : (Array.map (fun (x : Nat × Operand) => (x.fst, a.eval x.snd)) ps).toList = ps.toList.map fun p => (p.1, a.eval p.2) := by simp
    by_cases h0 : len * te.size = 0
    · simp only [h0, if_true] at hf ⊢
      simp only [Sem.run_bind, Sem.run_pure, Result.andThen_ok, hps, hf, newRow, run_newObj, hw]
      rfl
    · simp only [h0, if_false] at hf ⊢
      simp only [Sem.run_bind, Sem.run_pure, F'.run_zero, Result.andThen_ok, hps, hf, newRow, run_newObj, hw]
      rfl
  · rw [hat, hw]; show (C.w.heap.push _)[_]? = _; simp
  · rw [hH] at hb; cases hb; simp only [Nat.zero_add]; omega
end
end Vm

/- The machine over pure values and the model's world: one operation (III). (Own work of this repo.) -/
namespace Vm
open Go
section
variable {P : Program} {E : Env} {o : Oper} {a : Act} {C : Cx} {nid : Nat} {sl : List AV}

theorem dOf_slice {d : TypeDesc} {e : TypeId} (h : dOf d = some (.slice e)) : d = .slice e := by
  cases d <;> simp [dOf] at h; rw [h]
theorem dOf_struct {d : TypeDesc} {fs : List (Nat × TypeId)} (h : dOf d = some (.struct fs)) : ∃ l, d = .struct l ∧ fs = l.toList.map fun f => (f.offset, f.type) := by
  cases d <;> simp [dOf] at h; exact ⟨_, rfl, h.symm⟩
theorem dOf_array {d : TypeDesc} {n : Nat} {e : TypeId} (h : dOf d = some (.array n e)) : d = .array n e := by
  cases d <;> simp [dOf] at h; rw [h.1, h.2]
theorem dOf_int {d : TypeDesc} {k : IntKind} (h : dOf d = some (.int k)) : d = .int k := by
  cases d <;> simp [dOf] at h; rw [h]
theorem dOf_bool {d : TypeDesc} (h : dOf d = some .bool) : d = .bool := by
  cases d <;> simp [dOf] at h; rfl
theorem dOf_str {d : TypeDesc} (h : dOf d = some .str) : d = .string := by
  cases d <;> simp [dOf] at h; rfl
theorem dOf_func {d : TypeDesc} (h : dOf d = some .func) : ∃ a b c, d = .func a b c := by
  cases d <;> simp [dOf] at h; exact ⟨_, _, _, rfl⟩

theorem run_mapM {α β : Type} {P : Program} {w : World} {g : α → Sem β} {f : α → β} : ∀ (l : List α), (∀ x ∈ l, (g x).run P w = .ok (f x) w) → (l.mapM g).run P w = .ok (l.map f) w
  | [], _ => by simp
  | x :: l, h => by
    rw [List.mapM_cons]
    simp only [Sem.run_bind, h x (by simp), Result.andThen_ok, run_mapM l (fun y hy => h y (by simp [hy])), Sem.run_pure, List.map_cons]
theorem places_run (hE : EOk P E) (w : World) : ∀ (l : List Field) (pl : List (Nat × Nat)), places E (l.map fun f => (f.offset, f.type)) = some pl →
    (l.mapM fun (f : Field) => do Pure.pure (f.offset, ← Go.sizeOf f.type)).run P w = .ok pl w
  | [], pl, h => by simp [places] at h; subst h; simp
  | f :: l, pl, h => by
    simp only [List.map_cons, places] at h
    split at h
    · rename_i tu l' hu hl
      cases h
      obtain ⟨i, d, z, F⟩ := tiOf_facts (hE.ty _ _ hu)
      rw [List.mapM_cons]
      simp only [Sem.run_bind, F.run_size, Result.andThen_ok, Sem.run_pure, places_run hE w l l' hl]
    · cases h

theorem build_ok (hE : EOk P E) (h : C.Ok) (hs : SRel C sl a.tmps) {t : TypeId} {ps : Array (Nat × Operand)} (hop : o.op = .build t ps) {e : Eff} (he : opEff E C.H nid sl o.op = some e) : OpOk P o a C e nid := by
  simp only [hop, opEff] at he
  split at he <;> try cases he
  rename_i ti l ht hl
  obtain ⟨i, d, z, F⟩ := tiOf_facts (hE.ty _ _ ht)
  obtain ⟨r1, r2⟩ := evps_rep hs hl
  have hz := zero_rel (C := C) F
  have hps : (Array.map (fun (x : Nat × Operand) => (x.fst, a.eval x.snd)) ps).toList = ps.toList.map fun p => (p.1, a.eval p.2) := by simp
  split at he
  · rename_i fs hd
    obtain ⟨fl, rfl, rfl⟩ := dOf_struct (hd ▸ F.ad)
    split at he <;> try cases he
    rename_i pl hpl
    split at he <;> try cases he
    rename_i cs hfill
    obtain ⟨cells', hf, hrel'⟩ := fill_ok (C := C) (place := fun i => pl.toArray[i]?) (fun i q h => by simpa using h) (ps.toList.map fun p => (p.1, a.eval p.2)) l _ _ cs hz r1 r2 hfill
    refine .pure h (v := .agg cells') ?_ (.agg cells' cs hrel'.1 fun j v x hv hx => by obtain ⟨u, hu, r⟩ := hrel'.2 j x hx; rw [hv] at hu; cases hu; exact r)
    have hm : (fl.mapM fun (f : Field) => do Pure.pure (f.offset, ← Go.sizeOf f.type)).run P C.w = .ok pl.toArray C.w := by
      rw [Array.mapM_eq_mapM_toList]
      simp only [Sem.run_map, places_run hE C.w fl.toList pl hpl, Result.andThen_ok]
    simp only [execOp, hop, Instr.build, Sem.run_bind, F.run_zero, F.run_und, Result.andThen_ok, hm, hps, hf, Sem.run_pure]
  · rename_i n el hd
    obtain rfl := dOf_array (hd ▸ F.ad)
    split at he <;> try cases he
    rename_i te hte
    obtain ⟨i', d', z', F'⟩ := tiOf_facts (hE.ty _ _ hte)
    split at he <;> try cases he
    rename_i cs hfill
    obtain ⟨cells', hf, hrel'⟩ := fill_ok (C := C) (place := fun i => some (i * te.size, te.size)) (fun i q h => h) (ps.toList.map fun p => (p.1, a.eval p.2)) l _ _ cs hz r1 r2 hfill
    refine .pure h (v := .agg cells') ?_ (.agg cells' cs hrel'.1 fun j v x hv hx => by obtain ⟨u, hu, r⟩ := hrel'.2 j x hx; rw [hv] at hu; cases hu; exact r)
    simp only [execOp, hop, Instr.build, Sem.run_bind, F.run_zero, F.run_und, F'.run_size, Result.andThen_ok, hps, hf, Sem.run_pure]
  · cases he

theorem rep_ptr {v : Value} {id off : Nat} (h : Rep C v (.ptr id off)) {b : Blk} (hb : C.H id = some b) : v = .pointer (some ⟨C.at_ id, off, none⟩) := by
  cases h with | ptr _ _ _ _ _ hh => exact (hh b hb).1
theorem rep_ptrZ {v : Value} {id off : Nat} (h : Rep C v (.ptr id off)) {b : Blk} (hb : C.H id = some b) : b.esz ≠ 0 := by
  cases h with | ptr _ _ _ _ _ hh => exact (hh b hb).2
theorem rep_refZ (hok : C.Ok) {v : Value} {id off len : Nat} (h : Rep C v (.ref id off len)) {b : Blk} (hb : C.H id = some b) : b.esz ≠ 0 := fun hz => by
  cases h with | ref _ _ _ _ _ _ hh => obtain ⟨_, _, _, cs, t, fz, h3, _⟩ := hh b hb; exact (hok.lp id b hb hz).noCells h3
theorem rep_ref {v : Value} {id off len : Nat} (h : Rep C v (.ref id off len)) {b : Blk} (hb : C.H id = some b) : ∃ cap, v = .slice (some ⟨C.at_ id, off, none⟩) len cap ∧ len ≤ cap ∧ ∃ cs t fz, C.w.heap[C.at_ id]? = some (.cells cs t fz) ∧ off + cap * b.esz ≤ cs.size := by
  cases h with | ref _ _ _ _ _ _ hh => exact hh b hb
theorem addr_add (b o n : Nat) : (⟨b, o, none⟩ : Addr).add n = ⟨b, o + n, none⟩ := by
  unfold Addr.add; split <;> simp_all
/-- Cells of a row that lies in the world. -/
theorem Cx.Ok.cell (h : C.Ok) {id : Nat} {b : Blk} (hb : C.H id = some b) (hz : b.esz ≠ 0) {j : Nat} {c : AV} (hc : b.cells[j]? = some c) : ∃ v, C.w.cell? ⟨C.at_ id, j, none⟩ = some v ∧ Rep C v c ∧ v.oneCell' = true := by
  obtain ⟨cs, t, h1, h2, h3⟩ := h.blk id b hb hz
  obtain ⟨v, hv, r, h4⟩ := h3 j c hc
  exact ⟨v, by simp only [World.cell?, h1]; simpa using hv, r, h4⟩
theorem load_cells {w : World} {ad : Addr} {n : Nat} {cs : List AV} (hn : cs.length = n) (hc : ∀ (j : Nat) (c : AV), cs[j]? = some c → ∃ v, w.cell? (ad.add j) = some v ∧ Rep C v c) :
    ∃ vs : Array Value, (loadCells ad n).run P w = .ok vs w ∧ vs.size = cs.length ∧ ∀ (j : Nat) (v : Value) (x : AV), vs[j]? = some v → cs[j]? = some x → Rep C v x := by
  have hall : ∀ j, j < n → ∃ v, w.cell? (ad.add j) = some v := fun j hj => by
    obtain ⟨v, hv, _⟩ := hc j _ (List.getElem?_eq_getElem (by omega)); exact ⟨v, hv⟩
  refine ⟨_, run_loadCells w ad n (fun j => (w.cell? (ad.add j)).getD Go.undef) (fun j hj => by obtain ⟨v, hv⟩ := hall j hj; rw [hv]; rfl), by simp [hn], fun j v x hv hx => ?_⟩
  obtain ⟨u, hu, r⟩ := hc j x hx
  have hj : j < n := by rw [← hn]; exact (List.getElem?_eq_some_iff.1 hx).1
  simp [hj, hu] at hv
  subst hv
  exact r

theorem load_run (hE : EOk P E) (h : C.Ok) {t : TypeId} {v : Value} {x : AV} (hr : Rep C v x) {e : Eff} (he : loadEff E C.H t x = some e) :
    ∃ u y rds, e = ⟨.val y, rds, [], false⟩ ∧ (Instr.loadAt t v).run P C.w = .ok u C.w ∧ Rep C u y ∧ ∃ ad, v = .pointer (some ad) ∧ (loadVar t ad).run P C.w = .ok u C.w := by
  unfold loadEff at he
  split at he
  · rename_i id off
    split at he <;> try cases he
    rename_i ti b ht hb
    obtain ⟨i, d, z, F⟩ := tiOf_facts (hE.ty _ _ ht)
    cases hr with
    | ptr v id off h1 hB hh =>
      obtain ⟨rfl, hbz⟩ := hh b hb
      split at he
      · rename_i hag
        split at he <;> cases he
        rename_i hlen
        obtain ⟨vs, hrun, hsz, hrep⟩ := load_cells (P := P) (C := C) (w := C.w) (ad := ⟨C.at_ id, off, none⟩) (n := ti.size) (cs := (b.cells.drop off).take ti.size) (by simp; omega) (fun j c hc => by
          have hj : j < ti.size := by have := (List.getElem?_eq_some_iff.1 hc).1; simp at this; omega
          rw [List.getElem?_take_of_lt hj, List.getElem?_drop] at hc
          obtain ⟨v, hv, r, _⟩ := h.cell hb hbz hc
          exact ⟨v, by rw [addr_add]; exact hv, r⟩)
        have hl : (loadVar t ⟨C.at_ id, off, none⟩).run P C.w = .ok (.agg vs) C.w := by
          simp only [loadVar, Sem.run_bind, F.run_agg, Result.andThen_ok, hag, if_true, F.run_size, hrun, Sem.run_pure]
        exact ⟨.agg vs, _, _, rfl, by simp only [Instr.loadAt, Instr.sureAddr, Sem.run_bind, Sem.run_pure, Result.andThen_ok, hl], .agg vs _ hsz hrep, _, rfl, hl⟩
      · rename_i hag
        split at he <;> cases he
        rename_i c hc
        obtain ⟨v, hv, r, _⟩ := h.cell hb hbz hc
        have hag' : ti.agg = false := by simpa using hag
        have hl : (loadVar t ⟨C.at_ id, off, none⟩).run P C.w = .ok v C.w := by
          simp only [loadVar, Sem.run_bind, F.run_agg, Result.andThen_ok, hag', Bool.false_eq_true, if_false, run_load, hv]
        exact ⟨v, _, _, rfl, by simp only [Instr.loadAt, Instr.sureAddr, Sem.run_bind, Sem.run_pure, Result.andThen_ok, hl], r, _, rfl, hl⟩
  · rename_i cs
    split at he <;> try cases he
    rename_i ti ht
    obtain ⟨i, d, z, F⟩ := tiOf_facts (hE.ty _ _ ht)
    cases hr with
    | imm ad cs u hm hu hr =>
      have cell : ∀ (j : Nat) (c : AV), cs[j]? = some c → C.w.cell? (ad.add j) = some (u j) := by
        intro j c hc
        have hne : cs ≠ [] := by intro e; rw [e] at hc; simp at hc
        obtain ⟨hsp, _, _⟩ := hm hne
        have : ad = ⟨ad.block, ad.off, none⟩ := by cases ad; simp at hsp; simp [hsp]
        rw [this, addr_add]
        exact hu j c hc
      split at he
      · rename_i hag
        split at he <;> cases he
        rename_i hlen
        obtain ⟨vs, hrun, hsz, hrep⟩ := load_cells (P := P) (C := C) (w := C.w) (ad := ad) (n := ti.size) (cs := cs.take ti.size) (by simp; omega) (fun j c hc => by
          have hj : j < ti.size := by have := (List.getElem?_eq_some_iff.1 hc).1; simp at this; omega
          rw [List.getElem?_take_of_lt hj] at hc
          exact ⟨_, cell j c hc, hr j c hc⟩)
        have hl : (loadVar t ad).run P C.w = .ok (.agg vs) C.w := by
          simp only [loadVar, Sem.run_bind, F.run_agg, Result.andThen_ok, hag, if_true, F.run_size, hrun, Sem.run_pure]
        exact ⟨.agg vs, _, _, rfl, by simp only [Instr.loadAt, Instr.sureAddr, Sem.run_bind, Sem.run_pure, Result.andThen_ok, hl], .agg vs _ hsz hrep, _, rfl, hl⟩
      · rename_i hag
        have hag' : ti.agg = false := by simpa using hag
        split at he
        · rename_i c cs'
          cases he
          have hv := cell 0 c rfl
          have hl : (loadVar t ad).run P C.w = .ok (u 0) C.w := by
            have : ad.add 0 = ad := by simp [Addr.add]
            rw [this] at hv
            simp only [loadVar, Sem.run_bind, F.run_agg, Result.andThen_ok, hag', Bool.false_eq_true, if_false, run_load, hv]
          exact ⟨u 0, _, _, rfl, by simp only [Instr.loadAt, Instr.sureAddr, Sem.run_bind, Sem.run_pure, Result.andThen_ok, hl], hr 0 c rfl, _, rfl, hl⟩
        · cases he
  · cases he
theorem load_ok (hE : EOk P E) (h : C.Ok) (hs : SRel C sl a.tmps) {t : TypeId} {x : Operand} (hop : o.op = .load t x) {e : Eff} (he : opEff E C.H nid sl o.op = some e) : OpOk P o a C e nid := by
  simp only [hop, opEff] at he
  split at he <;> try cases he
  rename_i y hy
  obtain ⟨u, z, rds, rfl, hrun, hr, _⟩ := load_run hE h (ev_rep hs hy) he
  refine .pure h (v := u) ?_ hr
  simp only [execOp, hop, Sem.run_bind, hrun, Result.andThen_ok, Sem.run_pure]

/-- Cells written over a row that lies in the world. -/
theorem write_ok (h : C.Ok) {id off : Nat} {b : Blk} (hb : C.H id = some b) (hz : b.esz ≠ 0) (hf : b.fz = false) {vs : List Value} {xs : List AV} (hl : vs.length = xs.length) (hx : ∀ (j : Nat) (c : AV), xs[j]? = some c → ∃ v, vs[j]? = some v ∧ Rep C v c)
    (h1 : ∀ v ∈ vs, v.oneCell' = true) (hb2 : off + xs.length ≤ b.cells.length) {out : Out} {rds : List Nat} :
    ∃ C', (storeCells ⟨C.at_ id, off, none⟩ vs).run P C.w = .ok () C'.w ∧ After C ⟨out, rds, [(id, some { b with cells := setCells b.cells off xs })], false⟩ nid C' := by
  obtain ⟨cs, t, hh, hlen, hrel⟩ := h.blk id b hb hz
  have hrun := run_storeCells_at (P := P) (C.at_ id) off t vs 0 cs C.w hh (by omega) h1
  obtain ⟨le, ok⟩ := h.store hb hf hh (cs' := (cs.toList.take (off + 0) ++ vs ++ cs.toList.drop (off + 0 + vs.length)).toArray) (by simp; omega) (setCells b.cells off xs) (by rw [setCells_length]; simp; omega) (fun j c hc => by
    rw [setCells_get _ _ _ _ hb2] at hc
    simp only [Nat.add_zero, List.getElem?_toArray]
    split at hc
    · rename_i hj
      obtain ⟨v, hv, r⟩ := hx _ c hc
      refine ⟨v, ?_, r, h1 v (List.mem_of_getElem? hv)⟩
      rw [List.append_assoc, List.getElem?_append_right (by simp; omega), List.getElem?_append_left (by simp; omega)]
      simp only [List.length_take, Array.length_toList]
      rw [Nat.min_eq_left (by omega)]
      exact hv
    · rename_i hj
      have hjl : j < b.cells.length := (List.getElem?_eq_some_iff.1 hc).1
      obtain ⟨v, hv, r, h4⟩ := hrel j c hc
      refine ⟨v, ?_, r, h4⟩
      by_cases hlt : j < off
      · rw [List.append_assoc, List.getElem?_append_left (by simp; omega), List.getElem?_take_of_lt hlt]
        simpa using hv
      · rw [List.getElem?_append_right (by simp; omega), List.getElem?_drop]
        simp only [List.length_append, List.length_take, Array.length_toList]
        rw [show off + vs.length + (j - (min off cs.size + vs.length)) = j by omega]
        simpa using hv)
  exact ⟨_, hrun, rfl, by funext i; simp, ok, le⟩

theorem store_ok (hE : EOk P E) (h : C.Ok) (hs : SRel C sl a.tmps) {t : TypeId} {x y : Operand} (hop : o.op = .store t x y) {e : Eff} (he : opEff E C.H nid sl o.op = some e) : OpOk P o a C e nid := by
  simp only [hop, opEff] at he
  split at he <;> try cases he
  rename_i p v hp hv
  have hrp := ev_rep hs hp
  have hrv := ev_rep hs hv
  unfold storeEff at he
  split at he <;> try cases he
  rename_i id off
  split at he <;> try cases he
  rename_i ti b ht hb
  split at he <;> try cases he
  rename_i hc
  obtain ⟨hf, hsz, hlen, hsc⟩ := hc
  obtain ⟨i, d, z, F⟩ := tiOf_facts (hE.ty _ _ ht)
  have hcr := rep_cells hrv
  have hsc' := CRel.scal hcr hsc
  have hrp' := rep_ptr hrp hb
  have one : ∀ u ∈ (a.eval y).cells.toList, u.oneCell' = true := by
    intro u hu
    obtain ⟨j, hj⟩ := List.getElem?_of_mem hu
    have hjl : j < v.cells.length := by have := (List.getElem?_eq_some_iff.1 hj).1; rw [← hcr.1]; simpa using this
    obtain ⟨u', hu', _, h1⟩ := hsc' j _ (List.getElem?_eq_getElem hjl)
    have : u = u' := by simp at hj; rw [hu'] at hj; cases hj; rfl
    rw [this]; exact h1
  obtain ⟨C', hrun, hA⟩ := write_ok (P := P) (C := C) (nid := nid) (out := .skip) (rds := [id]) h hb (rep_ptrZ hrp hb) hf (off := off) (vs := (a.eval y).cells.toList) (xs := v.cells) (by simpa using hcr.1) (fun j c hj => by obtain ⟨u, hu, r⟩ := hcr.2 j c hj; exact ⟨u, by simpa using hu, r⟩) one (by omega)
  refine ⟨C', ?_, hA⟩
  simp only [execOp, hop, Instr.storeAt, Instr.sureAddr, hrp', storeVar, Sem.run_bind, Sem.run_pure, Result.andThen_ok, F.run_size]
  rw [if_neg (by rw [hcr.1]; simpa using hsz)]
  simp only [hrun, Result.andThen_ok]
end
end Vm

/- The machine over pure values and the model's world: one operation (IV). (Own work of this repo.) -/
namespace Vm
open Go
section
variable {P : Program} {E : Env} {o : Oper} {a : Act} {C : Cx} {nid : Nat} {sl : List AV}

theorem rep_imm {v : Value} {cs : List AV} (h : Rep C v (.imm cs)) : ∃ (ad : Addr) (u : Nat → Value), v = .pointer (some ad) ∧ (cs ≠ [] → ad.spot = none ∧ ad.block < C.w.heap.size ∧ ¬ C.wr ad.block) ∧
    (∀ (j : Nat) (c : AV), cs[j]? = some c → C.w.cell? ⟨ad.block, ad.off + j, none⟩ = some (u j)) ∧ (∀ (j : Nat) (c : AV), cs[j]? = some c → Rep C (u j) c) := by
  cases h with | imm ad _ u hm hu hr => exact ⟨ad, u, rfl, hm, hu, hr⟩
theorem rep_lst {v : Value} {xs : List AV} (h : Rep C v (.lst false xs)) : ∃ (ad : Addr) (cap esz : Nat) (u : Nat → Nat → Value), v = .slice (some ad) xs.length cap ∧ xs.length ≤ cap ∧ (∀ x ∈ xs, x.cells.length = esz) ∧
    (xs ≠ [] → ad.spot = none ∧ ad.block < C.w.heap.size ∧ ¬ C.wr ad.block) ∧ (∀ (i : Nat) (x : AV), xs[i]? = some x → ∀ (j : Nat) (c : AV), x.cells[j]? = some c → C.w.cell? ⟨ad.block, ad.off + (i * esz + j), none⟩ = some (u i j)) ∧
    (∀ (i : Nat) (x : AV), xs[i]? = some x → ∀ (j : Nat) (c : AV), x.cells[j]? = some c → Rep C (u i j) c) ∧
    (∀ (i : Nat) (x : AV), xs[i]? = some x → ∀ (j : Nat) (c : AV), x.cells[j]? = some c → (u i j).oneCell' = true) := by
  cases h with | lst ad cap esz _ u hc hz hm hu ho hr => exact ⟨ad, cap, esz, u, rfl, hc, hz, hm, hu, hr, ho⟩
theorem rep_lnil {v : Value} {xs : List AV} (h : Rep C v (.lst true xs)) : v = .slice none 0 0 ∧ xs = [] := by cases h; exact ⟨rfl, rfl⟩
theorem rep_ptrB {v : Value} {id off : Nat} (h : Rep C v (.ptr id off)) : C.B id := by cases h with | ptr _ _ _ _ hB _ => exact hB
theorem rep_refB {v : Value} {id off len : Nat} (h : Rep C v (.ref id off len)) : C.B id := by cases h with | ref _ _ _ _ _ hB _ => exact hB
theorem move_ok (h : C.Ok) (hs : SRel C sl a.tmps) {x : Operand} (hop : o.op = .move x ∨ o.op = .assign x) {e : Eff} (he : opEff E C.H nid sl o.op = some e) : OpOk P o a C e nid := by
  have he' : (ev sl x).map (fun v => (⟨.val v, [], [], false⟩ : Eff)) = some e := by rcases hop with hop | hop <;> simpa only [hop, opEff] using he
  cases hv : ev sl x with
  | none => rw [hv] at he'; cases he'
  | some v =>
    rw [hv] at he'; cases he'
    refine .pure h (v := a.eval x) ?_ (ev_rep hs hv)
    rcases hop with hop | hop <;> simp only [execOp, hop, Sem.run_pure]
theorem pick_ok (h : C.Ok) (hs : SRel C sl a.tmps) {c x y : Operand} (hop : o.op = .pick c x y) {e : Eff} (he : opEff E C.H nid sl o.op = some e) : OpOk P o a C e nid := by
  simp only [hop, opEff] at he
  split at he <;> try cases he
  rename_i t ht
  have hb := rep_bool (ev_rep hs ht)
  cases hv : ev sl (if t then x else y) with
  | none => rw [hv] at he; cases he
  | some v =>
    rw [hv] at he; cases he
    have hr := ev_rep hs hv
    refine .pure h (v := a.eval (if t then x else y)) ?_ hr
    simp only [execOp, hop, hb, asBool, Sem.run_bind, Sem.run_pure, Result.andThen_ok]
    cases t <;> rfl
theorem nilCheck_ok (h : C.Ok) (hs : SRel C sl a.tmps) {x : Operand} (hop : o.op = .nilCheck x) {e : Eff} (he : opEff E C.H nid sl o.op = some e) : OpOk P o a C e nid := by
  simp only [hop, opEff] at he
  split at he <;> try cases he
  · rename_i id off hv
    split at he <;> cases he
    rename_i b hb
    have hr := ev_rep hs hv
    have := rep_ptr hr hb
    refine .pure h (v := a.eval x) ?_ hr
    simp only [execOp, hop, this, Sem.run_pure]
  · rename_i cs hv
    have hr := ev_rep hs hv
    refine .pure h (v := a.eval x) ?_ hr
    cases hx : a.eval x <;> rw [hx] at hr <;> cases hr
    simp only [execOp, hop, hx, Sem.run_pure]
  · rename_i f l m hv
    have hr := ev_rep hs hv
    refine .pure h (v := a.eval x) ?_ hr
    cases hx : a.eval x <;> rw [hx] at hr <;> cases hr <;> simp only [execOp, hop, hx, Sem.run_pure]
theorem extract_ok (h : C.Ok) (hs : SRel C sl a.tmps) {x : Operand} {i : Nat} (hop : o.op = .extract x i) {e : Eff} (he : opEff E C.H nid sl o.op = some e) : OpOk P o a C e nid := by
  simp only [hop, opEff] at he
  split at he <;> try cases he
  rename_i vs hv
  split at he <;> cases he
  rename_i v hi
  have hr := ev_rep hs hv
  cases hx : a.eval x <;> rw [hx] at hr <;> cases hr
  rename_i us hsz hrr
  have hil : i < vs.length := (List.getElem?_eq_some_iff.1 hi).1
  have hu : us[i]? = some us[i] := Array.getElem?_eq_getElem (by omega)
  refine .pure h (v := us[i]) ?_ (hrr i _ _ hu hi)
  simp only [execOp, hop, hx, Instr.extract, hu, Sem.run_bind, Sem.run_pure, Result.andThen_ok]
theorem makeInterface_ok (hE : EOk P E) (h : C.Ok) (hs : SRel C sl a.tmps) {t : TypeId} {x : Operand} (hop : o.op = .makeInterface t x) {e : Eff} (he : opEff E C.H nid sl o.op = some e) : OpOk P o a C e nid := by
  simp only [hop, opEff] at he
  split at he <;> try cases he
  rename_i ti v ht hv
  obtain ⟨i, d, z, F⟩ := tiOf_facts (hE.ty _ _ ht)
  split at he <;> try cases he
  rename_i h1 h2
  refine .pure h (v := .iface t (a.eval x)) ?_ (.iface t _ _ (ev_rep hs hv))
  have hd : ∀ ms, d ≠ .interface ms := fun ms e => h1 (by have := F.ad; rw [e] at this; simpa [dOf] using this.symm)
  simp only [execOp, hop, Instr.makeInterface, Sem.run_bind, F.run_und, Result.andThen_ok]
  cases d <;> first | rfl | exact absurd rfl (hd _)
theorem repL_arr {vs : Array Value} {xs : List AV} (h : RepL C vs.toList xs) : vs.size = xs.length ∧ ∀ (j : Nat) (v : Value) (x : AV), vs[j]? = some v → xs[j]? = some x → Rep C v x :=
  ⟨by simpa using h.length, fun j v x hv hx => h.get j v x (by simpa using hv) hx⟩
theorem makeFunc_ok (h : C.Ok) (hs : SRel C sl a.tmps) {f : FuncId} {l m : Array Operand} (hop : o.op = .makeFunc (.func f) l m) {e : Eff} (he : opEff E C.H nid sl o.op = some e) : OpOk P o a C e nid := by
  simp only [hop, opEff] at he
  split at he <;> try cases he
  rename_i x y hx hy
  split at he <;> cases he
  rename_i hf
  obtain ⟨h1, r1⟩ := repL_arr (vs := l.map a.eval) (by simpa using evs_rep hs hx)
  obtain ⟨h2, r2⟩ := repL_arr (vs := m.map a.eval) (by simpa using evs_rep hs hy)
  refine .pure h (v := .func (.func f) (l.map a.eval) (m.map a.eval)) ?_ (.fn f _ _ x y hf h1 h2 r1 r2)
  simp only [execOp, hop, Instr.makeFunc, Sem.run_bind, Sem.run_pure, Result.andThen_ok]
theorem unOp_ok (h : C.Ok) (hs : SRel C sl a.tmps) {op : UnOp} {t : TypeId} {x : Operand} (hop : o.op = .unOp op t x) {e : Eff} (he : opEff E C.H nid sl o.op = some e) : OpOk P o a C e nid := by
  simp only [hop, opEff] at he
  split at he <;> try cases he
  · rename_i k n hv
    have hx := rep_int (ev_rep hs hv)
    refine .pure h (v := .int k (k.wrap (0 - n))) ?_ (.int _ _)
    simp only [execOp, hop, hx, Op.unary, Op.intArith, Sem.run_bind, Sem.run_pure, Result.andThen_ok]
  · rename_i b hv
    have hx := rep_bool (ev_rep hs hv)
    refine .pure h (v := .bool (!b)) ?_ (.bool _)
    simp only [execOp, hop, hx, Op.unary, Sem.run_bind, Sem.run_pure, Result.andThen_ok]
  · rename_i k n hv
    have hx := rep_int (ev_rep hs hv)
    refine .pure h (v := .int k (k.wrap (BitVec.ofInt k.bits (if k.signed then -1 else k.max) ^^^ BitVec.ofInt k.bits n).toNat)) ?_ (.int _ _)
    simp only [execOp, hop, hx, Op.unary, Op.intBits, Sem.run_bind, Sem.run_pure, Result.andThen_ok]

theorem part_ok (hE : EOk P E) {t : TypeId} {vs : Array Value} {cs : List AV} (hsz : vs.size = cs.length) (hr : ∀ (j : Nat) (v : Value) (x : AV), vs[j]? = some v → cs[j]? = some x → Rep C v x) {off : Nat} {e : Eff} (he : partOf E t cs off = some e) :
    ∃ u y, e = ⟨.val y, [], [], false⟩ ∧ (part t vs off).run P C.w = .ok u C.w ∧ Rep C u y := by
  unfold partOf at he
  split at he <;> try cases he
  rename_i ti ht
  obtain ⟨i, d, z, F⟩ := tiOf_facts (hE.ty _ _ ht)
  split at he
  · rename_i hag
    split at he <;> cases he
    rename_i hlen
    refine ⟨.agg (vs.extract off (off + ti.size)), _, rfl, ?_, .agg _ _ (by simp; omega) fun j v x hv hx => ?_⟩
    · simp only [part, Sem.run_bind, F.run_agg, Result.andThen_ok, hag, if_true, F.run_size, Sem.run_pure]
    · have hj : j < ti.size := by have := (List.getElem?_eq_some_iff.1 hx).1; simp at this; omega
      rw [List.getElem?_take_of_lt hj, List.getElem?_drop] at hx
      have hv' : vs[off + j]? = some v := by
        rw [Array.getElem?_extract] at hv
        split at hv
        · exact hv
        · cases hv
      exact hr _ _ _ hv' hx
  · rename_i hag
    have hag' : ti.agg = false := by simpa using hag
    split at he <;> cases he
    rename_i v hv
    have hl : off < cs.length := (List.getElem?_eq_some_iff.1 hv).1
    have hu : vs[off]? = some vs[off] := Array.getElem?_eq_getElem (by omega)
    refine ⟨vs[off], _, rfl, ?_, hr _ _ _ hu hv⟩
    simp only [part, Sem.run_bind, F.run_agg, Result.andThen_ok, hag', Bool.false_eq_true, if_false, hu, Sem.run_pure]
theorem field_ok (hE : EOk P E) (h : C.Ok) (hs : SRel C sl a.tmps) {t : TypeId} {x : Operand} {f : Nat} (hop : o.op = .field t x f) {e : Eff} (he : opEff E C.H nid sl o.op = some e) : OpOk P o a C e nid := by
  simp only [hop, opEff] at he
  split at he <;> try cases he
  rename_i ti cs ht hv
  obtain ⟨i, d, z, F⟩ := tiOf_facts (hE.ty _ _ ht)
  split at he <;> try cases he
  rename_i fs hd
  obtain ⟨fl, rfl, rfl⟩ := dOf_struct (hd ▸ F.ad)
  split at he <;> try cases he
  rename_i off u hf
  obtain ⟨vs, hx, hsz, hrr⟩ := rep_agg (ev_rep hs hv)
  obtain ⟨v, y, rfl, hrun, hr⟩ := part_ok hE hsz hrr he
  rw [List.getElem?_map] at hf
  cases hfl : fl.toList[f]? with
  | none => rw [hfl] at hf; cases hf
  | some fd =>
    rw [hfl] at hf
    simp only [Option.map_some, Option.some.injEq, Prod.mk.injEq] at hf
    obtain ⟨rfl, rfl⟩ := hf
    refine .pure h (v := v) ?_ hr
    have hfl' : fl[f]? = some fd := by simpa using hfl
    simp only [execOp, hop, Instr.field, Sem.run_bind, F.run_und, Result.andThen_ok, hfl', hx, asAgg, Sem.run_pure, hrun]
theorem fieldAddr_ok (hE : EOk P E) (h : C.Ok) (hs : SRel C sl a.tmps) {t : TypeId} {x : Operand} {f : Nat} (hop : o.op = .fieldAddr t x f) {e : Eff} (he : opEff E C.H nid sl o.op = some e) : OpOk P o a C e nid := by
  simp only [hop, opEff] at he
  split at he <;> try cases he
  rename_i ti v ht hv
  obtain ⟨i, d, z, F⟩ := tiOf_facts (hE.ty _ _ ht)
  split at he <;> try cases he
  rename_i fs hd
  obtain ⟨fl, rfl, rfl⟩ := dOf_struct (hd ▸ F.ad)
  split at he <;> try cases he
  rename_i off u hf
  have hr := ev_rep hs hv
  rw [List.getElem?_map] at hf
  cases hfl : fl.toList[f]? with
  | none => rw [hfl] at hf; cases hf
  | some fd =>
    rw [hfl] at hf
    simp only [Option.map_some, Option.some.injEq, Prod.mk.injEq] at hf
    obtain ⟨rfl, rfl⟩ := hf
    have hfl' : fl[f]? = some fd := by simpa using hfl
    split at he <;> try cases he
    · rename_i tu id o2 hu
      obtain ⟨i', d', z', F'⟩ := tiOf_facts (hE.ty _ _ hu)
      split at he <;> try cases he
      rename_i hz
      split at he <;> cases he
      rename_i b hb
      have hx := rep_ptr hr hb
      refine .pure h (v := .pointer (some ⟨C.at_ id, o2 + fd.offset, none⟩)) ?_ (.ptr _ _ _ rfl (rep_ptrB hr) fun _ hb2 => ⟨rfl, rep_ptrZ hr hb2⟩)
      simp only [execOp, hop, Instr.fieldAt, Sem.run_bind, F.run_und, Result.andThen_ok, hfl', hx, Instr.sureAddr, Sem.run_pure, fieldPlace, F'.run_size]
      rw [if_neg hz]
      simp only [Sem.run_pure, Result.andThen_ok, addr_add]
    · rename_i tu cs hu
      obtain ⟨i', d', z', F'⟩ := tiOf_facts (hE.ty _ _ hu)
      split at he <;> try cases he
      rename_i hz
      obtain ⟨ad, u', hx, hm, hu', hrr⟩ := rep_imm hr
      have hrun : (execOp a.eval o).run P C.w = .ok (.value (.pointer (some (ad.add fd.offset)))) C.w := by
        simp only [execOp, hop, Instr.fieldAt, Sem.run_bind, F.run_und, Result.andThen_ok, hfl', hx, Instr.sureAddr, Sem.run_pure, fieldPlace, F'.run_size]
        rw [if_neg hz]
        simp only [Sem.run_pure, Result.andThen_ok]
      refine .pure h hrun (.imm (ad.add fd.offset) (cs.drop fd.offset) (fun j => u' (fd.offset + j)) (fun hne => ?_) (fun j c hc => ?_) fun j c hc => ?_)
      · have hne' : cs ≠ [] := by intro e; rw [e] at hne; simp at hne
        obtain ⟨p1, p2, p3⟩ := hm hne'
        unfold Addr.add
        split
        · exact ⟨p1, p2, p3⟩
        · exact ⟨rfl, p2, p3⟩
      · rw [List.getElem?_drop] at hc
        have := hu' _ c hc
        have e1 : (ad.add fd.offset).block = ad.block := by unfold Addr.add; split <;> rfl
        have e2 : (ad.add fd.offset).off = ad.off + fd.offset := by unfold Addr.add; split <;> simp_all
        rw [e1, e2, Nat.add_assoc]
        exact this
      · rw [List.getElem?_drop] at hc
        exact hrr _ c hc
end
end Vm

/- The machine over pure values and the model's world: one operation (V). (Own work of this repo.) -/
namespace Vm
open Go
section
variable {P : Program} {E : Env} {o : Oper} {a : Act} {C : Cx} {nid : Nat} {sl : List AV}

theorem inRange_spec {i : Int} {lo hi n : Nat} (h : inRange i lo hi = some n) : (lo : Int) ≤ i ∧ i ≤ (hi : Int) ∧ n = i.toNat := by
  unfold inRange at h
  split at h <;> cases h
  rename_i hc
  exact ⟨hc.1, hc.2, rfl⟩
theorem sliceBound_run {k : IntKind} {i : Int} {y : Nat} {c : BoundsCode} {w : World} (h : 0 ≤ i ∧ i ≤ (y : Int)) : (Instr.sliceBound (.int k i) y c).run P w = .ok i.toNat w := by
  simp only [Instr.sliceBound, asIntOf, Sem.run_bind, Sem.run_pure, Result.andThen_ok]
  rw [if_pos h]
  rfl
/-- An optional operand. -/
def ORep (C : Cx) : Option Value → Option AV → Prop
  | none, none => True
  | some v, some x => Rep C v x
  | _, _ => False
theorem evo_rep (hs : SRel C sl a.tmps) {x : Option Operand} {y : Option AV} (h : evo sl x = some y) : ORep C (x.map a.eval) y := by
  cases x with
  | none => simp [evo] at h; subst h; trivial
  | some x =>
    simp only [evo] at h
    cases hv : ev sl x with
    | none => rw [hv] at h; cases h
    | some v => rw [hv] at h; cases h; exact ev_rep hs hv
theorem cut_run {len cap : Nat} (hcap : len ≤ cap) {lo hi mx : Option AV} {lov hiv mxv : Option Value} (h1 : ORep C lov lo) (h2 : ORep C hiv hi) (h3 : ORep C mxv mx) {x y : Nat} (h : cutBounds len lo hi mx = some (x, y)) (sl? : Bool) (w : World) :
    ∃ m, (Instr.sliceBounds sl? len cap lov hiv mxv).run P w = .ok (x, y, m) w ∧ x ≤ y ∧ y ≤ len ∧ y ≤ m ∧ m ≤ cap := by
  unfold cutBounds at h
  dsimp only at h
  split at h <;> try cases h
  rename_i hh mm hhe hme
  split at h <;> try cases h
  rename_i hmh
  split at h <;> try cases h
  rename_i heq
  subst heq
  -- the high bound
  have Hh : hh ≤ len ∧ ∀ (m : Nat), hh ≤ m → (match hiv, mxv with
      | some v, some _ => Instr.sliceBound v m .slice3B
      | some v, none => Instr.sliceBound v m (if sl? then .sliceAcap else .sliceAlen)
      | none, none => Pure.pure len
      | none, some _ => stuck "Slice: max without high").run P w = .ok hh w := by
    cases hi with
    | none =>
      simp only [Option.some.injEq] at hhe
      subst hhe
      cases hiv with
      | some v => exact h2.elim
      | none =>
        cases mx with
        | some u => simp at hmh
        | none =>
          cases mxv with
          | some v => exact h3.elim
          | none => exact ⟨Nat.le_refl _, fun m _ => rfl⟩
    | some u =>
      cases hiv with
      | none => exact h2.elim
      | some v =>
        cases u <;> simp only [reduceCtorEq] at hhe
        rename_i k i
        obtain ⟨p1, p2, rfl⟩ := inRange_spec hhe
        have hv : v = .int k i := rep_int h2
        subst hv
        refine ⟨by omega, fun m hm => ?_⟩
        cases mxv with
        | none => exact sliceBound_run ⟨by omega, by omega⟩
        | some v => exact sliceBound_run ⟨by omega, by omega⟩
  -- the maximum
  have Hm : ∃ m, hh ≤ m ∧ m ≤ cap ∧ (match mxv with | some v => Instr.sliceBound v cap (if sl? then .slice3Acap else .slice3Alen) | none => Pure.pure cap).run P w = .ok m w := by
    cases mx with
    | none =>
      cases mxv with
      | some v => exact h3.elim
      | none => exact ⟨cap, by omega, Nat.le_refl _, rfl⟩
    | some u =>
      cases mxv with
      | none => exact h3.elim
      | some v =>
        cases u <;> simp only [reduceCtorEq] at hme
        rename_i k i
        obtain ⟨p1, p2, p3⟩ := inRange_spec hme
        have hv : v = .int k i := rep_int h3
        subst hv
        exact ⟨i.toNat, by omega, by omega, sliceBound_run ⟨by omega, by omega⟩⟩
  obtain ⟨m, hm1, hm2, hmr⟩ := Hm
  -- the low bound
  have Hl : x ≤ hh ∧ y = hh ∧ (match lov with | some v => Instr.sliceBound v hh (if mxv.isSome then .slice3C else .sliceB) | none => Pure.pure 0).run P w = .ok x w := by
    cases lo with
    | none =>
      cases lov with
      | some v => exact h1.elim
      | none =>
        simp only [Option.some.injEq, Prod.mk.injEq] at h
        obtain ⟨rfl, rfl⟩ := h
        exact ⟨Nat.zero_le _, rfl, rfl⟩
    | some u =>
      cases lov with
      | none => exact h1.elim
      | some v =>
        cases u <;> simp only [reduceCtorEq] at h
        rename_i k i
        cases hr : inRange i 0 hh with
        | none => rw [hr] at h; cases h
        | some l =>
          rw [hr] at h
          simp only [Option.map_some, Option.some.injEq, Prod.mk.injEq] at h
          obtain ⟨rfl, rfl⟩ := h
          obtain ⟨p1, p2, rfl⟩ := inRange_spec hr
          have hv : v = .int k i := rep_int h1
          subst hv
          exact ⟨by omega, rfl, sliceBound_run ⟨by omega, by omega⟩⟩
  obtain ⟨hl1, rfl, hlr⟩ := Hl
  refine ⟨m, ?_, hl1, Hh.1, hm1, hm2⟩
  have Hh2 := Hh.2 m hm1
  clear Hh hme hhe h1 h2 h3 h
  cases mxv <;> cases hiv <;> cases lov <;> simp only [run_stuck, reduceCtorEq] at hmr Hh2 hlr <;> simp only [Instr.sliceBounds, Sem.run_bind, hmr, Hh2, hlr, Result.andThen_ok, Sem.run_pure] <;> simp_all

theorem add_block (ad : Addr) (n : Nat) : (ad.add n).block = ad.block := by unfold Addr.add; split <;> rfl
theorem add_off (ad : Addr) (n : Nat) : (ad.add n).off = ad.off + n := by unfold Addr.add; split <;> simp_all
theorem add_spot {ad : Addr} (h : ad.spot = none) (n : Nat) : (ad.add n).spot = none := by unfold Addr.add; split <;> simp_all

theorem slice_ok (hE : EOk P E) (h : C.Ok) (hs : SRel C sl a.tmps) {t : TypeId} {x : Operand} {lo hi mx : Option Operand} (hop : o.op = .slice t x lo hi mx) {e : Eff} (he : opEff E C.H nid sl o.op = some e) : OpOk P o a C e nid := by
  simp only [hop, opEff] at he
  split at he <;> try cases he
  rename_i ti v l hh m ht hv hl hhi hmx
  obtain ⟨i, d, z, F⟩ := tiOf_facts (hE.ty _ _ ht)
  have hr := ev_rep hs hv
  have r1 := evo_rep hs hl
  have r2 := evo_rep hs hhi
  have r3 := evo_rep hs hmx
  split at he <;> try cases he
  · rename_i s hd
    obtain rfl := dOf_str (hd ▸ F.ad)
    split at he <;> try cases he
    rename_i hm
    split at he <;> cases he
    rename_i p q hcut
    have hx := rep_str hr
    have hm' : mx = none := by
      cases mx with
      | none => rfl
      | some y =>
        simp only [evo] at hmx
        cases hy : ev sl y with
        | none => rw [hy] at hmx; cases hmx
        | some u => rw [hy] at hmx; cases hmx; simp at hm
    subst hm'
    obtain ⟨mm, hrun, _⟩ := cut_run (P := P) (C := C) (Nat.le_refl s.size) r1 r2 (mx := none) (mxv := none) trivial hcut false C.w
    refine .pure h (v := .string (s.extract p q)) ?_ (.str _)
    simp only [execOp, hop, Instr.sliceAt, Sem.run_bind, F.run_und, Result.andThen_ok, Instr.slice, hx, Option.map_none, Option.isSome_none, Bool.false_eq_true, if_false, hrun, Sem.run_pure]
  · rename_i el nl xs hd
    obtain rfl := dOf_slice (hd ▸ F.ad)
    split at he <;> try cases he
    rename_i te p q hte hcut
    obtain ⟨i', d', z', F'⟩ := tiOf_facts (hE.ty _ _ hte)
    have he' : e = ⟨.val (.lst nl ((xs.take q).drop p)), [], [], false⟩ ∧ (p = 0 ∨ p = q ∨ ∃ y, xs[p]? = some y ∧ y.cells.length = te.size) := by
      split at he
      · rename_i hc
        cases he
        exact ⟨rfl, hc.imp id .inl⟩
      · split at he
        · rename_i y hy
          split at he <;> cases he
          rename_i hc
          exact ⟨rfl, .inr (.inr ⟨y, hy, hc⟩)⟩
        · cases he
    obtain ⟨rfl, hcase⟩ := he'
    cases nl with
    | true =>
      obtain ⟨hx, rfl⟩ := rep_lnil hr
      obtain ⟨mm, hrun, b1, b2, b3, b4⟩ := cut_run (P := P) (C := C) (len := 0) (cap := 0) (Nat.le_refl _) r1 r2 r3 (by simpa using hcut) true C.w
      obtain rfl : q = 0 := by omega
      obtain rfl : p = 0 := by omega
      obtain rfl : mm = 0 := by omega
      refine .pure h (v := .slice none 0 0) ?_ .lnil
      simp only [execOp, hop, Instr.sliceAt, Sem.run_bind, F.run_und, Result.andThen_ok, Instr.slice, hx, hrun, F'.run_size, Sem.run_pure, if_true, Nat.sub_self]
    | false =>
      obtain ⟨ad, cap, esz, u, hx, hc, hz, hm, hu, hrr, hoo⟩ := rep_lst hr
      obtain ⟨mm, hrun, b1, b2, b3, b4⟩ := cut_run (P := P) (C := C) hc r1 r2 r3 hcut true C.w
      have hlen : ((xs.take q).drop p).length = q - p := by simp; omega
      have hg : ∀ (i : Nat) (y : AV), ((xs.take q).drop p)[i]? = some y → xs[p + i]? = some y := by
        intro i y hy
        rw [List.getElem?_drop] at hy
        have : p + i < q := by have := (List.getElem?_eq_some_iff.1 hy).1; simp at this; omega
        rwa [List.getElem?_take_of_lt this] at hy
      have hrep := Rep.lst (C := C) (if mm = p then ad else ad.add (p * te.size)) (mm - p) esz ((xs.take q).drop p) (fun i j => u (p + i) j) (by rw [hlen]; omega)
        (fun y hy => hz y (List.mem_of_mem_take (List.mem_of_mem_drop hy)))
        (fun hne => by
          have hne' : xs ≠ [] := by intro e; rw [e] at hne; simp at hne
          obtain ⟨q1, q2, q3⟩ := hm hne'
          split
          · exact ⟨q1, q2, q3⟩
          · exact ⟨add_spot q1 _, by rw [add_block]; exact q2, by rw [add_block]; exact q3⟩)
        (fun i y hy j c hj => by
          have hlt : p < q := by have := (List.getElem?_eq_some_iff.1 hy).1; rw [hlen] at this; omega
          have hy' := hg i y hy
          have := hu _ y hy' j c hj
          rw [if_neg (by omega), add_block, add_off]
          have hes : p * te.size = p * esz := by
            rcases hcase with rfl | rfl | ⟨y0, hy0, h0⟩
            · simp
            · omega
            · rw [← h0, hz y0 (List.mem_of_getElem? hy0)]
          rw [hes]
          rw [Nat.add_mul] at this
          rw [show ad.off + p * esz + (i * esz + j) = ad.off + (p * esz + i * esz + j) by omega]
          exact this)
        (fun i y hy j c hj => hoo _ y (hg i y hy) j c hj)
        (fun i y hy j c hj => hrr _ y (hg i y hy) j c hj)
      rw [hlen] at hrep
      refine .pure h (v := .slice (some (if mm = p then ad else ad.add (p * te.size))) (q - p) (mm - p)) ?_ hrep
      simp only [execOp, hop, Instr.sliceAt, Sem.run_bind, F.run_und, Result.andThen_ok, Instr.slice, hx, hrun, F'.run_size, Sem.run_pure, Option.map_some]
      split <;> rfl
  · rename_i el id off len hd
    obtain rfl := dOf_slice (hd ▸ F.ad)
    split at he <;> try cases he
    rename_i blk te p q hb hte hcut
    obtain ⟨i', d', z', F'⟩ := tiOf_facts (hE.ty _ _ hte)
    split at he <;> try cases he
    rename_i hes
    obtain ⟨cap, hx, hc, cs, tt, fz, hh1, hh2⟩ := rep_ref hr hb
    obtain ⟨mm, hrun, b1, b2, b3, b4⟩ := cut_run (P := P) (C := C) hc r1 r2 r3 hcut true C.w
    have hrun' : (execOp a.eval o).run P C.w = .ok (.value (.slice (some (if mm = p then ⟨C.at_ id, off, none⟩ else ⟨C.at_ id, off + p * te.size, none⟩)) (q - p) (mm - p))) C.w := by
      simp only [execOp, hop, Instr.sliceAt, Sem.run_bind, F.run_und, Result.andThen_ok, Instr.slice, hx, hrun, F'.run_size, Sem.run_pure, Option.map_some, addr_add]
      split <;> rfl
    have hmul : off + p * blk.esz + (mm - p) * blk.esz ≤ cs.size := by
      have e1 : p * blk.esz + (mm - p) * blk.esz = mm * blk.esz := by rw [← Nat.add_mul]; congr 1; omega
      have e2 : mm * blk.esz ≤ cap * blk.esz := Nat.mul_le_mul_right _ b4
      omega
    split at he
    · rename_i hpq
      subst hpq
      split at he
      · rename_i hp0
        subst hp0
        cases he
        refine .pure h hrun' (.ref _ _ _ _ rfl (rep_refB hr) fun blk' hb' => ⟨mm - 0, ?_, by omega, cs, tt, fz, hh1, ?_⟩)
        · simp only [Nat.zero_mul, Nat.add_zero, Nat.sub_self, ite_self]
        · rw [hb] at hb'; cases hb'; simpa using hmul
      · cases he
        refine .pure h hrun' ?_
        have := Rep.lst (C := C) (if mm = p then ⟨C.at_ id, off, none⟩ else ⟨C.at_ id, off + p * te.size, none⟩) (mm - p) 1 [] (fun _ _ => Go.undef) (Nat.zero_le _) (by simp) (by simp) (by simp) (by simp) (by simp)
        simpa using this
    · rename_i hpq
      cases he
      refine .pure h hrun' (.ref _ _ _ _ rfl (rep_refB hr) fun blk' hb' => ⟨mm - p, ?_, by omega, cs, tt, fz, hh1, ?_⟩)
      · rw [if_neg (by omega)]
      · rw [hb] at hb'; cases hb'; rw [← hes]; exact hmul

theorem indexAddr_ok (hE : EOk P E) (h : C.Ok) (hs : SRel C sl a.tmps) {t : TypeId} {x y : Operand} (hop : o.op = .indexAddr t x y) {e : Eff} (he : opEff E C.H nid sl o.op = some e) : OpOk P o a C e nid := by
  simp only [hop, opEff] at he
  split at he <;> try cases he
  rename_i ti v k n ht hv hi
  obtain ⟨i, d, z, F⟩ := tiOf_facts (hE.ty _ _ ht)
  have hr := ev_rep hs hv
  have hy := rep_int (ev_rep hs hi)
  split at he <;> try cases he
  · rename_i el hd
    obtain rfl := dOf_slice (hd ▸ F.ad)
    split at he <;> try cases he
    · rename_i te nl xs hte
      obtain ⟨i', d', z', F'⟩ := tiOf_facts (hE.ty _ _ hte)
      split at he <;> try cases he
      rename_i hn
      split at he <;> try cases he
      rename_i yv hyv
      split at he <;> cases he
      rename_i hsz
      cases nl with
      | true => obtain ⟨_, rfl⟩ := rep_lnil hr; simp at hyv
      | false =>
        obtain ⟨ad, cap, esz, u, hx, hc, hz, hm, hu, hrr, hoo⟩ := rep_lst hr
        have hlt : n.toNat < xs.length := (List.getElem?_eq_some_iff.1 hyv).1
        have hne : xs ≠ [] := by intro e; rw [e] at hyv; simp at hyv
        obtain ⟨q1, q2, q3⟩ := hm hne
        have hes : te.size = esz := by rw [← hsz]; exact hz yv (List.mem_of_getElem? hyv)
        refine .pure h (v := .pointer (some (ad.add (n.toNat * te.size)))) ?_ (.imm _ _ (fun j => u n.toNat j) (fun _ => ⟨add_spot q1 _, by rw [add_block]; exact q2, by rw [add_block]; exact q3⟩) (fun j c hj => ?_) fun j c hj => hrr _ yv hyv j c hj)
        · simp only [execOp, hop, Instr.indexAt, hy, asIntOf, Sem.run_bind, Sem.run_pure, Result.andThen_ok, F.run_und, hx]
          rw [if_pos ⟨hn, by omega⟩]
          simp only [Sem.run_bind, F'.run_size, Result.andThen_ok, Sem.run_pure]
        · rw [add_block, add_off, hes, Nat.add_assoc]
          exact hu _ yv hyv j c hj
    · rename_i te id off len hte
      obtain ⟨i', d', z', F'⟩ := tiOf_facts (hE.ty _ _ hte)
      split at he <;> try cases he
      rename_i hn
      split at he <;> try cases he
      rename_i b hb
      split at he <;> cases he
      rename_i hes
      obtain ⟨cap, hx, hc, _⟩ := rep_ref hr hb
      refine .pure h (v := .pointer (some ⟨C.at_ id, off + n.toNat * te.size, none⟩)) ?_ (.ptr _ _ _ rfl (rep_refB hr) fun _ hb2 => ⟨rfl, rep_refZ h hr hb2⟩)
      simp only [execOp, hop, Instr.indexAt, hy, asIntOf, Sem.run_bind, Sem.run_pure, Result.andThen_ok, F.run_und, hx]
      rw [if_pos ⟨hn.1, hn.2⟩]
      simp only [Sem.run_bind, F'.run_size, Result.andThen_ok, Sem.run_pure, addr_add]
  · rename_i len el hd
    obtain rfl := dOf_array (hd ▸ F.ad)
    split at he <;> try cases he
    · rename_i te id off hte
      obtain ⟨i', d', z', F'⟩ := tiOf_facts (hE.ty _ _ hte)
      split at he <;> try cases he
      rename_i hn
      split at he <;> cases he
      rename_i b hb
      have hx := rep_ptr hr hb
      refine .pure h (v := .pointer (some ⟨C.at_ id, off + n.toNat * te.size, none⟩)) ?_ (.ptr _ _ _ rfl (rep_ptrB hr) fun _ hb2 => ⟨rfl, rep_ptrZ hr hb2⟩)
      simp only [execOp, hop, Instr.indexAt, hy, asIntOf, Sem.run_bind, Sem.run_pure, Result.andThen_ok, F.run_und, hx, Instr.sureAddr]
      rw [if_pos ⟨hn.1, hn.2⟩]
      simp only [Sem.run_bind, F'.run_size, Result.andThen_ok, Sem.run_pure, addr_add]
    · rename_i te cs hte
      obtain ⟨i', d', z', F'⟩ := tiOf_facts (hE.ty _ _ hte)
      split at he <;> cases he
      rename_i hn
      obtain ⟨ad, u, hx, hm, hu, hrr⟩ := rep_imm hr
      refine .pure h (v := .pointer (some (ad.add (n.toNat * te.size)))) ?_ (.imm _ _ (fun j => u (n.toNat * te.size + j)) (fun hne => ?_) (fun j c hc => ?_) fun j c hc => ?_)
      · simp only [execOp, hop, Instr.indexAt, hy, asIntOf, Sem.run_bind, Sem.run_pure, Result.andThen_ok, F.run_und, hx, Instr.sureAddr]
        rw [if_pos ⟨hn.1, hn.2⟩]
        simp only [Sem.run_bind, F'.run_size, Result.andThen_ok, Sem.run_pure]
      · have hne' : cs ≠ [] := by intro e; rw [e] at hne; simp at hne
        obtain ⟨q1, q2, q3⟩ := hm hne'
        exact ⟨add_spot q1 _, by rw [add_block]; exact q2, by rw [add_block]; exact q3⟩
      · rw [List.getElem?_drop] at hc
        rw [add_block, add_off, Nat.add_assoc]
        exact hu _ c hc
      · rw [List.getElem?_drop] at hc
        exact hrr _ c hc
end
end Vm

/- The machine over pure values and the model's world: one operation (VI). (Own work of this repo.) -/
namespace Vm
open Go
section
variable {P : Program} {E : Env} {o : Oper} {a : Act} {C : Cx} {nid : Nat} {sl : List AV}

theorem index_ok (hE : EOk P E) (h : C.Ok) (hs : SRel C sl a.tmps) {t : TypeId} {x y : Operand} (hop : o.op = .index t x y) {e : Eff} (he : opEff E C.H nid sl o.op = some e) : OpOk P o a C e nid := by
  simp only [hop, opEff] at he
  split at he <;> try cases he
  rename_i ti v k n ht hv hi
  obtain ⟨i, d, z, F⟩ := tiOf_facts (hE.ty _ _ ht)
  have hr := ev_rep hs hv
  have hy := rep_int (ev_rep hs hi)
  split at he <;> try cases he
  · rename_i s hd
    obtain rfl := dOf_str (hd ▸ F.ad)
    split at he <;> try cases he
    rename_i hn
    split at he <;> cases he
    rename_i b hb
    have hx := rep_str hr
    have hb' : s[n.toNat]? = some b := by
      have hlt : n.toNat < s.size := by
        have := (List.getElem?_eq_some_iff.1 hb).1
        simpa using this
      have e1 : s[n.toNat]? = some s[n.toNat] := getElem?_pos s n.toNat hlt
      rw [e1]
      have e2 : s.data.toList[n.toNat]? = some s.data[n.toNat] := by
        rw [Array.getElem?_toList]; exact Array.getElem?_eq_getElem _
      rw [e2] at hb
      cases hb
      rfl
    refine .pure h (v := .int .u8 b.toNat) ?_ (.int _ _)
    simp only [execOp, hop, Instr.index, hy, asIntOf, Sem.run_bind, Sem.run_pure, Result.andThen_ok, F.run_und, hx, if_pos hn, hb']
  · rename_i m el cs hd
    obtain rfl := dOf_array (hd ▸ F.ad)
    split at he <;> try cases he
    rename_i te hte
    obtain ⟨i', d', z', F'⟩ := tiOf_facts (hE.ty _ _ hte)
    split at he <;> try cases he
    rename_i hn
    obtain ⟨vs, hx, hsz, hrr⟩ := rep_agg hr
    obtain ⟨v, yv, rfl, hrun, hr'⟩ := part_ok (P := P) (C := C) hE hsz hrr he
    refine .pure h (v := v) ?_ hr'
    simp only [execOp, hop, Instr.index, hy, asIntOf, Sem.run_bind, Sem.run_pure, Result.andThen_ok, F.run_und, hx]
    rw [if_pos ⟨hn.1, hn.2⟩]
    simp only [Sem.run_bind, F'.run_size, Result.andThen_ok, hrun]

theorem wrap_i64 {n : Int} (h0 : -9223372036854775808 ≤ n) (h : n ≤ 9223372036854775807) : IntKind.i64.wrap n = n := by
  have e : IntKind.i64.wrap n = if n % 18446744073709551616 ≥ 9223372036854775808 then n % 18446744073709551616 - 18446744073709551616 else n % 18446744073709551616 := by
    simp [IntKind.wrap, IntKind.bits, IntKind.signed]
  rw [e]
  split <;> omega

theorem makeSlice_ok (hE : EOk P E) (h : C.Ok) (hs : SRel C sl a.tmps) (hn : C.H nid = none) (hB : ¬ C.B nid) {t : TypeId} {x y : Operand} (hop : o.op = .makeSlice t x y) {e : Eff} (he : opEff E C.H nid sl o.op = some e) : OpOk P o a C e nid := by
  simp only [hop, opEff] at he
  split at he <;> try cases he
  rename_i ti k n k' m ht hl hc
  obtain ⟨i, d, z, F⟩ := tiOf_facts (hE.ty _ _ ht)
  have hx := rep_int (ev_rep hs hl)
  have hy := rep_int (ev_rep hs hc)
  split at he <;> try cases he
  rename_i el hd
  obtain rfl := dOf_slice (hd ▸ F.ad)
  split at he <;> try cases he
  rename_i te hte
  obtain ⟨i', d', z', F'⟩ := tiOf_facts (hE.ty _ _ hte)
  split at he <;> cases he
  rename_i hcond
  obtain ⟨hz0, hzl, hsc, hn0, hnm, hmb, hm64⟩ := hcond
  have hz := zero_rel (C := C) F'
  have hzero : CRel C (((Array.range (m.toNat * te.size)).map ((if m.toNat * te.size = 0 then #[] else z'.cells)[· % (if m.toNat * te.size = 0 then #[] else z'.cells).size]!))) (reps m.toNat te.zero.cells) := by
    by_cases h0 : m.toNat * te.size = 0
    · have : m.toNat = 0 := by
        rcases Nat.mul_eq_zero.1 h0 with h | h
        · exact h
        · exact absurd h hz0
      rw [this]
      simp only [Nat.zero_mul, if_true]
      exact ⟨by simp [reps], by simp [reps]⟩
    · simp only [h0, if_false]
      have := zeros_rel hz (by omega) m.toNat
      rwa [hzl] at this
  have hlen : (reps n.toNat te.zero.cells).length = n.toNat * te.size := by rw [reps_length, hzl]
  have hle : n.toNat * te.size ≤ m.toNat * te.size := Nat.mul_le_mul_right _ (by omega)
  have hpre : ∀ (j : Nat) (c : AV), (reps n.toNat te.zero.cells)[j]? = some c → (reps m.toNat te.zero.cells)[j]? = some c := by
    intro j c hj
    have hjl : j < n.toNat * te.zero.cells.length := by have := (List.getElem?_eq_some_iff.1 hj).1; rwa [reps_length] at this
    rw [reps_get _ _ _ hjl] at hj
    rw [reps_get _ _ _ (by rw [hzl] at hjl ⊢; omega)]
    exact hj
  obtain ⟨C', hw, hat, hH, hBB, hA⟩ := grow_ok (out := .val (.ref nid 0 n.toNat)) (rds := [nid]) h hn hB
    (w := C.w.alloc (.cells ((Array.range (m.toNat * te.size)).map ((if m.toNat * te.size = 0 then #[] else z'.cells)[· % (if m.toNat * te.size = 0 then #[] else z'.cells).size]!)) el)) rfl
    ⟨reps n.toNat te.zero.cells, te.agg, te.size, false⟩ hz0 (by dsimp only; rw [hlen]; simpa using hle) (fun j c hj => hzero.scal (reps_all hsc _) j c (hpre j c hj))
  obtain ⟨row, hrow, hrs⟩ : ∃ row, C'.w.heap[C'.at_ nid]? = some (Obj.cells row el (0, 0)) ∧ row.size = m.toNat * te.size := ⟨_, by rw [hat, hw]; exact Array.getElem?_push_size, by simp⟩
  refine ⟨.slice (some ⟨C.w.heap.size, 0, none⟩) n.toNat m.toNat, C', ?_, hA, .ref _ _ _ _ rfl hBB fun blk hb => ⟨m.toNat, by rw [hat], by omega, row, el, (0, 0), hrow, by rw [hH] at hb; cases hb; simp [hrs]⟩⟩
  · simp only [execOp, hop, Instr.makeSlice, Sem.run_bind, F.run_und, F'.run_info, Result.andThen_ok, hx, hy, asInt, asIntOf, Sem.run_pure]
    rw [wrap_i64 (by omega) (by omega), wrap_i64 (by omega) (by omega)]
    have hb : i'.bytes = te.bytes := F'.bytes
    have hb2 : ¬ ((i'.bytes : Int) * m > 2 ^ 48) := by rw [hb, Int.mul_comm]; omega
    rw [if_neg (by simp only [Bool.or_eq_true, decide_eq_true_eq, not_or]; exact ⟨⟨⟨by omega, hb2⟩, by omega⟩, by omega⟩)]
    simp only [Sem.run_bind, run_askRoom, Result.andThen_ok, F'.run_size]
    by_cases h0 : m.toNat * te.size = 0
    · simp only [h0, if_true] at hw ⊢
      simp only [Sem.run_bind, Sem.run_pure, Result.andThen_ok, newRow, run_newObj, hw]
      rfl
    · simp only [h0, if_false] at hw ⊢
      simp only [Sem.run_bind, Sem.run_pure, F'.run_zero, Result.andThen_ok, newRow, run_newObj, hw]
      rfl

theorem typeAssert_ok (hE : EOk P E) (h : C.Ok) (hs : SRel C sl a.tmps) {x : Operand} {t u : TypeId} {ok : Bool} (hop : o.op = .typeAssert x t u ok) {e : Eff} (he : opEff E C.H nid sl o.op = some e) : OpOk P o a C e nid := by
  simp only [hop, opEff] at he
  split at he <;> try cases he
  rename_i ti v ht hv
  obtain ⟨i, d, z, F⟩ := tiOf_facts (hE.ty _ _ ht)
  have hr := ev_rep hs hv
  split at he <;> try cases he
  rename_i h1 h2
  have hd : ∀ ms, d ≠ .interface ms := fun ms e => h1 (by have := F.ad; rw [e] at this; simpa [dOf] using this.symm)
  have pair : ∀ (w : Value) (y : AV) (b : Bool), Rep C w y → Rep C (.tuple #[w, .bool b]) (.tup [y, .bool b]) := by
    intro w y b hw
    refine .tup _ _ rfl fun j v x hv hx => ?_
    match j with
    | 0 => simp at hv hx; subst hv hx; exact hw
    | 1 => simp at hv hx; subst hv hx; exact .bool b
    | j + 2 => simp at hv
  split at he <;> try cases he
  · rename_i t' y
    cases hx : a.eval x <;> rw [hx] at hr <;> cases hr
    rename_i w hw
    split at he
    · rename_i heq
      subst heq
      cases ok with
      | true =>
        cases he
        refine .pure h (v := .tuple #[w, .bool true]) ?_ (pair _ _ _ hw)
        simp only [execOp, hop, hx, Instr.typeAssert, Sem.run_bind, F.run_und, Result.andThen_ok]
        cases d <;> first | exact absurd rfl (hd _) | simp
      | false =>
        cases he
        refine .pure h (v := w) ?_ hw
        simp only [execOp, hop, hx, Instr.typeAssert, Sem.run_bind, F.run_und, Result.andThen_ok]
        cases d <;> first | exact absurd rfl (hd _) | simp
    · rename_i hne
      cases ok with
      | true =>
        cases he
        refine .pure h (v := .tuple #[z, .bool false]) ?_ (pair _ _ _ (ofConst_rep F.az))
        simp only [execOp, hop, hx, Instr.typeAssert, Sem.run_bind, F.run_und, Result.andThen_ok]
        cases d <;> first | exact absurd rfl (hd _) | simp [hne, F.run_zero]
      | false => cases he
  · cases hx : a.eval x <;> rw [hx] at hr <;> cases hr
    cases ok with
    | true =>
      cases he
      refine .pure h (v := .tuple #[z, .bool false]) ?_ (pair _ _ _ (ofConst_rep F.az))
      simp only [execOp, hop, hx, Instr.typeAssert, Sem.run_bind, F.run_und, Result.andThen_ok]
      cases d <;> first | exact absurd rfl (hd _) | simp [F.run_zero]
    | false => cases he

theorem panic_ok (h : C.Ok) (hs : SRel C sl a.tmps) {x : Operand} (hop : o.op = .panic x) {e : Eff} (he : opEff E C.H nid sl o.op = some e) : OpOk P o a C e nid := by
  simp only [hop, opEff] at he
  split at he <;> cases he
  rename_i t v hv
  have hr := ev_rep hs hv
  cases hx : a.eval x <;> rw [hx] at hr <;> cases hr
  rename_i w hw
  refine ⟨.iface t w, ?_, .iface t w v hw, rfl, rfl⟩
  simp only [execOp, hop, hx, Instr.panic, Sem.run_bind, run_goPanic, Result.andThen_halt]
end
end Vm

/- The machine over pure values and the model's world: one operation (VII). (Own work of this repo.) -/
namespace Vm
open Go
section
variable {P : Program} {E : Env} {o : Oper} {a : Act} {C : Cx} {nid : Nat} {sl : List AV}

theorem dOf_ptr {d : TypeDesc} {e : TypeId} (h : dOf d = some (.ptr e)) : d = .pointer e := by
  cases d <;> simp [dOf] at h; rw [h]
theorem dOf_iface {d : TypeDesc} (h : dOf d = some .iface) : ∃ ms, d = .interface ms := by
  cases d <;> simp [dOf] at h; exact ⟨_, rfl⟩
theorem equal_run {t : TypeId} {x y : Value} {w : World} {r : Result Bool} (h : ∀ n, (Go.Op.equalIn (n + 1) t x y).run P w = r) : (Go.Op.equal t x y).run P w = r := h 9999

theorem eqOf_run {t : TypeId} {ti : TI} {i : TypeInfo} {d : TypeDesc} {z : Value} (F : TyFacts P t ti i d z) {x y : AV} {v w : Value} (hx : Rep C v x) (hy : Rep C w y) {b : Bool} (h : eqOf ti.desc x y = some b) :
    (∀ n, (Go.Op.equalIn (n + 1) t v w).run P C.w = .ok b C.w) ∧ (∀ op ox oy, (Go.eqGuard op t ox oy v w).run P C.w = .ok () C.w) ∧
    ((∃ c, v = .bool c) ∨ (∃ p q r, v = .slice p q r) ∨ v = .pointer none ∨ v = .nilIface ∨ (∃ p q, v = .iface p q) ∨ v = .nilFunc ∨ (∃ p q r, v = .func p q r)) := by
  unfold eqOf at h
  split at h <;> cases h
  · rename_i p q hd
    obtain rfl := dOf_bool (hd ▸ F.ad)
    obtain rfl := rep_bool hx
    obtain rfl := rep_bool hy
    refine ⟨fun n => ?_, fun op ox oy => ?_, .inl ⟨_, rfl⟩⟩
    · simp only [Go.Op.equalIn, Sem.run_bind, F.run_und, Result.andThen_ok, Sem.run_pure]
    · cases op <;> rfl
  · rename_i e xs ys hd
    obtain rfl := dOf_slice (hd ▸ F.ad)
    obtain ⟨rfl, rfl⟩ := rep_lnil hy
    cases b with
    | true =>
      obtain ⟨rfl, rfl⟩ := rep_lnil hx
      refine ⟨fun n => ?_, fun op ox oy => ?_, .inr (.inl ⟨_, _, _, rfl⟩)⟩
      · simp only [Go.Op.equalIn, Sem.run_bind, F.run_und, Result.andThen_ok, Sem.run_pure, Option.isNone_none]
      · cases op <;> rfl
    | false =>
      obtain ⟨ad, cap, esz, u, rfl, _⟩ := rep_lst hx
      refine ⟨fun n => ?_, fun op ox oy => ?_, .inr (.inl ⟨_, _, _, rfl⟩)⟩
      · simp only [Go.Op.equalIn, Sem.run_bind, F.run_und, Result.andThen_ok, Sem.run_pure]
      · cases op <;> rfl
  · rename_i e xs ys hd hnot
    obtain rfl := dOf_slice (hd ▸ F.ad)
    obtain ⟨rfl, rfl⟩ := rep_lnil hx
    cases b with
    | true =>
      obtain ⟨rfl, rfl⟩ := rep_lnil hy
      refine ⟨fun n => ?_, fun op ox oy => ?_, .inr (.inl ⟨_, _, _, rfl⟩)⟩
      · simp only [Go.Op.equalIn, Sem.run_bind, F.run_und, Result.andThen_ok, Sem.run_pure, Option.isNone_none]
      · cases op <;> rfl
    | false =>
      obtain ⟨ad, cap, esz, u, rfl, _⟩ := rep_lst hy
      refine ⟨fun n => ?_, fun op ox oy => ?_, .inr (.inl ⟨_, _, _, rfl⟩)⟩
      · simp only [Go.Op.equalIn, Sem.run_bind, F.run_und, Result.andThen_ok, Sem.run_pure, Option.isNone_some]
      · cases op <;> rfl
  · rename_i e hd
    obtain rfl := dOf_ptr (hd ▸ F.ad)
    cases hx; cases hy
    refine ⟨fun n => ?_, fun op ox oy => ?_, .inr (.inr (.inl rfl))⟩
    · simp only [Go.Op.equalIn, Sem.run_bind, F.run_und, Result.andThen_ok, Sem.run_pure, Option.isNone_none]
    · cases op <;> rfl
  · rename_i p q hd
    obtain ⟨ms, rfl⟩ := dOf_iface (hd ▸ F.ad)
    cases hx; cases hy
    refine ⟨fun n => ?_, fun op ox oy => ?_, .inr (.inr (.inr (.inl rfl)))⟩
    · simp only [Go.Op.equalIn, Sem.run_bind, F.run_und, Result.andThen_ok, Sem.run_pure]
    · cases op <;> rfl
  · rename_i p q hd
    obtain ⟨ms, rfl⟩ := dOf_iface (hd ▸ F.ad)
    cases hx; cases hy
    refine ⟨fun n => ?_, fun op ox oy => ?_, .inr (.inr (.inr (.inr (.inl ⟨_, _, rfl⟩))))⟩
    · simp only [Go.Op.equalIn, Sem.run_bind, F.run_und, Result.andThen_ok, Sem.run_pure]
    · cases op <;> rfl
  · rename_i hd
    obtain ⟨p, q, r, rfl⟩ := dOf_func (hd ▸ F.ad)
    cases hx; cases hy
    refine ⟨fun n => ?_, fun op ox oy => ?_, .inr (.inr (.inr (.inr (.inr (.inl rfl)))))⟩
    · simp only [Go.Op.equalIn, Sem.run_bind, F.run_und, Result.andThen_ok, Sem.run_pure]
    · cases op <;> rfl
  · rename_i f l m hd
    obtain ⟨p, q, r, rfl⟩ := dOf_func (hd ▸ F.ad)
    cases hx <;> cases hy <;> exact ⟨fun n => by simp only [Go.Op.equalIn, Sem.run_bind, F.run_und, Result.andThen_ok, Sem.run_pure], fun op ox oy => by cases op <;> rfl, .inr (.inr (.inr (.inr (.inr (.inr ⟨_, _, _, rfl⟩)))))⟩
  · rename_i f l m hd
    obtain ⟨p, q, r, rfl⟩ := dOf_func (hd ▸ F.ad)
    cases hx <;> cases hy <;> exact ⟨fun n => by simp only [Go.Op.equalIn, Sem.run_bind, F.run_und, Result.andThen_ok, Sem.run_pure], fun op ox oy => by cases op <;> rfl, .inr (.inr (.inr (.inr (.inr (.inl rfl)))))⟩

theorem eqSc_run {t : TypeId} {ti : TI} {i : TypeInfo} {d : TypeDesc} {z : Value} (F : TyFacts P t ti i d z) {x y : AV} {v w : Value} (hx : Rep C v x) (hy : Rep C w y) {b : Bool} (h : eqSc ti.desc x y = some b) (n : Nat) :
    (Go.Op.equalIn (n + 1) t v w).run P C.w = .ok b C.w := by
  unfold eqSc at h
  split at h <;> try cases h
  · rename_i k k1 p k2 q hd
    obtain rfl := dOf_int (hd ▸ F.ad)
    obtain rfl := rep_int hx
    obtain rfl := rep_int hy
    split at h <;> cases h
    rename_i hk
    simp only [Go.Op.equalIn, Sem.run_bind, F.run_und, Result.andThen_ok]
    subst hk
    cases p <;> cases q <;> simp [Go.Op.equalIn]
  · rename_i p q hd
    obtain rfl := dOf_bool (hd ▸ F.ad)
    obtain rfl := rep_bool hx
    obtain rfl := rep_bool hy
    simp only [Go.Op.equalIn, Sem.run_bind, F.run_und, Result.andThen_ok, Sem.run_pure]
  · rename_i p q hd
    obtain rfl := dOf_str (hd ▸ F.ad)
    obtain rfl := rep_str hx
    obtain rfl := rep_str hy
    simp only [Go.Op.equalIn, Sem.run_bind, F.run_und, Result.andThen_ok, Sem.run_pure]
theorem eqFs_flat : ∀ {fs : List (Nat × TypeId)} {xs ys : List AV} {b : Bool}, eqFs E fs xs ys = some b → flatS E.T fs = true
  | [], _, _, _, _ => rfl
  | (o, u) :: fs, xs, ys, b, h => by
    simp only [eqFs] at h
    split at h <;> try cases h
    rename_i tu x y ht hx hy
    split at h <;> try cases h
    rename_i hag
    split at h <;> cases h
    rename_i b1 c1 h1 h2
    have ih := eqFs_flat h2
    unfold flatS at ih ⊢
    rw [List.all_cons, ih, ht, Bool.and_true]
    have hag' : tu.agg = false := by simpa using hag
    dsimp only
    rw [hag']
    unfold eqSc at h1
    split at h1 <;> first | (rename_i hd; rw [hd]; rfl) | cases h1
theorem eqFs_loop (hE : EOk P E) {vs ws : Array Value} {xs ys : List AV} (hsx : vs.size = xs.length) (hsy : ws.size = ys.length) (hx : ∀ (j : Nat) (v : Value) (x : AV), vs[j]? = some v → xs[j]? = some x → Rep C v x) (hy : ∀ (j : Nat) (v : Value) (x : AV), ws[j]? = some v → ys[j]? = some x → Rep C v x) (n : Nat) : ∀ (l : List Field) (b : Bool), (∀ f ∈ l, f.name ≠ "_") → eqFs E (l.map fun f => (f.offset, f.type)) xs ys = some b →
    (forIn (m := Sem) l ((none : Option Bool), ()) fun f __s =>
      if f.name ≠ "_" then do
        let __do_lift ← part f.type vs f.offset
        let __do_lift_1 ← part f.type ws f.offset
        let __do_lift ← Go.Op.equalIn (n + 1) f.type __do_lift __do_lift_1
        if (!__do_lift) = true then pure (ForInStep.done (some false, ()))
          else pure (ForInStep.yield (none, ()))
      else pure (ForInStep.yield (none, ()))).run P C.w = .ok (if b then none else some false, ()) C.w
  | [], b, _, h => by
    simp only [List.map_nil, eqFs, Option.some.injEq] at h
    subst h
    rfl
  | f :: l, b, hn, h => by
    simp only [List.map_cons, eqFs] at h
    split at h <;> try cases h
    rename_i tu x y ht hpx hpy
    split at h <;> try cases h
    rename_i hag
    have hag' : tu.agg = false := by simpa using hag
    split at h <;> cases h
    rename_i b1 c1 h1 h2
    obtain ⟨i, d, z, F⟩ := tiOf_facts (hE.ty _ _ ht)
    obtain ⟨v1, y1, e1, r1, q1⟩ := part_ok hE (C := C) hsx hx (off := f.offset) (t := f.type) (e := ⟨.val x, [], [], false⟩) (by unfold partOf; rw [ht]; dsimp only; rw [hag', if_neg (by simp), hpx]; rfl)
    obtain ⟨v2, y2, e2, r2, q2⟩ := part_ok hE (C := C) hsy hy (off := f.offset) (t := f.type) (e := ⟨.val y, [], [], false⟩) (by unfold partOf; rw [ht]; dsimp only; rw [hag', if_neg (by simp), hpy]; rfl)
    cases e1; cases e2
    have r3 := eqSc_run F q1 q2 h1 n
    have ih := eqFs_loop hE hsx hsy hx hy n l c1 (fun g hg => hn g (List.mem_cons_of_mem _ hg)) h2
    rw [List.forIn_cons]
    simp only [Sem.run_bind, if_pos (hn f List.mem_cons_self), r1, r2, r3, Result.andThen_ok]
    cases b1 with
    | false => simp only [Bool.not_false, if_true, Sem.run_pure, Result.andThen_ok, Bool.false_and, Bool.false_eq_true, if_false]
    | true =>
      simp only [Bool.not_true, Bool.false_eq_true, if_false, Sem.run_pure, Result.andThen_ok, Bool.true_and]
      exact ih
theorem eqAgg_run (hE : EOk P E) {t : TypeId} {vs ws : Array Value} {xs ys : List AV} (hsx : vs.size = xs.length) (hsy : ws.size = ys.length) (hx : ∀ (j : Nat) (v : Value) (x : AV), vs[j]? = some v → xs[j]? = some x → Rep C v x) (hy : ∀ (j : Nat) (v : Value) (x : AV), ws[j]? = some v → ys[j]? = some x → Rep C v x) {b : Bool} (h : eqAgg E t xs ys = some b) :
    (Go.Op.equal t (.agg vs) (.agg ws)).run P C.w = .ok b C.w ∧ ∀ op ox oy, (Go.eqGuard op t ox oy (.agg vs) (.agg ws)).run P C.w = .ok () C.w := by
  unfold eqAgg at h
  split at h <;> try cases h
  rename_i ti ht
  split at h <;> try cases h
  rename_i fs hd
  have hq := hE.sq t ti fs ht hd (eqFs_flat h)
  obtain ⟨i, d, z, F⟩ := tiOf_facts (hE.ty _ _ ht)
  obtain ⟨l, rfl, rfl⟩ := dOf_struct (hd ▸ F.ad)
  simp only [sqOk, F.und, Bool.and_eq_true, Bool.not_eq_true', List.all_eq_true, bne_iff_ne, ne_eq] at hq
  obtain ⟨⟨h1, h2⟩, h3⟩ := hq
  have hl := eqFs_loop hE hsx hsy hx hy 9998 l.toList b h3 h
  refine ⟨?_, fun op ox oy => ?_⟩
  · show (Go.Op.equalIn (9998 + 1 + 1) t (.agg vs) (.agg ws)).run P C.w = _
    rw [Go.Op.equalIn]
    simp only [Sem.run_bind, F.run_und, Result.andThen_ok, run_program, h1, Bool.false_eq_true, if_false]
    rw [← Array.forIn_toList]
    rw [hl]
    cases b <;> simp
  · cases op <;> simp [Go.eqGuard, h2]
theorem intBin_run {op : BinOp} {k k' : IntKind} {x y : Int} {v : AV} (hb : bothInt op k k' = true) (h : intBin op k x y = some v) (t : TypeId) (w : World) :
    ∃ u, (Go.binOp op t (.int k x) (.int k' y)).run P w = .ok u w ∧ Rep C u v := by
  cases op <;> simp only [intBin, Option.some.injEq, reduceCtorEq] at h <;> simp only [bothInt, beq_iff_eq] at hb <;> (try subst hb)
  case shl =>
    split at h <;> cases h
    rename_i hy
    refine ⟨_, ?_, .int _ _⟩
    simp only [Go.binOp, Go.Op.shift]
    rw [if_neg hy]
    rfl
  case shr =>
    split at h <;> cases h
    rename_i hy
    refine ⟨_, ?_, .int _ _⟩
    simp only [Go.binOp, Go.Op.shift]
    rw [if_neg hy]
    rfl
  case quo =>
    split at h <;> cases h
    rename_i hy
    refine ⟨_, ?_, .int _ _⟩
    simp only [Go.binOp, Go.Op.intDiv, ne_eq, not_true_eq_false, if_false]
    rw [if_neg hy]
    rfl
  case rem =>
    split at h <;> cases h
    rename_i hy
    refine ⟨_, ?_, .int _ _⟩
    simp only [Go.binOp, Go.Op.intDiv, ne_eq, not_true_eq_false, if_false]
    rw [if_neg hy]
    rfl
  all_goals
    subst h
    first
    | exact ⟨_, by simp only [Go.binOp, Go.Op.intArith, Go.Op.intBits, Go.Op.intCmp, ne_eq, not_true_eq_false, if_false]; rfl, .int _ _⟩
    | exact ⟨_, by simp only [Go.binOp, Go.Op.intArith, Go.Op.intBits, Go.Op.intCmp, ne_eq, not_true_eq_false, if_false]; rfl, .bool _⟩
theorem guard_int (op : BinOp) (t : TypeId) (ox oy : Operand) (k k' : IntKind) (x y : Int) (w : World) : (Go.eqGuard op t ox oy (.int k x) (.int k' y)).run P w = .ok () w := by cases op <;> rfl
theorem guard_str (op : BinOp) (t : TypeId) (ox oy : Operand) (x y : ByteArray) (w : World) : (Go.eqGuard op t ox oy (.string x) (.string y)).run P w = .ok () w := by cases op <;> rfl

theorem binOp_ok (hE : EOk P E) (h : C.Ok) (hs : SRel C sl a.tmps) {op : BinOp} {t t' : TypeId} {x y : Operand} (hop : o.op = .binOp op t x y t') {e : Eff} (he : opEff E C.H nid sl o.op = some e) : OpOk P o a C e nid := by
  simp only [hop, opEff] at he
  split at he <;> try cases he
  rename_i p q hp hq
  have hx := ev_rep hs hp
  have hy := ev_rep hs hq
  have hexec : ∀ {v : Value}, (Go.eqGuard op t x y (a.eval x) (a.eval y)).run P C.w = .ok () C.w → (Go.binOp op t (a.eval x) (a.eval y)).run P C.w = .ok v C.w → (execOp a.eval o).run P C.w = .ok (.value v) C.w := by
    intro v h1 h2
    simp only [execOp, hop, Sem.run_bind, h1, h2, Result.andThen_ok, Sem.run_pure]
  split at he
  · have e1 := hx
    have e2 := hy
    unfold nilEff at he
    split at he <;> try cases he
    rename_i cv ti ht
    obtain ⟨i, d, z, F⟩ := tiOf_facts (hE.ty _ _ ht)
    generalize hvx : a.eval x = vx at *
    generalize hvy : a.eval (.const cv) = vy at *
    cases hx; cases hy
    have hq : (Go.Op.equal t .nilIface .nilIface).run P C.w = .ok true C.w ∨ ti.desc ≠ .iface := by
      by_cases hd : ti.desc = .iface
      · left
        obtain ⟨ms, rfl⟩ := dOf_iface (hd ▸ F.ad)
        refine equal_run fun n => ?_
        simp only [Go.Op.equalIn, Sem.run_bind, F.run_und, Result.andThen_ok, Sem.run_pure]
      · exact .inr hd
    have hgd : ∀ op, (Go.eqGuard op t x (.const cv) .nilIface .nilIface).run P C.w = .ok () C.w := fun op => by cases op <;> simp [Go.eqGuard]
    split at he <;> try cases he
    · rename_i hd
      have h1 := hq.resolve_right (by rw [hd]; simp)
      refine .pure h (hexec (hgd _) ?_) (.bool true)
      have : Go.binOp .eql t .nilIface .nilIface = (do Pure.pure (.bool (← Go.Op.equal t .nilIface .nilIface))) := rfl
      rw [this]
      simp only [Sem.run_bind, h1, Result.andThen_ok, Sem.run_pure]
    · rename_i hd
      have h1 := hq.resolve_right (by rw [hd]; simp)
      refine .pure h (hexec (hgd _) ?_) (.bool false)
      have : Go.binOp .neq t .nilIface .nilIface = (do Pure.pure (.bool (!(← Go.Op.equal t .nilIface .nilIface)))) := rfl
      rw [this]
      simp only [Sem.run_bind, h1, Result.andThen_ok, Sem.run_pure]
      rfl
  rename_i hnn
  clear hnn
  unfold binEff at he
  split at he
  · rename_i xs ys
    obtain ⟨vs, ex, sx, rx⟩ := rep_agg hx
    obtain ⟨ws, ey, sy, ry⟩ := rep_agg hy
    split at he <;> try cases he
    · cases hv : eqAgg E t xs ys with
      | none => rw [hv] at he; cases he
      | some b =>
        rw [hv] at he; cases he
        obtain ⟨h1, h2⟩ := eqAgg_run hE sx sy rx ry hv
        refine .pure h (hexec (by rw [ex, ey]; exact h2 _ _ _) ?_) (.bool b)
        rw [ex, ey]
        have : Go.binOp .eql t (.agg vs) (.agg ws) = (do Pure.pure (.bool (← Go.Op.equal t (.agg vs) (.agg ws)))) := rfl
        rw [this]
        simp only [Sem.run_bind, h1, Result.andThen_ok, Sem.run_pure]
    · cases hv : eqAgg E t xs ys with
      | none => rw [hv] at he; cases he
      | some b =>
        rw [hv] at he; cases he
        obtain ⟨h1, h2⟩ := eqAgg_run hE sx sy rx ry hv
        refine .pure h (hexec (by rw [ex, ey]; exact h2 _ _ _) ?_) (.bool (!b))
        rw [ex, ey]
        have : Go.binOp .neq t (.agg vs) (.agg ws) = (do Pure.pure (.bool (!(← Go.Op.equal t (.agg vs) (.agg ws))))) := rfl
        rw [this]
        simp only [Sem.run_bind, h1, Result.andThen_ok, Sem.run_pure]
  · rename_i k m k' n
    split at he <;> try cases he
    rename_i hb
    cases hv : intBin op k m n with
    | none => rw [hv] at he; cases he
    | some v =>
      rw [hv] at he; cases he
      obtain ⟨u, hu, r⟩ := intBin_run (P := P) (C := C) hb hv t C.w
      refine .pure h (hexec ?_ ?_) r
      · rw [rep_int hx, rep_int hy]; exact guard_int _ _ _ _ _ _ _ _ _
      · rw [rep_int hx, rep_int hy]; exact hu
  · rename_i s s'
    have e1 := rep_str hx
    have e2 := rep_str hy
    split at he <;> try cases he
    · split at he <;> cases he
      rename_i hlen
      refine .pure h (hexec (by rw [e1, e2]; exact guard_str _ _ _ _ _ _ _) ?_) (.str _)
      rw [e1, e2]
      simp only [Go.binOp, Go.Op.stringOp]
      rw [if_neg (by simp [IntKind.max, IntKind.signed, IntKind.bits]; omega)]
      rfl
    · refine .pure h (hexec (by rw [e1, e2]; exact guard_str _ _ _ _ _ _ _) ?_) (.bool _)
      rw [e1, e2]; rfl
    · refine .pure h (hexec (by rw [e1, e2]; exact guard_str _ _ _ _ _ _ _) ?_) (.bool _)
      rw [e1, e2]; rfl
  · rename_i hn1 hn2
    split at he <;> try cases he
    · rename_i ti ht
      obtain ⟨i, d, z, F⟩ := tiOf_facts (hE.ty _ _ ht)
      cases hv : eqOf ti.desc p q with
      | none => rw [hv] at he; cases he
      | some b =>
        rw [hv] at he; cases he
        obtain ⟨h1, h2, h5⟩ := eqOf_run F hx hy hv
        refine .pure h (hexec (h2 _ _ _) ?_) (.bool b)
        have : Go.binOp .eql t (a.eval x) (a.eval y) = (do Pure.pure (.bool (← Go.Op.equal t (a.eval x) (a.eval y)))) := by
          generalize a.eval x = vx at *
          generalize a.eval y = vy at *
          rcases h5 with ⟨c, rfl⟩ | ⟨c1, c2, c3, rfl⟩ | rfl | rfl | ⟨c1, c2, rfl⟩ | rfl | ⟨c1, c2, c3, rfl⟩ <;> cases vy <;> rfl
        rw [this]
        simp only [Sem.run_bind, equal_run h1, Result.andThen_ok, Sem.run_pure]
    · rename_i ti ht
      obtain ⟨i, d, z, F⟩ := tiOf_facts (hE.ty _ _ ht)
      cases hv : eqOf ti.desc p q with
      | none => rw [hv] at he; cases he
      | some b =>
        rw [hv] at he; cases he
        obtain ⟨h1, h2, h5⟩ := eqOf_run F hx hy hv
        refine .pure h (hexec (h2 _ _ _) ?_) (.bool (!b))
        have : Go.binOp .neq t (a.eval x) (a.eval y) = (do Pure.pure (.bool (!(← Go.Op.equal t (a.eval x) (a.eval y))))) := by
          generalize a.eval x = vx at *
          generalize a.eval y = vy at *
          rcases h5 with ⟨c, rfl⟩ | ⟨c1, c2, c3, rfl⟩ | rfl | rfl | ⟨c1, c2, rfl⟩ | rfl | ⟨c1, c2, c3, rfl⟩ <;> cases vy <;> rfl
        rw [this]
        simp only [Sem.run_bind, equal_run h1, Result.andThen_ok, Sem.run_pure]
end
end Vm

/- The machine over pure values and the model's world: one operation (VIII): len, append, copy, min, max; all together. (Own work of this repo.) -/
namespace Vm
open Go
section
variable {P : Program} {E : Env} {o : Oper} {a : Act} {C : Cx} {nid : Nat} {sl : List AV}

/-- A builtin's result, out of its own text. -/
def BOk (P : Program) (C : Cx) (nid : Nat) (s : Sem Value) (e : Eff) : Prop := ∃ x v C', e.out = .val x ∧ s.run P C.w = .ok v C'.w ∧ After C e nid C' ∧ Rep C' v x
theorem BOk.pure (h : C.Ok) {s : Sem Value} {v : Value} {x : AV} {rds : List Nat} (hrun : s.run P C.w = .ok v C.w) (r : Rep C v x) : BOk P C nid s ⟨.val x, rds, [], false⟩ :=
  ⟨x, v, C, rfl, hrun, .same h, r⟩

theorem len_ok (hE : EOk P E) (h : C.Ok) {t : TypeId} {ty : TypeId} {x : AV} {v : Value} (hr : Rep C v x) {e : Eff} (he : builtinEff E C.H nid .len [t] [x] = some e) : BOk P C nid (Builtin.len_ #[t] ty #[v]) e := by
  simp only [builtinEff] at he
  split at he <;> try cases he
  rename_i ti ht
  obtain ⟨i, d, z, F⟩ := tiOf_facts (hE.ty _ _ ht)
  split at he
  · rename_i el nl xs hd
    obtain rfl := dOf_slice (hd ▸ F.ad)
    cases he
    cases nl with
    | true =>
      obtain ⟨rfl, rfl⟩ := rep_lnil hr
      exact .pure h (v := goInt 0) (by simp [Builtin.len_, F.run_und]) (.int _ _)
    | false =>
      obtain ⟨ad, cap, esz, u, rfl, _⟩ := rep_lst hr
      exact .pure h (v := goInt xs.length) (by simp [Builtin.len_, F.run_und]) (.int _ _)
  · rename_i el id off n hd
    obtain rfl := dOf_slice (hd ▸ F.ad)
    split at he <;> cases he
    rename_i b hb
    obtain ⟨cap, rfl, _⟩ := rep_ref hr hb
    exact .pure h (v := goInt n) (by simp [Builtin.len_, F.run_und]) (.int _ _)
  · rename_i s hd
    obtain rfl := dOf_str (hd ▸ F.ad)
    cases he
    obtain rfl := rep_str hr
    exact .pure h (v := goInt s.size) (by simp [Builtin.len_, F.run_und]) (.int _ _)
  · rename_i n el hd
    obtain rfl := dOf_array (hd ▸ F.ad)
    cases he
    exact .pure h (v := goInt n) (by simp [Builtin.len_, F.run_und]) (.int _ _)
  · cases he

/-- What a source's cells are in the world. -/
theorem src_run (h : C.Ok) {esz : Nat} {v : Value} {x : AV} (hr : Rep C v x) {cs : List AV} {n : Nat} {rd : List Nat} (hs : srcCells C.H x = some (cs, n, rd)) (hl : cs.length = n * esz) (hz : esz ≠ 0) :
    (Builtin.lenOf v).run P C.w = .ok n C.w ∧ ∀ m, m ≤ n → ∃ vs : Array Value, (Builtin.firstCells esz m v).run P C.w = .ok vs C.w ∧ vs.size = m * esz ∧ ∀ (j : Nat) (c : AV), (cs.take (m * esz))[j]? = some c → ∃ u, vs[j]? = some u ∧ Rep C u c ∧ u.oneCell' = true := by
  unfold srcCells at hs
  split at hs
  · rename_i nl xs
    cases hs
    cases nl with
    | true =>
      obtain ⟨rfl, rfl⟩ := rep_lnil hr
      refine ⟨rfl, fun m hm => ⟨#[], rfl, ?_, by simp [flat]⟩⟩
      obtain rfl : m = 0 := by simpa using hm
      simp
    | false =>
      obtain ⟨ad, cap, esz', u, rfl, hc, hzz, hm, hu, hrr, hoo⟩ := rep_lst hr
      refine ⟨rfl, fun m hmn => ?_⟩
      -- each element has 'esz' cells
      have hfl : ∀ (l : List AV), (∀ x ∈ l, x.cells.length = esz') → (flat l).length = l.length * esz' := by
        intro l
        induction l with
        | nil => intro _; simp [flat]
        | cons y ys ih => intro h; simp only [flat, List.length_append, List.length_cons, Nat.succ_mul]; rw [ih fun z hz => h z (by simp [hz]), h y (by simp)]; omega
      have heq : xs = [] ∨ esz' = esz := by
        by_cases h0 : xs = []
        · exact .inl h0
        · right
          have := hfl xs hzz
          rw [this] at hl
          have hp : 0 < xs.length := List.length_pos_iff.2 h0
          exact Nat.eq_of_mul_eq_mul_left hp hl
      have hget : ∀ (l : List AV) (k : Nat) (c : AV), (∀ x ∈ l, x.cells.length = esz) → (flat l)[k]? = some c → ∃ y, l[k / esz]? = some y ∧ y.cells[k % esz]? = some c := by
        intro l
        induction l with
        | nil => intro k c _ h; simp [flat] at h
        | cons y ys ih =>
          intro k c hh hk
          simp only [flat] at hk
          have hy : y.cells.length = esz := hh y (by simp)
          by_cases hlt : k < esz
          · rw [List.getElem?_append_left (by omega)] at hk
            exact ⟨y, by rw [Nat.div_eq_of_lt hlt]; rfl, by rw [Nat.mod_eq_of_lt hlt]; exact hk⟩
          · rw [List.getElem?_append_right (by omega)] at hk
            obtain ⟨w, hw1, hw2⟩ := ih (k - y.cells.length) c (fun z hz => hh z (by simp [hz])) hk
            rw [hy] at hw1 hw2
            refine ⟨w, ?_, ?_⟩
            · have : k / esz = (k - esz) / esz + 1 := by
                rw [Nat.div_eq k esz, if_pos ⟨Nat.pos_of_ne_zero hz, by omega⟩]
              rw [this, List.getElem?_cons_succ]
              exact hw1
            · rw [Nat.mod_eq_sub_mod (by omega)]
              exact hw2
      rcases heq with rfl | rfl
      · obtain rfl : m = 0 := by simpa using hmn
        refine ⟨#[], ?_, by simp, by simp⟩
        simp only [Builtin.firstCells, Nat.zero_mul, loadCells, loadCellsFrom]
        rfl
      · have hall : ∀ (j : Nat) (c : AV), (flat xs)[j]? = some c → C.w.cell? (ad.add j) = some (u (j / esz') (j % esz')) ∧ Rep C (u (j / esz') (j % esz')) c := by
          intro j c hj
          obtain ⟨y, hy, hyc⟩ := hget xs j c hzz hj
          have hne : xs ≠ [] := by intro e; rw [e] at hy; simp at hy
          obtain ⟨q1, q2, q3⟩ := hm hne
          have := hu _ y hy _ c hyc
          rw [show j / esz' * esz' + j % esz' = j from Nat.div_add_mod' j esz'] at this
          have e : ad.add j = ⟨ad.block, ad.off + j, none⟩ := by
            have := add_block ad j; have := add_off ad j; have := add_spot q1 j
            cases h : ad.add j; simp_all
          rw [e]
          exact ⟨this, hrr _ y hy _ c hyc⟩
        have hlen : m * esz' ≤ (flat xs).length := by rw [hl]; exact Nat.mul_le_mul_right _ hmn
        have hone : ∀ (j : Nat) (c : AV), (flat xs)[j]? = some c → (u (j / esz') (j % esz')).oneCell' = true := by
          intro j c hj
          obtain ⟨y, hy, hyc⟩ := hget xs j c hzz hj
          exact hoo _ y hy _ c hyc
        refine ⟨_, run_loadCells C.w ad (m * esz') (fun j => u (j / esz') (j % esz')) (fun j hj => (hall j _ (List.getElem?_eq_getElem (by omega))).1), by simp, fun j c hj => ?_⟩
        have hj' : j < m * esz' := by have := (List.getElem?_eq_some_iff.1 hj).1; simp at this; omega
        rw [List.getElem?_take_of_lt hj'] at hj
        exact ⟨_, by simp [hj'], (hall j c hj).2, hone j c hj⟩
  · rename_i id off ln
    split at hs <;> try cases hs
    rename_i b hb
    split at hs <;> cases hs
    rename_i hlen
    have hbz := rep_refZ h hr hb
    obtain ⟨cap, rfl, _⟩ := rep_ref hr hb
    have he : n * b.esz = n * esz := by simp at hl; omega
    refine ⟨rfl, fun m hmn => ?_⟩
    have hm : m * esz ≤ n * b.esz := by rw [he]; exact Nat.mul_le_mul_right _ hmn
    have hall : ∀ j, j < m * esz → ∃ v, C.w.cell? (Addr.add ⟨C.at_ id, off, none⟩ j) = some v ∧ ∀ c, b.cells[off + j]? = some c → Rep C v c ∧ v.oneCell' = true := by
      intro j hj
      obtain ⟨v, hv, r, h1⟩ := h.cell hb hbz (List.getElem?_eq_getElem (show off + j < b.cells.length by omega))
      refine ⟨v, by rw [addr_add]; exact hv, fun c hc => ?_⟩
      rw [List.getElem?_eq_getElem (show off + j < b.cells.length by omega)] at hc
      cases hc
      exact ⟨r, h1⟩
    refine ⟨_, run_loadCells C.w _ (m * esz) (fun j => (C.w.cell? (Addr.add ⟨C.at_ id, off, none⟩ j)).getD Go.undef) (fun j hj => by obtain ⟨v, hv, _⟩ := hall j hj; rw [hv]; rfl), by simp, fun j c hj => ?_⟩
    have hj' : j < m * esz := by have := (List.getElem?_eq_some_iff.1 hj).1; simp at this; omega
    rw [List.getElem?_take_of_lt hj', List.getElem?_take_of_lt (by omega), List.getElem?_drop] at hj
    obtain ⟨v, hv, hvr⟩ := hall j hj'
    exact ⟨v, by simp [hj', hv], hvr c hj⟩
  · rename_i s
    cases hs
    obtain rfl := rep_str hr
    refine ⟨rfl, fun m hmn => ⟨_, rfl, ?_, fun j c hj => ?_⟩⟩
    · have hl' : s.size = s.size * esz := by simpa using hl
      by_cases h0 : s.size = 0
      · obtain rfl : m = 0 := by omega
        simp
      · obtain rfl : esz = 1 := (Nat.eq_of_mul_eq_mul_left (Nat.pos_of_ne_zero h0) (by simpa using hl')).symm
        simp; omega
    · have hl' : s.size = s.size * esz := by simpa using hl
      by_cases h0 : s.size = 0
      · have : s.data.toList = [] := List.eq_nil_of_length_eq_zero (by rw [Array.length_toList]; exact h0)
        rw [this] at hj
        simp at hj
      · obtain rfl : esz = 1 := (Nat.eq_of_mul_eq_mul_left (Nat.pos_of_ne_zero h0) (by simpa using hl')).symm
        have hj' : j < m := by have := (List.getElem?_eq_some_iff.1 hj).1; simp at this; omega
        rw [List.getElem?_take_of_lt (by omega), List.getElem?_map] at hj
        cases hd : s.data.toList[j]? with
        | none => rw [hd] at hj; cases hj
        | some b =>
          rw [hd] at hj; cases hj
          refine ⟨.int .u8 b.toNat, ?_, .int _ _, rfl⟩
          have hb : s.data[j]? = some b := by simpa using hd
          simp only [ByteArray.data_extract, Array.getElem?_map, Array.getElem?_extract]
          rw [if_pos (by have : s.data.size = s.size := rfl; omega)]
          simp [hb]
  · cases hs

theorem nextcap_le (need cap : Nat) (h : cap < need) : Builtin.nextslicecap need cap ≤ 2 * need + 1000 := by
  have grow : ∀ (k c : Nat), c < 2 * need + 1000 → Builtin.growBy need k c ≤ 2 * need + 1000 := by
    intro k
    induction k with
    | zero => intro c hc; simp only [Builtin.growBy]; omega
    | succ k ih =>
      intro c hc
      simp only [Builtin.growBy]
      split
      · omega
      · exact ih _ (by omega)
  unfold Builtin.nextslicecap
  split
  · omega
  · split
    · omega
    · exact grow 4 cap (by omega)

theorem append_ok (hE : EOk P E) (h : C.Ok) (hn : C.H nid = none) (hB : ¬ C.B nid) {ts tx ty : TypeId} {s x : AV} {v w : Value} (hr : Rep C v s) (hrx : Rep C w x) {e : Eff} (he : appendEff E C.H nid ts tx s x = some e) :
    BOk P C nid (Builtin.append_ #[ts, tx] ty #[v, w]) e := by
  unfold appendEff at he
  split at he <;> try cases he
  rename_i ti tj ht htj
  obtain ⟨i, d, z, F⟩ := tiOf_facts (hE.ty _ _ ht)
  obtain ⟨i2, d2, z2, F2⟩ := tiOf_facts (hE.ty _ _ htj)
  split at he <;> try cases he
  rename_i el hd hnint
  obtain rfl := dOf_slice (hd ▸ F.ad)
  have hnz : ∀ k, d2 ≠ .int k := fun k e => by have := F2.ad; rw [e] at this; exact hnint k (by simpa [dOf] using this.symm)
  have hzeros : (d2 matches .int _) = false := by cases d2 <;> first | rfl | exact absurd rfl (hnz _)
  split at he <;> try cases he
  rename_i te cs n rd hte hsrc
  obtain ⟨i3, d3, z3, F3⟩ := tiOf_facts (hE.ty _ _ hte)
  split at he <;> try cases he
  rename_i hcond
  have hsz : te.size ≠ 0 := fun e => hcond (.inl e)
  have hby : te.bytes ≠ 0 := fun e => hcond (.inr (.inl e))
  have hcl : cs.length = n * te.size := Decidable.byContradiction fun e => hcond (.inr (.inr e))
  obtain ⟨hlen, hfirst⟩ := src_run (P := P) h hrx hsrc hcl hsz
  obtain ⟨new, hnew, hnews, hnewr⟩ := hfirst n (Nat.le_refl _)
  rw [List.take_of_length_le (by omega)] at hnewr
  have e0 : (#[ts, tx] : Array TypeId)[0]? = some ts := rfl
  have e1 : (#[ts, tx] : Array TypeId)[1]? = some tx := rfl
  -- within the capacity
  have hin : ∀ (base : Option Addr) (sLen sCap : Nat), v = .slice base sLen sCap → sLen + n ≤ sCap →
      (Builtin.append_ #[ts, tx] ty #[v, w]).run P C.w = match base with
        | some b => ((storeCells (b.add (sLen * te.size)) new.toList).run P C.w).andThen fun _ w' => .ok (.slice base (sLen + n) sCap) w'
        | none => .ok (.slice base (sLen + n) sCap) C.w := by
    intro base sLen sCap hv hle
    subst hv
    have e2 : (#[Value.slice base sLen sCap, w] : Array Value)[0]? = some (Value.slice base sLen sCap) := rfl
    have e3 : (#[Value.slice base sLen sCap, w] : Array Value)[1]? = some w := rfl
    simp only [Builtin.append_, e0, e1, e2, e3, Sem.run_bind, F.run_und, F2.run_und, F3.run_size, Result.andThen_ok, Sem.run_pure, hzeros, Bool.false_eq_true, if_false, hlen, if_pos hle, Bool.not_false, if_true, hnew]
    cases base <;> simp only [Sem.run_bind, Sem.run_pure]
  -- beyond it
  have hout : ∀ (base : Option Addr) (sLen sCap : Nat) (old new' : Array Value), v = .slice base sLen sCap → ¬ sLen + n ≤ sCap → (2 * (sLen + n) + 1000) * te.bytes ≤ 281474976710656 →
      (Builtin.firstCells te.size sLen v).run P C.w.drew = .ok old C.w.drew → (Builtin.firstCells te.size n w).run P C.w.drew = .ok new' C.w.drew →
      ∃ (newCap : Nat) (rest : Array Value), sLen + n ≤ newCap ∧ rest.size = (newCap - (sLen + n)) * te.size ∧
        (Builtin.append_ #[ts, tx] ty #[v, w]).run P C.w = .ok (.slice (some ⟨C.w.heap.size, 0, none⟩) (sLen + n) newCap) (C.w.drew.alloc (.cells (old ++ new' ++ rest) el)) := by
    intro base sLen sCap old new' hv hle hbig ho hn'
    subst hv
    have e2 : (#[Value.slice base sLen sCap, w] : Array Value)[0]? = some (Value.slice base sLen sCap) := rfl
    have e3 : (#[Value.slice base sLen sCap, w] : Array Value)[1]? = some w := rfl
    have hcap : ¬ Builtin.nextslicecap (sLen + n) sCap * te.bytes > 2 ^ 48 := by
      have h1 := nextcap_le (sLen + n) sCap (by omega)
      have h2 : Builtin.nextslicecap (sLen + n) sCap * te.bytes ≤ (2 * (sLen + n) + 1000) * te.bytes := Nat.mul_le_mul_right _ h1
      omega
    have hb : i3.bytes = te.bytes := F3.bytes
    have hz3 : z3.cells.size = te.size := by rw [(rep_cells (C := C) (ofConst_rep F3.az)).1]; exact F3.zlen
    refine ⟨sLen + n + C.w.tape C.w.drawn (.appendCap (sLen + n) sCap el) % (2 ^ 63 - (sLen + n)), Builtin.zeroCells z3.cells ((sLen + n + C.w.tape C.w.drawn (.appendCap (sLen + n) sCap el) % (2 ^ 63 - (sLen + n))) - (sLen + n)), by omega, by simp [Builtin.zeroCells, hz3], ?_⟩
    simp only [Builtin.append_, e0, e1, e2, e3, Sem.run_bind, F.run_und, F2.run_und, F3.run_size, F3.run_info, F3.run_zero, Result.andThen_ok, Sem.run_pure, hzeros, Bool.false_eq_true, if_false, hlen, if_neg hle, Bool.not_false, if_true, hb, hby, or_self, and_false,
      if_neg hcap, run_choose, Question.forced, Question.cut, run_askRoom, World.drew_eq, ho, hn', newRow, run_newObj, World.size_drew]
    rfl
  -- the row that a new one is
  have hsame := h.same (w := C.w.drew) rfl
  have hnew2 : ∃ vs : Array Value, (Builtin.firstCells te.size n w).run P C.w.drew = .ok vs C.w.drew ∧ vs.size = n * te.size ∧ ∀ (j : Nat) (c : AV), cs[j]? = some c → ∃ u, vs[j]? = some u ∧ Rep { C with w := C.w.drew } u c ∧ u.oneCell' = true := by
    obtain ⟨_, hf⟩ := src_run (P := P) (C := { C with w := C.w.drew }) hsame.2 (hrx.le hsame.1) hsrc hcl hsz
    have := hf n (Nat.le_refl _)
    rwa [List.take_of_length_le (by omega)] at this
  split at he
  · rename_i xs
    obtain ⟨rfl, rfl⟩ := rep_lnil hr
    split at he
    · rename_i h0
      cases he
      refine .pure h (v := .slice none 0 0) ?_ .lnil
      rw [hin none 0 0 rfl (by omega)]
      simp [h0]
    · rename_i h0
      split at he <;> cases he
      rename_i hbig
      obtain ⟨vs, hvs, hvsz, hvr⟩ := hnew2
      obtain ⟨newCap, rest, hc1, hc2, hrun⟩ := hout none 0 0 #[] vs rfl (by omega) (by simpa using hbig) (by simp only [Builtin.firstCells]; rfl) hvs
      obtain ⟨C', hw, hat, hH, hBB, hA⟩ := grow_ok (out := .val (.ref nid 0 n)) (rds := nid :: rd) hsame.2 hn hB (w := C.w.drew.alloc (.cells (#[] ++ vs ++ rest) el)) rfl ⟨cs, te.agg, te.size, false⟩ hsz (by simp; omega) (fun j c hj => by
        obtain ⟨u, hu, r, h1⟩ := hvr j c hj
        refine ⟨u, ?_, r, h1⟩
        have hj' : j < vs.size := (Array.getElem?_eq_some_iff.1 hu).1
        simp only [Array.empty_append]
        rw [Array.getElem?_append_left hj']
        exact hu)
      refine ⟨_, .slice (some ⟨C.w.heap.size, 0, none⟩) n newCap, C', rfl, by rw [hrun, hw]; simp, ⟨hA.H, hA.B, hA.ok, hsame.1.trans hA.le⟩, .ref _ _ _ _ rfl hBB fun blk hb => ⟨newCap, by rw [hat]; rfl, by omega, #[] ++ vs ++ rest, el, (0, 0), by rw [hat, hw]; exact Array.getElem?_push_size, ?_⟩⟩
      rw [hH] at hb; cases hb
      have hm : newCap * te.size = n * te.size + (newCap - n) * te.size := by rw [← Nat.add_mul]; congr 1; omega
      simp only [Nat.zero_add] at hc1 hc2
      simp; omega
  · rename_i id off len
    split at he <;> try cases he
    rename_i b hb
    split at he <;> try cases he
    rename_i hcb
    obtain ⟨hf, rfl, hes, hlb⟩ := hcb
    obtain ⟨cap, rfl, hcap, rs, rt, rf, hrow, hrl⟩ := rep_ref hr hb
    split at he
    · rename_i h0
      subst h0
      cases he
      refine .pure h (v := .slice (some ⟨C.at_ id, 0, none⟩) len cap) ?_ hr
      rw [hin _ len cap rfl (by omega)]
      have : new.toList = [] := List.eq_nil_of_length_eq_zero (by simpa using hnews)
      simp only [this, storeCells, Sem.run_pure, Result.andThen_ok, Nat.add_zero]
    · rename_i h0
      split at he <;> cases he
      rename_i hbig
      by_cases hle : len + n ≤ cap
      · -- in place
        obtain ⟨cc, t, hb1, hb2, hb3⟩ := h.blk id b hb (by rw [hes]; exact hsz)
        rw [hrow] at hb1
        cases hb1
        have hspace : len * te.size + n * te.size ≤ rs.size := by
          have : (len + n) * te.size ≤ cap * te.size := Nat.mul_le_mul_right _ hle
          rw [Nat.add_mul] at this
          rw [hes] at hrl
          omega
        have hlb' : b.cells.length = len * te.size := by rw [← hes]; exact hlb.symm
        have one : ∀ u ∈ new.toList, u.oneCell' = true := by
          intro u hu
          obtain ⟨j, hj⟩ := List.getElem?_of_mem hu
          have hjl : j < cs.length := by have := (List.getElem?_eq_some_iff.1 hj).1; rw [hcl, ← hnews]; simpa using this
          obtain ⟨u', hu', _, h1⟩ := hnewr j _ (List.getElem?_eq_getElem hjl)
          have : u = u' := by simp at hj; rw [hu'] at hj; cases hj; rfl
          rw [this]; exact h1
        have hrun := run_storeCells_at (P := P) (C.at_ id) (len * te.size) rt new.toList 0 rs C.w hrow (by simp; omega) one
        obtain ⟨le, ok⟩ := h.move hb hf hn hB hrow (cs' := (rs.toList.take (len * te.size + 0) ++ new.toList ++ rs.toList.drop (len * te.size + 0 + new.toList.length)).toArray) (by simp; omega) (b.cells ++ cs) (by simp; omega) (fun j c hc => by
          simp only [Nat.add_zero, List.getElem?_toArray]
          by_cases hj : j < len * te.size
          · rw [List.getElem?_append_left (by omega)] at hc
            obtain ⟨v, hv, r, h1⟩ := hb3 j c hc
            refine ⟨v, ?_, r, h1⟩
            rw [List.append_assoc, List.getElem?_append_left (by simp; omega), List.getElem?_take_of_lt hj]
            simpa using hv
          · rw [List.getElem?_append_right (by omega)] at hc
            obtain ⟨v, hv, r, h1⟩ := hnewr _ c hc
            refine ⟨v, ?_, r, h1⟩
            have hjn : j - b.cells.length < new.size := (Array.getElem?_eq_some_iff.1 hv).1
            rw [List.append_assoc, List.getElem?_append_right (by simp; omega), List.getElem?_append_left (by simp; omega)]
            simp only [List.length_take, Array.length_toList]
            rw [Nat.min_eq_left (by omega), ← hlb']
            simpa using hv)
        refine ⟨_, .slice (some ⟨C.at_ id, 0, none⟩) (len + n) cap, _, rfl, ?_, ⟨by simp only [Heap.upds, hf], by funext i; simp, ok, le⟩, .ref _ _ _ _ rfl (Or.inr rfl) fun blk hbl => ⟨cap, by simp, hle, (rs.toList.take (len * te.size + 0) ++ new.toList ++ rs.toList.drop (len * te.size + 0 + new.toList.length)).toArray, rt, (0, 0), ?_, ?_⟩⟩
        · rw [hin _ len cap rfl hle]
          simp only [addr_add, Nat.zero_add, hrun, Result.andThen_ok]
        · dsimp only
          rw [if_pos rfl]
          exact setRow_heap _ _ _ _ _ _ hrow
        · dsimp only at hbl
          rw [Heap.upd_same] at hbl
          cases hbl
          rw [hes] at hrl ⊢
          simp; omega
      · -- a new row
        obtain ⟨d1, d2⟩ := h.drop id
        have hold : ∃ vs : Array Value, (Builtin.firstCells te.size len (.slice (some ⟨C.at_ id, 0, none⟩) len cap)).run P C.w.drew = .ok vs C.w.drew ∧ vs.size = len * te.size ∧ ∀ (j : Nat) (c : AV), b.cells[j]? = some c → ∃ u, vs[j]? = some u ∧ Rep { C with w := C.w.drew } u c ∧ u.oneCell' = true := by
          have hsrc2 : srcCells ({ C with w := C.w.drew } : Cx).H (.ref id 0 len) = some ((b.cells.drop 0).take (len * b.esz), len, [id]) := by
            simp only [srcCells, hb]; rw [if_pos (by omega)]
          obtain ⟨_, hf2⟩ := src_run (P := P) (C := { C with w := C.w.drew }) hsame.2 (hr.le hsame.1) hsrc2 (esz := te.size) (by simp; rw [← hes]; omega) hsz
          obtain ⟨vs, q1, q2, q3⟩ := hf2 len (Nat.le_refl _)
          refine ⟨vs, q1, q2, fun j c hj => q3 j c ?_⟩
          have hj' : j < b.cells.length := (List.getElem?_eq_some_iff.1 hj).1
          rw [List.getElem?_take_of_lt (by rw [← hes]; omega), List.getElem?_take_of_lt (by omega)]
          simpa using hj
        obtain ⟨vo, hvo, hvos, hvor⟩ := hold
        obtain ⟨vs, hvs, hvsz, hvr⟩ := hnew2
        obtain ⟨newCap, rest, hc1, hc2, hrun⟩ := hout _ len cap vo vs rfl hle hbig hvo hvs
        have dsame := d2.same (w := C.w.drew) rfl
        have hid : id ≠ nid := fun e => by rw [e, hn] at hb; cases hb
        obtain ⟨C', hw, hat, hH, hBB, hA⟩ := grow_ok (out := .val (.ref nid 0 (len + n))) (rds := nid :: id :: rd) dsame.2 (nid := nid) (by dsimp only; rw [Heap.upd_ne _ _ (Ne.symm hid)]; exact hn) hB (w := C.w.drew.alloc (.cells (vo ++ vs ++ rest) el)) rfl ⟨b.cells ++ cs, b.agg, b.esz, false⟩ (by rw [hes]; exact hsz) (by simp only [List.length_append, Array.size_append]; have := hlb; rw [hes] at this; omega) (fun j c hj => by
          by_cases hjl : j < b.cells.length
          · rw [List.getElem?_append_left hjl] at hj
            obtain ⟨u, hu, r, h1⟩ := hvor j c hj
            have hj' : j < vo.size := (Array.getElem?_eq_some_iff.1 hu).1
            refine ⟨u, ?_, (r.le (C' := { C with H := C.H.upd id none, w := C.w.drew }) (hsame.2.drop id).1), h1⟩
            rw [Array.append_assoc, Array.getElem?_append_left hj']
            exact hu
          · rw [List.getElem?_append_right (by omega)] at hj
            obtain ⟨u, hu, r, h1⟩ := hvr _ c hj
            have hj' : j - b.cells.length < vs.size := (Array.getElem?_eq_some_iff.1 hu).1
            refine ⟨u, ?_, (r.le (C' := { C with H := C.H.upd id none, w := C.w.drew }) (hsame.2.drop id).1), h1⟩
            have hvob : vo.size = b.cells.length := by rw [hvos, ← hes]; exact hlb
            rw [Array.append_assoc, Array.getElem?_append_right (by omega), hvob, Array.getElem?_append_left hj']
            exact hu)
        refine ⟨_, .slice (some ⟨C.w.heap.size, 0, none⟩) (len + n) newCap, C', rfl, by rw [hrun, hw], ⟨hA.H, hA.B, hA.ok, (d1.trans dsame.1).trans hA.le⟩, .ref _ _ _ _ rfl hBB fun blk hbl => ⟨newCap, by rw [hat]; rfl, hc1, vo ++ vs ++ rest, el, (0, 0), by rw [hat, hw]; exact Array.getElem?_push_size, ?_⟩⟩
        rw [hH] at hbl; cases hbl
        have hm : newCap * te.size = len * te.size + n * te.size + (newCap - (len + n)) * te.size := by rw [← Nat.add_mul, ← Nat.add_mul]; congr 1; omega
        rw [hes]
        simp; omega
  · cases he
end
end Vm
