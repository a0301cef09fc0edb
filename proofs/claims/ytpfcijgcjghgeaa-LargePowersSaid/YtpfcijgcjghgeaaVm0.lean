/- A small machine over pure values that stands for the model's machine: its definitions. (Own work of this repo.) -/
import Derived.Calls
set_option linter.unusedVariables false
set_option linter.unusedSimpArgs false
namespace Vm
open Go

/-- Values without addresses of the model's memory: a slice that nobody writes any more is its elements ('lst'); what is still written lies in a heap of the machine's own ('ref', 'ptr'). -/
inductive AV where
  | int (k : IntKind) (n : Int)
  | bool (b : Bool)
  | str (s : ByteArray)
  | lst (nil : Bool) (xs : List AV)
  | ref (id off len : Nat)
  | ptr (id off : Nat)
  | imm (cells : List AV)
  | nilp
  | fn (f : FuncId) (first captured : List AV)
  | nilf
  | iface (t : TypeId) (v : AV)
  | nili
  | agg (cells : List AV)
  | tup (vs : List AV)
  deriving Inhabited

def AV.cells : AV → List AV
  | .agg cs => cs
  | v => [v]
def undef : AV := .tup []
/-- May it stand in one cell? -/
def AV.scal : AV → Bool
  | .agg _ => false
  | .tup _ => false
  | _ => true

mutual
/-- No address of the heap in it. -/
def AV.pure : AV → Bool
  | .lst _ xs => AV.pureL xs
  | .ref _ _ _ => false
  | .ptr _ _ => false
  | .imm xs => AV.pureL xs
  | .fn _ a b => AV.pureL a && AV.pureL b
  | .iface _ v => v.pure
  | .agg xs => AV.pureL xs
  | .tup xs => AV.pureL xs
  | .int _ _ => true
  | .bool _ => true
  | .str _ => true
  | .nilp => true
  | .nilf => true
  | .nili => true
def AV.pureL : List AV → Bool
  | [] => true
  | x :: xs => x.pure && AV.pureL xs
end

/-- A row of cells that is written (or was): 'esz' cells an element, each an aggregate or not. -/
structure Blk where
  cells : List AV
  agg : Bool
  esz : Nat
  fz : Bool

abbrev Heap := Nat → Option Blk
def Heap.empty : Heap := fun _ => none
def Heap.upd (h : Heap) (i : Nat) (b : Option Blk) : Heap := fun j => if j = i then b else h j
def Heap.upds (h : Heap) : List (Nat × Option Blk) → Heap
  | [] => h
  | (i, b) :: r => Heap.upds (h.upd i b) r

inductive TD where
  | int (k : IntKind) | bool | str
  | slice (e : TypeId) | ptr (e : TypeId)
  | struct (fs : List (Nat × TypeId)) | array (n : Nat) (e : TypeId)
  | func | iface | other
structure TI where
  size : Nat
  bytes : Nat
  agg : Bool
  zero : AV
  desc : TD

structure Env where
  T : TypeId → Option TI
  fn : FuncId → Option Func
  /-- Is the function called over the caller's own heap? -/
  opn : FuncId → Bool

def scalConst : Value → Option AV
  | .int k n => some (.int k n)
  | .bool b => some (.bool b)
  | .string s => some (.str s)
  | .pointer none => some .nilp
  | .slice none 0 0 => some (.lst true [])
  | .nilFunc => some .nilf
  | .nilIface => some .nili
  | _ => none
def scalConsts : List Value → Option (List AV)
  | [] => some []
  | v :: vs => match scalConst v, scalConsts vs with
    | some x, some xs => some (x :: xs)
    | _, _ => none
def ofConst : Value → Option AV
  | .agg cs => (scalConsts cs.toList).map .agg
  | .tuple cs => if cs.toList.isEmpty then some (.tup []) else none
  | v => scalConst v

def ev (sl : List AV) : Operand → Option AV
  | .tmp t => some (sl.getD t undef)
  | .const v => ofConst v
  | .func f => some (.fn f [] [])
  | .global _ => none
def evs (sl : List AV) : List Operand → Option (List AV)
  | [] => some []
  | x :: xs => match ev sl x, evs sl xs with
    | some v, some vs => some (v :: vs)
    | _, _ => none
def evps (sl : List AV) : List (Nat × Operand) → Option (List (Nat × AV))
  | [] => some []
  | (i, x) :: xs => match ev sl x, evps sl xs with
    | some v, some vs => some ((i, v) :: vs)
    | _, _ => none
def evo (sl : List AV) : Option Operand → Option (Option AV)
  | none => some none
  | some x => (ev sl x).map some

inductive Out where
  | val (v : AV)
  | skip
  | panic (v : AV)
structure Eff where
  out : Out
  rds : List Nat
  ups : List (Nat × Option Blk)
  /-- Is a new number of the heap used? -/
  new : Bool

def Eff.v (x : AV) : Option Eff := some ⟨.val x, [], [], false⟩

/-- Cells 'off', 'off + 1', .. replaced. -/
def setCells : List AV → Nat → List AV → List AV
  | cs, _, [] => cs
  | cs, off, v :: vs => setCells (cs.set off v) (off + 1) vs
def fillAll (place : Nat → Option (Nat × Nat)) (cells : List AV) : List (Nat × AV) → Option (List AV)
  | [] => some cells
  | (i, v) :: rest => match place i with
    | none => none
    | some (off, size) => if v.cells.length = size ∧ off + size ≤ cells.length then fillAll place (setCells cells off v.cells) rest else none
/-- Where a struct's fields lie, and how many cells they take. -/
def places (E : Env) : List (Nat × TypeId) → Option (List (Nat × Nat))
  | [] => some []
  | (o, u) :: fs => match E.T u, places E fs with
    | some tu, some l => some ((o, tu.size) :: l)
    | _, _ => none
/-- A row's elements. -/
def elems (agg : Bool) (esz : Nat) : Nat → List AV → List AV
  | 0, _ => []
  | n + 1, cs => (if agg then .agg (cs.take esz) else cs.headD undef) :: elems agg esz n (cs.drop esz)
def flat : List AV → List AV
  | [] => []
  | x :: xs => x.cells ++ flat xs
def reps : Nat → List AV → List AV
  | 0, _ => []
  | n + 1, z => z ++ reps n z

def intBin (op : BinOp) (k : IntKind) (a b : Int) : Option AV :=
  match op with
  | .add => some (.int k (k.wrap (a + b)))
  | .sub => some (.int k (k.wrap (a - b)))
  | .mul => some (.int k (k.wrap (a * b)))
  | .quo => if b = 0 then none else some (.int k (k.wrap (a.tdiv b)))
  | .rem => if b = 0 then none else some (.int k (a.tmod b))
  | .and => some (.int k (k.wrap (BitVec.ofInt k.bits a &&& BitVec.ofInt k.bits b).toNat))
  | .or => some (.int k (k.wrap (BitVec.ofInt k.bits a ||| BitVec.ofInt k.bits b).toNat))
  | .xor => some (.int k (k.wrap (BitVec.ofInt k.bits a ^^^ BitVec.ofInt k.bits b).toNat))
  | .andNot => some (.int k (k.wrap (BitVec.ofInt k.bits a &&& ~~~ (BitVec.ofInt k.bits b)).toNat))
  | .shl => if b < 0 then none else some (.int k (k.wrap (a * 2 ^ (min b.toNat k.bits))))
  | .shr => if b < 0 then none else some (.int k (a.fdiv (2 ^ (min b.toNat k.bits))))
  | .eql => some (.bool (decide (a = b)))
  | .neq => some (.bool (!decide (a = b)))
  | .lss => some (.bool (decide (a < b)))
  | .leq => some (.bool (decide (a ≤ b)))
  | .gtr => some (.bool (decide (b < a)))
  | .geq => some (.bool (decide (b ≤ a)))
def bothInt (op : BinOp) (k k' : IntKind) : Bool :=
  match op with
  | .shl | .shr => true
  | _ => k == k'
/-- Are two values equal (the ones that can be asked here)? -/
def eqOf : TD → AV → AV → Option Bool
  | .bool, .bool a, .bool b => some (a == b)
  | .slice _, .lst n _, .lst true _ => some n
  | .slice _, .lst true _, .lst n _ => some n
  | .ptr _, .nilp, .nilp => some true
  | .iface, .nili, .iface _ _ => some false
  | .iface, .iface _ _, .nili => some false
  | .func, .nilf, .nilf => some true
  | .func, .fn _ _ _, .nilf => some false
  | .func, .nilf, .fn _ _ _ => some false
  | _, _, _ => none
def binEff (E : Env) (op : BinOp) (t : TypeId) : AV → AV → Option Eff
  | .int k a, .int k' b => if bothInt op k k' then (intBin op k a b).map fun v => ⟨.val v, [], [], false⟩ else none
  | .str a, .str b => match op with
    | .add => if a.size + b.size ≤ 140737488355328 then Eff.v (.str (a ++ b)) else none
    | .eql => Eff.v (.bool (a.toList == b.toList))
    | .neq => Eff.v (.bool (!(a.toList == b.toList)))
    | _ => none
  | x, y => match op, E.T t with
    | .eql, some ti => (eqOf ti.desc x y).map fun b => ⟨.val (.bool b), [], [], false⟩
    | .neq, some ti => (eqOf ti.desc x y).map fun b => ⟨.val (.bool (!b)), [], [], false⟩
    | _, _ => none

def inRange (i : Int) (lo hi : Nat) : Option Nat := if (lo : Int) ≤ i ∧ i ≤ (hi : Int) then some i.toNat else none
/-- The bounds of a cut: low, high, both within the length; the maximum, if there is one, is the high bound. -/
def cutBounds (len : Nat) (lo hi mx : Option AV) : Option (Nat × Nat) :=
  let h : Option Nat := match hi with
    | none => some len
    | some (.int _ i) => inRange i 0 len
    | _ => none
  let m : Option Nat := match mx with
    | none => h
    | some (.int _ i) => inRange i 0 len
    | _ => none
  match h, m with
  | some h, some m => if mx.isSome && hi.isNone then none else if h = m then (match lo with
    | none => some (0, h)
    | some (.int _ i) => (inRange i 0 h).map fun l => (l, h)
    | _ => none) else none
  | _, _ => none

/-- The cells that a slice (or a string) holds, for an append or a copy; and what is read. -/
def srcCells (H : Heap) : AV → Option (List AV × Nat × List Nat)
  | .lst _ xs => some (flat xs, xs.length, [])
  | .ref id off len => match H id with
    | some b => if off + len * b.esz ≤ b.cells.length then some ((b.cells.drop off).take (len * b.esz), len, [id]) else none
    | none => none
  | .str s => some (s.data.toList.map fun b => .int .u8 b.toNat, s.size, [])
  | _ => none

def appendEff (E : Env) (H : Heap) (nid : Nat) (ts tx : TypeId) (s x : AV) : Option Eff :=
  match E.T ts, E.T tx with
  | some ti, some tj => (match ti.desc, tj.desc with
    | .slice e, .int _ => none
    | .slice e, _ => (match E.T e, srcCells H x with
      | some te, some (cs, n, rd) =>
        if te.size = 0 ∨ te.bytes = 0 ∨ cs.length ≠ n * te.size then none else
        (match s with
        | .lst true _ => if n = 0 then some ⟨.val (.lst true []), rd, [], false⟩
          else if (2 * n + 1000) * te.bytes ≤ 281474976710656 then some ⟨.val (.ref nid 0 n), nid :: rd, [(nid, some ⟨cs, te.agg, te.size, false⟩)], true⟩ else none
        | .ref id off len => (match H id with
          | some b => if b.fz = false ∧ off = 0 ∧ b.esz = te.size ∧ len * b.esz = b.cells.length then
              (if n = 0 then some ⟨.val (.ref id off len), id :: rd, [], false⟩
              else if (2 * (len + n) + 1000) * te.bytes ≤ 281474976710656 then
                some ⟨.val (.ref nid 0 (len + n)), nid :: id :: rd, [(id, none), (nid, some ⟨b.cells ++ cs, b.agg, b.esz, false⟩)], true⟩ else none)
            else none
          | none => none)
        | _ => none)
      | _, _ => none)
    | _, _ => none)
  | _, _ => none

def copyEff (E : Env) (H : Heap) (ts : TypeId) (d x : AV) : Option Eff :=
  match E.T ts with
  | some ti => (match ti.desc with
    | .slice e => (match E.T e, srcCells H x, d with
      | some te, some (cs, n, rd), .ref id off len => (match H id with
        | some b =>
          let m := min n len
          if b.fz = false ∧ b.esz = te.size ∧ te.size ≠ 0 ∧ cs.length = n * te.size ∧ off + len * te.size ≤ b.cells.length then
            some ⟨.val (.int .i64 m), id :: rd, [(id, some { b with cells := setCells b.cells off (cs.take (m * te.size)) })], false⟩
          else none
        | none => none)
      | _, _, _ => none)
    | _ => none)
  | none => none

def loadEff (E : Env) (H : Heap) (t : TypeId) : AV → Option Eff
  | .ptr id off => (match E.T t, H id with
    | some ti, some b => if ti.agg then (if off + ti.size ≤ b.cells.length then some ⟨.val (.agg ((b.cells.drop off).take ti.size)), [id], [], false⟩ else none)
      else (match b.cells[off]? with | some v => some ⟨.val v, [id], [], false⟩ | none => none)
    | _, _ => none)
  | .imm cs => (match E.T t with
    | some ti => if ti.agg then (if ti.size ≤ cs.length then Eff.v (.agg (cs.take ti.size)) else none)
      else (match cs with | v :: _ => Eff.v v | [] => none)
    | none => none)
  | _ => none
def storeEff (E : Env) (H : Heap) (t : TypeId) (v : AV) : AV → Option Eff
  | .ptr id off => (match E.T t, H id with
    | some ti, some b => if b.fz = false ∧ v.cells.length = ti.size ∧ off + ti.size ≤ b.cells.length ∧ v.cells.all AV.scal then
        some ⟨.skip, [id], [(id, some { b with cells := setCells b.cells off v.cells })], false⟩ else none
    | _, _ => none)
  | _ => none

def partOf (E : Env) (t : TypeId) (cs : List AV) (off : Nat) : Option Eff :=
  match E.T t with
  | some ti => if ti.agg then (if off + ti.size ≤ cs.length then Eff.v (.agg ((cs.drop off).take ti.size)) else none)
    else (match cs[off]? with | some v => Eff.v v | none => none)
  | none => none

/-- The function that a call calls, and its arguments. -/
def target (sl : List AV) : Op → Option (FuncId × List AV)
  | .call c => (match c.callee with
    | .value f => (match ev sl f, evs sl c.args.toList with
      | some (.fn g a b), some l => some (g, a ++ l ++ b)
      | _, _ => none)
    | _ => none)
  | _ => none

def builtinEff (E : Env) (H : Heap) (nid : Nat) (b : Builtin) (ts : List TypeId) (l : List AV) : Option Eff :=
  match b, ts, l with
  | .len, [t], [x] => (match E.T t with
    | some ti => (match ti.desc, x with
      | .slice _, .lst _ xs => Eff.v (.int .i64 xs.length)
      | .slice _, .ref id off n => (match H id with | some _ => some ⟨.val (.int .i64 n), [id], [], false⟩ | none => none)
      | .str, .str s => Eff.v (.int .i64 s.size)
      | .array n _, _ => Eff.v (.int .i64 n)
      | _, _ => none)
    | none => none)
  | .append, [t, u], [s, x] => appendEff E H nid t u s x
  | .copy, t :: _, [d, x] => copyEff E H t d x
  | .min, _, [.int k a, .int _ b] => Eff.v (.int k (if b < a then b else a))
  | .max, _, [.int k a, .int _ b] => Eff.v (.int k (if a < b then b else a))
  | _, _, _ => none

/-- An operation that calls no function of the program. -/
def opEff (E : Env) (H : Heap) (nid : Nat) (sl : List AV) (op : Op) : Option Eff :=
  match op with
  | .move x | .assign x => (ev sl x).map fun v => ⟨.val v, [], [], false⟩
  | .pick c a b => (match ev sl c with
    | some (.bool t) => (ev sl (if t then a else b)).map fun v => ⟨.val v, [], [], false⟩
    | _ => none)
  | .alloc t => (match E.T t with
    | some ti => if ti.zero.cells.all AV.scal then some ⟨.val (.ptr nid 0), [nid], [(nid, some ⟨ti.zero.cells, ti.agg, ti.size, false⟩)], true⟩ else none
    | none => none)
  | .box t x => (match E.T t, ev sl x with
    | some ti, some v => if v.cells.all AV.scal then some ⟨.val (.ptr nid 0), [nid], [(nid, some ⟨v.cells, ti.agg, ti.size, false⟩)], true⟩ else none
    | _, _ => none)
  | .build t ps => (match E.T t, evps sl ps.toList with
    | some ti, some l => (match ti.desc with
      | .struct fs => (match places E fs with
        | some pl => (match fillAll (fun i => pl[i]?) ti.zero.cells l with
          | some cs => Eff.v (.agg cs)
          | none => none)
        | none => none)
      | .array _ e => (match E.T e with
        | some te => (match fillAll (fun i => some (i * te.size, te.size)) ti.zero.cells l with
          | some cs => Eff.v (.agg cs)
          | none => none)
        | none => none)
      | _ => none)
    | _, _ => none)
  | .buildSlice t len ps => (match E.T t, evps sl ps.toList with
    | some ti, some l => (match ti.desc with
      | .slice e => (match E.T e with
        | some te => if te.size ≠ 0 ∧ te.zero.cells.length = te.size ∧ len * te.size ≤ 16777216 then
            (match fillAll (fun i => some (i * te.size, te.size)) (reps len te.zero.cells) l with
            | some cs => if cs.all AV.scal then some ⟨.val (.ref nid 0 len), [nid], [(nid, some ⟨cs, te.agg, te.size, false⟩)], true⟩ else none
            | none => none)
          else none
        | none => none)
      | _ => none)
    | _, _ => none)
  | .load t a => (match ev sl a with
    | some x => loadEff E H t x
    | none => none)
  | .store t a x => (match ev sl a, ev sl x with
    | some y, some v => storeEff E H t v y
    | _, _ => none)
  | .nilCheck x => (match ev sl x with
    | some (.ptr id off) => (match H id with | some _ => some ⟨.val (.ptr id off), [id], [], false⟩ | none => none)
    | some (.imm cs) => Eff.v (.imm cs)
    | some (.fn f a b) => Eff.v (.fn f a b)
    | _ => none)
  | .binOp op t x y _ => (match ev sl x, ev sl y with
    | some a, some b => binEff E op t a b
    | _, _ => none)
  | .unOp op _ x => (match op, ev sl x with
    | .neg, some (.int k n) => Eff.v (.int k (k.wrap (0 - n)))
    | .not, some (.bool b) => Eff.v (.bool (!b))
    | .xor, some (.int k n) => (intBin .xor k (if k.signed then -1 else k.max) n).map fun v => ⟨.val v, [], [], false⟩
    | _, _ => none)
  | .convert s u x => (match E.T s, E.T u, ev sl x with
    | some _, some ti, some v => (match ti.desc, v with
      | .int k, .int _ n => Eff.v (.int k (k.wrap n))
      | _, _ => none)
    | _, _, _ => none)
  | .makeInterface t x => (match E.T t, ev sl x with
    | some ti, some v => (match ti.desc with
      | .iface => none
      | .other => none
      | _ => Eff.v (.iface t v))
    | _, _ => none)
  | .makeFunc (.func f) a b => (match evs sl a.toList, evs sl b.toList with
    | some l, some m => Eff.v (.fn f l m)
    | _, _ => none)
  | .makeSlice t l c => (match E.T t, ev sl l, ev sl c with
    | some ti, some (.int _ n), some (.int _ m) => (match ti.desc with
      | .slice e => (match E.T e with
        | some te => if te.size ≠ 0 ∧ te.zero.cells.length = te.size ∧ te.zero.cells.all AV.scal ∧ 0 ≤ n ∧ n ≤ m ∧ m * te.bytes ≤ 281474976710656 ∧ m ≤ 9223372036854775807 then
            some ⟨.val (.ref nid 0 n.toNat), [nid], [(nid, some ⟨reps n.toNat te.zero.cells, te.agg, te.size, false⟩)], true⟩
          else none
        | none => none)
      | _ => none)
    | _, _, _ => none)
  | .slice t x lo hi mx => (match E.T t, ev sl x, evo sl lo, evo sl hi, evo sl mx with
    | some ti, some v, some l, some h, some m => (match ti.desc, v with
      | .str, .str s => if m.isSome then none else (match cutBounds s.size l h none with
        | some (a, b) => Eff.v (.str (s.extract a b))
        | none => none)
      | .slice e, .lst nl xs => (match E.T e, cutBounds xs.length l h m with
        | some te, some (a, b) => if a = 0 ∨ a = b then Eff.v (.lst nl ((xs.take b).drop a))
          else (match xs[a]? with
            | some y => if y.cells.length = te.size then Eff.v (.lst nl ((xs.take b).drop a)) else none
            | none => none)
        | _, _ => none)
      | .slice e, .ref id off len => (match H id, E.T e, cutBounds len l h m with
        | some blk, some te, some (a, b) => if blk.esz = te.size then
            (if a = b then (if a = 0 then some ⟨.val (.ref id off 0), [id], [], false⟩ else some ⟨.val (.lst false []), [id], [], false⟩)
            else some ⟨.val (.ref id (off + a * te.size) (b - a)), [id], [], false⟩) else none
        | _, _, _ => none)
      | _, _ => none)
    | _, _, _, _, _ => none)
  | .fieldAddr s x f => (match E.T s, ev sl x with
    | some ti, some v => (match ti.desc with
      | .struct fs => (match fs[f]? with
        | some (o, u) => (match E.T u, v with
          | some tu, .ptr id off => if tu.size = 0 then none else (match H id with | some _ => some ⟨.val (.ptr id (off + o)), [id], [], false⟩ | none => none)
          | some tu, .imm cs => if tu.size = 0 then none else Eff.v (.imm (cs.drop o))
          | _, _ => none)
        | none => none)
      | _ => none)
    | _, _ => none)
  | .field t x f => (match E.T t, ev sl x with
    | some ti, some (.agg cs) => (match ti.desc with
      | .struct fs => (match fs[f]? with
        | some (o, u) => partOf E u cs o
        | none => none)
      | _ => none)
    | _, _ => none)
  | .indexAddr t x i => (match E.T t, ev sl x, ev sl i with
    | some ti, some v, some (.int _ n) => (match ti.desc with
      | .slice e => (match E.T e, v with
        | some te, .lst _ xs => if 0 ≤ n then (match xs[n.toNat]? with
          | some y => if y.cells.length = te.size then Eff.v (.imm y.cells) else none
          | none => none) else none
        | some te, .ref id off len => if 0 ≤ n ∧ n < len then (match H id with
          | some b => if b.esz = te.size then some ⟨.val (.ptr id (off + n.toNat * te.size)), [id], [], false⟩ else none
          | none => none) else none
        | _, _ => none)
      | .array m e => (match E.T e, v with
        | some te, .ptr id off => if 0 ≤ n ∧ n < m then (match H id with
          | some _ => some ⟨.val (.ptr id (off + n.toNat * te.size)), [id], [], false⟩
          | none => none) else none
        | some te, .imm cs => if 0 ≤ n ∧ n < m then Eff.v (.imm (cs.drop (n.toNat * te.size))) else none
        | _, _ => none)
      | _ => none)
    | _, _, _ => none)
  | .index t x i => (match E.T t, ev sl x, ev sl i with
    | some ti, some v, some (.int _ n) => (match ti.desc, v with
      | .str, .str s => if 0 ≤ n then (match s.data.toList[n.toNat]? with | some b => Eff.v (.int .u8 b.toNat) | none => none) else none
      | .array m e, .agg cs => (match E.T e with
        | some te => if 0 ≤ n ∧ n < m then partOf E e cs (n.toNat * te.size) else none
        | none => none)
      | _, _ => none)
    | _, _, _ => none)
  | .typeAssert x _ u ok => (match E.T u, ev sl x with
    | some ti, some v => (match ti.desc with
      | .iface => none
      | .other => none
      | _ => (match v with
        | .iface t y => if t = u then Eff.v (if ok then .tup [y, .bool true] else y)
          else if ok then Eff.v (.tup [ti.zero, .bool false]) else none
        | .nili => if ok then Eff.v (.tup [ti.zero, .bool false]) else none
        | _ => none))
    | _, _ => none)
  | .extract t i => (match ev sl t with
    | some (.tup vs) => (match vs[i]? with | some v => Eff.v v | none => none)
    | _ => none)
  | .call c => (match c.callee with
    | .builtin b => (match evs sl c.args.toList with
      | some l => builtinEff E H nid b c.argTypes.toList l
      | none => none)
    | _ => none)
  | .panic x => (match ev sl x with
    | some (.iface t v) => some ⟨.panic (.iface t v), [], [], false⟩
    | _ => none)
  | _ => none

/-! #### Freezing: a value without addresses, out of one with them -/
/-- Every value of a list, and all the numbers. -/
def mapL (p : AV → Option (AV × List Nat)) : List AV → Option (List AV × List Nat)
  | [] => some ([], [])
  | x :: xs => match p x, mapL p xs with
    | some (y, i), some (ys, j) => some (y :: ys, i ++ j)
    | _, _ => none
def purify : Nat → Heap → AV → Option (AV × List Nat)
  | 0, _, _ => none
  | n + 1, H, v => match v with
    | .ref id off len => (match H id with
      | some b => if off + len * b.esz ≤ b.cells.length ∧ b.esz ≠ 0 ∧ (b.agg = true ∨ b.esz = 1) then
          (match mapL (purify n H) ((b.cells.drop off).take (len * b.esz)) with
          | some (cs, ids) => some (.lst false (elems b.agg b.esz len cs), id :: ids)
          | none => none)
        else none
      | none => none)
    | .agg cs => (match mapL (purify n H) cs with
      | some (ds, ids) => some (.agg ds, ids)
      | none => none)
    | .tup cs => (match mapL (purify n H) cs with
      | some (ds, ids) => some (.tup ds, ids)
      | none => none)
    | v => if v.pure then some (v, []) else none
end Vm
