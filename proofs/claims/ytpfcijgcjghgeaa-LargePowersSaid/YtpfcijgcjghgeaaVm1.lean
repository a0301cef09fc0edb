/- A small machine over pure values that stands for the model's machine: how it runs; that its runs are a least fixed point. (Own work of this repo.) -/
import Derived.Test.YtpfcijgcjghgeaaVm0
set_option linter.unusedVariables false
set_option linter.unusedSimpArgs false
namespace Vm
open Go

inductive Res where
  | ret (v : AV)
  | panic (v : AV)

structure St where
  sl : List AV
  h : Heap
  nx : Nat

def put (sl : List AV) (d : Option Nat) (v : AV) : List AV :=
  match d with
  | some d => sl.set d v
  | none => sl

def freezes (H : Heap) : List Nat → List (Nat × Option Blk)
  | [] => []
  | i :: is => (i, (H i).map fun b => { b with fz := true }) :: freezes H is

/-- How deep a value is made free of addresses. -/
def deep : Nat := 5

def pcallEff (dp : FuncId → List AV → Option Res) (H : Heap) (g : FuncId) (l : List AV) : Option Eff :=
  match mapL (purify deep H) l with
  | some (l', ids) => (match dp g l' with
    | some (.ret v) => some ⟨.val v, ids, freezes H ids, false⟩
    | some (.panic v) => some ⟨.panic v, ids, freezes H ids, false⟩
    | none => none)
  | none => none

/-- An operation whose effect is told: no call over the caller's own heap. -/
def anyEff (E : Env) (dp : FuncId → List AV → Option Res) (H : Heap) (nid : Nat) (sl : List AV) (op : Op) : Option Eff :=
  match target sl op with
  | some (g, l) => pcallEff dp H g l
  | none => opEff E H nid sl op

/-- Is the operation carried out? ('none': that cannot be told.) -/
def want (all : List Oper) (sl : List AV) (o : Oper) : Option Bool :=
  match o.guard with
  | none => some true
  | some (j, w) => (match all[j]? with
    | none => some false
    | some q => (match q.dst with
      | none => some false
      | some d => (match sl[d]? with
        | none => some false
        | some (.bool b) => some (b == w)
        | some (.tup _) => some false
        | _ => none)))

inductive Ex where
  | norm
  | exit (id : Nat)
  | ret
  | panic (v : AV)

def St.eff (σ : St) (e : Eff) : St := ⟨σ.sl, σ.h.upds e.ups, if e.new then σ.nx + 1 else σ.nx⟩
def St.put (σ : St) (d : Option Nat) (v : AV) : St := { σ with sl := Vm.put σ.sl d v }

/-- The calls: of a function over a heap of its own, and over the caller's. -/
structure Cl where
  p : FuncId → List AV → Option Res
  o : FuncId → List AV → Heap → Nat → Option (Res × Heap × Nat)

def runOps (E : Env) (C : Cl) (all : List Oper) : List Oper → St → Option (Ex × St)
  | [], σ => some (.norm, σ)
  | o :: os, σ =>
    match want all σ.sl o with
    | some true =>
      (match target σ.sl o.op with
      | some (g, l) =>
        if E.opn g then
          (match C.o g l σ.h σ.nx with
          | some (.ret v, h, n) => runOps E C all os (St.put ⟨σ.sl, h, n⟩ o.dst v)
          | some (.panic v, h, n) => some (.panic v, ⟨σ.sl, h, n⟩)
          | none => none)
        else
          (match pcallEff C.p σ.h g l with
          | some e => (match e.out with
            | .val v => runOps E C all os ((σ.eff e).put o.dst v)
            | .skip => runOps E C all os ((σ.eff e).put o.dst undef)
            | .panic v => some (.panic v, σ.eff e))
          | none => none)
      | none =>
        (match opEff E σ.h σ.nx σ.sl o.op with
        | some e => (match e.out with
          | .val v => runOps E C all os ((σ.eff e).put o.dst v)
          | .skip => runOps E C all os ((σ.eff e).put o.dst undef)
          | .panic v => some (.panic v, σ.eff e))
        | none => none))
    | some false => runOps E C all os (σ.put o.dst undef)
    | none => none

/-! #### A statement that leaves its order open -/
inductive RK where
  | ok
  | pan
  | dead
structure Rec where
  k : RK
  dst : Option Nat
  val : AV
  rds : List Nat
  ups : List (Nat × Option Blk)
  nid : Option Nat

/-- What must stand before an operation: the bits of its number. -/
def maskOf (acc : List Nat) : List Edge → Nat
  | [] => 0
  | e :: es => if Region.binds .any e then maskOf acc es ||| 2 ^ e.on ||| acc.getD e.on 0 else maskOf acc es
def masks : List Oper → List Nat → List Nat
  | [], acc => acc
  | o :: os, acc => masks os (acc ++ [maskOf acc o.after.toList])
def befBit (all : List Oper) (i q : Nat) : Bool := ((masks all []).getD i 0).testBit q

def recs (E : Env) (dp : FuncId → List AV → Option Res) (all : List Oper) : List Oper → Nat → Option (Nat × AV) → St → Option (List Rec × Option (Nat × AV) × St)
  | [], _, p, σ => some ([], p, σ)
  | o :: os, i, p, σ =>
    match (match p with | some (q, _) => befBit all i q | none => false) with
    | true =>
      (match recs E dp all os (i + 1) p σ with
      | some (rs, p', σ') => some (⟨.dead, none, undef, [], [], none⟩ :: rs, p', σ')
      | none => none)
    | false => (match want all σ.sl o with
      | some true =>
        (match anyEff E dp σ.h σ.nx σ.sl o.op with
        | some e => (match e.out with
          | .val v => (match recs E dp all os (i + 1) p ((σ.eff e).put o.dst v) with
            | some (rs, p', σ') => some (⟨.ok, o.dst, v, e.rds, e.ups, if e.new then some σ.nx else none⟩ :: rs, p', σ')
            | none => none)
          | .skip => (match recs E dp all os (i + 1) p ((σ.eff e).put o.dst undef) with
            | some (rs, p', σ') => some (⟨.ok, o.dst, undef, e.rds, e.ups, if e.new then some σ.nx else none⟩ :: rs, p', σ')
            | none => none)
          | .panic v => (match p with
            | some _ => none
            | none => if e.ups.isEmpty && !e.new then (match recs E dp all os (i + 1) (some (i, v)) σ with
              | some (rs, p', σ') => some (⟨.pan, none, v, e.rds, [], none⟩ :: rs, p', σ')
              | none => none) else none))
        | none => none)
      | some false => (match recs E dp all os (i + 1) p (σ.put o.dst undef) with
        | some (rs, p', σ') => some (⟨.ok, o.dst, undef, [], [], none⟩ :: rs, p', σ')
        | none => none)
      | none => none)

def disj (a b : List Nat) : Bool := a.all fun x => !b.contains x
def Rec.ids (r : Rec) : List Nat := r.ups.map (·.1)
/-- May the two change places? -/
def Rec.free (r s : Rec) : Bool := disj r.ids (s.rds ++ s.ids) && disj s.ids r.rds
def Rec.quiet (r : Rec) : Bool := r.ups.isEmpty
def dynOne (all : List Oper) (i : Nat) (r : Rec) : Nat → List Rec → Bool
  | _, [] => true
  | j, s :: ss => (match r.free s with | true => true | false => befBit all j i) && dynOne all i r (j + 1) ss
def dynOk (all : List Oper) : Nat → List Rec → Bool
  | _, [] => true
  | i, r :: rs => dynOne all i r (i + 1) rs && dynOk all (i + 1) rs

def runDraw (E : Env) (C : Cl) (ops : List Oper) (σ : St) : Option (Ex × St) :=
  match recs E C.p ops ops 0 none σ with
  | some (rs, none, σ') => (match (match rs.all Rec.quiet with | true => true | false => dynOk ops 0 rs) with
    | true => some (.norm, σ')
    | false => none)
  | some (rs, some (_, v), σ') => (match (match rs.all Rec.quiet with | true => true | false => dynOk ops 0 rs && rs.all (fun r => r.ids.all fun i => σ.nx ≤ i)) with
    | true => some (.panic v, ⟨σ.sl, σ.h, σ'.nx⟩)
    | false => none)
  | none => none

/-! #### Code -/
def step (E : Env) (C : Cl) (again : Code → St → Option (Ex × St)) : Code → St → Option (Ex × St)
  | .skip, σ => some (.norm, σ)
  | .region _ ops draw, σ => if draw then runDraw E C ops.toList σ else runOps E C ops.toList ops.toList σ
  | .seq a b, σ => (match step E C again a σ with
    | some (.norm, σ') => step E C again b σ'
    | some (.exit i, σ') => some (.exit i, σ')
    | some (.ret, σ') => some (.ret, σ')
    | some (.panic v, σ') => some (.panic v, σ')
    | none => none)
  | .cond c a b, σ => (match ev σ.sl c with
    | some (.bool true) => step E C again a σ
    | some (.bool false) => step E C again b σ
    | _ => none)
  | .block i c, σ => (match step E C again c σ with
    | some (.norm, σ') => some (.norm, σ')
    | some (.exit j, σ') => if j = i then some (.norm, σ') else some (.exit j, σ')
    | some (.ret, σ') => some (.ret, σ')
    | some (.panic v, σ') => some (.panic v, σ')
    | none => none)
  | .loop c, σ => (match again c σ with
    | some (.norm, σ') => again (.loop c) σ'
    | some (.exit i, σ') => some (.exit i, σ')
    | some (.ret, σ') => some (.ret, σ')
    | some (.panic v, σ') => some (.panic v, σ')
    | none => none)
  | .exit i, σ => some (.exit i, σ)
  | .ret, σ => some (.ret, σ)
  | _, _ => none

/-- What a function hands back. -/
def resOf (E : Env) (h : Heap) (sl : List AV) : List ResultVar → Option (List AV)
  | [] => some []
  | .tmp t :: rs => (match resOf E h sl rs with
    | some vs => some (sl.getD t undef :: vs)
    | none => none)
  | .cell a t :: rs => (match loadEff E h t (sl.getD a undef), resOf E h sl rs with
    | some ⟨.val v, _, _, _⟩, some vs => some (v :: vs)
    | _, _ => none)
def one : List AV → AV
  | [v] => v
  | vs => .tup vs

/-- A function's body over a heap. -/
def body (E : Env) (again : Code → St → Option (Ex × St)) (f : FuncId) (l : List AV) (h : Heap) (nx : Nat) : Option (Res × Heap × Nat) :=
  match E.fn f with
  | some fn => (match fn.body with
    | some c => (match again c ⟨l ++ List.replicate (fn.ntmps - l.length) undef, h, nx⟩ with
      | some (.norm, σ) | some (.ret, σ) => (match resOf E σ.h σ.sl fn.results.toList with
        | some vs => some (.ret (one vs), σ.h, σ.nx)
        | none => none)
      | some (.panic v, σ) => some (.panic v, σ.h, σ.nx)
      | _ => none)
    | none => none)
  | none => none
/-- A function over a heap of its own: its arguments and results bear no address. -/
def bodyP (E : Env) (again : Code → St → Option (Ex × St)) (f : FuncId) (l : List AV) : Option Res :=
  if AV.pureL l then
    (match body E again f l Heap.empty 0 with
    | some (.ret v, h, _) => (match purify deep h v with
      | some (v', _) => some (.ret v')
      | none => none)
    | some (.panic v, h, _) => (match purify deep h v with
      | some (v', _) => some (.panic v')
      | none => none)
    | none => none)
  else none
def cl (E : Env) (again : Code → St → Option (Ex × St)) : Cl := ⟨bodyP E again, body E again⟩

def exec (E : Env) : Nat → Code → St → Option (Ex × St)
  | 0 => fun _ _ => none
  | n + 1 => step E (cl E (exec E n)) (exec E n)
end Vm
