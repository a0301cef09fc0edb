/- The machine over pure values and the model's world: one operation (I). (Own work of this repo.) -/
import Derived.Test.YtpfcijgcjghgeaaVm5
set_option linter.unusedVariables false
set_option linter.unusedSimpArgs false
namespace Vm
open Go

structure After (C : Cx) (e : Eff) (nid : Nat) (C' : Cx) : Prop where
  H : C'.H = C.H.upds e.ups
  B : C'.B = fun i => C.B i ∨ (e.new = true ∧ i = nid)
  ok : C'.Ok
  le : C.Le C'
def OpOk (P : Program) (o : Oper) (a : Act) (C : Cx) (e : Eff) (nid : Nat) : Prop :=
  match e.out with
  | .val x => ∃ v C', (execOp a.eval o).run P C.w = .ok (.value v) C'.w ∧ After C e nid C' ∧ Rep C' v x
  | .skip => ∃ C', (execOp a.eval o).run P C.w = .ok .skip C'.w ∧ After C e nid C'
  | .panic x => ∃ v, (execOp a.eval o).run P C.w = .halt (.panic v) C.w ∧ Rep C v x ∧ e.ups = [] ∧ e.new = false

section
variable {P : Program} {o : Oper} {a : Act} {C : Cx} {nid : Nat}
theorem After.same (h : C.Ok) {out : Out} {rds : List Nat} : After C ⟨out, rds, [], false⟩ nid C :=
  ⟨rfl, by funext i; simp, h, Cx.Le.refl C⟩
theorem OpOk.pure (h : C.Ok) {v : Value} {x : AV} {rds : List Nat} (hrun : (execOp a.eval o).run P C.w = .ok (.value v) C.w) (r : Rep C v x) : OpOk P o a C ⟨.val x, rds, [], false⟩ nid :=
  ⟨v, C, hrun, .same h, r⟩
theorem run_v {P : Program} {w : World} (s : Sem Value) : (do pure (Next.value (← s)) : Sem Next).run P w = (s.run P w).andThen fun v w => .ok (.value v) w := by simp
theorem Eff.v_eq {x : AV} {e : Eff} (h : Eff.v x = some e) : e = ⟨.val x, [], [], false⟩ := by cases h; rfl

theorem rep_bool {v : Value} {b : Bool} (h : Rep C v (.bool b)) : v = .bool b := by cases h; rfl
theorem rep_int {v : Value} {k : IntKind} {n : Int} (h : Rep C v (.int k n)) : v = .int k n := by cases h; rfl
theorem rep_str {v : Value} {s : ByteArray} (h : Rep C v (.str s)) : v = .string s := by cases h; rfl
theorem rep_agg {v : Value} {cs : List AV} (h : Rep C v (.agg cs)) : ∃ vs, v = .agg vs ∧ vs.size = cs.length ∧ ∀ (j : Nat) (v : Value) (x : AV), vs[j]? = some v → cs[j]? = some x → Rep C v x := by
  cases h with | agg vs _ h r => exact ⟨vs, rfl, h, r⟩

/-- Cells against cells. -/
def CRel (C : Cx) (vs : Array Value) (cs : List AV) : Prop := vs.size = cs.length ∧ ∀ (j : Nat) (c : AV), cs[j]? = some c → ∃ v, vs[j]? = some v ∧ Rep C v c
theorem cells_one {v : Value} (h : v.oneCell' = true) : v.cells = #[v] := by cases v <;> first | rfl | simp [Value.oneCell'] at h
theorem rep_cells {v : Value} {x : AV} (h : Rep C v x) : CRel C v.cells x.cells := by
  have one : ∀ (v : Value) (x : AV), v.cells = #[v] → x.cells = [x] → Rep C v x → CRel C v.cells x.cells := by
    intro v x h1 h2 h
    rw [h1, h2]
    refine ⟨rfl, fun j c hc => ?_⟩
    cases j with
    | zero => simp at hc; subst hc; exact ⟨v, rfl, h⟩
    | succ j => simp at hc
  cases h with
  | agg vs cs hs r =>
    refine ⟨hs, fun j c hc => ?_⟩
    have hj : j < cs.length := (List.getElem?_eq_some_iff.1 hc).1
    have hv : vs[j]? = some vs[j] := Array.getElem?_eq_getElem (by omega)
    exact ⟨_, hv, r j _ _ hv hc⟩
  | tup vs cs hs r => exact one _ _ rfl rfl (.tup vs cs hs r)
  | int k n => exact one _ _ rfl rfl (.int k n)
  | bool b => exact one _ _ rfl rfl (.bool b)
  | str s => exact one _ _ rfl rfl (.str s)
  | lnil => exact one _ _ rfl rfl .lnil
  | lst a cap esz xs u hc hz hm hu ho hr => exact one _ _ rfl rfl (.lst a cap esz xs u hc hz hm hu ho hr)
  | ref v id off len h1 hB h => exact one _ _ (cells_one h1) rfl (.ref v id off len h1 hB h)
  | ptr v id off h1 hB h => exact one _ _ (cells_one h1) rfl (.ptr v id off h1 hB h)
  | imm a cs u hm hu hr => exact one _ _ rfl rfl (.imm a cs u hm hu hr)
  | nilp => exact one _ _ rfl rfl .nilp
  | fn f fi ca l m h1 h2 r1 r2 => exact one _ _ rfl rfl (.fn f fi ca l m h1 h2 r1 r2)
  | nilf => exact one _ _ rfl rfl .nilf
  | iface t v x h => exact one _ _ rfl rfl (.iface t v x h)
  | nili => exact one _ _ rfl rfl .nili
end
end Vm
