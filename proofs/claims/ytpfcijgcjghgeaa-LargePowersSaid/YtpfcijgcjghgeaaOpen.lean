/- The machine over pure values: how one walks through a function that works over the caller's heap. (Own work of this repo.) -/
import Derived.Test.YtpfcijgcjghgeaaCut
set_option linter.unusedVariables false
set_option linter.unusedSimpArgs false
namespace Vm
open Go
section
variable {E : Env} {σ : St}
def resO (R : AV → Heap → Nat → Prop) (σ : St) : Option (List AV) → Prop
  | some vs => R (one vs) σ.h σ.nx
  | none => False
def retO (E : Env) (rs : List ResultVar) (R : AV → Heap → Nat → Prop) : Ex → St → Prop
  | .ret, σ => resO R σ (resOf E σ.h σ.sl rs)
  | .norm, σ => resO R σ (resOf E σ.h σ.sl rs)
  | _, _ => False
theorem resO_some {R : AV → Heap → Nat → Prop} {vs : List AV} : resO R σ (some vs) = R (one vs) σ.h σ.nx := rfl
theorem retO_ret {rs : List ResultVar} {R : AV → Heap → Nat → Prop} : retO E rs R .ret σ = resO R σ (resOf E σ.h σ.sl rs) := rfl
theorem retO_norm {rs : List ResultVar} {R : AV → Heap → Nat → Prop} : retO E rs R .norm σ = resO R σ (resOf E σ.h σ.sl rs) := rfl
theorem denO_intro {f : FuncId} {fn : Func} {c : Code} {args : List AV} {h : Heap} {nx : Nat} {R : AV → Heap → Nat → Prop} (hf : E.fn f = some fn) (hb : fn.body = some c)
    (hw : W E c ⟨args ++ List.replicate (fn.ntmps - args.length) undef, h, nx⟩ (retO E fn.results.toList R)) : ∃ v h' nx', denO E f args h nx = some (.ret v, h', nx') ∧ R v h' nx' := by
  obtain ⟨e, σ', hd, hq⟩ := hw
  unfold denO
  simp only [body, hf, hb, hd]
  have key : resO R σ' (resOf E σ'.h σ'.sl fn.results.toList) → ∃ vs, resOf E σ'.h σ'.sl fn.results.toList = some vs ∧ R (one vs) σ'.h σ'.nx := by
    intro hr
    unfold resO at hr
    split at hr
    · rename_i vs h1; exact ⟨vs, h1, hr⟩
    · exact hr.elim
  cases e with
  | ret =>
    obtain ⟨vs, h1, h2⟩ := key hq
    exact ⟨_, _, _, by simp only [h1], h2⟩
  | norm =>
    obtain ⟨vs, h1, h2⟩ := key hq
    exact ⟨_, _, _, by simp only [h1], h2⟩
  | exit i => exact hq.elim
  | panic v => exact hq.elim
theorem denO_eq {f : FuncId} {fn : Func} {c : Code} {args : List AV} {h h' : Heap} {nx nx' : Nat} {v : AV} (hf : E.fn f = some fn) (hb : fn.body = some c)
    (hw : W E c ⟨args ++ List.replicate (fn.ntmps - args.length) undef, h, nx⟩ (retO E fn.results.toList (fun r g n => r = v ∧ g = h' ∧ n = nx'))) : denO E f args h nx = some (.ret v, h', nx') := by
  obtain ⟨r, g, n, h1, rfl, rfl, rfl⟩ := denO_intro hf hb hw
  exact h1
theorem openK_ex {all os : List Oper} {dst : Option Nat} {Q : Ex → St → Prop} {α : Type} {x : Option (Res × Heap × Nat)} {v : AV} {n : Nat} {C : α → Heap → Prop} (h : ∃ o h', x = some (.ret v, h', n) ∧ C o h') (k : ∀ o h', C o h' → Rg E all os ⟨put σ.sl dst v, h', n⟩ Q) : openK E all os dst Q σ x := by
  obtain ⟨o, h', rfl, hc⟩ := h
  exact k o h' hc
theorem upd_same {h : Heap} {i : Nat} {b : Option Blk} : (h.upd i b) i = b := if_pos rfl
theorem upd_ne {h : Heap} {i j : Nat} {b : Option Blk} (e : j ≠ i) : (h.upd i b) j = h j := if_neg e
end
end Vm
