/- The machine over pure values and the model's world: a function of the program, called from outside. (Own work of this repo.) -/
import Derived.Test.YtpfcijgcjghgeaaVm21
import Derived.Below
set_option linter.unusedVariables false
set_option linter.unusedSimpArgs false
namespace Vm
open Go Go.RowKit

/-- No heap of the machine's own. -/
def C0 (w : World) : Cx := ⟨Heap.empty, fun _ => 0, fun _ => False, fun _ => False, w⟩
theorem C0_ok (w : World) : (C0 w).Ok :=
  ⟨fun _ _ _ _ h => absurd h (by simp [C0, Heap.empty]), fun _ _ h => absurd h (by simp [C0, Heap.empty]), fun _ _ h => absurd h (by simp [C0, Heap.empty]), fun _ _ h => absurd h (by simp [C0, Heap.empty]), fun _ h => h.elim⟩
theorem C0_wr (w : World) (b : Nat) : ¬ (C0 w).wr b := fun h => h.elim id fun ⟨_, _, h, _⟩ => by simp [C0, Heap.empty] at h

theorem denP_calls {P : Program} {E : Env} (hE : POk P E) {f : FuncId} {l : List AV} {x : AV} (h : denP E f l = some (.ret x)) (w : World) (vs : Array Value) (hr : RepL (C0 w) vs.toList l) (hp : AV.pureL l = true) :
    Calls P f vs w fun e w' => Below w.heap.size w w' ∧ ∃ v, e = .returned v ∧ Rep (C0 w') v x := by
  refine Calls.mono (denP_ok hE f l _ h (C0 w) vs (C0_ok w) hr hp).2 ?_
  rintro e w' ⟨le, ok, v, rfl, hv, _⟩
  refine ⟨⟨le.env.1, le.env.2.1, le.env.2.2, le.size, fun k hk => le.mem k hk (fun ho => C0_wr w k (.inr ho))⟩, v, rfl, hv⟩
end Vm
