/- The machine over pure values: a walk cut in two. (Own work of this repo.) -/
import Derived.Test.YtpfcijgcjghgeaaWords
set_option linter.unusedVariables false
set_option linter.unusedSimpArgs false
namespace Vm
open Go
section
variable {E : Env} {Q Q' : Ex → St → Prop} {all os : List Oper} {o : Oper} {dst : Option Nat} {σ : St} {g : FuncId} {ids : List Nat}
theorem Rg_mono (hq : ∀ e σ, Q e σ → Q' e σ) (h : Rg E all os σ Q) : Rg E all os σ Q' := let ⟨e, σ', h1, h2⟩ := h; ⟨e, σ', h1, hq _ _ h2⟩
theorem effK_mono (hq : ∀ e σ, Q e σ → Q' e σ) {x : Option Eff} (h : effK E all os dst Q σ x) : effK E all os dst Q' σ x := by
  unfold effK at h ⊢
  split at h
  · exact Rg_mono hq h
  · exact Rg_mono hq h
  · exact hq _ _ h
  · exact h.elim
theorem callK_mono (hq : ∀ e σ, Q e σ → Q' e σ) {x : Option Res} (h : callK E all os dst Q σ g ids x) : callK E all os dst Q' σ g ids x := by
  unfold callK at h ⊢
  split at h
  · exact Rg_mono hq h
  · exact hq _ _ h
  · exact h.elim
theorem argK_mono (hq : ∀ e σ, Q e σ → Q' e σ) {x : Option (List AV × List Nat)} (h : argK E all os dst Q σ g x) : argK E all os dst Q' σ g x := by
  unfold argK at h ⊢
  split at h
  · exact callK_mono hq h
  · exact h.elim
theorem openK_mono (hq : ∀ e σ, Q e σ → Q' e σ) {x : Option (Res × Heap × Nat)} (h : openK E all os dst Q σ x) : openK E all os dst Q' σ x := by
  unfold openK at h ⊢
  split at h
  · exact Rg_mono hq h
  · exact hq _ _ h
  · exact h.elim
theorem targK_mono (hq : ∀ e σ, Q e σ → Q' e σ) {x : Option (FuncId × List AV)} (h : targK E all os o Q σ x) : targK E all os o Q' σ x := by
  unfold targK at h ⊢
  split at h
  · split at h
    · rename_i hc; rw [if_pos hc]; exact openK_mono hq h
    · rename_i hc; rw [if_neg hc]; exact argK_mono hq h
  · exact effK_mono hq h
theorem wantK_mono (hq : ∀ e σ, Q e σ → Q' e σ) {x : Option Bool} (h : wantK E all os o Q σ x) : wantK E all os o Q' σ x := by
  unfold wantK at h ⊢
  split at h
  · exact targK_mono hq h
  · exact Rg_mono hq h
  · exact h.elim
theorem thenK_mono {b : Code} (hq : ∀ e σ, Q e σ → Q' e σ) : ∀ e σ, thenK E b Q e σ → thenK E b Q' e σ := by
  intro e σ h
  cases e with
  | norm => exact W_mono h hq
  | exit i => exact hq _ _ h
  | ret => exact hq _ _ h
  | panic v => exact hq _ _ h
theorem blockK_mono {i : Nat} (hq : ∀ e σ, Q e σ → Q' e σ) : ∀ e σ, blockK i Q e σ → blockK i Q' e σ := by
  intro e σ h
  cases e with
  | norm => exact hq _ _ h
  | exit j => rw [blockK_exit] at h ⊢; split at h <;> rename_i hj <;> simp only [hj, if_true, if_false] <;> exact hq _ _ h
  | ret => exact hq _ _ h
  | panic v => exact hq _ _ h
theorem condK_mono {a b : Code} (hq : ∀ e σ, Q e σ → Q' e σ) {x : Option AV} (h : condK E a b Q σ x) : condK E a b Q' σ x := by
  unfold condK at h ⊢
  split at h
  · split at h <;> rename_i ht
    · rw [if_pos ht]; exact W_mono h hq
    · rw [if_neg ht]; exact W_mono h hq
  · exact h.elim
variable {next next' : List Rec → St → Prop} {acc : List Rec}
theorem reK_mono (hn : ∀ acc σ, next acc σ → next' acc σ) {x : Option Eff} (h : reK dst next acc σ x) : reK dst next' acc σ x := by
  unfold reK at h ⊢
  split at h
  · exact hn _ _ h
  · exact hn _ _ h
  · exact h.elim
theorem rcK_mono (hn : ∀ acc σ, next acc σ → next' acc σ) {x : Option Res} (h : rcK dst next acc σ ids x) : rcK dst next' acc σ ids x := by
  unfold rcK at h ⊢
  split at h
  · exact hn _ _ h
  · exact h.elim
theorem raK_mono (hn : ∀ acc σ, next acc σ → next' acc σ) {x : Option (List AV × List Nat)} (h : raK E dst next acc σ g x) : raK E dst next' acc σ g x := by
  unfold raK at h ⊢
  split at h
  · exact rcK_mono hn h
  · exact h.elim
theorem rtK_mono (hn : ∀ acc σ, next acc σ → next' acc σ) {x : Option (FuncId × List AV)} (h : rtK E o next acc σ x) : rtK E o next' acc σ x := by
  unfold rtK at h ⊢
  split at h
  · exact raK_mono hn h
  · exact reK_mono hn h
theorem rwK_mono (hn : ∀ acc σ, next acc σ → next' acc σ) {x : Option Bool} (h : rwK E o next acc σ x) : rwK E o next' acc σ x := by
  unfold rwK at h ⊢
  split at h
  · exact rtK_mono hn h
  · exact hn _ _ h
  · exact h.elim
theorem Rc_mono (hq : ∀ σ, Q .norm σ → Q' .norm σ) : ∀ (os : List Oper) (acc : List Rec) (σ : St), Rc E all Q os acc σ → Rc E all Q' os acc σ
  | [], acc, σ, h => ⟨h.1, hq _ h.2⟩
  | o :: os, acc, σ, h => by
    simp only [Rc] at h ⊢
    exact rwK_mono (fun acc σ => Rc_mono hq os acc σ) h
end
end Vm
