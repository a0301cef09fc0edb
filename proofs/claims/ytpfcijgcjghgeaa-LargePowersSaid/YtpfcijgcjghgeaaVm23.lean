/- The machine over pure values: how one walks through code. (Own work of this repo.) -/
import Derived.Test.YtpfcijgcjghgeaaVm22
import Derived.Laws.BitsAllLaws
import Derived.Laws.Bits64
set_option linter.unusedVariables false
set_option linter.unusedSimpArgs false
namespace Vm
open Go

def W (E : Env) (c : Code) (σ : St) (Q : Ex → St → Prop) : Prop := ∃ e σ', den E c σ = some (e, σ') ∧ Q e σ'
def Rg (E : Env) (all os : List Oper) (σ : St) (Q : Ex → St → Prop) : Prop := ∃ e σ', runOps E (cl E (den E)) all os σ = some (e, σ') ∧ Q e σ'

/-- Behind a piece of code another one. -/
def thenK (E : Env) (b : Code) (Q : Ex → St → Prop) : Ex → St → Prop
  | .norm, σ => W E b σ Q
  | e, σ => Q e σ
def blockK (i : Nat) (Q : Ex → St → Prop) : Ex → St → Prop
  | .exit j, σ => if j = i then Q .norm σ else Q (.exit j) σ
  | e, σ => Q e σ
section
variable {E : Env} {Q : Ex → St → Prop} {σ : St}
@[simp] theorem thenK_norm {b : Code} : thenK E b Q .norm σ = W E b σ Q := rfl
@[simp] theorem thenK_exit {b : Code} {i : Nat} : thenK E b Q (.exit i) σ = Q (.exit i) σ := rfl
@[simp] theorem thenK_ret {b : Code} : thenK E b Q .ret σ = Q .ret σ := rfl
@[simp] theorem thenK_panic {b : Code} {v : AV} : thenK E b Q (.panic v) σ = Q (.panic v) σ := rfl
@[simp] theorem blockK_norm {i : Nat} : blockK i Q .norm σ = Q .norm σ := rfl
@[simp] theorem blockK_exit {i j : Nat} : blockK i Q (.exit j) σ = if j = i then Q .norm σ else Q (.exit j) σ := rfl
@[simp] theorem blockK_ret {i : Nat} : blockK i Q .ret σ = Q .ret σ := rfl
@[simp] theorem blockK_panic {i : Nat} {v : AV} : blockK i Q (.panic v) σ = Q (.panic v) σ := rfl

theorem W_mono {Q' : Ex → St → Prop} {c : Code} (h : W E c σ Q) (hq : ∀ e σ, Q e σ → Q' e σ) : W E c σ Q' := let ⟨e, σ', h1, h2⟩ := h; ⟨e, σ', h1, hq _ _ h2⟩
theorem W_of {c : Code} {r : Ex × St} (h : step E (cl E (den E)) (den E) c σ = some r) (hq : Q r.1 r.2) : W E c σ Q := ⟨r.1, r.2, by rw [den_eq]; exact h, hq⟩
theorem W_step {c : Code} : W E c σ Q ↔ ∃ e σ', step E (cl E (den E)) (den E) c σ = some (e, σ') ∧ Q e σ' := by unfold W; rw [den_eq]
theorem W_skip : W E .skip σ Q = Q .norm σ := propext ⟨fun ⟨e, σ', h, hq⟩ => by rw [den_eq] at h; cases h; exact hq, fun h => W_of rfl h⟩
theorem W_ret : W E .ret σ Q = Q .ret σ := propext ⟨fun ⟨e, σ', h, hq⟩ => by rw [den_eq] at h; cases h; exact hq, fun h => W_of rfl h⟩
theorem W_exit {i : Nat} : W E (.exit i) σ Q = Q (.exit i) σ := propext ⟨fun ⟨e, σ', h, hq⟩ => by rw [den_eq] at h; cases h; exact hq, fun h => W_of rfl h⟩
theorem W_seq {a b : Code} : W E (.seq a b) σ Q = W E a σ (thenK E b Q) := by
  refine propext ⟨?_, ?_⟩
  · rintro ⟨e, σ', h, hq⟩
    rw [den_eq] at h
    simp only [step] at h
    split at h
    · rename_i σ1 h1
      refine ⟨_, _, by rw [den_eq]; exact h1, ?_⟩
      exact ⟨e, σ', by rw [den_eq]; exact h, hq⟩
    all_goals first | (cases h; done) | skip
    all_goals
      rename_i h1
      cases h
      exact ⟨_, _, (den_eq E _ _).trans h1, hq⟩
  · rintro ⟨e, σ', h, hq⟩
    rw [den_eq] at h
    cases e with
    | norm =>
      obtain ⟨e2, σ2, h2, hq2⟩ := hq
      rw [den_eq] at h2
      refine W_of (r := (e2, σ2)) ?_ hq2
      simp only [step, h, h2]
    | exit i => exact W_of (r := (.exit i, σ')) (by simp only [step, h]) hq
    | ret => exact W_of (r := (.ret, σ')) (by simp only [step, h]) hq
    | panic v => exact W_of (r := (.panic v, σ')) (by simp only [step, h]) hq
theorem W_block {i : Nat} {c : Code} : W E (.block i c) σ Q = W E c σ (blockK i Q) := by
  refine propext ⟨?_, ?_⟩
  · rintro ⟨e, σ', h, hq⟩
    rw [den_eq] at h
    simp only [step] at h
    split at h
    · rename_i σ1 h1
      cases h
      exact ⟨_, _, (den_eq E _ _).trans h1, hq⟩
    · rename_i j σ1 h1
      refine ⟨_, _, by rw [den_eq]; exact h1, ?_⟩
      rw [blockK_exit]
      split at h
      · rename_i hj; cases h; rw [if_pos hj]; exact hq
      · rename_i hj; cases h; rw [if_neg hj]; exact hq
    all_goals first | (cases h; done) | skip
    all_goals
      rename_i h1
      cases h
      exact ⟨_, _, (den_eq E _ _).trans h1, hq⟩
  · rintro ⟨e, σ', h, hq⟩
    rw [den_eq] at h
    cases e with
    | norm => exact W_of (r := (.norm, σ')) (by simp only [step, h]) hq
    | exit j =>
      rw [blockK_exit] at hq
      split at hq
      · rename_i hj; exact W_of (r := (.norm, σ')) (by simp only [step, h, if_pos hj]) hq
      · rename_i hj; exact W_of (r := (.exit j, σ')) (by simp only [step, h, if_neg hj]) hq
    | ret => exact W_of (r := (.ret, σ')) (by simp only [step, h]) hq
    | panic v => exact W_of (r := (.panic v, σ')) (by simp only [step, h]) hq
theorem W_cond {c : Operand} {a b : Code} {t : Bool} (h : ev σ.sl c = some (.bool t)) : W E (.cond c a b) σ Q = if t = true then W E a σ Q else W E b σ Q := by
  refine propext ?_
  simp only [W_step, step, h]
  cases t <;> simp
theorem W_region {i : Nat} {ops : Array Oper} : W E (.region i ops false) σ Q = Rg E ops.toList ops.toList σ Q := by
  refine propext ?_
  rw [W_step]
  simp only [step, Bool.false_eq_true, if_false]
  rfl
theorem W_draw {i : Nat} {ops : Array Oper} {r : Ex × St} (h : runDraw E (cl E (den E)) ops.toList σ = some r) : W E (.region i ops true) σ Q = Q r.1 r.2 := by
  refine propext ?_
  rw [W_step]
  simp only [step, if_true, h]
  exact ⟨fun ⟨e, σ', h, hq⟩ => by cases h; exact hq, fun hq => ⟨_, _, rfl, hq⟩⟩
/-- A loop: what holds at each round's start, and what falls. -/
theorem W_loop {c : Code} (I : St → Prop) (μ : St → Nat) (h0 : I σ) (round : ∀ σ, I σ → W E c σ (fun e σ' => match e with
    | .norm => I σ' ∧ μ σ' < μ σ
    | e => Q e σ')) : W E (.loop c) σ Q := by
  have key : ∀ n σ, μ σ = n → I σ → W E (.loop c) σ Q := by
    intro n
    induction n using Nat.strongRecOn with
    | _ n ih =>
      intro σ hn hI
      obtain ⟨e, σ1, h1, hq⟩ := round σ hI
      cases e with
      | norm =>
        obtain ⟨hI1, hlt⟩ := hq
        obtain ⟨e2, σ2, h2, hq2⟩ := ih (μ σ1) (by omega) σ1 rfl hI1
        exact W_of (r := (e2, σ2)) (by simp only [step, h1, h2]) hq2
      | exit i => exact W_of (r := (.exit i, σ1)) (by simp only [step, h1]) hq
      | ret => exact W_of (r := (.ret, σ1)) (by simp only [step, h1]) hq
      | panic v => exact W_of (r := (.panic v, σ1)) (by simp only [step, h1]) hq
  exact key _ σ rfl h0

/-- The same with a measure that the statement carries. -/
def loopK (I : Nat → St → Prop) (k : Nat) (Q : Ex → St → Prop) : Ex → St → Prop
  | .norm, σ => ∃ m, m < k ∧ I m σ
  | e, σ => Q e σ
@[simp] theorem loopK_norm {I : Nat → St → Prop} {k : Nat} : loopK I k Q .norm σ = ∃ m, m < k ∧ I m σ := rfl
@[simp] theorem loopK_exit {I : Nat → St → Prop} {k i : Nat} : loopK I k Q (.exit i) σ = Q (.exit i) σ := rfl
@[simp] theorem loopK_ret {I : Nat → St → Prop} {k : Nat} : loopK I k Q .ret σ = Q .ret σ := rfl
@[simp] theorem loopK_panic {I : Nat → St → Prop} {k : Nat} {v : AV} : loopK I k Q (.panic v) σ = Q (.panic v) σ := rfl
theorem W_loopI {c : Code} (I : Nat → St → Prop) (k : Nat) (h0 : I k σ) (round : ∀ k σ, I k σ → W E c σ (loopK I k Q)) : W E (.loop c) σ Q := by
  have key : ∀ n σ, I n σ → W E (.loop c) σ Q := by
    intro n
    induction n using Nat.strongRecOn with
    | _ n ih =>
      intro σ hI
      obtain ⟨e, σ1, h1, hq⟩ := round n σ hI
      cases e with
      | norm =>
        obtain ⟨m, hlt, hI1⟩ := hq
        obtain ⟨e2, σ2, h2, hq2⟩ := ih m hlt σ1 hI1
        exact W_of (r := (e2, σ2)) (by simp only [step, h1, h2]) hq2
      | exit i => exact W_of (r := (.exit i, σ1)) (by simp only [step, h1]) hq
      | ret => exact W_of (r := (.ret, σ1)) (by simp only [step, h1]) hq
      | panic v => exact W_of (r := (.panic v, σ1)) (by simp only [step, h1]) hq
  exact key k σ h0

/-- The same, the state in its parts. -/
theorem W_loopS {c : Code} (I : Nat → List AV → Heap → Nat → Prop) (k : Nat) (h0 : I k σ.sl σ.h σ.nx) (round : ∀ k sl h nx, I k sl h nx → W E c ⟨sl, h, nx⟩ (loopK (fun k σ => I k σ.sl σ.h σ.nx) k Q)) : W E (.loop c) σ Q :=
  W_loopI (fun k σ => I k σ.sl σ.h σ.nx) k h0 fun k σ h => round k σ.sl σ.h σ.nx h
theorem garb {f : (Nat → AV) → List AV} {sl : List AV} (h : f (fun i => sl.getD i undef) = sl) : ∃ g, sl = f g := ⟨_, h.symm⟩
theorem W_unroll {c : Code} : W E (.loop c) σ Q = W E c σ (thenK E (.loop c) Q) := by
  refine propext ⟨?_, ?_⟩
  · rintro ⟨e, σ', h, hq⟩
    rw [den_eq] at h
    simp only [step] at h
    split at h
    · rename_i σ1 h1
      exact ⟨_, _, h1, e, σ', h, hq⟩
    all_goals first | (cases h; done) | skip
    all_goals
      rename_i h1
      cases h
      exact ⟨_, _, h1, hq⟩
  · rintro ⟨e, σ', h, hq⟩
    cases e with
    | norm =>
      obtain ⟨e2, σ2, h2, hq2⟩ := hq
      exact W_of (r := (e2, σ2)) (by simp only [step, h, h2]) hq2
    | exit i => exact W_of (r := (.exit i, σ')) (by simp only [step, h]) hq
    | ret => exact W_of (r := (.ret, σ')) (by simp only [step, h]) hq
    | panic v => exact W_of (r := (.panic v, σ')) (by simp only [step, h]) hq
theorem Rg_nil {all : List Oper} : Rg E all [] σ Q = Q .norm σ := propext ⟨fun ⟨e, σ', h, hq⟩ => by simp only [runOps, Option.some.injEq, Prod.mk.injEq] at h; obtain ⟨rfl, rfl⟩ := h; exact hq, fun h => ⟨.norm, σ, rfl, h⟩⟩
/-- An operation that is carried out and calls nothing. -/
theorem Rg_op {all os : List Oper} {o : Oper} {v : AV} {rds : List Nat} {ups : List (Nat × Option Blk)} {new : Bool} (hw : want all σ.sl o = some true) (ht : target σ.sl o.op = none) (he : opEff E σ.h σ.nx σ.sl o.op = some ⟨.val v, rds, ups, new⟩) :
    Rg E all (o :: os) σ Q = Rg E all os ⟨put σ.sl o.dst v, σ.h.upds ups, if new then σ.nx + 1 else σ.nx⟩ Q := by
  unfold Rg
  simp only [runOps, hw, ht, he]
  rfl
theorem Rg_store {all os : List Oper} {o : Oper} {rds : List Nat} {ups : List (Nat × Option Blk)} {new : Bool} (hw : want all σ.sl o = some true) (ht : target σ.sl o.op = none) (he : opEff E σ.h σ.nx σ.sl o.op = some ⟨.skip, rds, ups, new⟩) :
    Rg E all (o :: os) σ Q = Rg E all os ⟨put σ.sl o.dst undef, σ.h.upds ups, if new then σ.nx + 1 else σ.nx⟩ Q := by
  unfold Rg
  simp only [runOps, hw, ht, he]
  rfl
theorem Rg_skip {all os : List Oper} {o : Oper} (hw : want all σ.sl o = some false) : Rg E all (o :: os) σ Q = Rg E all os ⟨put σ.sl o.dst undef, σ.h, σ.nx⟩ Q := by
  unfold Rg
  simp only [runOps, hw]
  rfl
/-- A call of a function over a heap of its own. -/
theorem Rg_call {all os : List Oper} {o : Oper} {g : FuncId} {l l' : List AV} {ids : List Nat} {v : AV} (hw : want all σ.sl o = some true) (ht : target σ.sl o.op = some (g, l)) (hg : E.opn g = false) (hl : mapL (purify deep σ.h) l = some (l', ids))
    (hd : denP E g l' = some (.ret v)) : Rg E all (o :: os) σ Q = Rg E all os ⟨put σ.sl o.dst v, σ.h.upds (freezes σ.h ids), σ.nx⟩ Q := by
  unfold Rg
  have hd' : (cl E (den E)).p g l' = some (.ret v) := hd
  simp only [runOps, hw, ht, hg, Bool.false_eq_true, if_false, pcallEff, hl, hd']
  rfl
/-- A call over the caller's heap. -/
theorem Rg_open {all os : List Oper} {o : Oper} {g : FuncId} {l : List AV} {v : AV} {h : Heap} {n : Nat} (hw : want all σ.sl o = some true) (ht : target σ.sl o.op = some (g, l)) (hg : E.opn g = true)
    (hd : denO E g l σ.h σ.nx = some (.ret v, h, n)) : Rg E all (o :: os) σ Q = Rg E all os ⟨put σ.sl o.dst v, h, n⟩ Q := by
  unfold Rg
  have hd' : (cl E (den E)).o g l σ.h σ.nx = some (.ret v, h, n) := hd
  simp only [runOps, hw, ht, hg, if_true, hd']
  rfl

/-- The one operation's part: how it goes on behind an effect. -/
def effK (E : Env) (all os : List Oper) (dst : Option Nat) (Q : Ex → St → Prop) (σ : St) : Option Eff → Prop
  | some ⟨.val v, _, ups, new⟩ => Rg E all os ⟨put σ.sl dst v, σ.h.upds ups, if new then σ.nx + 1 else σ.nx⟩ Q
  | some ⟨.skip, _, ups, new⟩ => Rg E all os ⟨put σ.sl dst undef, σ.h.upds ups, if new then σ.nx + 1 else σ.nx⟩ Q
  | some ⟨.panic v, _, ups, new⟩ => Q (.panic v) ⟨σ.sl, σ.h.upds ups, if new then σ.nx + 1 else σ.nx⟩
  | none => False
def callK (E : Env) (all os : List Oper) (dst : Option Nat) (Q : Ex → St → Prop) (σ : St) (g : FuncId) (ids : List Nat) : Option Res → Prop
  | some (.ret v) => Rg E all os ⟨put σ.sl dst v, σ.h.upds (freezes σ.h ids), σ.nx⟩ Q
  | some (.panic v) => Q (.panic v) ⟨σ.sl, σ.h.upds (freezes σ.h ids), σ.nx⟩
  | none => False
def argK (E : Env) (all os : List Oper) (dst : Option Nat) (Q : Ex → St → Prop) (σ : St) (g : FuncId) : Option (List AV × List Nat) → Prop
  | some (l, ids) => callK E all os dst Q σ g ids (denP E g l)
  | none => False
def openK (E : Env) (all os : List Oper) (dst : Option Nat) (Q : Ex → St → Prop) (σ : St) : Option (Res × Heap × Nat) → Prop
  | some (.ret v, h, n) => Rg E all os ⟨put σ.sl dst v, h, n⟩ Q
  | some (.panic v, h, n) => Q (.panic v) ⟨σ.sl, h, n⟩
  | none => False
def targK (E : Env) (all os : List Oper) (o : Oper) (Q : Ex → St → Prop) (σ : St) : Option (FuncId × List AV) → Prop
  | some (g, l) => if E.opn g = true then openK E all os o.dst Q σ (denO E g l σ.h σ.nx) else argK E all os o.dst Q σ g (mapL (purify deep σ.h) l)
  | none => effK E all os o.dst Q σ (opEff E σ.h σ.nx σ.sl o.op)
def wantK (E : Env) (all os : List Oper) (o : Oper) (Q : Ex → St → Prop) (σ : St) : Option Bool → Prop
  | some true => targK E all os o Q σ (target σ.sl o.op)
  | some false => Rg E all os ⟨put σ.sl o.dst undef, σ.h, σ.nx⟩ Q
  | none => False
section
variable {all os : List Oper} {o : Oper} {dst : Option Nat} {v : AV} {rds ids : List Nat} {ups : List (Nat × Option Blk)} {new : Bool} {g : FuncId} {l : List AV} {h : Heap} {n : Nat}
theorem effK_val : effK E all os dst Q σ (some ⟨.val v, rds, ups, new⟩) = Rg E all os ⟨put σ.sl dst v, σ.h.upds ups, if new then σ.nx + 1 else σ.nx⟩ Q := rfl
theorem effK_skip : effK E all os dst Q σ (some ⟨.skip, rds, ups, new⟩) = Rg E all os ⟨put σ.sl dst undef, σ.h.upds ups, if new then σ.nx + 1 else σ.nx⟩ Q := rfl
theorem effK_panic : effK E all os dst Q σ (some ⟨.panic v, rds, ups, new⟩) = Q (.panic v) ⟨σ.sl, σ.h.upds ups, if new then σ.nx + 1 else σ.nx⟩ := rfl
theorem callK_ret : callK E all os dst Q σ g ids (some (.ret v)) = Rg E all os ⟨put σ.sl dst v, σ.h.upds (freezes σ.h ids), σ.nx⟩ Q := rfl
theorem callK_panic : callK E all os dst Q σ g ids (some (.panic v)) = Q (.panic v) ⟨σ.sl, σ.h.upds (freezes σ.h ids), σ.nx⟩ := rfl
theorem argK_some : argK E all os dst Q σ g (some (l, ids)) = callK E all os dst Q σ g ids (denP E g l) := rfl
theorem openK_ret : openK E all os dst Q σ (some (.ret v, h, n)) = Rg E all os ⟨put σ.sl dst v, h, n⟩ Q := rfl
theorem openK_panic : openK E all os dst Q σ (some (.panic v, h, n)) = Q (.panic v) ⟨σ.sl, h, n⟩ := rfl
theorem targK_none : targK E all os o Q σ none = effK E all os o.dst Q σ (opEff E σ.h σ.nx σ.sl o.op) := rfl
theorem targK_some : targK E all os o Q σ (some (g, l)) = if E.opn g = true then openK E all os o.dst Q σ (denO E g l σ.h σ.nx) else argK E all os o.dst Q σ g (mapL (purify deep σ.h) l) := rfl
theorem wantK_t : wantK E all os o Q σ (some true) = targK E all os o Q σ (target σ.sl o.op) := rfl
theorem wantK_f : wantK E all os o Q σ (some false) = Rg E all os ⟨put σ.sl o.dst undef, σ.h, σ.nx⟩ Q := rfl
end
theorem Rg_cons {all os : List Oper} {o : Oper} : Rg E all (o :: os) σ Q = wantK E all os o Q σ (want all σ.sl o) := by
  refine propext ?_
  unfold Rg
  simp only [runOps]
  cases hw : want all σ.sl o with
  | none => simp [wantK]
  | some b =>
    cases b with
    | false => exact Iff.rfl
    | true =>
      simp only [wantK]
      cases ht : target σ.sl o.op with
      | none =>
        simp only [targK]
        cases he : opEff E σ.h σ.nx σ.sl o.op with
        | none => simp [effK]
        | some e =>
          obtain ⟨out, rds, ups, new⟩ := e
          cases out with
          | val v => exact Iff.rfl
          | skip => exact Iff.rfl
          | panic v =>
            simp only [effK]
            exact ⟨fun ⟨e, σ', h, hq⟩ => by cases h; exact hq, fun hq => ⟨_, _, rfl, hq⟩⟩
      | some gl =>
        obtain ⟨g, l⟩ := gl
        simp only [targK]
        cases hg : E.opn g with
        | true =>
          simp only [if_true]
          have : (cl E (den E)).o g l σ.h σ.nx = denO E g l σ.h σ.nx := rfl
          rw [this]
          cases hd : denO E g l σ.h σ.nx with
          | none => simp [openK]
          | some q =>
            obtain ⟨q1, q2, q3⟩ := q
            cases q1 with
            | ret v => exact Iff.rfl
            | panic v =>
              simp only [openK]
              exact ⟨fun ⟨e, σ', h, hq⟩ => by cases h; exact hq, fun hq => ⟨_, _, rfl, hq⟩⟩
        | false =>
          simp only [Bool.false_eq_true, if_false, pcallEff]
          cases hl : mapL (purify deep σ.h) l with
          | none => simp [argK]
          | some q =>
            obtain ⟨l', ids⟩ := q
            simp only [argK]
            have : (cl E (den E)).p g l' = denP E g l' := rfl
            rw [this]
            cases hd : denP E g l' with
            | none => simp [callK]
            | some r =>
              cases r with
              | ret v => exact Iff.rfl
              | panic v =>
                simp only [callK]
                exact ⟨fun ⟨e, σ', h, hq⟩ => by cases h; exact hq, fun hq => ⟨_, _, rfl, hq⟩⟩

def condK (E : Env) (a b : Code) (Q : Ex → St → Prop) (σ : St) : Option AV → Prop
  | some (.bool t) => if t = true then W E a σ Q else W E b σ Q
  | _ => False
theorem W_cond' {c : Operand} {a b : Code} : W E (.cond c a b) σ Q = condK E a b Q σ (ev σ.sl c) := by
  unfold condK
  split
  · rename_i t h; exact W_cond h
  · rename_i h
    refine propext ⟨fun hw => ?_, fun h => h.elim⟩
    rw [W_step] at hw
    obtain ⟨e, σ', h1, _⟩ := hw
    simp only [step] at h1
    split at h1
    · rename_i h2; exact h _ h2
    · rename_i h2; exact h _ h2
    · cases h1
theorem condK_t {a b : Code} : condK E a b Q σ (some (.bool true)) = W E a σ Q := rfl
theorem condK_f {a b : Code} : condK E a b Q σ (some (.bool false)) = W E b σ Q := rfl

/-- Behind a body: its results. -/
def purK (R : AV → Prop) : Option (AV × List Nat) → Prop
  | some (v, _) => R v
  | none => False
def resK (R : AV → Prop) (h : Heap) : Option (List AV) → Prop
  | some vs => purK R (purify deep h (one vs))
  | none => False
def retK (E : Env) (rs : List ResultVar) (R : AV → Prop) : Ex → St → Prop
  | .norm, σ => resK R σ.h (resOf E σ.h σ.sl rs)
  | .ret, σ => resK R σ.h (resOf E σ.h σ.sl rs)
  | _, _ => False
theorem purK_some {R : AV → Prop} {v : AV} {ids : List Nat} : purK R (some (v, ids)) = R v := rfl
theorem resK_some {R : AV → Prop} {h : Heap} {vs : List AV} : resK R h (some vs) = purK R (purify deep h (one vs)) := rfl
@[simp] theorem retK_ret {rs : List ResultVar} {R : AV → Prop} : retK E rs R .ret σ = resK R σ.h (resOf E σ.h σ.sl rs) := rfl
@[simp] theorem retK_norm {rs : List ResultVar} {R : AV → Prop} : retK E rs R .norm σ = resK R σ.h (resOf E σ.h σ.sl rs) := rfl
theorem denP_intro {f : FuncId} {fn : Func} {c : Code} {args : List AV} {R : AV → Prop} (hf : E.fn f = some fn) (hb : fn.body = some c) (hp : AV.pureL args = true)
    (h : W E c ⟨args ++ List.replicate (fn.ntmps - args.length) undef, Heap.empty, 0⟩ (retK E fn.results.toList R)) : ∃ v, denP E f args = some (.ret v) ∧ R v := by
  obtain ⟨e, σ', hd, hq⟩ := h
  unfold denP bodyP
  rw [if_pos hp]
  simp only [body, hf, hb, hd]
  have key : resK R σ'.h (resOf E σ'.h σ'.sl fn.results.toList) → ∃ vs v ids, resOf E σ'.h σ'.sl fn.results.toList = some vs ∧ purify deep σ'.h (one vs) = some (v, ids) ∧ R v := by
    intro hr
    unfold resK at hr
    split at hr
    · rename_i vs h1
      unfold purK at hr
      split at hr
      · rename_i v ids h2; exact ⟨vs, v, ids, h1, h2, hr⟩
      · exact hr.elim
    · exact hr.elim
  cases e with
  | norm =>
    obtain ⟨vs, v, ids, h1, h2, h3⟩ := key hq
    refine ⟨v, ?_, h3⟩
    simp only [h1, h2]
  | ret =>
    obtain ⟨vs, v, ids, h1, h2, h3⟩ := key hq
    refine ⟨v, ?_, h3⟩
    simp only [h1, h2]
  | exit i => exact hq.elim
  | panic v => exact hq.elim
theorem denP_eq {f : FuncId} {fn : Func} {c : Code} {args : List AV} {v : AV} (hf : E.fn f = some fn) (hb : fn.body = some c) (hp : AV.pureL args = true)
    (h : W E c ⟨args ++ List.replicate (fn.ntmps - args.length) undef, Heap.empty, 0⟩ (retK E fn.results.toList (· = v))) : denP E f args = some (.ret v) := by
  obtain ⟨v', h1, h2⟩ := denP_intro hf hb hp h
  rw [h1, h2]
theorem purify_pure {n : Nat} {H : Heap} {v : AV} (h : v.pure = true) (h1 : ∀ cs, v ≠ .agg cs) (h2 : ∀ cs, v ≠ .tup cs) : purify (n + 1) H v = some (v, []) := by
  cases v <;> simp_all [purify, AV.pure]
theorem purify_lst {n : Nat} {H : Heap} {nl : Bool} {xs : List AV} (h : AV.pureL xs = true) : purify (n + 1) H (.lst nl xs) = some (.lst nl xs, []) := by simp [purify, AV.pure, h]
theorem purify_agg {n : Nat} {H : Heap} {cs : List AV} : purify (n + 1) H (.agg cs) = (match mapL (purify n H) cs with | some (ds, ids) => some (.agg ds, ids) | none => none) := rfl
theorem purify_tup {n : Nat} {H : Heap} {cs : List AV} : purify (n + 1) H (.tup cs) = (match mapL (purify n H) cs with | some (ds, ids) => some (.tup ds, ids) | none => none) := rfl
theorem purify_int {n : Nat} {H : Heap} {k : IntKind} {i : Int} : purify (n + 1) H (.int k i) = some (.int k i, []) := rfl
theorem purify_bool {n : Nat} {H : Heap} {b : Bool} : purify (n + 1) H (.bool b) = some (.bool b, []) := rfl
theorem purify_str {n : Nat} {H : Heap} {b : ByteArray} : purify (n + 1) H (.str b) = some (.str b, []) := rfl
theorem purify_nilf {n : Nat} {H : Heap} : purify (n + 1) H .nilf = some (.nilf, []) := rfl
theorem purify_fn {n : Nat} {H : Heap} {f : FuncId} : purify (n + 1) H (.fn f [] []) = some (.fn f [] [], []) := rfl
theorem upd_apply {h : Heap} {i j : Nat} {b : Option Blk} : (h.upd i b) j = if j = i then b else h j := rfl
theorem mapL_nil {p : AV → Option (AV × List Nat)} : mapL p [] = some ([], []) := rfl
theorem mapL_cons {p : AV → Option (AV × List Nat)} {x : AV} {xs : List AV} : mapL p (x :: xs) = (match p x, mapL p xs with | some (y, i), some (ys, j) => some (y :: ys, i ++ j) | _, _ => none) := rfl
theorem setCells_nil {cs : List AV} {off : Nat} : setCells cs off [] = cs := rfl
theorem setCells_cons {cs vs : List AV} {off : Nat} {v : AV} : setCells cs off (v :: vs) = setCells (cs.set off v) (off + 1) vs := rfl
theorem setCells_one {cs : List AV} {off : Nat} {v : AV} : setCells cs off [v] = cs.set off v := rfl

/-! #### words -/
def wd (n : Nat) : AV := .int .u32 n
theorem pure_wd (l : List Nat) : AV.pureL (l.map wd) = true := by induction l <;> simp_all [AV.pureL, AV.pure, wd]
theorem get_wd {l : List Nat} {i : Int} (h0 : 0 ≤ i) (h1 : i < l.length) : (l.map wd)[i.toNat]? = some (wd (l.getD i.toNat 0)) := by
  have h : i.toNat < l.length := by omega
  simp [h]
theorem get_wd' {l : List Nat} {i : Nat} (h1 : i < l.length) : (l.map wd)[i]? = some (wd (l.getD i 0)) := by simp [h1]
theorem map_set_wd {l : List Nat} {i : Nat} {x : Int} (h : 0 ≤ x) : (l.map wd).set i (.int .u32 x) = (l.set i x.toNat).map wd := by
  have : AV.int .u32 x = wd x.toNat := by simp only [wd]; congr 1; omega
  rw [this, List.map_set]
theorem mapL_wd {n : Nat} {H : Heap} (l : List Nat) : mapL (purify (n + 1) H) (l.map wd) = some (l.map wd, []) := by
  induction l with
  | nil => rfl
  | cons x xs ih => simp only [List.map_cons, mapL, ih, wd, purify_int]; rfl
theorem purify_wd {n : Nat} {H : Heap} {nl : Bool} {l : List Nat} : purify (n + 1) H (.lst nl (l.map wd)) = some (.lst nl (l.map wd), []) := purify_lst (pure_wd l)
def refP (n : Nat) (H : Heap) (id off len : Nat) : Option Blk → Option (AV × List Nat)
  | some b => if off + len * b.esz ≤ b.cells.length ∧ b.esz ≠ 0 ∧ (b.agg = true ∨ b.esz = 1) then
      (match mapL (purify n H) ((b.cells.drop off).take (len * b.esz)) with
      | some (cs, ids) => some (.lst false (elems b.agg b.esz len cs), id :: ids)
      | none => none)
    else none
  | none => none
theorem purify_ref {n : Nat} {H : Heap} {id off len : Nat} : purify (n + 1) H (.ref id off len) = refP n H id off len (H id) := by
  rw [purify]; unfold refP; cases H id <;> rfl
theorem flat_wd (l : List Nat) : flat (l.map wd) = l.map wd := by
  induction l with
  | nil => rfl
  | cons x xs ih => simp only [List.map_cons, flat, ih]; rfl
/-- A number's words, with its sign, as the program holds it. -/
abbrev iv (neg nl : Bool) (l : List Nat) : AV := .agg [.bool neg, .lst nl (l.map wd)]
theorem purify_lnil {n : Nat} {H : Heap} {nl : Bool} : purify (n + 1) H (.lst nl []) = some (.lst nl [], []) := rfl
theorem elems_one : ∀ (n : Nat) (cs : List AV), cs.length = n → elems false 1 n cs = cs
  | 0, [], _ => rfl
  | n + 1, c :: cs, h => by simp [elems, elems_one n cs (by simpa using h)]
theorem refP_wd {n : Nat} {H : Heap} {id off len : Nat} {l : List Nat} {fz : Bool} (hl : off + len ≤ l.length) : refP (n + 1) H id off len (some ⟨l.map wd, false, 1, fz⟩) = some (.lst false (((l.drop off).take len).map wd), [id]) := by
  have h1 : (((l.map wd).drop off).take (len * 1)) = ((l.drop off).take len).map wd := by simp [List.map_take, List.map_drop]
  unfold refP
  simp only [h1, mapL_wd]
  rw [if_pos (by simp; omega), elems_one _ _ (by simp; omega)]
theorem refP_zero {n : Nat} {H : Heap} {id off : Nat} {cs : List AV} {ag : Bool} {esz : Nat} {fz : Bool} (h : off ≤ cs.length ∧ esz ≠ 0 ∧ (ag = true ∨ esz = 1)) : refP n H id off 0 (some ⟨cs, ag, esz, fz⟩) = some (.lst false [], [id]) := by
  unfold refP
  simp only [Nat.zero_mul, Nat.add_zero]
  rw [if_pos h]
  simp [mapL, elems]
theorem purify_row {n : Nat} {H : Heap} {id off len : Nat} {l : List Nat} {fz : Bool} (h : H id = some ⟨l.map wd, false, 1, fz⟩) (hl : off + len ≤ l.length) :
    purify (n + 2) H (.ref id off len) = some (.lst false (((l.drop off).take len).map wd), [id]) := by
  have h1 : (((l.map wd).drop off).take (len * 1)) = ((l.drop off).take len).map wd := by simp [List.map_take, List.map_drop]
  rw [purify]
  simp only [h, h1, mapL_wd]
  rw [if_pos (by simp; omega), elems_one _ _ (by simp; omega)]
end
theorem wrap64 {x : Int} (h1 : -9223372036854775808 ≤ x) (h2 : x < 9223372036854775808) : IntKind.i64.wrap x = x := by rw [IntKind.wrap_i64]; omega
theorem wrapu64 {x : Int} (h1 : 0 ≤ x) (h2 : x < 18446744073709551616) : IntKind.u64.wrap x = x := by rw [IntKind.wrap_u64]; omega
theorem wrapu32 {x : Int} (h1 : 0 ≤ x) (h2 : x < 4294967296) : IntKind.u32.wrap x = x := by rw [IntKind.wrap_u32']; omega
end Vm
