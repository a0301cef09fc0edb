/- Part 2 of a proof about this seat: Vm21, Env, Vm22, Vm23, Vm24, Val, Trim, Nums, Words, Cut, Open, Form, Nat1, Nat2, Nat3, Nat4, Int1, Ref1, Ref2, Ref3. (Own work of this repo.) -/
import Derived.Test.YtnpomadbaanpkaaZLinearAll1
import Derived.Test.YtnpomadbaanpkaaRows
import Derived.KernelRfl
import Derived.Below
import Derived.Laws.BitsAllLaws
import Derived.Laws.Bits64
set_option linter.unusedVariables false
set_option linter.unusedSimpArgs false
/- The machine over pure values: its runs without fuel. (Own work of this repo.) -/
namespace Vm
open Go

abbrev Ag := Code → St → Option (Ex × St)
def AgLim (d : Ag) (an : Nat → Ag) : Prop := ∀ c σ r, d c σ = some r → ∃ n, ∀ m, n ≤ m → an m c σ = some r
structure ClLim (d : Cl) (an : Nat → Cl) : Prop where
  p : ∀ f l r, d.p f l = some r → ∃ n, ∀ m, n ≤ m → (an m).p f l = some r
  o : ∀ f l h nx r, d.o f l h nx = some r → ∃ n, ∀ m, n ≤ m → (an m).o f l h nx = some r

section
variable {E : Env} {d : Cl} {an : Nat → Cl}

theorem pcall_lim (hl : ClLim d an) {H : Heap} {g : FuncId} {l : List AV} {e : Eff} (h : pcallEff d.p H g l = some e) : ∃ n, ∀ m, n ≤ m → pcallEff (an m).p H g l = some e := by
  unfold pcallEff at h
  split at h
  · rename_i l' ids hm
    have key : ∃ r, d.p g l' = some r := by split at h <;> first | exact ⟨_, by assumption⟩ | cases h
    obtain ⟨r, hr⟩ := key
    obtain ⟨n, hn⟩ := hl.p _ _ _ hr
    refine ⟨n, fun m hm' => ?_⟩
    unfold pcallEff
    rw [hm]
    dsimp only
    rw [hn m hm', ← hr]
    exact h
  · cases h

theorem lend_lim (hl : ClLim d an) {H : Heap} {N : Nat} {g : FuncId} {l : List AV} {e : Eff} (h : lendEff d.o H N g l = some e) : ∃ n, ∀ m, n ≤ m → lendEff (an m).o H N g l = some e := by
  unfold lendEff at h
  have key : ∃ r, d.o g l (H.only (reach H 3 l)) N = some r := by split at h <;> first | exact ⟨_, by assumption⟩ | cases h
  obtain ⟨r, hr⟩ := key
  obtain ⟨n, hn⟩ := hl.o _ _ _ _ _ hr
  refine ⟨n, fun m hm => ?_⟩
  unfold lendEff
  rw [hn m hm, ← hr]
  exact h
theorem eff_lim (hl : ClLim d an) {N : Nat} {H : Heap} {g : FuncId} {l : List AV} {e : Eff} (h : callEff E d N H g l = some e) : ∃ n, ∀ m, n ≤ m → callEff E (an m) N H g l = some e := by
  unfold callEff at h
  split at h
  · rename_i hc
    obtain ⟨n, hn⟩ := lend_lim hl h
    exact ⟨n, fun m hm => by unfold callEff; rw [if_pos hc]; exact hn m hm⟩
  · rename_i hc
    cases hp : pcallEff d.p H g l with
    | none => rw [hp] at h; cases h
    | some e0 =>
      rw [hp] at h
      obtain ⟨n, hn⟩ := pcall_lim hl hp
      exact ⟨n, fun m hm => by unfold callEff; rw [if_neg hc, hn m hm]; exact h⟩
theorem any_lim (hl : ClLim d an) {N : Nat} {H : Heap} {nid : Nat} {s : List AV} {op : Op} {e : Eff} (h : anyEff E (callEff E d N) H nid s op = some e) : ∃ n, ∀ m, n ≤ m → anyEff E (callEff E (an m) N) H nid s op = some e := by
  unfold anyEff at h
  split at h
  · rename_i g l ht
    obtain ⟨n, hn⟩ := eff_lim hl h
    refine ⟨n, fun m hm => ?_⟩
    unfold anyEff
    rw [ht]
    exact hn m hm
  · rename_i ht
    refine ⟨0, fun m _ => ?_⟩
    unfold anyEff
    rw [ht]
    exact h

theorem runOps_lim (hl : ClLim d an) (all : List Oper) : ∀ (os : List Oper) (σ : St) (r : Ex × St), runOps E d all os σ = some r → ∃ n, ∀ m, n ≤ m → runOps E (an m) all os σ = some r
  | [], σ, r, h => ⟨0, fun _ _ => h⟩
  | o :: os, σ, r, h => by
    simp only [runOps] at h
    split at h
    · rename_i hw
      split at h
      · rename_i g l ht
        split at h
        · rename_i ho
          have key : ∃ q, d.o g l σ.h σ.nx = some q := by split at h <;> first | exact ⟨_, by assumption⟩ | cases h
          obtain ⟨q, hq⟩ := key
          obtain ⟨n1, hn1⟩ := hl.o _ _ _ _ _ hq
          rw [hq] at h
          obtain ⟨q1, h', n⟩ := q
          cases q1 with
          | ret v =>
            dsimp only at h
            obtain ⟨n2, hn2⟩ := runOps_lim hl all os _ r h
            refine ⟨max n1 n2, fun m hm => ?_⟩
            simp only [runOps, hw, ht, ho, if_true, hn1 m (by omega)]
            exact hn2 m (by omega)
          | panic v =>
            dsimp only at h
            refine ⟨n1, fun m hm => ?_⟩
            simp only [runOps, hw, ht, ho, if_true, hn1 m hm]
            exact h
        · rename_i ho
          have key : ∃ e, pcallEff d.p σ.h g l = some e := by split at h <;> first | exact ⟨_, by assumption⟩ | cases h
          obtain ⟨e, he⟩ := key
          obtain ⟨n1, hn1⟩ := pcall_lim hl he
          rw [he] at h
          dsimp only at h
          split at h
          · rename_i v hv
            obtain ⟨n2, hn2⟩ := runOps_lim hl all os _ r h
            refine ⟨max n1 n2, fun m hm => ?_⟩
            simp only [runOps, hw, ht, if_neg ho, hn1 m (by omega), hv]
            exact hn2 m (by omega)
          · rename_i hv
            obtain ⟨n2, hn2⟩ := runOps_lim hl all os _ r h
            refine ⟨max n1 n2, fun m hm => ?_⟩
            simp only [runOps, hw, ht, if_neg ho, hn1 m (by omega), hv]
            exact hn2 m (by omega)
          · rename_i v hv
            refine ⟨n1, fun m hm => ?_⟩
            simp only [runOps, hw, ht, if_neg ho, hn1 m hm, hv]
            exact h
      · rename_i ht
        split at h
        · rename_i e he
          split at h
          · rename_i v hv
            obtain ⟨n2, hn2⟩ := runOps_lim hl all os _ r h
            refine ⟨n2, fun m hm => ?_⟩
            simp only [runOps, hw, ht, he, hv]
            exact hn2 m hm
          · rename_i hv
            obtain ⟨n2, hn2⟩ := runOps_lim hl all os _ r h
            refine ⟨n2, fun m hm => ?_⟩
            simp only [runOps, hw, ht, he, hv]
            exact hn2 m hm
          · rename_i v hv
            refine ⟨0, fun m hm => ?_⟩
            simp only [runOps, hw, ht, he, hv]
            exact h
        · cases h
    · rename_i hw
      obtain ⟨n2, hn2⟩ := runOps_lim hl all os _ r h
      refine ⟨n2, fun m hm => ?_⟩
      simp only [runOps, hw]
      exact hn2 m hm
    · cases h

theorem recs_lim (hl : ClLim d an) {N : Nat} (all : List Oper) : ∀ (os : List Oper) (i : Nat) (p : Option (List Nat × AV)) (σ : St) (r : List Rec × Option (List Nat × AV) × St), recs E (callEff E d N) all os i p σ = some r → ∃ n, ∀ m, n ≤ m → recs E (callEff E (an m) N) all os i p σ = some r
  | [], i, p, σ, r, h => ⟨0, fun _ _ => h⟩
  | o :: os, i, p, σ, r, h => by
    have sub : ∀ {i : Nat} {p : Option (List Nat × AV)} {σ : St} {f : List Rec × Option (List Nat × AV) × St → Option (List Rec × Option (List Nat × AV) × St)}, (match recs E (callEff E d N) all os i p σ with
        | some (rs, p', σ') => f (rs, p', σ')
        | none => none) = some r → ∃ q n, recs E (callEff E d N) all os i p σ = some q ∧ f q = some r ∧ ∀ m, n ≤ m → recs E (callEff E (an m) N) all os i p σ = some q := by
      intro i p σ f h
      split at h
      · rename_i rs p' σ' hq
        obtain ⟨n, hn⟩ := recs_lim hl all os _ _ _ _ hq
        exact ⟨_, n, hq, h, hn⟩
      · cases h
    simp only [recs] at h
    split at h
    · rename_i hb
      obtain ⟨q, n, hq, hf, hn⟩ := sub (f := fun q => some (_ :: q.1, q.2.1, q.2.2)) h
      refine ⟨n, fun m hm => ?_⟩
      simp only [recs]
      split
      · rw [hn m hm]; exact hf
      · rename_i hb'; rw [hb] at hb'; cases hb'
    · rename_i hb
      split at h
      · rename_i hw
        split at h
        · rename_i e he
          obtain ⟨n1, hn1⟩ := any_lim hl he
          split at h
          · rename_i v hv
            obtain ⟨q, n, hq, hf, hn⟩ := sub (f := fun q => some (_ :: q.1, q.2.1, q.2.2)) h
            refine ⟨max n1 n, fun m hm => ?_⟩
            simp only [recs]
            split
            · rename_i hb2; rw [hb] at hb2; cases hb2
            · simp only [hw, hn1 m (by omega), hv]
              rw [hn m (by omega)]; exact hf
          · rename_i hv
            obtain ⟨q, n, hq, hf, hn⟩ := sub (f := fun q => some (_ :: q.1, q.2.1, q.2.2)) h
            refine ⟨max n1 n, fun m hm => ?_⟩
            simp only [recs]
            split
            · rename_i hb2; rw [hb] at hb2; cases hb2
            · simp only [hw, hn1 m (by omega), hv]
              rw [hn m (by omega)]; exact hf
          · rename_i v hv
            split at h
            · split at h <;> try cases h
              rename_i hc
              obtain ⟨q, n, hq, hf, hn⟩ := sub (f := fun q => some (_ :: q.1, q.2.1, q.2.2)) h
              refine ⟨max n1 n, fun m hm => ?_⟩
              dsimp only at hb
              simp only [recs]
              simp only [hb, Bool.false_eq_true, hw, hn1 m (by omega), hv, hc, if_true]
              rw [hn m (by omega)]; exact hf
            · split at h <;> try cases h
              rename_i hc
              obtain ⟨q, n, hq, hf, hn⟩ := sub (f := fun q => some (_ :: q.1, q.2.1, q.2.2)) h
              refine ⟨max n1 n, fun m hm => ?_⟩
              simp only [recs]
              simp only [Bool.false_eq_true, hw, hn1 m (by omega), hv, hc, if_true]
              rw [hn m (by omega)]; exact hf
        · cases h
      · rename_i hw
        obtain ⟨q, n, hq, hf, hn⟩ := sub (f := fun q => some (_ :: q.1, q.2.1, q.2.2)) h
        refine ⟨n, fun m hm => ?_⟩
        simp only [recs]
        split
        · rename_i hb2; rw [hb] at hb2; cases hb2
        · simp only [hw]
          rw [hn m (by omega)]; exact hf
      · cases h

theorem draw_lim (hl : ClLim d an) {ops : List Oper} {σ : St} {r : Ex × St} (h : runDraw E d ops σ = some r) : ∃ n, ∀ m, n ≤ m → runDraw E (an m) ops σ = some r := by
  unfold runDraw at h
  have key : ∃ q, recs E (callEff E d (σ.nx + ops.length)) ops ops 0 none σ = some q := by split at h <;> first | exact ⟨_, by assumption⟩ | cases h
  obtain ⟨q, hq⟩ := key
  obtain ⟨n, hn⟩ := recs_lim hl ops ops 0 none σ q hq
  refine ⟨n, fun m hm => ?_⟩
  unfold runDraw
  rw [hn m hm, ← hq]
  exact h

theorem step_lim (hl : ClLim d an) {da : Ag} {aa : Nat → Ag} (ha : AgLim da aa) : ∀ (c : Code) (σ : St) (r : Ex × St), step E d da c σ = some r → ∃ n, ∀ m, n ≤ m → step E (an m) (aa m) c σ = some r := by
  intro c
  induction c with
  | skip => intro σ r h; exact ⟨0, fun _ _ => h⟩
  | region id ops draw =>
    intro σ r h
    simp only [step] at h
    split at h
    · rename_i hd
      obtain ⟨n, hn⟩ := draw_lim hl h
      exact ⟨n, fun m hm => by simp only [step, hd, if_true]; exact hn m hm⟩
    · rename_i hd
      obtain ⟨n, hn⟩ := runOps_lim hl _ _ _ _ h
      exact ⟨n, fun m hm => by simp only [step, if_neg hd]; exact hn m hm⟩
  | seq x y ihx ihy =>
    intro σ r h
    simp only [step] at h
    have key : ∃ q, step E d da x σ = some q := by split at h <;> first | exact ⟨_, by assumption⟩ | cases h
    obtain ⟨q, hq⟩ := key
    obtain ⟨n, hn⟩ := ihx σ q hq
    rw [hq] at h
    obtain ⟨ex, σ'⟩ := q
    cases ex with
    | norm =>
      dsimp only at h
      obtain ⟨n2, hn2⟩ := ihy σ' r h
      refine ⟨max n n2, fun m hm => ?_⟩
      simp only [step]
      rw [hn m (by omega)]
      exact hn2 m (by omega)
    | _ =>
      refine ⟨n, fun m hm => ?_⟩
      simp only [step]
      rw [hn m (by omega)]
      exact h
  | cond c x y ihx ihy =>
    intro σ r h
    simp only [step] at h
    split at h
    · rename_i he
      obtain ⟨n, hn⟩ := ihx σ r h
      exact ⟨n, fun m hm => by simp only [step, he]; exact hn m hm⟩
    · rename_i he
      obtain ⟨n, hn⟩ := ihy σ r h
      exact ⟨n, fun m hm => by simp only [step, he]; exact hn m hm⟩
    · cases h
  | block i c ih =>
    intro σ r h
    simp only [step] at h
    have key : ∃ q, step E d da c σ = some q := by split at h <;> first | exact ⟨_, by assumption⟩ | cases h
    obtain ⟨q, hq⟩ := key
    obtain ⟨n, hn⟩ := ih σ q hq
    rw [hq] at h
    refine ⟨n, fun m hm => ?_⟩
    simp only [step]
    rw [hn m (by omega)]
    exact h
  | loop c ih =>
    intro σ r h
    simp only [step] at h
    have key : ∃ q, da c σ = some q := by split at h <;> first | exact ⟨_, by assumption⟩ | cases h
    obtain ⟨q, hq⟩ := key
    obtain ⟨n, hn⟩ := ha c σ q hq
    rw [hq] at h
    obtain ⟨ex, σ'⟩ := q
    cases ex with
    | norm =>
      dsimp only at h
      obtain ⟨n2, hn2⟩ := ha _ σ' r h
      refine ⟨max n n2, fun m hm => ?_⟩
      simp only [step]
      rw [hn m (by omega)]
      exact hn2 m (by omega)
    | _ =>
      refine ⟨n, fun m hm => ?_⟩
      simp only [step]
      rw [hn m (by omega)]
      exact h
  | exit i => intro σ r h; exact ⟨0, fun _ _ => h⟩
  | ret => intro σ r h; exact ⟨0, fun _ _ => h⟩
  | rangeFunc fo ps asg bd =>
    intro σ r h
    simp only [step] at h
    split at h <;> try cases h
    rename_i g x y hf
    split at h <;> try cases h
    rename_i hg
    have key : ∃ q, d.o g (x ++ [.fn 1000003 [] [.ref σ.nx 0 0]] ++ y) (σ.h.upd σ.nx (some (loopRow 0 ps asg bd σ.sl))) (σ.nx + 1) = some q := by split at h <;> first | exact ⟨_, by assumption⟩ | cases h
    obtain ⟨q, hq⟩ := key
    obtain ⟨n, hn⟩ := hl.o _ _ _ _ _ hq
    refine ⟨n, fun m hm => ?_⟩
    simp only [step, hf]
    rw [if_neg hg, hn m hm, ← hq]
    exact h
  | _ => intro σ r h; simp [step] at h
end

theorem restD_lim {da : Ag} {aa : Nat → Ag} (ha : AgLim da aa) {c1 c2 : Code} {σ : St} {q : Option AV × St} (h : restD da c1 c2 σ = some q) : ∃ n, ∀ m, n ≤ m → restD (aa m) c1 c2 σ = some q := by
  unfold restD at h
  split at h
  · rename_i σ' h1
    obtain ⟨n1, hn1⟩ := ha _ _ _ h1
    split at h
    · rename_i σ2 h2
      obtain ⟨n2, hn2⟩ := ha _ _ _ h2
      exact ⟨max n1 n2, fun m hm => by unfold restD; rw [hn1 m (by omega)]; dsimp only; rw [hn2 m (by omega)]; exact h⟩
    · rename_i σ2 h2
      obtain ⟨n2, hn2⟩ := ha _ _ _ h2
      exact ⟨max n1 n2, fun m hm => by unfold restD; rw [hn1 m (by omega)]; dsimp only; rw [hn2 m (by omega)]; exact h⟩
    · cases h
  · rename_i v σ' h1
    obtain ⟨n1, hn1⟩ := ha _ _ _ h1
    exact ⟨n1, fun m hm => by unfold restD; rw [hn1 m hm]; exact h⟩
  · cases h
theorem bodyD_lim {E : Env} {da : Ag} {aa : Nat → Ag} (ha : AgLim da aa) {fn : Func} {l : List AV} {h : Heap} {nx : Nat} {r : Res × Heap × Nat} (hb : bodyD E da fn l h nx = some r) : ∃ n, ∀ m, n ≤ m → bodyD E (aa m) fn l h nx = some r := by
  unfold bodyD at hb
  split at hb <;> try cases hb
  rename_i c hc
  split at hb <;> try cases hb
  rename_i pre ops k c1 c2 hsp
  split at hb <;> try cases hb
  rename_i σ0 hpre
  split at hb <;> try cases hb
  rename_i σ1 hpl
  split at hb <;> try cases hb
  rename_i g x m σ2 hcl hrest
  obtain ⟨n, hn⟩ := restD_lim ha hrest
  refine ⟨n, fun m hm => ?_⟩
  unfold bodyD
  simp only [hc, hsp, hpre, hpl, hcl, hn m hm]
  exact hb
theorem cl_lim {E : Env} {da : Ag} {aa : Nat → Ag} (ha : AgLim da aa) : ClLim (cl E da) (fun m => cl E (aa m)) := by
  have hb : ∀ f l h nx r, body E da f l h nx = some r → ∃ n, ∀ m, n ≤ m → body E (aa m) f l h nx = some r := by
    intro f l h nx r hb
    unfold body at hb
    split at hb
    rotate_left
    · rename_i hfn
      split at hb
      · rename_i fn hfd
        obtain ⟨n, hn⟩ := bodyD_lim (E := E) ha hb
        refine ⟨n, fun m hm => ?_⟩
        unfold body
        rw [hfn]
        dsimp only
        rw [hfd]
        exact hn m hm
      rename_i hfd
      split at hb
      rotate_left
      · cases hb
      rename_i hf
      have : ∃ n, ∀ m, n ≤ m → yieldB (aa m) l h nx = some r := by
        unfold yieldB at hb
        split at hb <;> try cases hb
        rename_i id hlast
        unfold yieldR at hb
        split at hb <;> try cases hb
        rename_i ps asg bd sl hrow
        split at hb <;> try cases hb
        rename_i hcond
        split at hb <;> try cases hb
        rename_i σ1 h1
        split at hb <;> try cases hb
        rename_i blk ht
        split at hb <;> try cases hb
        rename_i r2 h2
        obtain ⟨n1, hn1⟩ := ha _ _ _ h1
        obtain ⟨n2, hn2⟩ := ha _ _ _ h2
        refine ⟨max n1 n2, fun m hm => ?_⟩
        unfold yieldB
        rw [hlast]
        dsimp only
        unfold yieldR
        rw [hrow]
        dsimp only
        rw [if_pos hcond, hn1 m (by omega)]
        dsimp only
        rw [ht]
        dsimp only
        rw [hn2 m (by omega)]
        exact hb
      obtain ⟨n, hn⟩ := this
      refine ⟨n, fun m hm => ?_⟩
      unfold body
      rw [hfn]
      dsimp only
      rw [hfd]
      dsimp only
      rw [if_pos hf]
      exact hn m hm
    rename_i fn hfn
    split at hb <;> try cases hb
    rename_i c hc
    have key : ∃ q, da c ⟨l ++ List.replicate (fn.ntmps - l.length) undef, h, nx⟩ = some q := by split at hb <;> first | exact ⟨_, by assumption⟩ | cases hb
    obtain ⟨q, hq⟩ := key
    obtain ⟨n, hn⟩ := ha _ _ _ hq
    refine ⟨n, fun m hm => ?_⟩
    unfold body
    rw [hfn]
    dsimp only
    rw [hc]
    dsimp only
    rw [hn m hm, ← hq]
    exact hb
  refine ⟨fun f l r h => ?_, hb⟩
  simp only [cl, bodyP] at h ⊢
  split at h
  · rename_i hp
    have key : ∃ q, body E da f l Heap.empty 0 = some q := by split at h <;> first | exact ⟨_, by assumption⟩ | cases h
    obtain ⟨q, hq⟩ := key
    obtain ⟨n, hn⟩ := hb _ _ _ _ _ hq
    refine ⟨n, fun m hm => ?_⟩
    rw [if_pos hp, hn m hm, ← hq]
    exact h
  · cases h

theorem exec_succ {E : Env} {n : Nat} : ∀ (c : Code) (σ : St) (r : Ex × St), exec E n c σ = some r → exec E (n + 1) c σ = some r := by
  induction n with
  | zero => intro c σ r h; simp [exec] at h
  | succ n ih =>
    intro c σ r h
    have ha : AgLim (exec E n) (fun _ => exec E (n + 1)) := fun c σ r h => ⟨0, fun _ _ => ih c σ r h⟩
    obtain ⟨k, hk⟩ := step_lim (cl_lim ha) ha c σ r h
    exact hk k (Nat.le_refl _)
theorem exec_mono {E : Env} {n m : Nat} (h : n ≤ m) {c : Code} {σ : St} {r : Ex × St} (hr : exec E n c σ = some r) : exec E m c σ = some r := by
  induction h with
  | refl => exact hr
  | step _ ih => exact exec_succ _ _ _ ih

open Classical in
/-- What a piece of code comes to. -/
noncomputable def den (E : Env) : Ag := fun c σ => if h : ∃ n r, exec E n c σ = some r then exec E h.choose c σ else none
theorem den_iff {E : Env} {c : Code} {σ : St} {r : Ex × St} : den E c σ = some r ↔ ∃ n, exec E n c σ = some r := by
  unfold den
  split
  · rename_i h
    constructor
    · exact fun hr => ⟨_, hr⟩
    · rintro ⟨n, hn⟩
      obtain ⟨r', hr'⟩ := h.choose_spec
      rcases Nat.le_total n h.choose with hle | hle
      · exact exec_mono hle hn
      · have := exec_mono hle hr'
        rw [hn] at this
        cases this
        exact hr'
  · rename_i h
    exact ⟨fun h => (by cases h), fun ⟨n, hn⟩ => absurd ⟨n, r, hn⟩ h⟩
theorem den_lim (E : Env) : AgLim (den E) (exec E) := fun c σ r h => let ⟨n, hn⟩ := den_iff.1 h; ⟨n, fun m hm => exec_mono hm hn⟩
/-- It is the fixed point of the step. -/
theorem den_eq (E : Env) (c : Code) (σ : St) : den E c σ = step E (cl E (den E)) (den E) c σ := by
  refine Option.ext fun r => ?_
  constructor
  · intro h
    obtain ⟨n, hn⟩ := den_iff.1 h
    cases n with
    | zero => simp [exec] at hn
    | succ n =>
      have ha : AgLim (exec E n) (fun _ => den E) := fun c σ r h => ⟨0, fun _ _ => den_iff.2 ⟨n, h⟩⟩
      obtain ⟨k, hk⟩ := step_lim (cl_lim ha) ha c σ r hn
      exact hk k (Nat.le_refl _)
  · intro h
    obtain ⟨n, hn⟩ := step_lim (cl_lim (den_lim E)) (den_lim E) c σ r h
    exact den_iff.2 ⟨n + 1, hn n (Nat.le_refl _)⟩

noncomputable def denP (E : Env) : FuncId → List AV → Option Res := bodyP E (den E)
noncomputable def denO (E : Env) : FuncId → List AV → Heap → Nat → Option (Res × Heap × Nat) := body E (den E)

theorem den_ok {P : Program} {E : Env} (hE : POk P E) : CodeOk P (den E) := by
  intro ro c hc hro σ r h
  obtain ⟨n, hn⟩ := den_iff.1 h
  exact (exec_all hE n).1 ro c hc hro σ r hn
theorem den_reg {P : Program} {E : Env} (hE : POk P E) : RegOk P (den E) := by
  intro id ops σ r h
  obtain ⟨n, hn⟩ := den_iff.1 h
  exact (exec_all hE n).2.2 id ops σ r hn
theorem denP_ok {P : Program} {E : Env} (hE : POk P E) : PureOk P (denP E) := bodyP_ok hE (den_ok hE) (den_reg hE)
theorem denO_ok {P : Program} {E : Env} (hE : POk P E) : BodyOk P (denO E) := body_ok hE (den_ok hE) (den_reg hE)
theorem denP_of {E : Env} {f : FuncId} {l : List AV} {r : Res} {n : Nat} (h : bodyP E (exec E n) f l = some r) : denP E f l = some r := by
  have ha : AgLim (exec E n) (fun _ => den E) := fun c σ r h => ⟨0, fun _ _ => den_iff.2 ⟨n, h⟩⟩
  obtain ⟨k, hk⟩ := (cl_lim (E := E) ha).p f l r h
  exact hk k (Nat.le_refl _)
end Vm

/- The seat of this claim, as the machine over pure values sees it: its types, its functions; that they are the program's. Printed by wip/gen.py. (Own work of this repo.) -/
namespace Go.Proofs.Ytnpomadbaanpkaa
def TL : List (Option Vm.TI) := [none,
  some ⟨1, 8, false, .nilf, .func⟩,
  some ⟨1, 8, false, (.int .i64 0), (.int .i64)⟩,
  some ⟨1, 8, false, (.int .i64 0), (.int .i64)⟩,
  some ⟨1, 1, false, (.bool false), .bool⟩,
  some ⟨1, 1, false, (.int .u8 0), (.int .u8)⟩,
  some ⟨1, 1, false, (.int .u8 0), (.int .u8)⟩,
  none,
  none,
  some ⟨1, 16, false, (.str ByteArray.empty), .str⟩,
  some ⟨1, 16, false, (.str ByteArray.empty), .str⟩,
  some ⟨1, 16, false, (.str ByteArray.empty), .str⟩,
  some ⟨1, 8, false, (.int .u64 0), (.int .u64)⟩,
  none,
  none,
  some ⟨1, 8, false, .nilp, (.ptr 139)⟩,
  some ⟨1, 8, false, .nilp, (.ptr 142)⟩,
  some ⟨1, 8, false, .nilp, (.ptr 151)⟩,
  none,
  none,
  some ⟨1, 16, false, .nili, .iface⟩,
  some ⟨1, 4, false, (.int .i32 0), (.int .i32)⟩,
  some ⟨1, 24, false, (.lst true []), (.slice 23)⟩,
  some ⟨1, 24, false, (.lst true []), (.slice 26)⟩,
  some ⟨1, 24, false, (.lst true []), (.slice 72)⟩,
  some ⟨2, 32, true, (.agg [.bool false, .lst true []]), (.struct [(0, 4), (1, 24)])⟩,
  some ⟨2, 32, true, (.agg [.bool false, .lst true []]), (.struct [(0, 4), (1, 24)])⟩,
  some ⟨6, 112, true, (.agg [.bool false, .lst true [], .lst true [], .lst true [], .bool false, .lst true []]), (.struct [(0, 4), (1, 23), (2, 22), (3, 23), (4, 26)])⟩,
  some ⟨6, 112, true, (.agg [.bool false, .lst true [], .lst true [], .lst true [], .bool false, .lst true []]), (.struct [(0, 4), (1, 23), (2, 22), (3, 23), (4, 26)])⟩,
  some ⟨1, 8, false, (.int .i64 0), (.int .i64)⟩,
  none,
  some ⟨1, 8, false, .nilf, .func⟩,
  some ⟨1, 8, false, .nilf, .func⟩,
  none,
  some ⟨1, 8, false, .nilf, .func⟩,
  some ⟨1, 8, false, .nilf, .func⟩,
  none,
  some ⟨1, 8, false, .nilf, .func⟩,
  some ⟨1, 8, false, .nilf, .func⟩,
  some ⟨1, 8, false, .nilf, .func⟩,
  some ⟨1, 8, false, .nilf, .func⟩,
  some ⟨1, 8, false, .nilf, .func⟩,
  some ⟨1, 8, false, .nilf, .func⟩,
  some ⟨1, 8, false, .nilf, .func⟩,
  some ⟨1, 8, false, .nilf, .func⟩,
  some ⟨1, 8, false, .nilf, .func⟩,
  some ⟨1, 8, false, .nilf, .func⟩,
  some ⟨1, 8, false, .nilf, .func⟩,
  some ⟨1, 8, false, .nilf, .func⟩,
  some ⟨1, 8, false, .nilf, .func⟩,
  some ⟨1, 8, false, .nilf, .func⟩,
  some ⟨1, 8, false, .nilf, .func⟩,
  some ⟨1, 8, false, .nilf, .func⟩,
  some ⟨1, 8, false, .nilf, .func⟩,
  some ⟨1, 8, false, .nilf, .func⟩,
  none,
  some ⟨1, 8, false, .nilf, .func⟩,
  some ⟨1, 8, false, .nilf, .func⟩,
  none,
  some ⟨1, 8, false, .nilf, .func⟩,
  some ⟨1, 8, false, .nilf, .func⟩,
  some ⟨1, 8, false, .nilf, .func⟩,
  some ⟨1, 8, false, .nilf, .func⟩,
  some ⟨1, 8, false, .nilf, .func⟩,
  some ⟨1, 24, false, (.lst true []), (.slice 66)⟩,
  some ⟨1, 8, false, .nilf, .func⟩,
  some ⟨1, 24, false, (.lst true []), (.slice 26)⟩,
  some ⟨1, 8, false, .nilf, .func⟩,
  none,
  some ⟨1, 8, false, .nilf, .func⟩,
  some ⟨1, 8, false, .nilf, .func⟩,
  some ⟨1, 8, false, (.int .u64 0), (.int .u64)⟩,
  some ⟨1, 4, false, (.int .u32 0), (.int .u32)⟩,
  some ⟨1, 8, false, (.int .u64 0), (.int .u64)⟩,
  some ⟨1, 8, false, .nilf, .func⟩,
  some ⟨1, 8, false, .nilf, .func⟩,
  some ⟨1, 8, false, .nilf, .func⟩,
  some ⟨1, 8, false, .nilf, .func⟩,
  some ⟨1, 8, false, (.int .i64 0), (.int .i64)⟩,
  none,
  some ⟨1, 8, false, .nilp, (.ptr 86)⟩,
  some ⟨1, 8, false, .nilf, .func⟩,
  some ⟨1, 24, true, (.agg [.lst true []]), (.struct [(0, 64)])⟩,
  some ⟨1, 24, true, (.agg [.lst true []]), (.struct [(0, 64)])⟩,
  some ⟨1, 24, false, (.lst true []), (.slice 3)⟩,
  some ⟨3, 72, true, (.agg [.lst true [], .lst true [], .lst true []]), (.struct [(0, 83), (1, 64), (2, 84)])⟩,
  some ⟨3, 72, true, (.agg [.lst true [], .lst true [], .lst true []]), (.struct [(0, 83), (1, 64), (2, 84)])⟩,
  none,
  some ⟨1, 8, false, .nilf, .func⟩,
  some ⟨1, 8, false, .nilf, .func⟩,
  some ⟨1, 8, false, .nilf, .func⟩,
  some ⟨1, 8, false, .nilf, .func⟩,
  some ⟨1, 24, false, (.lst true []), (.slice 72)⟩,
  some ⟨1, 8, false, .nilf, .func⟩,
  some ⟨1, 8, false, .nilf, .func⟩,
  some ⟨1, 8, false, .nilf, .func⟩,
  some ⟨1, 24, false, (.lst true []), (.slice 5)⟩,
  none,
  some ⟨1, 8, false, .nilf, .func⟩,
  some ⟨1, 8, false, .nilf, .func⟩,
  some ⟨1, 8, false, .nilf, .func⟩,
  some ⟨1, 8, false, .nilf, .func⟩,
  some ⟨1, 8, false, .nilf, .func⟩,
  some ⟨1, 8, false, .nilf, .func⟩,
  some ⟨1, 8, false, .nilf, .func⟩,
  none,
  some ⟨1, 8, false, .nilf, .func⟩,
  some ⟨1, 8, false, .nilf, .func⟩,
  some ⟨1, 24, false, (.lst true []), (.slice 110)⟩,
  some ⟨4, 64, true, (.agg [.bool false, .lst true [], .bool false, .lst true []]), (.struct [(0, 26), (2, 26)])⟩,
  some ⟨4, 64, true, (.agg [.bool false, .lst true [], .bool false, .lst true []]), (.struct [(0, 26), (2, 26)])⟩,
  some ⟨1, 8, false, .nilf, .func⟩,
  some ⟨1, 8, false, .nilf, .func⟩,
  some ⟨1, 8, false, .nilf, .func⟩,
  none,
  some ⟨1, 8, false, .nilf, .func⟩,
  some ⟨1, 8, false, .nilf, .func⟩,
  some ⟨1, 8, false, .nilf, .func⟩,
  some ⟨1, 8, false, .nilf, .func⟩,
  some ⟨1, 8, false, .nilf, .func⟩,
  some ⟨1, 8, false, .nilf, .func⟩,
  none,
  some ⟨1, 8, false, .nilf, .func⟩,
  some ⟨1, 8, false, .nilf, .func⟩,
  none,
  some ⟨1, 8, false, .nilf, .func⟩,
  some ⟨1, 8, false, .nilf, .func⟩,
  some ⟨1, 8, false, .nilp, (.ptr 83)⟩,
  some ⟨1, 8, false, .nilf, .func⟩,
  some ⟨1, 8, false, .nilf, .func⟩,
  none,
  some ⟨1, 8, false, .nilf, .func⟩,
  some ⟨1, 8, false, .nilf, .func⟩,
  some ⟨1, 8, false, .nilf, .func⟩,
  some ⟨1, 8, false, .nilf, .func⟩,
  some ⟨1, 8, false, .nilf, .func⟩,
  some ⟨1, 8, false, .nilf, .func⟩,
  some ⟨1, 8, false, .nilf, .func⟩,
  none,
  none,
  some ⟨0, 0, true, (.agg []), (.array 0 16)⟩,
  none,
  none,
  some ⟨1, 8, false, .nilf, .func⟩,
  some ⟨1, 1, false, (.int .u8 0), (.int .u8)⟩,
  some ⟨1, 1, false, (.int .u8 0), (.int .u8)⟩,
  some ⟨1, 8, false, .nilf, .func⟩,
  some ⟨1, 8, false, .nilp, (.ptr 5)⟩,
  some ⟨1, 4, false, (.int .i32 0), (.int .i32)⟩,
  some ⟨1, 4, false, (.int .i32 0), (.int .i32)⟩,
  none,
  none,
  none]
noncomputable def FL : List Func := [Try.f0, Try.f1, Try.f2, Try.f3, Try.f4, Try.f5, Try.f6, Try.f7, Try.f8, Try.f9, Try.f10, Try.f11, Try.f12, Try.f13, Try.f14, Try.f15, Try.f16, Try.f17, Try.f18, Try.f19, Try.f20, Try.f21, Try.f22, Try.f23, Try.f24, Try.f25, Try.f26, Try.f27, Try.f28, Try.f29, Try.f30, Try.f31, Try.f32, Try.f33, Try.f34, Try.f35, Try.f36, Try.f37, Try.f38, Try.f39, Try.f40, Try.f41, Try.f42, Try.f43, Try.f44, Try.f45, Try.f46, Try.f47, Try.f48, Try.f49, Try.f50, Try.f51, Try.f52, Try.f53, Try.f54, Try.f55, Try.f56, Try.f57, Try.f58, Try.f59, Try.f60, Try.f61, Try.f62, Try.f63, Try.f64, Try.f65, Try.f66, Try.f67, Try.f68, Try.f69, Try.f70, Try.f71, Try.f72, Try.f73, Try.f74, Try.f75, Try.f76, Try.f77, Try.f78, Try.f79, Try.f80, Try.f81, Try.f82, Try.f83, Try.f84, Try.f85, Try.f86, Try.f87, Try.f88, Try.f89, Try.f90, Try.f91, Try.f92, Try.f93, Try.f94, Try.f95, Try.f96, Try.f97, Try.f98, Try.f99, Try.f100, Try.f101, Try.f102, Try.f103, Try.f104, Try.f105, Try.f106, Try.f107, Try.f108, Try.f109, Try.f110, Try.f111, Try.f112, Try.f113, Try.f114, Try.f115, Try.f116, Try.f117, Try.f118, Try.f119, Try.f120, Try.f121, Try.f122, Try.f123, Try.f124, Try.f125, Try.f126, Try.f127]
noncomputable def E : Vm.Env := ⟨fun t => (TL[t]?).join, fun f => if decide (f = 28) || (false) then none else FL[f]?, fun f => decide (f = 89) || (decide (f = 105) || (decide (f = 73) || (decide (f = 29) || (decide (f = 35) || (decide (f = 38) || (decide (f = 42) || (decide (f = 41) || (decide (f = 57) || (decide (f = 78) || (decide (f = 93) || (decide (f = 94) || (decide (f = 62) || (decide (f = 13) || (decide (f = 1000003) || (decide (f = 28) || (false)))))))))))))))), fun f => if decide (f = 28) || (false) then FL[f]? else none⟩
theorem E0 : E.fn 0 = some Try.f0 := rfl
theorem E1 : E.fn 1 = some Try.f1 := rfl
theorem E2 : E.fn 2 = some Try.f2 := rfl
theorem E3 : E.fn 3 = some Try.f3 := rfl
theorem E4 : E.fn 4 = some Try.f4 := rfl
theorem E5 : E.fn 5 = some Try.f5 := rfl
theorem E6 : E.fn 6 = some Try.f6 := rfl
theorem E7 : E.fn 7 = some Try.f7 := rfl
theorem E8 : E.fn 8 = some Try.f8 := rfl
theorem E9 : E.fn 9 = some Try.f9 := rfl
theorem E10 : E.fn 10 = some Try.f10 := rfl
theorem E11 : E.fn 11 = some Try.f11 := rfl
theorem E12 : E.fn 12 = some Try.f12 := rfl
theorem E13 : E.fn 13 = some Try.f13 := rfl
theorem E14 : E.fn 14 = some Try.f14 := rfl
theorem E15 : E.fn 15 = some Try.f15 := rfl
theorem E16 : E.fn 16 = some Try.f16 := rfl
theorem E17 : E.fn 17 = some Try.f17 := rfl
theorem E18 : E.fn 18 = some Try.f18 := rfl
theorem E19 : E.fn 19 = some Try.f19 := rfl
theorem E20 : E.fn 20 = some Try.f20 := rfl
theorem E21 : E.fn 21 = some Try.f21 := rfl
theorem E22 : E.fn 22 = some Try.f22 := rfl
theorem E23 : E.fn 23 = some Try.f23 := rfl
theorem E24 : E.fn 24 = some Try.f24 := rfl
theorem E25 : E.fn 25 = some Try.f25 := rfl
theorem E26 : E.fn 26 = some Try.f26 := rfl
theorem E27 : E.fn 27 = some Try.f27 := rfl
theorem D28 : E.fn 28 = none ∧ E.df 28 = some Try.f28 := ⟨rfl, rfl⟩
theorem E29 : E.fn 29 = some Try.f29 := rfl
theorem E30 : E.fn 30 = some Try.f30 := rfl
theorem E31 : E.fn 31 = some Try.f31 := rfl
theorem E32 : E.fn 32 = some Try.f32 := rfl
theorem E33 : E.fn 33 = some Try.f33 := rfl
theorem E34 : E.fn 34 = some Try.f34 := rfl
theorem E35 : E.fn 35 = some Try.f35 := rfl
theorem E36 : E.fn 36 = some Try.f36 := rfl
theorem E37 : E.fn 37 = some Try.f37 := rfl
theorem E38 : E.fn 38 = some Try.f38 := rfl
theorem E39 : E.fn 39 = some Try.f39 := rfl
theorem E40 : E.fn 40 = some Try.f40 := rfl
theorem E41 : E.fn 41 = some Try.f41 := rfl
theorem E42 : E.fn 42 = some Try.f42 := rfl
theorem E43 : E.fn 43 = some Try.f43 := rfl
theorem E44 : E.fn 44 = some Try.f44 := rfl
theorem E45 : E.fn 45 = some Try.f45 := rfl
theorem E46 : E.fn 46 = some Try.f46 := rfl
theorem E47 : E.fn 47 = some Try.f47 := rfl
theorem E48 : E.fn 48 = some Try.f48 := rfl
theorem E49 : E.fn 49 = some Try.f49 := rfl
theorem E50 : E.fn 50 = some Try.f50 := rfl
theorem E51 : E.fn 51 = some Try.f51 := rfl
theorem E52 : E.fn 52 = some Try.f52 := rfl
theorem E53 : E.fn 53 = some Try.f53 := rfl
theorem E54 : E.fn 54 = some Try.f54 := rfl
theorem E55 : E.fn 55 = some Try.f55 := rfl
theorem E56 : E.fn 56 = some Try.f56 := rfl
theorem E57 : E.fn 57 = some Try.f57 := rfl
theorem E58 : E.fn 58 = some Try.f58 := rfl
theorem E59 : E.fn 59 = some Try.f59 := rfl
theorem E60 : E.fn 60 = some Try.f60 := rfl
theorem E61 : E.fn 61 = some Try.f61 := rfl
theorem E62 : E.fn 62 = some Try.f62 := rfl
theorem E63 : E.fn 63 = some Try.f63 := rfl
theorem E64 : E.fn 64 = some Try.f64 := rfl
theorem E65 : E.fn 65 = some Try.f65 := rfl
theorem E66 : E.fn 66 = some Try.f66 := rfl
theorem E67 : E.fn 67 = some Try.f67 := rfl
theorem E68 : E.fn 68 = some Try.f68 := rfl
theorem E69 : E.fn 69 = some Try.f69 := rfl
theorem E70 : E.fn 70 = some Try.f70 := rfl
theorem E71 : E.fn 71 = some Try.f71 := rfl
theorem E72 : E.fn 72 = some Try.f72 := rfl
theorem E73 : E.fn 73 = some Try.f73 := rfl
theorem E74 : E.fn 74 = some Try.f74 := rfl
theorem E75 : E.fn 75 = some Try.f75 := rfl
theorem E76 : E.fn 76 = some Try.f76 := rfl
theorem E77 : E.fn 77 = some Try.f77 := rfl
theorem E78 : E.fn 78 = some Try.f78 := rfl
theorem E79 : E.fn 79 = some Try.f79 := rfl
theorem E80 : E.fn 80 = some Try.f80 := rfl
theorem E81 : E.fn 81 = some Try.f81 := rfl
theorem E82 : E.fn 82 = some Try.f82 := rfl
theorem E83 : E.fn 83 = some Try.f83 := rfl
theorem E84 : E.fn 84 = some Try.f84 := rfl
theorem E85 : E.fn 85 = some Try.f85 := rfl
theorem E86 : E.fn 86 = some Try.f86 := rfl
theorem E87 : E.fn 87 = some Try.f87 := rfl
theorem E88 : E.fn 88 = some Try.f88 := rfl
theorem E89 : E.fn 89 = some Try.f89 := rfl
theorem E90 : E.fn 90 = some Try.f90 := rfl
theorem E91 : E.fn 91 = some Try.f91 := rfl
theorem E92 : E.fn 92 = some Try.f92 := rfl
theorem E93 : E.fn 93 = some Try.f93 := rfl
theorem E94 : E.fn 94 = some Try.f94 := rfl
theorem E95 : E.fn 95 = some Try.f95 := rfl
theorem E96 : E.fn 96 = some Try.f96 := rfl
theorem E97 : E.fn 97 = some Try.f97 := rfl
theorem E98 : E.fn 98 = some Try.f98 := rfl
theorem E99 : E.fn 99 = some Try.f99 := rfl
theorem E100 : E.fn 100 = some Try.f100 := rfl
theorem E101 : E.fn 101 = some Try.f101 := rfl
theorem E102 : E.fn 102 = some Try.f102 := rfl
theorem E103 : E.fn 103 = some Try.f103 := rfl
theorem E104 : E.fn 104 = some Try.f104 := rfl
theorem E105 : E.fn 105 = some Try.f105 := rfl
theorem E106 : E.fn 106 = some Try.f106 := rfl
theorem E107 : E.fn 107 = some Try.f107 := rfl
theorem E108 : E.fn 108 = some Try.f108 := rfl
theorem E109 : E.fn 109 = some Try.f109 := rfl
theorem E110 : E.fn 110 = some Try.f110 := rfl
theorem E111 : E.fn 111 = some Try.f111 := rfl
theorem E112 : E.fn 112 = some Try.f112 := rfl
theorem E113 : E.fn 113 = some Try.f113 := rfl
theorem E114 : E.fn 114 = some Try.f114 := rfl
theorem E115 : E.fn 115 = some Try.f115 := rfl
theorem E116 : E.fn 116 = some Try.f116 := rfl
theorem E117 : E.fn 117 = some Try.f117 := rfl
theorem E118 : E.fn 118 = some Try.f118 := rfl
theorem E119 : E.fn 119 = some Try.f119 := rfl
theorem E120 : E.fn 120 = some Try.f120 := rfl
theorem E121 : E.fn 121 = some Try.f121 := rfl
theorem E122 : E.fn 122 = some Try.f122 := rfl
theorem E123 : E.fn 123 = some Try.f123 := rfl
theorem E124 : E.fn 124 = some Try.f124 := rfl
theorem E125 : E.fn 125 = some Try.f125 := rfl
theorem E126 : E.fn 126 = some Try.f126 := rfl
theorem E127 : E.fn 127 = some Try.f127 := rfl
theorem T1 : E.T 1 = some ⟨1, 8, false, .nilf, .func⟩ := rfl
theorem T2 : E.T 2 = some ⟨1, 8, false, (.int .i64 0), (.int .i64)⟩ := rfl
theorem T3 : E.T 3 = some ⟨1, 8, false, (.int .i64 0), (.int .i64)⟩ := rfl
theorem T4 : E.T 4 = some ⟨1, 1, false, (.bool false), .bool⟩ := rfl
theorem T5 : E.T 5 = some ⟨1, 1, false, (.int .u8 0), (.int .u8)⟩ := rfl
theorem T6 : E.T 6 = some ⟨1, 1, false, (.int .u8 0), (.int .u8)⟩ := rfl
theorem T9 : E.T 9 = some ⟨1, 16, false, (.str ByteArray.empty), .str⟩ := rfl
theorem T10 : E.T 10 = some ⟨1, 16, false, (.str ByteArray.empty), .str⟩ := rfl
theorem T11 : E.T 11 = some ⟨1, 16, false, (.str ByteArray.empty), .str⟩ := rfl
theorem T12 : E.T 12 = some ⟨1, 8, false, (.int .u64 0), (.int .u64)⟩ := rfl
theorem T15 : E.T 15 = some ⟨1, 8, false, .nilp, (.ptr 139)⟩ := rfl
theorem T16 : E.T 16 = some ⟨1, 8, false, .nilp, (.ptr 142)⟩ := rfl
theorem T17 : E.T 17 = some ⟨1, 8, false, .nilp, (.ptr 151)⟩ := rfl
theorem T20 : E.T 20 = some ⟨1, 16, false, .nili, .iface⟩ := rfl
theorem T21 : E.T 21 = some ⟨1, 4, false, (.int .i32 0), (.int .i32)⟩ := rfl
theorem T22 : E.T 22 = some ⟨1, 24, false, (.lst true []), (.slice 23)⟩ := rfl
theorem T23 : E.T 23 = some ⟨1, 24, false, (.lst true []), (.slice 26)⟩ := rfl
theorem T24 : E.T 24 = some ⟨1, 24, false, (.lst true []), (.slice 72)⟩ := rfl
theorem T25 : E.T 25 = some ⟨2, 32, true, (.agg [.bool false, .lst true []]), (.struct [(0, 4), (1, 24)])⟩ := rfl
theorem T26 : E.T 26 = some ⟨2, 32, true, (.agg [.bool false, .lst true []]), (.struct [(0, 4), (1, 24)])⟩ := rfl
theorem T27 : E.T 27 = some ⟨6, 112, true, (.agg [.bool false, .lst true [], .lst true [], .lst true [], .bool false, .lst true []]), (.struct [(0, 4), (1, 23), (2, 22), (3, 23), (4, 26)])⟩ := rfl
theorem T28 : E.T 28 = some ⟨6, 112, true, (.agg [.bool false, .lst true [], .lst true [], .lst true [], .bool false, .lst true []]), (.struct [(0, 4), (1, 23), (2, 22), (3, 23), (4, 26)])⟩ := rfl
theorem T29 : E.T 29 = some ⟨1, 8, false, (.int .i64 0), (.int .i64)⟩ := rfl
theorem T31 : E.T 31 = some ⟨1, 8, false, .nilf, .func⟩ := rfl
theorem T32 : E.T 32 = some ⟨1, 8, false, .nilf, .func⟩ := rfl
theorem T34 : E.T 34 = some ⟨1, 8, false, .nilf, .func⟩ := rfl
theorem T35 : E.T 35 = some ⟨1, 8, false, .nilf, .func⟩ := rfl
theorem T37 : E.T 37 = some ⟨1, 8, false, .nilf, .func⟩ := rfl
theorem T38 : E.T 38 = some ⟨1, 8, false, .nilf, .func⟩ := rfl
theorem T39 : E.T 39 = some ⟨1, 8, false, .nilf, .func⟩ := rfl
theorem T40 : E.T 40 = some ⟨1, 8, false, .nilf, .func⟩ := rfl
theorem T41 : E.T 41 = some ⟨1, 8, false, .nilf, .func⟩ := rfl
theorem T42 : E.T 42 = some ⟨1, 8, false, .nilf, .func⟩ := rfl
theorem T43 : E.T 43 = some ⟨1, 8, false, .nilf, .func⟩ := rfl
theorem T44 : E.T 44 = some ⟨1, 8, false, .nilf, .func⟩ := rfl
theorem T45 : E.T 45 = some ⟨1, 8, false, .nilf, .func⟩ := rfl
theorem T46 : E.T 46 = some ⟨1, 8, false, .nilf, .func⟩ := rfl
theorem T47 : E.T 47 = some ⟨1, 8, false, .nilf, .func⟩ := rfl
theorem T48 : E.T 48 = some ⟨1, 8, false, .nilf, .func⟩ := rfl
theorem T49 : E.T 49 = some ⟨1, 8, false, .nilf, .func⟩ := rfl
theorem T50 : E.T 50 = some ⟨1, 8, false, .nilf, .func⟩ := rfl
theorem T51 : E.T 51 = some ⟨1, 8, false, .nilf, .func⟩ := rfl
theorem T52 : E.T 52 = some ⟨1, 8, false, .nilf, .func⟩ := rfl
theorem T53 : E.T 53 = some ⟨1, 8, false, .nilf, .func⟩ := rfl
theorem T54 : E.T 54 = some ⟨1, 8, false, .nilf, .func⟩ := rfl
theorem T56 : E.T 56 = some ⟨1, 8, false, .nilf, .func⟩ := rfl
theorem T57 : E.T 57 = some ⟨1, 8, false, .nilf, .func⟩ := rfl
theorem T59 : E.T 59 = some ⟨1, 8, false, .nilf, .func⟩ := rfl
theorem T60 : E.T 60 = some ⟨1, 8, false, .nilf, .func⟩ := rfl
theorem T61 : E.T 61 = some ⟨1, 8, false, .nilf, .func⟩ := rfl
theorem T62 : E.T 62 = some ⟨1, 8, false, .nilf, .func⟩ := rfl
theorem T63 : E.T 63 = some ⟨1, 8, false, .nilf, .func⟩ := rfl
theorem T64 : E.T 64 = some ⟨1, 24, false, (.lst true []), (.slice 66)⟩ := rfl
theorem T65 : E.T 65 = some ⟨1, 8, false, .nilf, .func⟩ := rfl
theorem T66 : E.T 66 = some ⟨1, 24, false, (.lst true []), (.slice 26)⟩ := rfl
theorem T67 : E.T 67 = some ⟨1, 8, false, .nilf, .func⟩ := rfl
theorem T69 : E.T 69 = some ⟨1, 8, false, .nilf, .func⟩ := rfl
theorem T70 : E.T 70 = some ⟨1, 8, false, .nilf, .func⟩ := rfl
theorem T71 : E.T 71 = some ⟨1, 8, false, (.int .u64 0), (.int .u64)⟩ := rfl
theorem T72 : E.T 72 = some ⟨1, 4, false, (.int .u32 0), (.int .u32)⟩ := rfl
theorem T73 : E.T 73 = some ⟨1, 8, false, (.int .u64 0), (.int .u64)⟩ := rfl
theorem T74 : E.T 74 = some ⟨1, 8, false, .nilf, .func⟩ := rfl
theorem T75 : E.T 75 = some ⟨1, 8, false, .nilf, .func⟩ := rfl
theorem T76 : E.T 76 = some ⟨1, 8, false, .nilf, .func⟩ := rfl
theorem T77 : E.T 77 = some ⟨1, 8, false, .nilf, .func⟩ := rfl
theorem T78 : E.T 78 = some ⟨1, 8, false, (.int .i64 0), (.int .i64)⟩ := rfl
theorem T80 : E.T 80 = some ⟨1, 8, false, .nilp, (.ptr 86)⟩ := rfl
theorem T81 : E.T 81 = some ⟨1, 8, false, .nilf, .func⟩ := rfl
theorem T82 : E.T 82 = some ⟨1, 24, true, (.agg [.lst true []]), (.struct [(0, 64)])⟩ := rfl
theorem T83 : E.T 83 = some ⟨1, 24, true, (.agg [.lst true []]), (.struct [(0, 64)])⟩ := rfl
theorem T84 : E.T 84 = some ⟨1, 24, false, (.lst true []), (.slice 3)⟩ := rfl
theorem T85 : E.T 85 = some ⟨3, 72, true, (.agg [.lst true [], .lst true [], .lst true []]), (.struct [(0, 83), (1, 64), (2, 84)])⟩ := rfl
theorem T86 : E.T 86 = some ⟨3, 72, true, (.agg [.lst true [], .lst true [], .lst true []]), (.struct [(0, 83), (1, 64), (2, 84)])⟩ := rfl
theorem T88 : E.T 88 = some ⟨1, 8, false, .nilf, .func⟩ := rfl
theorem T89 : E.T 89 = some ⟨1, 8, false, .nilf, .func⟩ := rfl
theorem T90 : E.T 90 = some ⟨1, 8, false, .nilf, .func⟩ := rfl
theorem T91 : E.T 91 = some ⟨1, 8, false, .nilf, .func⟩ := rfl
theorem T92 : E.T 92 = some ⟨1, 24, false, (.lst true []), (.slice 72)⟩ := rfl
theorem T93 : E.T 93 = some ⟨1, 8, false, .nilf, .func⟩ := rfl
theorem T94 : E.T 94 = some ⟨1, 8, false, .nilf, .func⟩ := rfl
theorem T95 : E.T 95 = some ⟨1, 8, false, .nilf, .func⟩ := rfl
theorem T96 : E.T 96 = some ⟨1, 24, false, (.lst true []), (.slice 5)⟩ := rfl
theorem T98 : E.T 98 = some ⟨1, 8, false, .nilf, .func⟩ := rfl
theorem T99 : E.T 99 = some ⟨1, 8, false, .nilf, .func⟩ := rfl
theorem T100 : E.T 100 = some ⟨1, 8, false, .nilf, .func⟩ := rfl
theorem T101 : E.T 101 = some ⟨1, 8, false, .nilf, .func⟩ := rfl
theorem T102 : E.T 102 = some ⟨1, 8, false, .nilf, .func⟩ := rfl
theorem T103 : E.T 103 = some ⟨1, 8, false, .nilf, .func⟩ := rfl
theorem T104 : E.T 104 = some ⟨1, 8, false, .nilf, .func⟩ := rfl
theorem T106 : E.T 106 = some ⟨1, 8, false, .nilf, .func⟩ := rfl
theorem T107 : E.T 107 = some ⟨1, 8, false, .nilf, .func⟩ := rfl
theorem T108 : E.T 108 = some ⟨1, 24, false, (.lst true []), (.slice 110)⟩ := rfl
theorem T109 : E.T 109 = some ⟨4, 64, true, (.agg [.bool false, .lst true [], .bool false, .lst true []]), (.struct [(0, 26), (2, 26)])⟩ := rfl
theorem T110 : E.T 110 = some ⟨4, 64, true, (.agg [.bool false, .lst true [], .bool false, .lst true []]), (.struct [(0, 26), (2, 26)])⟩ := rfl
theorem T111 : E.T 111 = some ⟨1, 8, false, .nilf, .func⟩ := rfl
theorem T112 : E.T 112 = some ⟨1, 8, false, .nilf, .func⟩ := rfl
theorem T113 : E.T 113 = some ⟨1, 8, false, .nilf, .func⟩ := rfl
theorem T115 : E.T 115 = some ⟨1, 8, false, .nilf, .func⟩ := rfl
theorem T116 : E.T 116 = some ⟨1, 8, false, .nilf, .func⟩ := rfl
theorem T117 : E.T 117 = some ⟨1, 8, false, .nilf, .func⟩ := rfl
theorem T118 : E.T 118 = some ⟨1, 8, false, .nilf, .func⟩ := rfl
theorem T119 : E.T 119 = some ⟨1, 8, false, .nilf, .func⟩ := rfl
theorem T120 : E.T 120 = some ⟨1, 8, false, .nilf, .func⟩ := rfl
theorem T122 : E.T 122 = some ⟨1, 8, false, .nilf, .func⟩ := rfl
theorem T123 : E.T 123 = some ⟨1, 8, false, .nilf, .func⟩ := rfl
theorem T125 : E.T 125 = some ⟨1, 8, false, .nilf, .func⟩ := rfl
theorem T126 : E.T 126 = some ⟨1, 8, false, .nilf, .func⟩ := rfl
theorem T127 : E.T 127 = some ⟨1, 8, false, .nilp, (.ptr 83)⟩ := rfl
theorem T128 : E.T 128 = some ⟨1, 8, false, .nilf, .func⟩ := rfl
theorem T129 : E.T 129 = some ⟨1, 8, false, .nilf, .func⟩ := rfl
theorem T131 : E.T 131 = some ⟨1, 8, false, .nilf, .func⟩ := rfl
theorem T132 : E.T 132 = some ⟨1, 8, false, .nilf, .func⟩ := rfl
theorem T133 : E.T 133 = some ⟨1, 8, false, .nilf, .func⟩ := rfl
theorem T134 : E.T 134 = some ⟨1, 8, false, .nilf, .func⟩ := rfl
theorem T135 : E.T 135 = some ⟨1, 8, false, .nilf, .func⟩ := rfl
theorem T136 : E.T 136 = some ⟨1, 8, false, .nilf, .func⟩ := rfl
theorem T137 : E.T 137 = some ⟨1, 8, false, .nilf, .func⟩ := rfl
theorem T140 : E.T 140 = some ⟨0, 0, true, (.agg []), (.array 0 16)⟩ := rfl
theorem T143 : E.T 143 = some ⟨1, 8, false, .nilf, .func⟩ := rfl
theorem T144 : E.T 144 = some ⟨1, 1, false, (.int .u8 0), (.int .u8)⟩ := rfl
theorem T145 : E.T 145 = some ⟨1, 1, false, (.int .u8 0), (.int .u8)⟩ := rfl
theorem T146 : E.T 146 = some ⟨1, 8, false, .nilf, .func⟩ := rfl
theorem T147 : E.T 147 = some ⟨1, 8, false, .nilp, (.ptr 5)⟩ := rfl
theorem T148 : E.T 148 = some ⟨1, 4, false, (.int .i32 0), (.int .i32)⟩ := rfl
theorem T149 : E.T 149 = some ⟨1, 4, false, (.int .i32 0), (.int .i32)⟩ := rfl
theorem opn_eq (g : Nat) : E.opn g = (decide (g = 89) || (decide (g = 105) || (decide (g = 73) || (decide (g = 29) || (decide (g = 35) || (decide (g = 38) || (decide (g = 42) || (decide (g = 41) || (decide (g = 57) || (decide (g = 78) || (decide (g = 93) || (decide (g = 94) || (decide (g = 62) || (decide (g = 13) || (decide (g = 1000003) || (decide (g = 28) || (false))))))))))))))))) := rfl
theorem O0 : E.opn 0 = false := rfl
theorem O1 : E.opn 1 = false := rfl
theorem O2 : E.opn 2 = false := rfl
theorem O3 : E.opn 3 = false := rfl
theorem O4 : E.opn 4 = false := rfl
theorem O5 : E.opn 5 = false := rfl
theorem O6 : E.opn 6 = false := rfl
theorem O7 : E.opn 7 = false := rfl
theorem O8 : E.opn 8 = false := rfl
theorem O9 : E.opn 9 = false := rfl
theorem O10 : E.opn 10 = false := rfl
theorem O11 : E.opn 11 = false := rfl
theorem O12 : E.opn 12 = false := rfl
theorem O13 : E.opn 13 = true := rfl
theorem O14 : E.opn 14 = false := rfl
theorem O15 : E.opn 15 = false := rfl
theorem O16 : E.opn 16 = false := rfl
theorem O17 : E.opn 17 = false := rfl
theorem O18 : E.opn 18 = false := rfl
theorem O19 : E.opn 19 = false := rfl
theorem O20 : E.opn 20 = false := rfl
theorem O21 : E.opn 21 = false := rfl
theorem O22 : E.opn 22 = false := rfl
theorem O23 : E.opn 23 = false := rfl
theorem O24 : E.opn 24 = false := rfl
theorem O25 : E.opn 25 = false := rfl
theorem O26 : E.opn 26 = false := rfl
theorem O27 : E.opn 27 = false := rfl
theorem O28 : E.opn 28 = true := rfl
theorem O29 : E.opn 29 = true := rfl
theorem O30 : E.opn 30 = false := rfl
theorem O31 : E.opn 31 = false := rfl
theorem O32 : E.opn 32 = false := rfl
theorem O33 : E.opn 33 = false := rfl
theorem O34 : E.opn 34 = false := rfl
theorem O35 : E.opn 35 = true := rfl
theorem O36 : E.opn 36 = false := rfl
theorem O37 : E.opn 37 = false := rfl
theorem O38 : E.opn 38 = true := rfl
theorem O39 : E.opn 39 = false := rfl
theorem O40 : E.opn 40 = false := rfl
theorem O41 : E.opn 41 = true := rfl
theorem O42 : E.opn 42 = true := rfl
theorem O43 : E.opn 43 = false := rfl
theorem O44 : E.opn 44 = false := rfl
theorem O45 : E.opn 45 = false := rfl
theorem O46 : E.opn 46 = false := rfl
theorem O47 : E.opn 47 = false := rfl
theorem O48 : E.opn 48 = false := rfl
theorem O49 : E.opn 49 = false := rfl
theorem O50 : E.opn 50 = false := rfl
theorem O51 : E.opn 51 = false := rfl
theorem O52 : E.opn 52 = false := rfl
theorem O53 : E.opn 53 = false := rfl
theorem O54 : E.opn 54 = false := rfl
theorem O55 : E.opn 55 = false := rfl
theorem O56 : E.opn 56 = false := rfl
theorem O57 : E.opn 57 = true := rfl
theorem O58 : E.opn 58 = false := rfl
theorem O59 : E.opn 59 = false := rfl
theorem O60 : E.opn 60 = false := rfl
theorem O61 : E.opn 61 = false := rfl
theorem O62 : E.opn 62 = true := rfl
theorem O63 : E.opn 63 = false := rfl
theorem O64 : E.opn 64 = false := rfl
theorem O65 : E.opn 65 = false := rfl
theorem O66 : E.opn 66 = false := rfl
theorem O67 : E.opn 67 = false := rfl
theorem O68 : E.opn 68 = false := rfl
theorem O69 : E.opn 69 = false := rfl
theorem O70 : E.opn 70 = false := rfl
theorem O71 : E.opn 71 = false := rfl
theorem O72 : E.opn 72 = false := rfl
theorem O73 : E.opn 73 = true := rfl
theorem O74 : E.opn 74 = false := rfl
theorem O75 : E.opn 75 = false := rfl
theorem O76 : E.opn 76 = false := rfl
theorem O77 : E.opn 77 = false := rfl
theorem O78 : E.opn 78 = true := rfl
theorem O79 : E.opn 79 = false := rfl
theorem O80 : E.opn 80 = false := rfl
theorem O81 : E.opn 81 = false := rfl
theorem O82 : E.opn 82 = false := rfl
theorem O83 : E.opn 83 = false := rfl
theorem O84 : E.opn 84 = false := rfl
theorem O85 : E.opn 85 = false := rfl
theorem O86 : E.opn 86 = false := rfl
theorem O87 : E.opn 87 = false := rfl
theorem O88 : E.opn 88 = false := rfl
theorem O89 : E.opn 89 = true := rfl
theorem O90 : E.opn 90 = false := rfl
theorem O91 : E.opn 91 = false := rfl
theorem O92 : E.opn 92 = false := rfl
theorem O93 : E.opn 93 = true := rfl
theorem O94 : E.opn 94 = true := rfl
theorem O95 : E.opn 95 = false := rfl
theorem O96 : E.opn 96 = false := rfl
theorem O97 : E.opn 97 = false := rfl
theorem O98 : E.opn 98 = false := rfl
theorem O99 : E.opn 99 = false := rfl
theorem O100 : E.opn 100 = false := rfl
theorem O101 : E.opn 101 = false := rfl
theorem O102 : E.opn 102 = false := rfl
theorem O103 : E.opn 103 = false := rfl
theorem O104 : E.opn 104 = false := rfl
theorem O105 : E.opn 105 = true := rfl
theorem O106 : E.opn 106 = false := rfl
theorem O107 : E.opn 107 = false := rfl
theorem O108 : E.opn 108 = false := rfl
theorem O109 : E.opn 109 = false := rfl
theorem O110 : E.opn 110 = false := rfl
theorem O111 : E.opn 111 = false := rfl
theorem O112 : E.opn 112 = false := rfl
theorem O113 : E.opn 113 = false := rfl
theorem O114 : E.opn 114 = false := rfl
theorem O115 : E.opn 115 = false := rfl
theorem O116 : E.opn 116 = false := rfl
theorem O117 : E.opn 117 = false := rfl
theorem O118 : E.opn 118 = false := rfl
theorem O119 : E.opn 119 = false := rfl
theorem O120 : E.opn 120 = false := rfl
theorem O121 : E.opn 121 = false := rfl
theorem O122 : E.opn 122 = false := rfl
theorem O123 : E.opn 123 = false := rfl
theorem O124 : E.opn 124 = false := rfl
theorem O125 : E.opn 125 = false := rfl
theorem O126 : E.opn 126 = false := rfl
theorem O127 : E.opn 127 = false := rfl
theorem O1000003 : E.opn 1000003 = true := rfl
set_option maxRecDepth 100000 in
theorem tl_ok : (List.range 153).map (fun t => match (TL[t]?).join with | some _ => Vm.tiOf Try.prog t | none => none) = TL := by kernel_rfl
set_option maxRecDepth 100000 in
theorem fl_ok : FL = Try.prog.funcs.toList := by kernel_rfl
set_option maxRecDepth 100000 in
theorem fl_all : FL.all (fun fn => fn.name != "runtime.NumGoroutine" && (match fn.body with | some c => Vm.codeOk c | none => true)) = true := by kernel_rfl
set_option maxRecDepth 100000 in
theorem sq_ok : Vm.sqAll Try.prog (fun t => (TL[t]?).join) 153 = true := by kernel_rfl
theorem fn_of (f : FuncId) (fn : Func) (h1 : FL[f]? = some fn) : Try.prog.funcs[f]? = some fn ∧ fn.name ≠ "runtime.NumGoroutine" ∧ ∀ c, fn.body = some c → Vm.codeOk c = true := by
  have h2 := List.all_eq_true.1 fl_all fn (List.mem_of_getElem? h1)
  rw [Bool.and_eq_true] at h2
  refine ⟨?_, by simpa using h2.1, fun c hc => ?_⟩
  · rw [fl_ok] at h1
    rw [← Array.getElem?_toList]
    exact h1
  · have h3 := h2.2
    rw [hc] at h3
    exact h3
theorem eok : Vm.POk Try.prog E where
  ty t ti h := by
    have h1 : (TL[t]?).join = some ti := h
    have hlt : t < 153 := by
      rcases Nat.lt_or_ge t 153 with h | h
      · exact h
      · rw [List.getElem?_eq_none (by exact h)] at h1; cases h1
    have h2 := congrArg (fun l => (l[t]?).join) tl_ok
    rw [h1, List.getElem?_map, List.getElem?_range hlt] at h2
    simp only [Option.map_some, h1] at h2
    simpa using h2
  fn f fn h := by
    refine fn_of f fn ?_
    have h1 : (if (decide (f = 28) || (false)) = true then none else FL[f]?) = some fn := h
    split at h1
    · cases h1
    · exact h1
  df f fn h := by
    refine fn_of f fn ?_
    have h1 : (if (decide (f = 28) || (false)) = true then FL[f]? else none) = some fn := h
    split at h1
    · exact h1
    · cases h1
  sq t ti fs h hd hf := by
    have h1 : (TL[t]?).join = some ti := h
    have hlt : t < 153 := by
      rcases Nat.lt_or_ge t 153 with h | h
      · exact h
      · rw [List.getElem?_eq_none (by exact h)] at h1; cases h1
    have h2 := List.all_eq_true.1 sq_ok t (List.mem_range.2 hlt)
    have hf' : Vm.flatS (fun t => (TL[t]?).join) fs = true := hf
    simp only [h1, hd, hf'] at h2
    simpa using h2
  mixed := by kernel_rfl
  yf := by
    have h1 : FL[1000003]? = none := List.getElem?_eq_none (by have : FL.length = 128 := rfl; omega)
    constructor
    · show (if (decide (1000003 = 28) || (false)) = true then none else FL[1000003]?) = none
      rw [h1]
      split <;> rfl
    · show (if (decide (1000003 = 28) || (false)) = true then FL[1000003]? else none) = none
      rw [h1]
      split <;> rfl
attribute [go_sem] O0 O1 O2 O3 O4 O5 O6 O7 O8 O9 O10 O11 O12 O13 O14 O15 O16 O17 O18 O19 O20 O21 O22 O23 O24 O25 O26 O27 O28 O29 O30 O31 O32 O33 O34 O35 O36 O37 O38 O39 O40 O41 O42 O43 O44 O45 O46 O47 O48 O49 O50 O51 O52 O53 O54 O55 O56 O57 O58 O59 O60 O61 O62 O63 O64 O65 O66 O67 O68 O69 O70 O71 O72 O73 O74 O75 O76 O77 O78 O79 O80 O81 O82 O83 O84 O85 O86 O87 O88 O89 O90 O91 O92 O93 O94 O95 O96 O97 O98 O99 O100 O101 O102 O103 O104 O105 O106 O107 O108 O109 O110 O111 O112 O113 O114 O115 O116 O117 O118 O119 O120 O121 O122 O123 O124 O125 O126 O127 O1000003 T1 T2 T3 T4 T5 T6 T9 T10 T11 T12 T15 T16 T17 T20 T21 T22 T23 T24 T25 T26 T27 T28 T29 T31 T32 T34 T35 T37 T38 T39 T40 T41 T42 T43 T44 T45 T46 T47 T48 T49 T50 T51 T52 T53 T54 T56 T57 T59 T60 T61 T62 T63 T64 T65 T66 T67 T69 T70 T71 T72 T73 T74 T75 T76 T77 T78 T80 T81 T82 T83 T84 T85 T86 T88 T89 T90 T91 T92 T93 T94 T95 T96 T98 T99 T100 T101 T102 T103 T104 T106 T107 T108 T109 T110 T111 T112 T113 T115 T116 T117 T118 T119 T120 T122 T123 T125 T126 T127 T128 T129 T131 T132 T133 T134 T135 T136 T137 T140 T143 T144 T145 T146 T147 T148 T149
end Go.Proofs.Ytnpomadbaanpkaa

/- The machine over pure values and the model's world: a function of the program, called from outside. (Own work of this repo.) -/
namespace Vm
open Go Go.RowKit

/-- No heap of the machine's own. -/
def C0 (w : World) : Cx := ⟨Heap.empty, fun _ => 0, fun _ => False, fun _ => False, w⟩
theorem C0_ok (w : World) : (C0 w).Ok :=
  ⟨fun _ _ _ _ h => absurd h (by simp [C0, Heap.empty]), fun _ _ h => absurd h (by simp [C0, Heap.empty]), fun _ _ h => absurd h (by simp [C0, Heap.empty]), fun _ _ h => absurd h (by simp [C0, Heap.empty]), fun _ h => h.elim, fun _ _ h => absurd h (by simp [C0, Heap.empty])⟩
theorem C0_wr (w : World) (b : Nat) : ¬ (C0 w).wr b := fun h => h.elim id fun ⟨_, _, h, _⟩ => by simp [C0, Heap.empty] at h

theorem denP_calls {P : Program} {E : Env} (hE : POk P E) {f : FuncId} {l : List AV} {x : AV} (h : denP E f l = some (.ret x)) (w : World) (vs : Array Value) (hr : RepL (C0 w) vs.toList l) (hp : AV.pureL l = true) :
    Calls P f vs w fun e w' => Below w.heap.size w w' ∧ ∃ v, e = .returned v ∧ Rep (C0 w') v x := by
  refine Calls.mono (denP_ok hE f l _ h (C0 w) vs (C0_ok w) hr hp).2 ?_
  rintro e w' ⟨le, ok, v, rfl, hv, _⟩
  refine ⟨⟨le.env.1, le.env.2.1, le.env.2.2, le.size, fun k hk => le.mem k hk (fun ho => C0_wr w k (.inr ho))⟩, v, rfl, hv⟩
end Vm

/- The machine over pure values: how one walks through code. (Own work of this repo.) -/
namespace Vm
open Go

def W (E : Env) (c : Code) (σ : St) (Q : Ex → St → Prop) : Prop := ∃ e σ', den E c σ = some (e, σ') ∧ Q e σ'
def Rg (E : Env) (all os : List Oper) (σ : St) (Q : Ex → St → Prop) : Prop := ∃ e σ', runOps E (cl E (den E)) all os σ = some (e, σ') ∧ Q e σ'

/-- Behind a piece of code another one. -/
def thenK (E : Env) (b : Code) (Q : Ex → St → Prop) : Ex → St → Prop
  | .norm, σ => W E b σ Q
  | e, σ => Q e σ
def blockK (i : Nat) (Q : Ex → St → Prop) : Ex → St → Prop
  | .exit j, σ => if j = i then Q .norm σ else Q (.exit j) σ
  | e, σ => Q e σ
section
variable {E : Env} {Q : Ex → St → Prop} {σ : St}
@[simp] theorem thenK_norm {b : Code} : thenK E b Q .norm σ = W E b σ Q := rfl
@[simp] theorem thenK_exit {b : Code} {i : Nat} : thenK E b Q (.exit i) σ = Q (.exit i) σ := rfl
@[simp] theorem thenK_ret {b : Code} : thenK E b Q .ret σ = Q .ret σ := rfl
@[simp] theorem thenK_panic {b : Code} {v : AV} : thenK E b Q (.panic v) σ = Q (.panic v) σ := rfl
@[simp] theorem blockK_norm {i : Nat} : blockK i Q .norm σ = Q .norm σ := rfl
@[simp] theorem blockK_exit {i j : Nat} : blockK i Q (.exit j) σ = if j = i then Q .norm σ else Q (.exit j) σ := rfl
@[simp] theorem blockK_ret {i : Nat} : blockK i Q .ret σ = Q .ret σ := rfl
@[simp] theorem blockK_panic {i : Nat} {v : AV} : blockK i Q (.panic v) σ = Q (.panic v) σ := rfl

theorem W_mono {Q' : Ex → St → Prop} {c : Code} (h : W E c σ Q) (hq : ∀ e σ, Q e σ → Q' e σ) : W E c σ Q' := let ⟨e, σ', h1, h2⟩ := h; ⟨e, σ', h1, hq _ _ h2⟩
theorem W_of {c : Code} {r : Ex × St} (h : step E (cl E (den E)) (den E) c σ = some r) (hq : Q r.1 r.2) : W E c σ Q := ⟨r.1, r.2, by rw [den_eq]; exact h, hq⟩
theorem W_step {c : Code} : W E c σ Q ↔ ∃ e σ', step E (cl E (den E)) (den E) c σ = some (e, σ') ∧ Q e σ' := by unfold W; rw [den_eq]
theorem W_skip : W E .skip σ Q = Q .norm σ := propext ⟨fun ⟨e, σ', h, hq⟩ => by rw [den_eq] at h; cases h; exact hq, fun h => W_of rfl h⟩
theorem W_ret : W E .ret σ Q = Q .ret σ := propext ⟨fun ⟨e, σ', h, hq⟩ => by rw [den_eq] at h; cases h; exact hq, fun h => W_of rfl h⟩
theorem W_exit {i : Nat} : W E (.exit i) σ Q = Q (.exit i) σ := propext ⟨fun ⟨e, σ', h, hq⟩ => by rw [den_eq] at h; cases h; exact hq, fun h => W_of rfl h⟩
theorem W_seq {a b : Code} : W E (.seq a b) σ Q = W E a σ (thenK E b Q) := by
  refine propext ⟨?_, ?_⟩
  · rintro ⟨e, σ', h, hq⟩
    rw [den_eq] at h
    simp only [step] at h
    split at h
    · rename_i σ1 h1
      refine ⟨_, _, by rw [den_eq]; exact h1, ?_⟩
      exact ⟨e, σ', by rw [den_eq]; exact h, hq⟩
    all_goals first | (cases h; done) | skip
    all_goals
      rename_i h1
      cases h
      exact ⟨_, _, (den_eq E _ _).trans h1, hq⟩
  · rintro ⟨e, σ', h, hq⟩
    rw [den_eq] at h
    cases e with
    | norm =>
      obtain ⟨e2, σ2, h2, hq2⟩ := hq
      rw [den_eq] at h2
      refine W_of (r := (e2, σ2)) ?_ hq2
      simp only [step, h, h2]
    | exit i => exact W_of (r := (.exit i, σ')) (by simp only [step, h]) hq
    | ret => exact W_of (r := (.ret, σ')) (by simp only [step, h]) hq
    | panic v => exact W_of (r := (.panic v, σ')) (by simp only [step, h]) hq
theorem W_block {i : Nat} {c : Code} : W E (.block i c) σ Q = W E c σ (blockK i Q) := by
  refine propext ⟨?_, ?_⟩
  · rintro ⟨e, σ', h, hq⟩
    rw [den_eq] at h
    simp only [step] at h
    split at h
    · rename_i σ1 h1
      cases h
      exact ⟨_, _, (den_eq E _ _).trans h1, hq⟩
    · rename_i j σ1 h1
      refine ⟨_, _, by rw [den_eq]; exact h1, ?_⟩
      rw [blockK_exit]
      split at h
      · rename_i hj; cases h; rw [if_pos hj]; exact hq
      · rename_i hj; cases h; rw [if_neg hj]; exact hq
    all_goals first | (cases h; done) | skip
    all_goals
      rename_i h1
      cases h
      exact ⟨_, _, (den_eq E _ _).trans h1, hq⟩
  · rintro ⟨e, σ', h, hq⟩
    rw [den_eq] at h
    cases e with
    | norm => exact W_of (r := (.norm, σ')) (by simp only [step, h]) hq
    | exit j =>
      rw [blockK_exit] at hq
      split at hq
      · rename_i hj; exact W_of (r := (.norm, σ')) (by simp only [step, h, if_pos hj]) hq
      · rename_i hj; exact W_of (r := (.exit j, σ')) (by simp only [step, h, if_neg hj]) hq
    | ret => exact W_of (r := (.ret, σ')) (by simp only [step, h]) hq
    | panic v => exact W_of (r := (.panic v, σ')) (by simp only [step, h]) hq
theorem W_cond {c : Operand} {a b : Code} {t : Bool} (h : ev σ.sl c = some (.bool t)) : W E (.cond c a b) σ Q = if t = true then W E a σ Q else W E b σ Q := by
  refine propext ?_
  simp only [W_step, step, h]
  cases t <;> simp
theorem W_region {i : Nat} {ops : Array Oper} : W E (.region i ops false) σ Q = Rg E ops.toList ops.toList σ Q := by
  refine propext ?_
  rw [W_step]
  simp only [step, Bool.false_eq_true, if_false]
  rfl
theorem W_draw {i : Nat} {ops : Array Oper} {r : Ex × St} (h : runDraw E (cl E (den E)) ops.toList σ = some r) : W E (.region i ops true) σ Q = Q r.1 r.2 := by
  refine propext ?_
  rw [W_step]
  simp only [step, if_true, h]
  exact ⟨fun ⟨e, σ', h, hq⟩ => by cases h; exact hq, fun hq => ⟨_, _, rfl, hq⟩⟩
/-- A loop: what holds at each round's start, and what falls. -/
theorem W_loop {c : Code} (I : St → Prop) (μ : St → Nat) (h0 : I σ) (round : ∀ σ, I σ → W E c σ (fun e σ' => match e with
    | .norm => I σ' ∧ μ σ' < μ σ
    | e => Q e σ')) : W E (.loop c) σ Q := by
  have key : ∀ n σ, μ σ = n → I σ → W E (.loop c) σ Q := by
    intro n
    induction n using Nat.strongRecOn with
    | _ n ih =>
      intro σ hn hI
      obtain ⟨e, σ1, h1, hq⟩ := round σ hI
      cases e with
      | norm =>
        obtain ⟨hI1, hlt⟩ := hq
        obtain ⟨e2, σ2, h2, hq2⟩ := ih (μ σ1) (by omega) σ1 rfl hI1
        exact W_of (r := (e2, σ2)) (by simp only [step, h1, h2]) hq2
      | exit i => exact W_of (r := (.exit i, σ1)) (by simp only [step, h1]) hq
      | ret => exact W_of (r := (.ret, σ1)) (by simp only [step, h1]) hq
      | panic v => exact W_of (r := (.panic v, σ1)) (by simp only [step, h1]) hq
  exact key _ σ rfl h0

/-- The same with a measure that the statement carries. -/
def loopK (I : Nat → St → Prop) (k : Nat) (Q : Ex → St → Prop) : Ex → St → Prop
  | .norm, σ => ∃ m, m < k ∧ I m σ
  | e, σ => Q e σ
@[simp] theorem loopK_norm {I : Nat → St → Prop} {k : Nat} : loopK I k Q .norm σ = ∃ m, m < k ∧ I m σ := rfl
@[simp] theorem loopK_exit {I : Nat → St → Prop} {k i : Nat} : loopK I k Q (.exit i) σ = Q (.exit i) σ := rfl
@[simp] theorem loopK_ret {I : Nat → St → Prop} {k : Nat} : loopK I k Q .ret σ = Q .ret σ := rfl
@[simp] theorem loopK_panic {I : Nat → St → Prop} {k : Nat} {v : AV} : loopK I k Q (.panic v) σ = Q (.panic v) σ := rfl
theorem W_loopI {c : Code} (I : Nat → St → Prop) (k : Nat) (h0 : I k σ) (round : ∀ k σ, I k σ → W E c σ (loopK I k Q)) : W E (.loop c) σ Q := by
  have key : ∀ n σ, I n σ → W E (.loop c) σ Q := by
    intro n
    induction n using Nat.strongRecOn with
    | _ n ih =>
      intro σ hI
      obtain ⟨e, σ1, h1, hq⟩ := round n σ hI
      cases e with
      | norm =>
        obtain ⟨m, hlt, hI1⟩ := hq
        obtain ⟨e2, σ2, h2, hq2⟩ := ih m hlt σ1 hI1
        exact W_of (r := (e2, σ2)) (by simp only [step, h1, h2]) hq2
      | exit i => exact W_of (r := (.exit i, σ1)) (by simp only [step, h1]) hq
      | ret => exact W_of (r := (.ret, σ1)) (by simp only [step, h1]) hq
      | panic v => exact W_of (r := (.panic v, σ1)) (by simp only [step, h1]) hq
  exact key k σ h0

/-- The same, the state in its parts. -/
theorem W_loopS {c : Code} (I : Nat → List AV → Heap → Nat → Prop) (k : Nat) (h0 : I k σ.sl σ.h σ.nx) (round : ∀ k sl h nx, I k sl h nx → W E c ⟨sl, h, nx⟩ (loopK (fun k σ => I k σ.sl σ.h σ.nx) k Q)) : W E (.loop c) σ Q :=
  W_loopI (fun k σ => I k σ.sl σ.h σ.nx) k h0 fun k σ h => round k σ.sl σ.h σ.nx h
theorem garb {f : (Nat → AV) → List AV} {sl : List AV} (h : f (fun i => sl.getD i undef) = sl) : ∃ g, sl = f g := ⟨_, h.symm⟩
theorem W_unroll {c : Code} : W E (.loop c) σ Q = W E c σ (thenK E (.loop c) Q) := by
  refine propext ⟨?_, ?_⟩
  · rintro ⟨e, σ', h, hq⟩
    rw [den_eq] at h
    simp only [step] at h
    split at h
    · rename_i σ1 h1
      exact ⟨_, _, h1, e, σ', h, hq⟩
    all_goals first | (cases h; done) | skip
    all_goals
      rename_i h1
      cases h
      exact ⟨_, _, h1, hq⟩
  · rintro ⟨e, σ', h, hq⟩
    cases e with
    | norm =>
      obtain ⟨e2, σ2, h2, hq2⟩ := hq
      exact W_of (r := (e2, σ2)) (by simp only [step, h, h2]) hq2
    | exit i => exact W_of (r := (.exit i, σ')) (by simp only [step, h]) hq
    | ret => exact W_of (r := (.ret, σ')) (by simp only [step, h]) hq
    | panic v => exact W_of (r := (.panic v, σ')) (by simp only [step, h]) hq
theorem Rg_nil {all : List Oper} : Rg E all [] σ Q = Q .norm σ := propext ⟨fun ⟨e, σ', h, hq⟩ => by simp only [runOps, Option.some.injEq, Prod.mk.injEq] at h; obtain ⟨rfl, rfl⟩ := h; exact hq, fun h => ⟨.norm, σ, rfl, h⟩⟩
/-- An operation that is carried out and calls nothing. -/
theorem Rg_op {all os : List Oper} {o : Oper} {v : AV} {rds : List Nat} {ups : List (Nat × Option Blk)} {new : Bool} (hw : want all σ.sl o = some true) (ht : target σ.sl o.op = none) (he : opEff E σ.h σ.nx σ.sl o.op = some ⟨.val v, rds, ups, new⟩) :
    Rg E all (o :: os) σ Q = Rg E all os ⟨put σ.sl o.dst v, σ.h.upds ups, if new then σ.nx + 1 else σ.nx⟩ Q := by
  unfold Rg
  simp only [runOps, hw, ht, he]
  rfl
theorem Rg_store {all os : List Oper} {o : Oper} {rds : List Nat} {ups : List (Nat × Option Blk)} {new : Bool} (hw : want all σ.sl o = some true) (ht : target σ.sl o.op = none) (he : opEff E σ.h σ.nx σ.sl o.op = some ⟨.skip, rds, ups, new⟩) :
    Rg E all (o :: os) σ Q = Rg E all os ⟨put σ.sl o.dst undef, σ.h.upds ups, if new then σ.nx + 1 else σ.nx⟩ Q := by
  unfold Rg
  simp only [runOps, hw, ht, he]
  rfl
theorem Rg_skip {all os : List Oper} {o : Oper} (hw : want all σ.sl o = some false) : Rg E all (o :: os) σ Q = Rg E all os ⟨put σ.sl o.dst undef, σ.h, σ.nx⟩ Q := by
  unfold Rg
  simp only [runOps, hw]
  rfl
/-- A call of a function over a heap of its own. -/
theorem Rg_call {all os : List Oper} {o : Oper} {g : FuncId} {l l' : List AV} {ids : List Nat} {v : AV} (hw : want all σ.sl o = some true) (ht : target σ.sl o.op = some (g, l)) (hg : E.opn g = false) (hl : mapL (purify deep σ.h) l = some (l', ids))
    (hd : denP E g l' = some (.ret v)) : Rg E all (o :: os) σ Q = Rg E all os ⟨put σ.sl o.dst v, σ.h.upds (freezes σ.h ids), σ.nx⟩ Q := by
  unfold Rg
  have hd' : (cl E (den E)).p g l' = some (.ret v) := hd
  simp only [runOps, hw, ht, hg, Bool.false_eq_true, if_false, pcallEff, hl, hd']
  rfl
/-- A call over the caller's heap. -/
theorem Rg_open {all os : List Oper} {o : Oper} {g : FuncId} {l : List AV} {v : AV} {h : Heap} {n : Nat} (hw : want all σ.sl o = some true) (ht : target σ.sl o.op = some (g, l)) (hg : E.opn g = true)
    (hd : denO E g l σ.h σ.nx = some (.ret v, h, n)) : Rg E all (o :: os) σ Q = Rg E all os ⟨put σ.sl o.dst v, h, n⟩ Q := by
  unfold Rg
  have hd' : (cl E (den E)).o g l σ.h σ.nx = some (.ret v, h, n) := hd
  simp only [runOps, hw, ht, hg, if_true, hd']
  rfl

/-- The one operation's part: how it goes on behind an effect. -/
def effK (E : Env) (all os : List Oper) (dst : Option Nat) (Q : Ex → St → Prop) (σ : St) : Option Eff → Prop
  | some ⟨.val v, _, ups, new⟩ => Rg E all os ⟨put σ.sl dst v, σ.h.upds ups, if new then σ.nx + 1 else σ.nx⟩ Q
  | some ⟨.skip, _, ups, new⟩ => Rg E all os ⟨put σ.sl dst undef, σ.h.upds ups, if new then σ.nx + 1 else σ.nx⟩ Q
  | some ⟨.panic v, _, ups, new⟩ => Q (.panic v) ⟨σ.sl, σ.h.upds ups, if new then σ.nx + 1 else σ.nx⟩
  | none => False
def callK (E : Env) (all os : List Oper) (dst : Option Nat) (Q : Ex → St → Prop) (σ : St) (g : FuncId) (ids : List Nat) : Option Res → Prop
  | some (.ret v) => Rg E all os ⟨put σ.sl dst v, σ.h.upds (freezes σ.h ids), σ.nx⟩ Q
  | some (.panic v) => Q (.panic v) ⟨σ.sl, σ.h.upds (freezes σ.h ids), σ.nx⟩
  | none => False
def argK (E : Env) (all os : List Oper) (dst : Option Nat) (Q : Ex → St → Prop) (σ : St) (g : FuncId) : Option (List AV × List Nat) → Prop
  | some (l, ids) => callK E all os dst Q σ g ids (denP E g l)
  | none => False
def openK (E : Env) (all os : List Oper) (dst : Option Nat) (Q : Ex → St → Prop) (σ : St) : Option (Res × Heap × Nat) → Prop
  | some (.ret v, h, n) => Rg E all os ⟨put σ.sl dst v, h, n⟩ Q
  | some (.panic v, h, n) => Q (.panic v) ⟨σ.sl, h, n⟩
  | none => False
def targK (E : Env) (all os : List Oper) (o : Oper) (Q : Ex → St → Prop) (σ : St) : Option (FuncId × List AV) → Prop
  | some (g, l) => if E.opn g = true then openK E all os o.dst Q σ (denO E g l σ.h σ.nx) else argK E all os o.dst Q σ g (mapL (purify deep σ.h) l)
  | none => effK E all os o.dst Q σ (opEff E σ.h σ.nx σ.sl o.op)
def wantK (E : Env) (all os : List Oper) (o : Oper) (Q : Ex → St → Prop) (σ : St) : Option Bool → Prop
  | some true => targK E all os o Q σ (target σ.sl o.op)
  | some false => Rg E all os ⟨put σ.sl o.dst undef, σ.h, σ.nx⟩ Q
  | none => False
section
variable {all os : List Oper} {o : Oper} {dst : Option Nat} {v : AV} {rds ids : List Nat} {ups : List (Nat × Option Blk)} {new : Bool} {g : FuncId} {l : List AV} {h : Heap} {n : Nat}
theorem effK_val : effK E all os dst Q σ (some ⟨.val v, rds, ups, new⟩) = Rg E all os ⟨put σ.sl dst v, σ.h.upds ups, if new then σ.nx + 1 else σ.nx⟩ Q := rfl
theorem effK_skip : effK E all os dst Q σ (some ⟨.skip, rds, ups, new⟩) = Rg E all os ⟨put σ.sl dst undef, σ.h.upds ups, if new then σ.nx + 1 else σ.nx⟩ Q := rfl
theorem effK_panic : effK E all os dst Q σ (some ⟨.panic v, rds, ups, new⟩) = Q (.panic v) ⟨σ.sl, σ.h.upds ups, if new then σ.nx + 1 else σ.nx⟩ := rfl
theorem callK_ret : callK E all os dst Q σ g ids (some (.ret v)) = Rg E all os ⟨put σ.sl dst v, σ.h.upds (freezes σ.h ids), σ.nx⟩ Q := rfl
theorem callK_panic : callK E all os dst Q σ g ids (some (.panic v)) = Q (.panic v) ⟨σ.sl, σ.h.upds (freezes σ.h ids), σ.nx⟩ := rfl
theorem argK_some : argK E all os dst Q σ g (some (l, ids)) = callK E all os dst Q σ g ids (denP E g l) := rfl
theorem openK_ret : openK E all os dst Q σ (some (.ret v, h, n)) = Rg E all os ⟨put σ.sl dst v, h, n⟩ Q := rfl
theorem openK_panic : openK E all os dst Q σ (some (.panic v, h, n)) = Q (.panic v) ⟨σ.sl, h, n⟩ := rfl
theorem targK_none : targK E all os o Q σ none = effK E all os o.dst Q σ (opEff E σ.h σ.nx σ.sl o.op) := rfl
theorem targK_some : targK E all os o Q σ (some (g, l)) = if E.opn g = true then openK E all os o.dst Q σ (denO E g l σ.h σ.nx) else argK E all os o.dst Q σ g (mapL (purify deep σ.h) l) := rfl
theorem wantK_t : wantK E all os o Q σ (some true) = targK E all os o Q σ (target σ.sl o.op) := rfl
theorem wantK_f : wantK E all os o Q σ (some false) = Rg E all os ⟨put σ.sl o.dst undef, σ.h, σ.nx⟩ Q := rfl
end
theorem Rg_cons {all os : List Oper} {o : Oper} : Rg E all (o :: os) σ Q = wantK E all os o Q σ (want all σ.sl o) := by
  refine propext ?_
  unfold Rg
  simp only [runOps]
  cases hw : want all σ.sl o with
  | none => simp [wantK]
  | some b =>
    cases b with
    | false => exact Iff.rfl
    | true =>
      simp only [wantK]
      cases ht : target σ.sl o.op with
      | none =>
        simp only [targK]
        cases he : opEff E σ.h σ.nx σ.sl o.op with
        | none => simp [effK]
        | some e =>
          obtain ⟨out, rds, ups, new⟩ := e
          cases out with
          | val v => exact Iff.rfl
          | skip => exact Iff.rfl
          | panic v =>
            simp only [effK]
            exact ⟨fun ⟨e, σ', h, hq⟩ => by cases h; exact hq, fun hq => ⟨_, _, rfl, hq⟩⟩
      | some gl =>
        obtain ⟨g, l⟩ := gl
        simp only [targK]
        cases hg : E.opn g with
        | true =>
          simp only [if_true]
          have : (cl E (den E)).o g l σ.h σ.nx = denO E g l σ.h σ.nx := rfl
          rw [this]
          cases hd : denO E g l σ.h σ.nx with
          | none => simp [openK]
          | some q =>
            obtain ⟨q1, q2, q3⟩ := q
            cases q1 with
            | ret v => exact Iff.rfl
            | panic v =>
              simp only [openK]
              exact ⟨fun ⟨e, σ', h, hq⟩ => by cases h; exact hq, fun hq => ⟨_, _, rfl, hq⟩⟩
        | false =>
          simp only [Bool.false_eq_true, if_false, pcallEff]
          cases hl : mapL (purify deep σ.h) l with
          | none => simp [argK]
          | some q =>
            obtain ⟨l', ids⟩ := q
            simp only [argK]
            have : (cl E (den E)).p g l' = denP E g l' := rfl
            rw [this]
            cases hd : denP E g l' with
            | none => simp [callK]
            | some r =>
              cases r with
              | ret v => exact Iff.rfl
              | panic v =>
                simp only [callK]
                exact ⟨fun ⟨e, σ', h, hq⟩ => by cases h; exact hq, fun hq => ⟨_, _, rfl, hq⟩⟩

def condK (E : Env) (a b : Code) (Q : Ex → St → Prop) (σ : St) : Option AV → Prop
  | some (.bool t) => if t = true then W E a σ Q else W E b σ Q
  | _ => False
theorem W_cond' {c : Operand} {a b : Code} : W E (.cond c a b) σ Q = condK E a b Q σ (ev σ.sl c) := by
  unfold condK
  split
  · rename_i t h; exact W_cond h
  · rename_i h
    refine propext ⟨fun hw => ?_, fun h => h.elim⟩
    rw [W_step] at hw
    obtain ⟨e, σ', h1, _⟩ := hw
    simp only [step] at h1
    split at h1
    · rename_i h2; exact h _ h2
    · rename_i h2; exact h _ h2
    · cases h1
theorem condK_t {a b : Code} : condK E a b Q σ (some (.bool true)) = W E a σ Q := rfl
theorem condK_f {a b : Code} : condK E a b Q σ (some (.bool false)) = W E b σ Q := rfl

/-- Behind a body: its results. -/
def purK (R : AV → Prop) : Option (AV × List Nat) → Prop
  | some (v, _) => R v
  | none => False
def resK (R : AV → Prop) (h : Heap) : Option (List AV) → Prop
  | some vs => purK R (purify deep h (one vs))
  | none => False
def retK (E : Env) (rs : List ResultVar) (R : AV → Prop) : Ex → St → Prop
  | .norm, σ => resK R σ.h (resOf E σ.h σ.sl rs)
  | .ret, σ => resK R σ.h (resOf E σ.h σ.sl rs)
  | _, _ => False
theorem purK_some {R : AV → Prop} {v : AV} {ids : List Nat} : purK R (some (v, ids)) = R v := rfl
theorem resK_some {R : AV → Prop} {h : Heap} {vs : List AV} : resK R h (some vs) = purK R (purify deep h (one vs)) := rfl
@[simp] theorem retK_ret {rs : List ResultVar} {R : AV → Prop} : retK E rs R .ret σ = resK R σ.h (resOf E σ.h σ.sl rs) := rfl
@[simp] theorem retK_norm {rs : List ResultVar} {R : AV → Prop} : retK E rs R .norm σ = resK R σ.h (resOf E σ.h σ.sl rs) := rfl
theorem denP_intro {f : FuncId} {fn : Func} {c : Code} {args : List AV} {R : AV → Prop} (hf : E.fn f = some fn) (hb : fn.body = some c) (hp : AV.pureL args = true)
    (h : W E c ⟨args ++ List.replicate (fn.ntmps - args.length) undef, Heap.empty, 0⟩ (retK E fn.results.toList R)) : ∃ v, denP E f args = some (.ret v) ∧ R v := by
  obtain ⟨e, σ', hd, hq⟩ := h
  unfold denP bodyP
  rw [if_pos hp]
  simp only [body, hf, hb, hd]
  have key : resK R σ'.h (resOf E σ'.h σ'.sl fn.results.toList) → ∃ vs v ids, resOf E σ'.h σ'.sl fn.results.toList = some vs ∧ purify deep σ'.h (one vs) = some (v, ids) ∧ R v := by
    intro hr
    unfold resK at hr
    split at hr
    · rename_i vs h1
      unfold purK at hr
      split at hr
      · rename_i v ids h2; exact ⟨vs, v, ids, h1, h2, hr⟩
      · exact hr.elim
    · exact hr.elim
  cases e with
  | norm =>
    obtain ⟨vs, v, ids, h1, h2, h3⟩ := key hq
    refine ⟨v, ?_, h3⟩
    simp only [h1, h2]
  | ret =>
    obtain ⟨vs, v, ids, h1, h2, h3⟩ := key hq
    refine ⟨v, ?_, h3⟩
    simp only [h1, h2]
  | exit i => exact hq.elim
  | panic v => exact hq.elim
theorem denP_eq {f : FuncId} {fn : Func} {c : Code} {args : List AV} {v : AV} (hf : E.fn f = some fn) (hb : fn.body = some c) (hp : AV.pureL args = true)
    (h : W E c ⟨args ++ List.replicate (fn.ntmps - args.length) undef, Heap.empty, 0⟩ (retK E fn.results.toList (· = v))) : denP E f args = some (.ret v) := by
  obtain ⟨v', h1, h2⟩ := denP_intro hf hb hp h
  rw [h1, h2]
theorem purify_pure {n : Nat} {H : Heap} {v : AV} (h : v.pure = true) (h1 : ∀ cs, v ≠ .agg cs) (h2 : ∀ cs, v ≠ .tup cs) : purify (n + 1) H v = some (v, []) := by
  cases v <;> simp_all [purify, AV.pure]
theorem purify_lst {n : Nat} {H : Heap} {nl : Bool} {xs : List AV} (h : AV.pureL xs = true) : purify (n + 1) H (.lst nl xs) = some (.lst nl xs, []) := by simp [purify, AV.pure, h]
theorem purify_agg {n : Nat} {H : Heap} {cs : List AV} : purify (n + 1) H (.agg cs) = (match mapL (purify n H) cs with | some (ds, ids) => some (.agg ds, ids) | none => none) := rfl
theorem purify_tup {n : Nat} {H : Heap} {cs : List AV} : purify (n + 1) H (.tup cs) = (match mapL (purify n H) cs with | some (ds, ids) => some (.tup ds, ids) | none => none) := rfl
theorem purify_int {n : Nat} {H : Heap} {k : IntKind} {i : Int} : purify (n + 1) H (.int k i) = some (.int k i, []) := rfl
theorem purify_bool {n : Nat} {H : Heap} {b : Bool} : purify (n + 1) H (.bool b) = some (.bool b, []) := rfl
theorem purify_str {n : Nat} {H : Heap} {b : ByteArray} : purify (n + 1) H (.str b) = some (.str b, []) := rfl
theorem purify_nilf {n : Nat} {H : Heap} : purify (n + 1) H .nilf = some (.nilf, []) := rfl
theorem purify_fn {n : Nat} {H : Heap} {f : FuncId} : purify (n + 1) H (.fn f [] []) = some (.fn f [] [], []) := rfl
/-- A closure with captured addresses. -/
def capP (n : Nat) (H : Heap) (id off : Nat) : Option Blk → Option (AV × List Nat)
  | some b => if off ≤ b.cells.length ∧ b.esz ≠ 0 then
      (match mapL (purify n H) (b.cells.drop off) with
      | some (cs, ids) => some (.imm cs, id :: ids)
      | none => none)
    else none
  | none => none
def fn1P (f : FuncId) : Option (AV × List Nat) → Option (AV × List Nat)
  | some (y, i) => some (.fn f [] [y], i)
  | none => none
theorem fn1P_some {f : FuncId} {y : AV} {i : List Nat} : fn1P f (some (y, i)) = some (.fn f [] [y], i) := rfl
theorem purify_fn1 {n : Nat} {H : Heap} {f : FuncId} {id off : Nat} (hf : (f == 1000003) = false) : purify (n + 1) H (.fn f [] [.ptr id off]) = fn1P f (capP n H id off (H id)) := by
  have hf' : ¬ f = 1000003 := fun h => by simp [h] at hf
  have e : capt (purify n H) H (.ptr id off) = capP n H id off (H id) := by simp only [capt, capP]; cases H id <;> rfl
  have e2 : (AV.fn f [] [.ptr id off]).pure = false := rfl
  simp only [purify, e2, Bool.false_eq_true, if_false, if_neg hf', mapL, e]
  cases capP n H id off (H id) with
  | none => rfl
  | some r => simp [fn1P]
theorem upd_apply {h : Heap} {i j : Nat} {b : Option Blk} : (h.upd i b) j = if j = i then b else h j := rfl
theorem mapL_nil {p : AV → Option (AV × List Nat)} : mapL p [] = some ([], []) := rfl
theorem mapL_cons {p : AV → Option (AV × List Nat)} {x : AV} {xs : List AV} : mapL p (x :: xs) = (match p x, mapL p xs with | some (y, i), some (ys, j) => some (y :: ys, i ++ j) | _, _ => none) := rfl
theorem setCells_nil {cs : List AV} {off : Nat} : setCells cs off [] = cs := rfl
theorem setCells_cons {cs vs : List AV} {off : Nat} {v : AV} : setCells cs off (v :: vs) = setCells (cs.set off v) (off + 1) vs := rfl
theorem setCells_one {cs : List AV} {off : Nat} {v : AV} : setCells cs off [v] = cs.set off v := rfl

/-! #### words -/
def wd (n : Nat) : AV := .int .u32 n
theorem pure_wd (l : List Nat) : AV.pureL (l.map wd) = true := by induction l <;> simp_all [AV.pureL, AV.pure, wd]
theorem get_wd {l : List Nat} {i : Int} (h0 : 0 ≤ i) (h1 : i < l.length) : (l.map wd)[i.toNat]? = some (wd (l.getD i.toNat 0)) := by
  have h : i.toNat < l.length := by omega
  simp [h]
theorem get_wd' {l : List Nat} {i : Nat} (h1 : i < l.length) : (l.map wd)[i]? = some (wd (l.getD i 0)) := by simp [h1]
theorem map_set_wd {l : List Nat} {i : Nat} {x : Int} (h : 0 ≤ x) : (l.map wd).set i (.int .u32 x) = (l.set i x.toNat).map wd := by
  have : AV.int .u32 x = wd x.toNat := by simp only [wd]; congr 1; omega
  rw [this, List.map_set]
theorem mapL_wd {n : Nat} {H : Heap} (l : List Nat) : mapL (purify (n + 1) H) (l.map wd) = some (l.map wd, []) := by
  induction l with
  | nil => rfl
  | cons x xs ih => simp only [List.map_cons, mapL, ih, wd, purify_int]; rfl
theorem purify_wd {n : Nat} {H : Heap} {nl : Bool} {l : List Nat} : purify (n + 1) H (.lst nl (l.map wd)) = some (.lst nl (l.map wd), []) := purify_lst (pure_wd l)
def refP (n : Nat) (H : Heap) (id off len : Nat) : Option Blk → Option (AV × List Nat)
  | some b => if off + len * b.esz ≤ b.cells.length ∧ b.esz ≠ 0 ∧ (b.agg = true ∨ b.esz = 1) then
      (match mapL (purify n H) ((b.cells.drop off).take (len * b.esz)) with
      | some (cs, ids) => some (.lst false (elems b.agg b.esz len cs), id :: ids)
      | none => none)
    else none
  | none => none
theorem purify_ref {n : Nat} {H : Heap} {id off len : Nat} : purify (n + 1) H (.ref id off len) = refP n H id off len (H id) := by
  rw [purify]; unfold refP; cases H id <;> rfl
theorem flat_wd (l : List Nat) : flat (l.map wd) = l.map wd := by
  induction l with
  | nil => rfl
  | cons x xs ih => simp only [List.map_cons, flat, ih]; rfl
/-- A number's words, with its sign, as the program holds it. -/
abbrev iv (neg nl : Bool) (l : List Nat) : AV := .agg [.bool neg, .lst nl (l.map wd)]
theorem purify_lnil {n : Nat} {H : Heap} {nl : Bool} : purify (n + 1) H (.lst nl []) = some (.lst nl [], []) := rfl
theorem elems_one : ∀ (n : Nat) (cs : List AV), cs.length = n → elems false 1 n cs = cs
  | 0, [], _ => rfl
  | n + 1, c :: cs, h => by simp [elems, elems_one n cs (by simpa using h)]
theorem refP_wd {n : Nat} {H : Heap} {id off len : Nat} {l : List Nat} {fz : Bool} (hl : off + len ≤ l.length) : refP (n + 1) H id off len (some ⟨l.map wd, false, 1, fz⟩) = some (.lst false (((l.drop off).take len).map wd), [id]) := by
  have h1 : (((l.map wd).drop off).take (len * 1)) = ((l.drop off).take len).map wd := by simp [List.map_take, List.map_drop]
  unfold refP
  simp only [h1, mapL_wd]
  rw [if_pos (by simp; omega), elems_one _ _ (by simp; omega)]
theorem refP_zero {n : Nat} {H : Heap} {id off : Nat} {cs : List AV} {ag : Bool} {esz : Nat} {fz : Bool} (h : off ≤ cs.length ∧ esz ≠ 0 ∧ (ag = true ∨ esz = 1)) : refP n H id off 0 (some ⟨cs, ag, esz, fz⟩) = some (.lst false [], [id]) := by
  unfold refP
  simp only [Nat.zero_mul, Nat.add_zero]
  rw [if_pos h]
  simp [mapL, elems]
theorem purify_row {n : Nat} {H : Heap} {id off len : Nat} {l : List Nat} {fz : Bool} (h : H id = some ⟨l.map wd, false, 1, fz⟩) (hl : off + len ≤ l.length) :
    purify (n + 2) H (.ref id off len) = some (.lst false (((l.drop off).take len).map wd), [id]) := by
  have h1 : (((l.map wd).drop off).take (len * 1)) = ((l.drop off).take len).map wd := by simp [List.map_take, List.map_drop]
  rw [purify]
  simp only [h, h1, mapL_wd]
  rw [if_pos (by simp; omega), elems_one _ _ (by simp; omega)]
end
theorem wrap64 {x : Int} (h1 : -9223372036854775808 ≤ x) (h2 : x < 9223372036854775808) : IntKind.i64.wrap x = x := by rw [IntKind.wrap_i64]; omega
theorem wrapu64 {x : Int} (h1 : 0 ≤ x) (h2 : x < 18446744073709551616) : IntKind.u64.wrap x = x := by rw [IntKind.wrap_u64]; omega
theorem wrapu32 {x : Int} (h1 : 0 ≤ x) (h2 : x < 4294967296) : IntKind.u32.wrap x = x := by rw [IntKind.wrap_u32']; omega
end Vm

/- The machine over pure values: how one walks through a statement that leaves its order open. (Own work of this repo.) -/
namespace Vm
open Go

def mk (rds ids : List Nat) : Rec := ⟨.ok, none, undef, rds, ids.map fun i => (i, none), none, .all⟩
def summ (r : Rec) : Rec := mk r.rds r.ids
theorem mk_ids (rds ids : List Nat) : (mk rds ids).ids = ids := by unfold mk Rec.ids; simp [Function.comp_def]
theorem summ_ids (r : Rec) : (summ r).ids = r.ids := mk_ids _ _
theorem summ_free (r s : Rec) : (summ r).free (summ s) = r.free s := by unfold Rec.free; rw [summ_ids, summ_ids]; rfl
theorem summ_quiet (r : Rec) : (summ r).quiet = r.quiet := by unfold Rec.quiet summ mk Rec.ids; cases r.ups <;> rfl
theorem summ_one {all : List Oper} {i : Nat} {r : Rec} : ∀ (ss : List Rec) (j : Nat), dynOne all i (summ r) j (ss.map summ) = dynOne all i r j ss
  | [], _ => rfl
  | s :: ss, j => by simp only [List.map_cons, dynOne, summ_free, summ_one ss (j + 1)]
theorem summ_dyn {all : List Oper} : ∀ (rs : List Rec) (i : Nat), dynOk all i (rs.map summ) = dynOk all i rs
  | [], _ => rfl
  | r :: rs, i => by simp only [List.map_cons, dynOk, summ_one, summ_dyn rs (i + 1)]
/-- May the order be left open? -/
def okR (all : List Oper) (rs : List Rec) : Bool := match rs.all Rec.quiet with | true => true | false => dynOk all 0 rs
theorem summ_ok {all : List Oper} (rs : List Rec) : okR all (rs.map summ) = okR all rs := by
  unfold okR
  have : (rs.map summ).all Rec.quiet = rs.all Rec.quiet := by
    rw [List.all_map]; congr 1; funext r; exact summ_quiet r
  rw [this, summ_dyn]

section
variable {E : Env}
def reK (dst : Option Nat) (next : List Rec → St → Prop) (acc : List Rec) (σ : St) : Option Eff → Prop
  | some ⟨.val v, rds, ups, new⟩ => next (acc ++ [mk rds (ups.map (·.1))]) ⟨put σ.sl dst v, σ.h.upds ups, if new then σ.nx + 1 else σ.nx⟩
  | some ⟨.skip, rds, ups, new⟩ => next (acc ++ [mk rds (ups.map (·.1))]) ⟨put σ.sl dst undef, σ.h.upds ups, if new then σ.nx + 1 else σ.nx⟩
  | _ => False
def rcK (dst : Option Nat) (next : List Rec → St → Prop) (acc : List Rec) (σ : St) (ids : List Nat) : Option Res → Prop
  | some (.ret v) => next (acc ++ [mk ids ((freezes σ.h ids).map (·.1))]) ⟨put σ.sl dst v, σ.h.upds (freezes σ.h ids), σ.nx⟩
  | _ => False
def raK (E : Env) (dst : Option Nat) (next : List Rec → St → Prop) (acc : List Rec) (σ : St) (g : FuncId) : Option (List AV × List Nat) → Prop
  | some (l, ids) => rcK dst next acc σ ids (denP E g l)
  | none => False
def rtK (E : Env) (o : Oper) (next : List Rec → St → Prop) (acc : List Rec) (σ : St) : Option (FuncId × List AV) → Prop
  | some (g, l) => raK E o.dst next acc σ g (mapL (purify deep σ.h) l)
  | none => reK o.dst next acc σ (opEff E σ.h σ.nx σ.sl o.op)
def rwK (E : Env) (o : Oper) (next : List Rec → St → Prop) (acc : List Rec) (σ : St) : Option Bool → Prop
  | some true => rtK E o next acc σ (target σ.sl o.op)
  | some false => next (acc ++ [mk [] []]) ⟨put σ.sl o.dst undef, σ.h, σ.nx⟩
  | none => False
def Rc (E : Env) (all : List Oper) (Q : Ex → St → Prop) : List Oper → List Rec → St → Prop
  | [] => fun acc σ => okR all acc = true ∧ Q .norm σ
  | o :: os => fun acc σ => rwK E o (Rc E all Q os) acc σ (want all σ.sl o)

/-- The effects of calls. -/
noncomputable abbrev CE (E : Env) (N : Nat) : Heap → FuncId → List AV → Option Eff := callEff E (cl E (den E)) N
theorem mapL_lends {n : Nat} {H : Heap} : ∀ {l : List AV} {r : List AV × List Nat}, mapL (purify (n + 1) H) l = some r → lends l = false
  | [], _, _ => rfl
  | x :: xs, r, h => by
    simp only [mapL] at h
    split at h
    · rename_i y i ys j hy hys
      have ih := mapL_lends hys
      unfold lends at ih ⊢
      rw [List.any_cons, ih, Bool.or_false]
      cases x <;> first
        | rfl
        | (simp only [purify] at hy
           split at hy <;> cases hy
           rename_i hp
           dsimp only
           rw [hp]
           rfl)
        | (simp [purify, AV.pure] at hy)
    · cases h
theorem ce_pure {N : Nat} {H : Heap} {g : FuncId} {l l' : List AV} {ids : List Nat} {v : AV} (hl : mapL (purify deep H) l = some (l', ids)) (hd : denP E g l' = some (.ret v)) : CE E N H g l = some ⟨.val v, ids, freezes H ids, false⟩ := by
  have h1 := mapL_lends (n := 4) hl
  have hd' : (cl E (den E)).p g l' = some (.ret v) := hd
  unfold CE callEff
  rw [h1, Bool.and_false, if_neg (by simp)]
  simp only [pcallEff, hl, hd', Option.map_some, mild]
theorem Rc_sound {N : Nat} {all : List Oper} {Q : Ex → St → Prop} : ∀ (os : List Oper) (i : Nat) (acc : List Rec) (σ : St), Rc E all Q os acc σ → ∃ rs σ', recs E (CE E N) all os i none σ = some (rs, none, σ') ∧ okR all (acc ++ rs.map summ) = true ∧ Q .norm σ'
  | [], i, acc, σ, h => ⟨[], σ, rfl, by simpa using h.1, h.2⟩
  | o :: os, i, acc, σ, h => by
    have step : ∀ (r : Rec) (σ1 : St), Rc E all Q os (acc ++ [summ r]) σ1 → ∃ rs σ', recs E (CE E N) all os (i + 1) none σ1 = some (rs, none, σ') ∧ okR all (acc ++ (r :: rs).map summ) = true ∧ Q .norm σ' := by
      intro r σ1 h
      obtain ⟨rs, σ', h1, h2, h3⟩ := Rc_sound os (i + 1) _ σ1 h
      exact ⟨rs, σ', h1, by simpa using h2, h3⟩
    simp only [Rc] at h
    simp only [recs]
    unfold rwK at h
    split at h
    · rename_i hw
      rw [hw]
      dsimp only
      unfold rtK at h
      split at h
      · rename_i g l ht
        unfold raK at h
        split at h
        · rename_i l' ids hl
          unfold rcK at h
          split at h
          · rename_i v hd
            obtain ⟨rs, σ', h1, h2, h3⟩ := step ⟨.ok, o.dst, v, ids, freezes σ.h ids, none, depOf σ.sl σ.h o.op ⟨.val v, ids, freezes σ.h ids, false⟩⟩ _ h
            refine ⟨_, σ', ?_, h2, h3⟩
            have he : anyEff E (CE E N) σ.h σ.nx σ.sl o.op = some ⟨.val v, ids, freezes σ.h ids, false⟩ := by
              unfold anyEff
              rw [ht]
              exact ce_pure hl hd
            have h1' : recs E (CE E N) all os (i + 1) none ((σ.eff ⟨.val v, ids, freezes σ.h ids, false⟩).put o.dst v) = some (rs, none, σ') := h1
            simp only [he, h1', Bool.false_eq_true, if_false]
          · exact h.elim
        · exact h.elim
      · rename_i ht
        have he : anyEff E (CE E N) σ.h σ.nx σ.sl o.op = opEff E σ.h σ.nx σ.sl o.op := by unfold anyEff; rw [ht]
        unfold reK at h
        split at h
        · rename_i v rds ups new ho
          obtain ⟨rs, σ', h1, h2, h3⟩ := step ⟨.ok, o.dst, v, rds, ups, if new then some σ.nx else none, depOf σ.sl σ.h o.op ⟨.val v, rds, ups, new⟩⟩ _ h
          refine ⟨_, σ', ?_, h2, h3⟩
          have h1' : recs E (CE E N) all os (i + 1) none ((σ.eff ⟨.val v, rds, ups, new⟩).put o.dst v) = some (rs, none, σ') := h1
          simp only [he, ho, h1']
        · rename_i rds ups new ho
          obtain ⟨rs, σ', h1, h2, h3⟩ := step ⟨.ok, o.dst, undef, rds, ups, if new then some σ.nx else none, depOf σ.sl σ.h o.op ⟨.skip, rds, ups, new⟩⟩ _ h
          refine ⟨_, σ', ?_, h2, h3⟩
          have h1' : recs E (CE E N) all os (i + 1) none ((σ.eff ⟨.skip, rds, ups, new⟩).put o.dst undef) = some (rs, none, σ') := h1
          simp only [he, ho, h1']
        · exact h.elim
    · rename_i hw
      obtain ⟨rs, σ', h1, h2, h3⟩ := step ⟨.ok, o.dst, undef, [], [], none, .all⟩ _ h
      refine ⟨_, σ', ?_, h2, h3⟩
      have h1' : recs E (CE E N) all os (i + 1) none (σ.put o.dst undef) = some (rs, none, σ') := h1
      simp only [hw, h1']
    · exact h.elim

variable {Q : Ex → St → Prop} {σ : St}
theorem W_drawn {i : Nat} {ops : Array Oper} (h : Rc E ops.toList Q ops.toList [] σ) : W E (.region i ops true) σ Q := by
  obtain ⟨rs, σ', h1, h2, h3⟩ := Rc_sound (N := σ.nx + ops.toList.length) ops.toList 0 [] σ h
  rw [List.nil_append, summ_ok] at h2
  have : runDraw E (cl E (den E)) ops.toList σ = some (.norm, σ') := by
    unfold runDraw
    have h1' : recs E (callEff E (cl E (den E)) (σ.nx + ops.toList.length)) ops.toList ops.toList 0 none σ = some (rs, none, σ') := h1
    rw [h1']
    unfold okR at h2
    dsimp only
    split
    · rfl
    · rename_i hf; cases hq : rs.all Rec.quiet <;> simp only [hq] at h2 hf <;> first | (cases hf; done) | (rw [h2] at hf; cases hf)
  rw [W_draw this]
  exact h3
theorem Rc_nil {all : List Oper} {acc : List Rec} : Rc E all Q [] acc σ = (okR all acc = true ∧ Q .norm σ) := rfl
theorem Rc_cons {all os : List Oper} {o : Oper} {acc : List Rec} : Rc E all Q (o :: os) acc σ = rwK E o (Rc E all Q os) acc σ (want all σ.sl o) := propext ⟨fun h => h, fun h => h⟩
variable {dst : Option Nat} {next : List Rec → St → Prop} {acc : List Rec} {v : AV} {rds ids : List Nat} {ups : List (Nat × Option Blk)} {new : Bool} {g : FuncId} {l : List AV} {o : Oper}
theorem reK_val : reK dst next acc σ (some ⟨.val v, rds, ups, new⟩) = next (acc ++ [mk rds (ups.map (·.1))]) ⟨put σ.sl dst v, σ.h.upds ups, if new then σ.nx + 1 else σ.nx⟩ := propext ⟨fun h => h, fun h => h⟩
theorem reK_skip : reK dst next acc σ (some ⟨.skip, rds, ups, new⟩) = next (acc ++ [mk rds (ups.map (·.1))]) ⟨put σ.sl dst undef, σ.h.upds ups, if new then σ.nx + 1 else σ.nx⟩ := propext ⟨fun h => h, fun h => h⟩
theorem rcK_ret : rcK dst next acc σ ids (some (.ret v)) = next (acc ++ [mk ids ((freezes σ.h ids).map (·.1))]) ⟨put σ.sl dst v, σ.h.upds (freezes σ.h ids), σ.nx⟩ := propext ⟨fun h => h, fun h => h⟩
theorem raK_some : raK E dst next acc σ g (some (l, ids)) = rcK dst next acc σ ids (denP E g l) := propext ⟨fun h => h, fun h => h⟩
theorem rtK_some : rtK E o next acc σ (some (g, l)) = raK E o.dst next acc σ g (mapL (purify deep σ.h) l) := propext ⟨fun h => h, fun h => h⟩
theorem rtK_none : rtK E o next acc σ none = reK o.dst next acc σ (opEff E σ.h σ.nx σ.sl o.op) := propext ⟨fun h => h, fun h => h⟩
theorem rwK_t : rwK E o next acc σ (some true) = rtK E o next acc σ (target σ.sl o.op) := propext ⟨fun h => h, fun h => h⟩
theorem rwK_f : rwK E o next acc σ (some false) = next (acc ++ [mk [] []]) ⟨put σ.sl o.dst undef, σ.h, σ.nx⟩ := propext ⟨fun h => h, fun h => h⟩
end
/-! #### with readers that hang on little -/
def cr (rds : List Nat) (ups : List (Nat × Option Blk)) (dep : Dep) : Rec := ⟨.ok, none, undef, rds, ups, none, dep⟩
def core (r : Rec) : Rec := cr r.rds r.ups r.dep
/-- What a reader needs is not touched by any writer. -/
def StW (E : Env) (rs : List Rec) (H : Heap) (r : Rec) : Prop := r.ids = [] ∧ ∃ x, r.rds = [x] ∧ r.dep.ok E (H x) ∧ ∀ s ∈ rs, ∀ p ∈ s.ups, p.1 = x → r.dep.ok E p.2
def PairW (E : Env) (rs : List Rec) (H : Heap) (r s : Rec) : Prop :=
  (∀ i, i ∈ r.ids → i ∉ s.ids) ∧ ((∀ i, i ∈ r.ids → i ∉ s.rds) ∨ StW E rs H s) ∧ ((∀ i, i ∈ s.ids → i ∉ r.rds) ∨ StW E rs H r)
/-- The pairs that nothing keeps in order. -/
def fl1 (all : List Oper) (i : Nat) (r : Rec) : Nat → List Rec → List (Rec × Rec)
  | _, [] => []
  | j, s :: ss => (match r.quiet && s.quiet || befBit all j i with | true => fl1 all i r (j + 1) ss | false => (r, s) :: fl1 all i r (j + 1) ss)
def fl (all : List Oper) : Nat → List Rec → List (Rec × Rec)
  | _, [] => []
  | i, r :: rs => fl1 all i r (i + 1) rs ++ fl all (i + 1) rs
def allW (E : Env) (rs : List Rec) (H : Heap) : List (Rec × Rec) → Prop
  | [] => True
  | p :: ps => PairW E rs H p.1 p.2 ∧ allW E rs H ps
section
variable {E : Env} {H : Heap} {all : List Oper}
theorem allW_mem {rs : List Rec} {l : List (Rec × Rec)} (h : allW E rs H l) : ∀ p ∈ l, PairW E rs H p.1 p.2 := by
  induction l with
  | nil => intro p hp; cases hp
  | cons x xs ih =>
    intro p hp
    rcases List.mem_cons.1 hp with rfl | hp
    · exact h.1
    · exact ih h.2 p hp
theorem quiet_ids' {r : Rec} (h : r.quiet = true) : r.ids = [] := by
  unfold Rec.quiet at h; unfold Rec.ids
  rw [List.isEmpty_iff] at h; rw [h]; rfl
theorem fl1_mem {i : Nat} {r : Rec} : ∀ (ss : List Rec) (j k : Nat) (s : Rec), ss[k]? = some s → befBit all (j + k) i = false → (r.ids = [] ∧ s.ids = []) ∨ (r, s) ∈ fl1 all i r j ss
  | [], _, _, _, h, _ => by simp at h
  | t :: ss, j, k, s, h, hb => by
    rw [fl1]
    cases k with
    | zero =>
      simp at h; subst h
      rw [Nat.add_zero] at hb
      rw [hb, Bool.or_false]
      cases hq : r.quiet && t.quiet with
      | true =>
        rw [Bool.and_eq_true] at hq
        exact .inl ⟨quiet_ids' hq.1, quiet_ids' hq.2⟩
      | false => exact .inr List.mem_cons_self
    | succ k =>
      rcases fl1_mem ss (j + 1) k s (by simpa using h) (by rw [show j + 1 + k = j + (k + 1) by omega]; exact hb) with h | h
      · exact .inl h
      · right
        split
        · exact h
        · exact List.mem_cons_of_mem _ h
theorem fl_mem : ∀ (rs : List Rec) (i j k : Nat) (r s : Rec), rs[j]? = some r → rs[k]? = some s → j < k → befBit all (i + k) (i + j) = false → (r.ids = [] ∧ s.ids = []) ∨ (r, s) ∈ fl all i rs
  | [], _, _, _, _, _, h, _, _, _ => by simp at h
  | t :: rs, i, j, k, r, s, hr, hs, hlt, hb => by
    rw [fl]
    cases k with
    | zero => omega
    | succ k =>
      cases j with
      | zero =>
        simp at hr; subst hr
        exact (fl1_mem rs (i + 1) k s (by simpa using hs) (by rw [show i + 1 + k = i + (k + 1) by omega]; exact hb)).imp id (List.mem_append_left _)
      | succ j =>
        exact (fl_mem rs (i + 1) j k r s (by simpa using hr) (by simpa using hs) (by omega) (by rw [show i + 1 + k = i + (k + 1) by omega, show i + 1 + j = i + (j + 1) by omega]; exact hb)).imp id (List.mem_append_right _)
theorem upds_mem : ∀ (u : List (Nat × Option Blk)) (H : Heap) (x : Nat), x ∈ u.map (·.1) → ∃ p ∈ u, p.1 = x ∧ (H.upds u) x = p.2
  | [], _, _, h => by simp at h
  | (k, b) :: u, H, x, h => by
    simp only [Heap.upds]
    by_cases hx : x ∈ u.map (·.1)
    · obtain ⟨p, h1, h2, h3⟩ := upds_mem u (H.upd k b) x hx
      exact ⟨p, List.mem_cons_of_mem _ h1, h2, h3⟩
    · simp only [List.map_cons, List.mem_cons] at h
      have : x = k := h.resolve_right hx
      subst this
      exact ⟨(x, b), List.mem_cons_self, rfl, by rw [upds_other u hx, Heap.upd_same]⟩
theorem vis_sub {i x : Nat} : ∀ (rs : List Rec) (k : Nat) (acc : List (Option Blk)) (b : Option Blk), b ∈ vis all i x rs k acc → b ∈ acc ∨ ∃ s ∈ rs, x ∈ s.ids ∧ b = (Heap.empty.upds s.ups) x
  | [], _, _, _, h => .inl h
  | s :: ss, k, acc, b, h => by
    simp only [vis] at h
    rcases vis_sub ss (k + 1) _ b h with h | ⟨s', h1, h2, h3⟩
    · by_cases hx : x ∈ s.ids
      · split at h
        · simp at h; exact .inr ⟨s, List.mem_cons_self, hx, h⟩
        · rcases List.mem_cons.1 h with h | h
          · exact .inr ⟨s, List.mem_cons_self, hx, h⟩
          · exact .inl h
        · rcases List.mem_cons.1 h with h | h
          · exact .inr ⟨s, List.mem_cons_self, hx, h⟩
          · exact .inl h
        · exact .inl h
      · have hc : s.ids.contains x = false := by simpa using hx
        rw [hc] at h
        exact .inl h
    · exact .inr ⟨s', List.mem_cons_of_mem _ h1, h2, h3⟩
theorem stable_of {rs : List Rec} {i : Nat} {r : Rec} (h : StW E rs H r) : Stable E all rs H i r := by
  obtain ⟨h1, x, h2, h3, h4⟩ := h
  refine ⟨h1, x, h2, fun b hb => ?_⟩
  rcases vis_sub rs 0 _ b hb with hb | ⟨s, hs, hx, rfl⟩
  · simp at hb; rw [hb]; exact h3
  · obtain ⟨p, q1, q2, q3⟩ := upds_mem s.ups Heap.empty x hx
    rw [q3]; exact h4 s hs p q1 q2
theorem core_map {rs : List Rec} {H : Heap} {r : Rec} (h : StW E (rs.map core) H (core r)) : StW E rs H r := by
  obtain ⟨h1, x, h2, h3, h4⟩ := h
  exact ⟨h1, x, h2, h3, fun s hs p hp => h4 (core s) (List.mem_map_of_mem hs) p hp⟩
theorem dyn_of {rs : List Rec} (h : allW E (rs.map core) H (fl all 0 (rs.map core))) : DynP E all rs H := by
  intro j k r s hr hs hlt hb
  have key : PairW E (rs.map core) H (core r) (core s) ∨ ((core r).ids = [] ∧ (core s).ids = []) := by
    rcases fl_mem (all := all) (rs.map core) 0 j k (core r) (core s) (by simp [hr]) (by simp [hs]) hlt (by simpa using hb) with h1 | h1
    · exact .inr h1
    · exact .inl (allW_mem h _ h1)
  rcases key with ⟨h1, h2, h3⟩ | ⟨h1, h2⟩
  · exact ⟨h1, h2.symm.imp (fun h => stable_of (core_map h)) id, h3.symm.imp (fun h => stable_of (core_map h)) id⟩
  · have e1 : r.ids = [] := h1
    have e2 : s.ids = [] := h2
    unfold PairOk
    rw [e1, e2]
    exact ⟨fun _ h => absurd h (by simp), .inr fun _ h => absurd h (by simp), .inr fun _ h => absurd h (by simp)⟩
end

section
variable {E : Env}
def reK2 (dst : Option Nat) (op : Op) (next : List Rec → St → Prop) (acc : List Rec) (σ : St) : Option Eff → Prop
  | some ⟨.val v, rds, ups, new⟩ => next (acc ++ [cr rds ups (depOf σ.sl σ.h op ⟨.val v, rds, ups, new⟩)]) ⟨put σ.sl dst v, σ.h.upds ups, if new then σ.nx + 1 else σ.nx⟩
  | some ⟨.skip, rds, ups, new⟩ => next (acc ++ [cr rds ups (depOf σ.sl σ.h op ⟨.skip, rds, ups, new⟩)]) ⟨put σ.sl dst undef, σ.h.upds ups, if new then σ.nx + 1 else σ.nx⟩
  | _ => False
def rcK2 (dst : Option Nat) (next : List Rec → St → Prop) (acc : List Rec) (σ : St) (ids : List Nat) : Option Res → Prop
  | some (.ret v) => next (acc ++ [cr ids (freezes σ.h ids) .all]) ⟨put σ.sl dst v, σ.h.upds (freezes σ.h ids), σ.nx⟩
  | _ => False
/-- A call that is lent a part of the heap. -/
def lnK2 (E : Env) (N : Nat) (dst : Option Nat) (next : List Rec → St → Prop) (acc : List Rec) (σ : St) (g : FuncId) (l : List AV) : Prop :=
  lends l = true ∧ (E.opn g && g != 1000003) = true ∧ ∃ v H' n', denO E g l (σ.h.only (reach σ.h 3 l)) N = some (.ret v, H', n') ∧ v.pure = true ∧ lendOk σ.h H' (reach σ.h 3 l) = true ∧
    next (acc ++ [cr (reach σ.h 3 l) (lendUps σ.h H' (reach σ.h 3 l)) .all]) ⟨put σ.sl dst v, σ.h.upds (lendUps σ.h H' (reach σ.h 3 l)), σ.nx⟩
def raK2 (E : Env) (N : Nat) (dst : Option Nat) (next : List Rec → St → Prop) (acc : List Rec) (σ : St) (g : FuncId) (l0 : List AV) : Option (List AV × List Nat) → Prop
  | some (l, ids) => rcK2 dst next acc σ ids (denP E g l)
  | none => lnK2 E N dst next acc σ g l0
def rtK2 (E : Env) (N : Nat) (o : Oper) (next : List Rec → St → Prop) (acc : List Rec) (σ : St) : Option (FuncId × List AV) → Prop
  | some (g, l) => raK2 E N o.dst next acc σ g l (mapL (purify deep σ.h) l)
  | none => reK2 o.dst o.op next acc σ (opEff E σ.h σ.nx σ.sl o.op)
def rwK2 (E : Env) (N : Nat) (o : Oper) (next : List Rec → St → Prop) (acc : List Rec) (σ : St) : Option Bool → Prop
  | some true => rtK2 E N o next acc σ (target σ.sl o.op)
  | some false => next (acc ++ [cr [] [] .all]) ⟨put σ.sl o.dst undef, σ.h, σ.nx⟩
  | none => False
def Rc2 (E : Env) (N : Nat) (all : List Oper) (H : Heap) (Q : Ex → St → Prop) : List Oper → List Rec → St → Prop
  | [] => fun acc σ => allW E acc H (fl all 0 acc) ∧ Q .norm σ
  | o :: os => fun acc σ => rwK2 E N o (Rc2 E N all H Q os) acc σ (want all σ.sl o)

theorem depOf_call {E : Env} {σ : St} {op : Op} {g : FuncId} {l : List AV} (ht : target σ.sl op = some (g, l)) (e : Eff) : depOf σ.sl σ.h op e = .all := by
  unfold depOf
  split
  · split
    · cases op <;> simp only [target, reduceCtorEq] at ht
      rename_i c
      split at ht <;> try cases ht
      rename_i f hc
      simp only [hc]
    · rfl
  · rfl
theorem Rc2_sound {N : Nat} {all : List Oper} {H : Heap} {Q : Ex → St → Prop} : ∀ (os : List Oper) (i : Nat) (acc : List Rec) (σ : St), Rc2 E N all H Q os acc σ → ∃ rs σ', recs E (CE E N) all os i none σ = some (rs, none, σ') ∧ allW E (acc ++ rs.map core) H (fl all 0 (acc ++ rs.map core)) ∧ Q .norm σ'
  | [], i, acc, σ, h => ⟨[], σ, rfl, by simpa using h.1, h.2⟩
  | o :: os, i, acc, σ, h => by
    have step : ∀ (r : Rec) (σ1 : St), Rc2 E N all H Q os (acc ++ [core r]) σ1 → ∃ rs σ', recs E (CE E N) all os (i + 1) none σ1 = some (rs, none, σ') ∧ allW E (acc ++ (r :: rs).map core) H (fl all 0 (acc ++ (r :: rs).map core)) ∧ Q .norm σ' := by
      intro r σ1 h
      obtain ⟨rs, σ', h1, h2, h3⟩ := Rc2_sound os (i + 1) _ σ1 h
      exact ⟨rs, σ', h1, by simpa using h2, h3⟩
    simp only [Rc2] at h
    simp only [recs]
    unfold rwK2 at h
    split at h
    · rename_i hw
      rw [hw]
      dsimp only
      unfold rtK2 at h
      split at h
      · rename_i g l ht
        unfold raK2 at h
        split at h
        · rename_i l' ids hl
          unfold rcK2 at h
          split at h
          · rename_i v hd
            rw [← depOf_call (E := E) ht ⟨.val v, ids, freezes σ.h ids, false⟩] at h
            obtain ⟨rs, σ', h1, h2, h3⟩ := step ⟨.ok, o.dst, v, ids, freezes σ.h ids, none, depOf σ.sl σ.h o.op ⟨.val v, ids, freezes σ.h ids, false⟩⟩ _ h
            refine ⟨_, σ', ?_, h2, h3⟩
            have he : anyEff E (CE E N) σ.h σ.nx σ.sl o.op = some ⟨.val v, ids, freezes σ.h ids, false⟩ := by
              unfold anyEff
              rw [ht]
              exact ce_pure hl hd
            have h1' : recs E (CE E N) all os (i + 1) none ((σ.eff ⟨.val v, ids, freezes σ.h ids, false⟩).put o.dst v) = some (rs, none, σ') := h1
            simp only [he, h1', Bool.false_eq_true, if_false]
          · exact h.elim
        · obtain ⟨k1, k2, v, H', n', k3, k4, k5, k6⟩ := h
          rw [← depOf_call (E := E) ht ⟨.val v, reach σ.h 3 l, lendUps σ.h H' (reach σ.h 3 l), false⟩] at k6
          obtain ⟨rs, σ', h1, h2, h3⟩ := step ⟨.ok, o.dst, v, reach σ.h 3 l, lendUps σ.h H' (reach σ.h 3 l), none, depOf σ.sl σ.h o.op ⟨.val v, reach σ.h 3 l, lendUps σ.h H' (reach σ.h 3 l), false⟩⟩ _ k6
          refine ⟨_, σ', ?_, h2, h3⟩
          have he : anyEff E (CE E N) σ.h σ.nx σ.sl o.op = some ⟨.val v, reach σ.h 3 l, lendUps σ.h H' (reach σ.h 3 l), false⟩ := by
            unfold anyEff
            rw [ht]
            have k3' : (cl E (den E)).o g l (σ.h.only (reach σ.h 3 l)) N = some (.ret v, H', n') := k3
            rw [Bool.and_eq_true] at k2
            simp only [CE, callEff, k1, k2.1, k2.2, Bool.and_self, if_true, lendEff, k3', k4, k5]
          have h1' : recs E (CE E N) all os (i + 1) none ((σ.eff ⟨.val v, reach σ.h 3 l, lendUps σ.h H' (reach σ.h 3 l), false⟩).put o.dst v) = some (rs, none, σ') := h1
          simp only [he, h1', Bool.false_eq_true, if_false]
      · rename_i ht
        have he : anyEff E (CE E N) σ.h σ.nx σ.sl o.op = opEff E σ.h σ.nx σ.sl o.op := by unfold anyEff; rw [ht]
        unfold reK2 at h
        split at h
        · rename_i v rds ups new ho
          obtain ⟨rs, σ', h1, h2, h3⟩ := step ⟨.ok, o.dst, v, rds, ups, if new then some σ.nx else none, depOf σ.sl σ.h o.op ⟨.val v, rds, ups, new⟩⟩ _ h
          refine ⟨_, σ', ?_, h2, h3⟩
          have h1' : recs E (CE E N) all os (i + 1) none ((σ.eff ⟨.val v, rds, ups, new⟩).put o.dst v) = some (rs, none, σ') := h1
          simp only [he, ho, h1']
        · rename_i rds ups new ho
          obtain ⟨rs, σ', h1, h2, h3⟩ := step ⟨.ok, o.dst, undef, rds, ups, if new then some σ.nx else none, depOf σ.sl σ.h o.op ⟨.skip, rds, ups, new⟩⟩ _ h
          refine ⟨_, σ', ?_, h2, h3⟩
          have h1' : recs E (CE E N) all os (i + 1) none ((σ.eff ⟨.skip, rds, ups, new⟩).put o.dst undef) = some (rs, none, σ') := h1
          simp only [he, ho, h1']
        · exact h.elim
    · rename_i hw
      obtain ⟨rs, σ', h1, h2, h3⟩ := step ⟨.ok, o.dst, undef, [], [], none, .all⟩ _ h
      refine ⟨_, σ', ?_, h2, h3⟩
      have h1' : recs E (CE E N) all os (i + 1) none (σ.put o.dst undef) = some (rs, none, σ') := h1
      simp only [hw, h1']
    · exact h.elim

variable {Q : Ex → St → Prop} {σ : St}
theorem W_drawn2 {i : Nat} {ops : Array Oper} (h : Rc2 E (σ.nx + ops.toList.length) ops.toList σ.h Q ops.toList [] σ) : W E (.region i ops true) σ Q := by
  obtain ⟨rs, σ', h1, h2, h3⟩ := Rc2_sound ops.toList 0 [] σ h
  rw [List.nil_append] at h2
  have h2' := dyn_of h2
  have : runDraw E (cl E (den E)) ops.toList σ = some (.norm, σ') := by
    unfold runDraw
    have h1' : recs E (callEff E (cl E (den E)) (σ.nx + ops.toList.length)) ops.toList ops.toList 0 none σ = some (rs, none, σ') := h1
    rw [h1']
    dsimp only
    split
    · rfl
    · rw [if_pos h2']
  rw [W_draw this]
  exact h3
variable {H : Heap} {N : Nat}
theorem Rc2_nil {all : List Oper} {acc : List Rec} : Rc2 E N all H Q [] acc σ = (allW E acc H (fl all 0 acc) ∧ Q .norm σ) := propext ⟨fun h => h, fun h => h⟩
theorem Rc2_cons {all os : List Oper} {o : Oper} {acc : List Rec} : Rc2 E N all H Q (o :: os) acc σ = rwK2 E N o (Rc2 E N all H Q os) acc σ (want all σ.sl o) := propext ⟨fun h => h, fun h => h⟩
variable {dst : Option Nat} {op : Op} {next : List Rec → St → Prop} {acc : List Rec} {v : AV} {rds ids : List Nat} {ups : List (Nat × Option Blk)} {new : Bool} {g : FuncId} {l : List AV} {o : Oper}
theorem reK2_val : reK2 dst op next acc σ (some ⟨.val v, rds, ups, new⟩) = next (acc ++ [cr rds ups (depOf σ.sl σ.h op ⟨.val v, rds, ups, new⟩)]) ⟨put σ.sl dst v, σ.h.upds ups, if new then σ.nx + 1 else σ.nx⟩ := propext ⟨fun h => h, fun h => h⟩
theorem reK2_skip : reK2 dst op next acc σ (some ⟨.skip, rds, ups, new⟩) = next (acc ++ [cr rds ups (depOf σ.sl σ.h op ⟨.skip, rds, ups, new⟩)]) ⟨put σ.sl dst undef, σ.h.upds ups, if new then σ.nx + 1 else σ.nx⟩ := propext ⟨fun h => h, fun h => h⟩
theorem rcK2_ret : rcK2 dst next acc σ ids (some (.ret v)) = next (acc ++ [cr ids (freezes σ.h ids) .all]) ⟨put σ.sl dst v, σ.h.upds (freezes σ.h ids), σ.nx⟩ := propext ⟨fun h => h, fun h => h⟩
theorem raK2_some {l0 : List AV} : raK2 E N dst next acc σ g l0 (some (l, ids)) = rcK2 dst next acc σ ids (denP E g l) := propext ⟨fun h => h, fun h => h⟩
theorem rtK2_some : rtK2 E N o next acc σ (some (g, l)) = raK2 E N o.dst next acc σ g l (mapL (purify deep σ.h) l) := propext ⟨fun h => h, fun h => h⟩
theorem lnK2_intro {R : List Nat} {H' : Heap} {n' : Nat} (hl : lends l = true) (ho : (E.opn g && g != 1000003) = true) (hR : reach σ.h 3 l = R) (hd : denO E g l (σ.h.only R) N = some (.ret v, H', n')) (hp : v.pure = true) (hok : lendOk σ.h H' R = true) (hu : lendUps σ.h H' R = ups)
    (hn : next (acc ++ [cr R ups .all]) ⟨put σ.sl dst v, σ.h.upds ups, σ.nx⟩) : lnK2 E N dst next acc σ g l := by
  subst hR hu
  exact ⟨hl, ho, v, H', n', hd, hp, hok, hn⟩
theorem raK2_none {l0 : List AV} : raK2 E N dst next acc σ g l0 none = lnK2 E N dst next acc σ g l0 := propext ⟨fun h => h, fun h => h⟩
theorem lendUps_nil {H H' : Heap} : lendUps H H' [] = [] := rfl
theorem lendUps_cons {H H' : Heap} {i : Nat} {R : List Nat} : lendUps H H' (i :: R) = (i, H' i) :: lendUps H H' R := rfl
theorem rtK2_none : rtK2 E N o next acc σ none = reK2 o.dst o.op next acc σ (opEff E σ.h σ.nx σ.sl o.op) := propext ⟨fun h => h, fun h => h⟩
theorem rwK2_t : rwK2 E N o next acc σ (some true) = rtK2 E N o next acc σ (target σ.sl o.op) := propext ⟨fun h => h, fun h => h⟩
theorem rwK2_f : rwK2 E N o next acc σ (some false) = next (acc ++ [cr [] [] .all]) ⟨put σ.sl o.dst undef, σ.h, σ.nx⟩ := propext ⟨fun h => h, fun h => h⟩
/-- Evaluated at once where it is written down. -/
theorem depOf_none {sl : List AV} {h : Heap} {out : Out} : depOf sl h op ⟨out, [], ups, new⟩ = .all := rfl
theorem depOf_two {sl : List AV} {h : Heap} {out : Out} {x y : Nat} {xs : List Nat} : depOf sl h op ⟨out, x :: y :: xs, ups, new⟩ = .all := rfl
end
attribute [go_sem] Rc_nil Rc_cons reK_val reK_skip rcK_ret raK_some rtK_some rtK_none rwK_t rwK_f Rc2_nil Rc2_cons reK2_val reK2_skip rcK2_ret raK2_some rtK2_some rtK2_none rwK2_t rwK2_f depOf_none depOf_two depOf List.map_cons W_seq W_block W_region W_skip W_ret W_exit thenK_norm thenK_exit thenK_ret thenK_panic blockK_norm blockK_exit blockK_ret blockK_panic loopK_norm loopK_exit loopK_ret loopK_panic retK_ret retK_norm resK_some purK_some W_cond' condK_t condK_f Rg_nil Rg_cons wantK_t wantK_f targK_none targK_some effK_val effK_skip effK_panic argK_some callK_ret callK_panic openK_ret openK_panic want target opEff ev evs evo evps Option.map_some Option.map_none Option.isSome_none Option.isNone_some Option.isNone_none Int.toNat_natCast Int.toNat_zero Int.toNat_one Int.natCast_zero List.drop_zero Option.isSome_some put List.set_cons_zero List.set_cons_succ List.getD_cons_zero List.getD_cons_succ List.getElem?_cons_zero List.getElem?_cons_succ ofConst scalConst Eff.v Heap.upds Bool.false_eq_true if_false if_true builtinEff binEff bothInt intBin loadEff storeEff beq_self_eq_true Bool.and_self Bool.true_and Bool.and_true Bool.false_and Bool.and_false Bool.not_true Bool.not_false resOf one Nat.zero_add Nat.mul_one Nat.zero_mul List.replicate eqOf AV.cells List.length_cons List.length_nil inRange beq_true beq_false Bool.true_beq Bool.false_beq decide_true decide_false decide_eq_true_eq not_true_eq_false not_false_eq_true List.append_nil List.nil_append List.cons_append Vm.undef Int.cast_ofNat_Int Bool.or_true Bool.true_or Bool.or_false Bool.false_or purify_wd purify_lnil List.map_nil purify_ref refP_wd flat_wd purify_agg purify_tup purify_int purify_bool purify_str purify_nilf purify_fn purify_fn1 fn1P_some mapL_nil mapL_cons pure_wd upd_apply setCells_cons setCells_nil freezes iv deep List.all_cons List.all_nil AV.scal List.take_succ_cons List.take_zero List.drop_succ_cons List.take_nil List.drop_nil true_or or_true or_self false_or or_false and_true true_and and_self ite_self if_pos if_neg decide_eq_true decide_eq_false get_wd get_wd' wd List.length_map
end Vm

/- Plain facts on words: what a row of words is worth, and the row of a number. (Own work of this repo.) -/
namespace Vm

/-- The words' base. -/
abbrev BB : Nat := 4294967296
/-- What the first words are worth. -/
def vp (l : List Nat) : Nat → Nat
  | 0 => 0
  | n + 1 => vp l n + l.getD n 0 * BB ^ n
def val (l : List Nat) : Nat := vp l l.length
def InR (l : List Nat) : Prop := ∀ x ∈ l, x < BB
theorem InR.get {l : List Nat} (h : InR l) (i : Nat) : l.getD i 0 < 4294967296 := by
  rw [List.getD_eq_getElem?_getD]
  by_cases hi : i < l.length
  · rw [List.getElem?_eq_getElem hi]; exact h _ (List.getElem_mem hi)
  · rw [List.getElem?_eq_none (by omega)]; decide
theorem vp_ge (l : List Nat) : ∀ n, l.length ≤ n → vp l n = val l := by
  intro n h
  induction n with
  | zero => have : l.length = 0 := by omega
            simp [val, this, vp]
  | succ n ih =>
    by_cases hn : l.length ≤ n
    · rw [vp, ih hn, List.getD_eq_getElem?_getD, List.getElem?_eq_none hn]; simp
    · have : l.length = n + 1 := by omega
      rw [val, this]
theorem vp_cons (x : Nat) (xs : List Nat) : ∀ n, vp (x :: xs) (n + 1) = x + BB * vp xs n := by
  intro n
  induction n with
  | zero => simp [vp]
  | succ n ih => rw [vp, ih, vp, List.getD_cons_succ, Nat.pow_succ, Nat.mul_add]; generalize BB ^ n = p; generalize xs.getD n 0 = y; rw [Nat.add_assoc, show y * (p * BB) = BB * (y * p) by rw [Nat.mul_comm p, ← Nat.mul_assoc, Nat.mul_comm y, Nat.mul_assoc]]
theorem val_nil : val [] = 0 := rfl
theorem val_cons (x : Nat) (xs : List Nat) : val (x :: xs) = x + BB * val xs := vp_cons x xs xs.length
theorem vp_lt {l : List Nat} (h : InR l) : ∀ n, vp l n < BB ^ n
  | 0 => by simp [vp]
  | n + 1 => by
    have h1 := vp_lt h n
    have h2 := h.get n
    rw [vp, Nat.pow_succ, Nat.mul_comm (BB ^ n)]
    have h3 : (l.getD n 0 + 1) * BB ^ n ≤ BB * BB ^ n := Nat.mul_le_mul_right _ h2
    rw [Nat.add_mul] at h3
    omega
theorem vp_set (l : List Nat) (i x : Nat) : ∀ n, n ≤ i → vp (l.set i x) n = vp l n
  | 0, _ => rfl
  | n + 1, h => by
    rw [vp, vp, vp_set l i x n (by omega)]
    congr 2
    rw [List.getD_eq_getElem?_getD, List.getD_eq_getElem?_getD, List.getElem?_set_ne (by omega)]
theorem lget_set_self {l : List Nat} {i x : Nat} (h : i < l.length) : (l.set i x).getD i 0 = x := by
  rw [List.getD_eq_getElem?_getD, List.getElem?_set_self h]; rfl
theorem lget_set_ne {l : List Nat} {i j x : Nat} (h : i ≠ j) : (l.set i x).getD j 0 = l.getD j 0 := by
  rw [List.getD_eq_getElem?_getD, List.getD_eq_getElem?_getD, List.getElem?_set_ne h]
theorem InR.set {l : List Nat} (h : InR l) {i x : Nat} (hx : x < BB) : InR (l.set i x) := by
  intro y hy
  rcases List.mem_or_eq_of_mem_set hy with hy | rfl
  · exact h y hy
  · exact hx
theorem InR.replicate (n : Nat) : InR (List.replicate n 0) := by intro x hx; rw [List.eq_of_mem_replicate hx]; decide
theorem vp_replicate (m : Nat) : ∀ n, vp (List.replicate m 0) n = 0
  | 0 => rfl
  | n + 1 => by
    rw [vp, vp_replicate m n, List.getD_eq_getElem?_getD, List.getElem?_replicate]
    split <;> simp
theorem getD_replicate (m i : Nat) : (List.replicate m 0).getD i 0 = 0 := by
  rw [List.getD_eq_getElem?_getD, List.getElem?_replicate]; split <;> rfl
theorem InR.take {l : List Nat} (h : InR l) (n : Nat) : InR (l.take n) := fun x hx => h x (List.mem_of_mem_take hx)
theorem InR.drop {l : List Nat} (h : InR l) (n : Nat) : InR (l.drop n) := fun x hx => h x (List.mem_of_mem_drop hx)
theorem vp_congr {l m : List Nat} : ∀ n, (∀ i, i < n → l.getD i 0 = m.getD i 0) → vp l n = vp m n
  | 0, _ => rfl
  | n + 1, h => by rw [vp, vp, vp_congr n (fun i hi => h i (by omega)), h n (by omega)]
theorem getD_take {l : List Nat} {i n : Nat} (h : i < n) : (l.take n).getD i 0 = l.getD i 0 := by
  rw [List.getD_eq_getElem?_getD, List.getD_eq_getElem?_getD, List.getElem?_take_of_lt h]
theorem getD_drop {l : List Nat} {i n : Nat} : (l.drop n).getD i 0 = l.getD (n + i) 0 := by
  rw [List.getD_eq_getElem?_getD, List.getD_eq_getElem?_getD, List.getElem?_drop]

/-- A row without zeros at its end. -/
def Norm (l : List Nat) : Prop := InR l ∧ (l = [] ∨ l.getD (l.length - 1) 0 ≠ 0)
/-- The row of a number. -/
def dig (n : Nat) : List Nat := if h : n = 0 then [] else n % BB :: dig (n / BB)
termination_by n
decreasing_by exact Nat.div_lt_self (by omega) (by decide)
theorem dig_zero : dig 0 = [] := by rw [dig]; simp
theorem dig_pos {n : Nat} (h : n ≠ 0) : dig n = n % BB :: dig (n / BB) := by rw [dig, dif_neg h]
theorem dig_inR (n : Nat) : InR (dig n) := by
  induction n using Nat.strongRecOn with
  | _ n ih =>
    by_cases h : n = 0
    · subst h; rw [dig_zero]; intro x hx; cases hx
    · rw [dig_pos h]
      intro x hx
      rcases List.mem_cons.1 hx with rfl | hx
      · exact Nat.mod_lt _ (by decide)
      · exact ih (n / BB) (Nat.div_lt_self (by omega) (by decide)) x hx
theorem val_dig (n : Nat) : val (dig n) = n := by
  induction n using Nat.strongRecOn with
  | _ n ih =>
    by_cases h : n = 0
    · subst h; rw [dig_zero]; rfl
    · rw [dig_pos h, val_cons, ih (n / BB) (Nat.div_lt_self (by omega) (by decide))]
      exact Nat.mod_add_div n BB
theorem InR.tail {x : Nat} {xs : List Nat} (h : InR (x :: xs)) : InR xs := fun y hy => h y (List.mem_cons_of_mem _ hy)
theorem Norm.tail {x : Nat} {xs : List Nat} (h : Norm (x :: xs)) : Norm xs := by
  refine ⟨h.1.tail, ?_⟩
  cases xs with
  | nil => exact .inl rfl
  | cons y ys =>
    right
    have := h.2.resolve_left (by simp)
    simpa using this
theorem norm_pos {l : List Nat} (h : Norm l) (hl : l ≠ []) : 0 < val l := by
  induction l with
  | nil => exact absurd rfl hl
  | cons x xs ih =>
    rw [val_cons]
    cases xs with
    | nil =>
      have := h.2.resolve_left (by simp)
      simp at this
      simp [val_nil]; omega
    | cons y ys =>
      have := ih h.tail (by simp)
      have : 0 < BB * val (y :: ys) := Nat.mul_pos (by decide) this
      omega
/-- A row without zeros at its end is its number's. -/
theorem dig_val {l : List Nat} (h : Norm l) : dig (val l) = l := by
  induction l with
  | nil => rw [val_nil, dig_zero]
  | cons x xs ih =>
    have h1 := norm_pos h (by simp)
    have hx : x < BB := h.1 x (by simp)
    rw [dig_pos (by omega), val_cons, Nat.add_mul_mod_self_left, Nat.mod_eq_of_lt hx, Nat.add_mul_div_left _ _ (by decide), Nat.div_eq_of_lt hx, Nat.zero_add, ih h.tail]
theorem dig_norm (n : Nat) : Norm (dig n) := by
  refine ⟨dig_inR n, ?_⟩
  induction n using Nat.strongRecOn with
  | _ n ih =>
    by_cases h : n = 0
    · subst h; left; rw [dig_zero]
    · right
      rw [dig_pos h]
      rcases ih (n / BB) (Nat.div_lt_self (by omega) (by decide)) with h1 | h1
      · rw [h1]
        have h0 : n / BB = 0 := by
          have := val_dig (n / BB)
          rw [h1] at this; exact this.symm
        have := Nat.mod_add_div n BB
        rw [h0] at this
        simp only [List.length_cons, List.length_nil, Nat.zero_add, Nat.sub_self, List.getD_cons_zero]
        omega
      · have h2 : (dig (n / BB)).length ≠ 0 := by
          intro e
          rw [List.length_eq_zero_iff] at e
          rw [e] at h1; simp at h1
        obtain ⟨k, hk⟩ : ∃ k, (dig (n / BB)).length = k + 1 := ⟨(dig (n / BB)).length - 1, by omega⟩
        rw [hk] at h1
        simp only [List.length_cons, hk, Nat.add_sub_cancel, List.getD_cons_succ]
        simpa using h1
theorem dig_inj {a b : Nat} (h : dig a = dig b) : a = b := by rw [← val_dig a, h, val_dig]
theorem dig_nil {n : Nat} : dig n = [] ↔ n = 0 := ⟨fun h => by rw [← val_dig n, h]; rfl, fun h => by rw [h, dig_zero]⟩
theorem norm_ext {a b : List Nat} (ha : Norm a) (hb : Norm b) (h : val a = val b) : a = b := by rw [← dig_val ha, h, dig_val hb]
/-- How long a number's row is. -/
theorem val_lt {l : List Nat} (h : InR l) : val l < BB ^ l.length := vp_lt h _
theorem norm_ge {l : List Nat} (h : Norm l) (hl : l ≠ []) : BB ^ (l.length - 1) ≤ val l := by
  obtain ⟨k, hk⟩ : ∃ k, l.length = k + 1 := ⟨l.length - 1, by have := List.length_pos_iff.2 hl; omega⟩
  have h1 := h.2.resolve_left hl
  rw [hk] at h1 ⊢
  rw [val, hk, vp]
  simp only [Nat.add_sub_cancel] at h1 ⊢
  have : 1 * BB ^ k ≤ l.getD k 0 * BB ^ k := Nat.mul_le_mul_right _ (by omega)
  omega
theorem dig_len {n k : Nat} : (dig n).length ≤ k ↔ n < BB ^ k := by
  constructor
  · intro h
    have h1 := val_lt (dig_inR n)
    rw [val_dig] at h1
    exact Nat.lt_of_lt_of_le h1 (Nat.pow_le_pow_right (by decide) h)
  · intro h
    by_cases h0 : dig n = []
    · rw [h0]; simp
    · have h1 := norm_ge (dig_norm n) h0
      rw [val_dig] at h1
      have h2 : BB ^ ((dig n).length - 1) < BB ^ k := by omega
      have := (Nat.pow_lt_pow_iff_right (by decide : 1 < BB)).1 h2
      omega

/-! #### for walks -/
/-- A fact that the reckoning of bounds need not look at. -/
structure Hd (p : Prop) : Prop where
  out : p
theorem cast_succ (i : Nat) : (i : Int) + 1 = ((i + 1 : Nat) : Int) := rfl
theorem wrapu32_nat (n : Nat) : Go.IntKind.u32.wrap (n : Int) = ((n % 4294967296 : Nat) : Int) := by rw [Go.IntKind.wrap_u32']; rfl
theorem shr32 (n : Nat) : (n : Int).fdiv (2 ^ min 32 (kb .u64)) = ((n / 4294967296 : Nat) : Int) := by
  rw [show min 32 (kb .u64) = 32 from rfl, Int.fdiv_eq_ediv_of_nonneg _ (by decide)]; rfl
/-- Zeros. -/
def zs (n : Nat) : List Nat := List.replicate n 0
theorem zs_len (n : Nat) : (zs n).length = n := List.length_replicate
theorem zs_inR (n : Nat) : InR (zs n) := InR.replicate n
theorem zs_vp (n k : Nat) : vp (zs n) k = 0 := vp_replicate n k
theorem zs_get (n i : Nat) : (zs n).getD i 0 = 0 := getD_replicate n i
theorem reps_wd : ∀ n, reps n [AV.int .u32 0] = (zs n).map wd := by
  unfold zs
  intro n
  induction n with
  | zero => rfl
  | succ n ih => simp only [reps, ih, List.replicate_succ, List.map_cons]; rfl
theorem split_mul (s p : Nat) : s % BB * p + s / BB * (p * BB) = s * p := by
  have h := Nat.mod_add_div s BB
  have h2 : s / BB * (p * BB) = BB * (s / BB) * p := by rw [Nat.mul_comm p BB, ← Nat.mul_assoc, Nat.mul_comm (s / BB) BB]
  rw [h2, ← Nat.add_mul, h]
theorem plus_step {o x y : List Nat} {i c s : Nat} (ho : i < o.length) (hv : vp o i + c * BB ^ i = vp x i + vp y i) (hs : s = c + x.getD i 0 + y.getD i 0) :
    vp (o.set i (s % 4294967296)) (i + 1) + s / 4294967296 * BB ^ (i + 1) = vp x (i + 1) + vp y (i + 1) := by
  have h : s % 4294967296 * BB ^ i + s / 4294967296 * (BB ^ i * BB) = s * BB ^ i := split_mul s (BB ^ i)
  rw [vp, vp, vp, vp_set o i _ i (Nat.le_refl _), lget_set_self ho, Nat.pow_succ]
  have h3 : s * BB ^ i = c * BB ^ i + x.getD i 0 * BB ^ i + y.getD i 0 * BB ^ i := by rw [hs, Nat.add_mul, Nat.add_mul]
  omega
theorem getD_ge {l : List Nat} {i : Nat} (h : l.length ≤ i) : l.getD i 0 = 0 := by
  rw [List.getD_eq_getElem?_getD, List.getElem?_eq_none h]; rfl
theorem val_set_last {o : List Nat} {n c : Nat} (ho : o.length = n + 1) : val (o.set n c) = vp o n + c * BB ^ n := by
  rw [val, List.length_set, ho, vp, vp_set o n c n (Nat.le_refl _), lget_set_self (by omega)]
theorem vp_hi {a b : List Nat} {k : Nat} : ∀ n, k ≤ n → (∀ j, k ≤ j → j < n → a.getD j 0 = b.getD j 0) → vp a n + vp b k = vp b n + vp a k := by
  intro n hn
  induction n with
  | zero => intro _; have : k = 0 := by omega
            subst this; omega
  | succ n ih =>
    intro h
    by_cases hk : k = n + 1
    · subst hk; omega
    · have := ih (by omega) (fun j h1 h2 => h j h1 (by omega))
      rw [vp, vp, h n (by omega) (by omega)]
      omega
theorem vp_less {a b : List Nat} {k n : Nat} (ha : InR a) (hk : k < n) (h : ∀ j, k < j → j < n → a.getD j 0 = b.getD j 0) (hlt : a.getD k 0 < b.getD k 0) : vp a n < vp b n := by
  have h1 := vp_hi (a := a) (b := b) (k := k + 1) n (by omega) (fun j h1 h2 => h j (by omega) h2)
  have h2 := vp_lt ha k
  rw [vp, vp] at h1
  have h3 : (a.getD k 0 + 1) * BB ^ k ≤ b.getD k 0 * BB ^ k := Nat.mul_le_mul_right _ hlt
  rw [Nat.add_mul] at h3
  omega
theorem val_less_len {a b : List Nat} (ha : InR a) (hb : Norm b) (h : a.length < b.length) : val a < val b := by
  have h1 := val_lt ha
  have h2 := norm_ge hb (by intro e; rw [e] at h; simp at h)
  have h3 : BB ^ a.length ≤ BB ^ (b.length - 1) := Nat.pow_le_pow_right (by decide) (by omega)
  omega
theorem mul_word {x y : Nat} (hx : x < 4294967296) (hy : y < 4294967296) : x * y ≤ 18446744065119617025 := by
  have := Nat.mul_le_mul (Nat.le_of_lt_succ hx) (Nat.le_of_lt_succ hy)
  simpa using this
theorem times_step {o p b : List Nat} {i j c x s : Nat} (hp : i + j < p.length) (hv : vp p (i + j) + c * BB ^ (i + j) = vp o (i + j) + x * vp b j * BB ^ i) (hs : s = c + (x * b.getD j 0 + o.getD (i + j) 0)) :
    vp (p.set (i + j) (s % 4294967296)) (i + (j + 1)) + s / 4294967296 * BB ^ (i + (j + 1)) = vp o (i + (j + 1)) + x * vp b (j + 1) * BB ^ i := by
  have h : s % 4294967296 * BB ^ (i + j) + s / 4294967296 * (BB ^ (i + j) * BB) = s * BB ^ (i + j) := split_mul s (BB ^ (i + j))
  rw [show i + (j + 1) = i + j + 1 by omega, vp, vp, vp, vp_set p (i + j) _ (i + j) (Nat.le_refl _), lget_set_self hp, Nat.pow_succ]
  have h3 : s * BB ^ (i + j) = c * BB ^ (i + j) + (x * b.getD j 0 * BB ^ (i + j) + o.getD (i + j) 0 * BB ^ (i + j)) := by rw [hs, Nat.add_mul, Nat.add_mul]
  have h4 : x * (vp b j + b.getD j 0 * BB ^ j) * BB ^ i = x * vp b j * BB ^ i + x * b.getD j 0 * BB ^ (i + j) := by
    rw [Nat.mul_add, Nat.add_mul, Nat.pow_add, Nat.mul_comm (BB ^ i) (BB ^ j), Nat.mul_assoc x (b.getD j 0), Nat.mul_assoc x (b.getD j 0 * BB ^ j), Nat.mul_assoc (b.getD j 0), Nat.mul_assoc x]
  rw [h4]
  omega
/-- How two numbers stand. -/
def cmpN (a b : Nat) : Int := if a < b then -1 else if b < a then 1 else 0
/-- A row of words as the program hands it back. -/
def RetW (r : Option Res) (N : Nat) : Prop := ∃ m, (m = true → N = 0) ∧ r = some (.ret (.lst m ((dig N).map wd)))
end Vm

/- trim. -/
namespace Go.Proofs.Ytnpomadbaanpkaa
open Vm
set_option maxRecDepth 10000

def tz (l : List Nat) : Nat → Nat
  | 0 => 0
  | n + 1 => if l.getD n 0 = 0 then tz l n else n + 1
theorem tz_le (l : List Nat) : ∀ n, tz l n ≤ n
  | 0 => Nat.le_refl _
  | n + 1 => by simp only [tz]; split; exact Nat.le_succ_of_le (tz_le l n); exact Nat.le_refl _

theorem trim_walk (nl : Bool) (l : List Nat) (hl : l.length < 2 ^ 60) : denP E 69 [.lst nl (l.map wd)] = some (.ret (.lst nl ((l.take (tz l l.length)).map wd))) := by
  refine denP_eq E69 rfl (by simp [AV.pureL, AV.pure, pure_wd]) ?_
  simp only [Try.f69, List.length_cons, List.length_nil, List.replicate, List.cons_append, List.nil_append, go_sem, seval, ↓reduceIte, reduceCtorEq, ← List.map_take, ← List.map_drop, T73, T3, T4, T69, List.length_map]
  refine W_loopI (fun k σ => ∃ (g4 g5 g6 g7 g8 g9 g10 g11 g12 g13 g14 g15 g16 g17 g18 g19 g20 g21 : AV), σ = ⟨[.lst nl (l.map wd), Vm.undef, .lst true [], .int .i64 k, g4, g5, g6, g7, g8, g9, g10, g11, g12, g13, g14, g15, g16, g17, g18, g19, g20, g21], Heap.empty, 0⟩ ∧ k ≤ l.length ∧ tz l k = tz l l.length) l.length ⟨_, _, _, _, _, _, _, _, _, _, _, _, _, _, _, _, _, _, rfl, Nat.le_refl _, rfl⟩ ?_
  rintro k σ ⟨g4, g5, g6, g7, g8, g9, g10, g11, g12, g13, g14, g15, g16, g17, g18, g19, g20, g21, rfl, hk, ht⟩
  cases k with
  | zero =>
    simp (maxSteps := 4000000) (disch := omega) only [go_sem, seval, ↓reduceIte, reduceCtorEq, ← List.map_take, ← List.map_drop, wrap64, wrapu64, wrapu32, cutBounds]
    rw [← ht]; rfl
  | succ k => 
    have e : ((k + 1 : Nat) : Int) - 1 = k := by omega
    by_cases h0 : l.getD k 0 = 0
    · simp (maxSteps := 4000000) (disch := omega) only [go_sem, seval, ↓reduceIte, reduceCtorEq, ← List.map_take, ← List.map_drop, wrap64, wrapu64, wrapu32, cutBounds, e]
      exact ⟨k, by omega, _, _, _, _, _, _, _, _, _, _, _, _, _, _, _, _, _, _, rfl, by omega, by rw [← ht]; simp only [tz, if_pos h0]⟩
    · simp (maxSteps := 4000000) (disch := omega) only [go_sem, seval, ↓reduceIte, reduceCtorEq, ← List.map_take, ← List.map_drop, wrap64, wrapu64, wrapu32, cutBounds, e]
      rw [← ht]; simp only [tz, if_neg h0]

theorem tz_zero (l : List Nat) : ∀ n i, tz l n ≤ i → i < n → l.getD i 0 = 0
  | 0, i, _, h => by omega
  | n + 1, i, h1, h2 => by
    simp only [tz] at h1
    split at h1
    · rename_i h0
      by_cases hi : i = n
      · rw [hi]; exact h0
      · exact tz_zero l n i h1 (by omega)
    · omega
theorem tz_last (l : List Nat) : ∀ n, tz l n = 0 ∨ l.getD (tz l n - 1) 0 ≠ 0
  | 0 => .inl rfl
  | n + 1 => by
    simp only [tz]
    split
    · exact tz_last l n
    · rename_i h; right; simpa using h
theorem vp_tz (l : List Nat) : ∀ n, vp l (tz l n) = vp l n
  | 0 => rfl
  | n + 1 => by
    simp only [tz]
    split
    · rename_i h; rw [vp_tz l n, vp, h]; simp
    · rfl
/-- Cut at its end, a row is its number's. -/
theorem take_tz {l : List Nat} (h : InR l) : l.take (tz l l.length) = dig (val l) := by
  have hle := tz_le l l.length
  have hlen : (l.take (tz l l.length)).length = tz l l.length := by rw [List.length_take]; omega
  have hn : Norm (l.take (tz l l.length)) := by
    refine ⟨h.take _, ?_⟩
    rcases tz_last l l.length with h0 | h0
    · left; rw [h0]; rfl
    · by_cases hz : tz l l.length = 0
      · left; rw [hz]; rfl
      · right; rw [hlen, getD_take (by omega)]; exact h0
  have hv : val (l.take (tz l l.length)) = val l := by
    rw [val, hlen, vp_congr _ (fun i hi => getD_take hi), vp_tz]; rfl
  rw [← hv, dig_val hn]
theorem trim_spec (nl : Bool) (l : List Nat) (h : InR l) (hl : l.length < 2 ^ 60) : denP E 69 [.lst nl (l.map wd)] = some (.ret (.lst nl ((dig (val l)).map wd))) := by
  rw [trim_walk nl l hl, take_tz h]
end Go.Proofs.Ytnpomadbaanpkaa

/- Plain facts on numbers with signs as the program holds them. (Own work of this repo.) -/
namespace Vm

def ng (z : Int) : Bool := decide (z < 0)
def dg (z : Int) : List Nat := dig z.natAbs
/-- A number as the program holds it: its sign, its words ('m': is the row nil?). -/
abbrev I (m : Bool) (z : Int) : AV := .agg [.bool (ng z), .lst m ((dg z).map wd)]
def fit (z : Int) : Int := if (dg z).length ≤ 4096 then z else 0
def er (z : Int) : Int := if (dg z).length ≤ 4096 then 0 else 4
def fm (m : Bool) (z : Int) : Bool := if (dg z).length ≤ 4096 then m else true
/-- A number and an error: the number, if it is not too long. -/
abbrev RI (m : Bool) (z : Int) : AV := .tup [I (fm m z) (fit z), .int .i64 (er z)]
/-- A number as the reference makes it. -/
abbrev RM (z : Int) : AV := I (decide (z = 0)) z
/-- A number out of sign and absolute value. -/
def sg (neg : Bool) (n : Nat) : Int := if neg then -(n : Int) else n

theorem dg_inR (z : Int) : InR (dg z) := dig_inR _
theorem dg_norm (z : Int) : Norm (dg z) := dig_norm _
theorem val_dg (z : Int) : val (dg z) = z.natAbs := val_dig _
theorem ng_true {z : Int} : ng z = true ↔ z < 0 := by simp [ng]
theorem ng_false {z : Int} : ng z = false ↔ 0 ≤ z := by simp [ng]
theorem ng_zero : ng 0 = false := rfl
theorem ng_nat (n : Nat) : ng (n : Int) = false := by simp [ng]
theorem dg_nat (n : Nat) : dg (n : Int) = dig n := rfl
theorem dg_zero : dg 0 = [] := dig_zero
theorem dg_neg (z : Int) : dg (-z) = dg z := by simp [dg]
theorem dg_abs (z : Int) : dg (z.natAbs : Int) = dg z := rfl
theorem dg_nil {z : Int} : dg z = [] ↔ z = 0 := by unfold dg; rw [dig_nil]; omega
theorem dg_len0 {z : Int} : (dg z).length = 0 ↔ z = 0 := by rw [List.length_eq_zero_iff, dg_nil]
theorem dg_pos {z : Int} : 0 < (dg z).length ↔ z ≠ 0 := by rw [Nat.pos_iff_ne_zero, ne_eq, dg_len0]
theorem dg_len {z : Int} {k : Nat} : (dg z).length ≤ k ↔ z.natAbs < BB ^ k := dig_len
theorem sg_abs (neg : Bool) (n : Nat) : (sg neg n).natAbs = n := by unfold sg; split <;> omega
theorem dg_sg (neg : Bool) (n : Nat) : dg (sg neg n) = dig n := by unfold dg; rw [sg_abs]
theorem ng_sg (neg : Bool) (n : Nat) : ng (sg neg n) = (neg && decide (n ≠ 0)) := by
  unfold sg ng; cases neg
  · simp
  · by_cases h : n = 0
    · subst h; simp
    · simp [h]; omega
theorem sg_ng (z : Int) : sg (ng z) z.natAbs = z := by
  unfold sg ng; by_cases h : z < 0
  · simp [h]; omega
  · simp [h]; omega
theorem sg_not (z : Int) : sg (!(ng z)) z.natAbs = -z := by
  unfold sg ng; by_cases h : z < 0
  · simp [h]; omega
  · simp [h]; omega
theorem int_ext {a b : Int} (h1 : ng a = ng b) (h2 : dg a = dg b) : a = b := by
  rw [← sg_ng a, ← sg_ng b, h1]
  congr 1
  exact dig_inj h2
theorem fit_of {z : Int} (h : (dg z).length ≤ 4096) : fit z = z := if_pos h
theorem er_of {z : Int} (h : (dg z).length ≤ 4096) : er z = 0 := if_pos h
theorem fm_of {m : Bool} {z : Int} (h : (dg z).length ≤ 4096) : fm m z = m := if_pos h
theorem fit_no {z : Int} (h : ¬ (dg z).length ≤ 4096) : fit z = 0 := if_neg h
theorem er_no {z : Int} (h : ¬ (dg z).length ≤ 4096) : er z = 4 := if_neg h
theorem fm_no {m : Bool} {z : Int} (h : ¬ (dg z).length ≤ 4096) : fm m z = true := if_neg h
theorem fit_len (z : Int) : (dg (fit z)).length ≤ 4096 := by
  unfold fit; split
  · assumption
  · rw [dg_zero]; simp
theorem pow_max (a b : Nat) : BB ^ a + BB ^ b ≤ BB ^ (max a b + 1) := by
  have h1 : BB ^ a ≤ BB ^ (max a b) := Nat.pow_le_pow_right (by decide) (by omega)
  have h2 : BB ^ b ≤ BB ^ (max a b) := Nat.pow_le_pow_right (by decide) (by omega)
  rw [Nat.pow_succ]
  have : BB ^ max a b * 2 ≤ BB ^ max a b * BB := Nat.mul_le_mul_left _ (by decide)
  omega
theorem dig_lt (n : Nat) : n < BB ^ (dig n).length := dig_len.1 (Nat.le_refl _)
theorem dig_add (a b : Nat) : (dig (a + b)).length ≤ max (dig a).length (dig b).length + 1 := by
  rw [dig_len]
  have h1 := dig_lt a
  have h2 := dig_lt b
  have h3 := pow_max (dig a).length (dig b).length
  omega
theorem dig_mono {a b : Nat} (h : a ≤ b) : (dig a).length ≤ (dig b).length := by
  rw [dig_len]
  have := dig_lt b
  omega
theorem dig_mul (a b : Nat) : (dig (a * b)).length ≤ (dig a).length + (dig b).length := by
  rw [dig_len, Nat.pow_add]
  exact Nat.mul_lt_mul'' (dig_lt a) (dig_lt b)
theorem dg_add (a b : Int) : (dg (a + b)).length ≤ max (dg a).length (dg b).length + 1 :=
  Nat.le_trans (dig_mono (Int.natAbs_add_le a b)) (dig_add _ _)
theorem dg_sub (a b : Int) : (dg (a - b)).length ≤ max (dg a).length (dg b).length + 1 := by
  have := dg_add a (-b)
  rwa [dg_neg] at this
theorem dg_mul (a b : Int) : (dg (a * b)).length ≤ (dg a).length + (dg b).length := by
  unfold dg; rw [Int.natAbs_mul]; exact dig_mul _ _
theorem dg_mono {a b : Int} (h : a.natAbs ≤ b.natAbs) : (dg a).length ≤ (dg b).length := dig_mono h
/-- The words' comparison, of numbers. -/
theorem dig_cmp {a b : Nat} (h : (dig a).length < (dig b).length) : a < b := by
  rcases Nat.lt_or_ge a b with h1 | h1
  · exact h1
  · have := dig_mono h1; omega
/-- A product of two numbers has at least so many words. -/
theorem dg_mul_ge {a b : Int} (ha : a ≠ 0) (hb : b ≠ 0) : (dg a).length + (dg b).length ≤ (dg (a * b)).length + 1 := by
  have h1 : BB ^ ((dg a).length - 1) ≤ a.natAbs := by
    have := norm_ge (dg_norm a) (by rw [ne_eq, dg_nil]; exact ha); rwa [val_dg] at this
  have h2 : BB ^ ((dg b).length - 1) ≤ b.natAbs := by
    have := norm_ge (dg_norm b) (by rw [ne_eq, dg_nil]; exact hb); rwa [val_dg] at this
  have h3 : BB ^ ((dg a).length - 1 + ((dg b).length - 1)) ≤ (a * b).natAbs := by
    rw [Nat.pow_add, Int.natAbs_mul]; exact Nat.mul_le_mul h1 h2
  have h4 := dg_pos.2 ha
  have h5 := dg_pos.2 hb
  rcases Nat.lt_or_ge ((dg (a * b)).length + 1) ((dg a).length + (dg b).length) with h | h
  · have h6 : (a * b).natAbs < BB ^ (dg (a * b)).length := dg_len.1 (Nat.le_refl _)
    have h7 : BB ^ (dg (a * b)).length ≤ BB ^ ((dg a).length - 1 + ((dg b).length - 1)) := Nat.pow_le_pow_right (by decide) (by omega)
    omega
  · exact h
def mz (x y : Int) : Bool := decide (x = 0 ∨ y = 0)
theorem sg_mul (x y : Int) : sg (ng x != ng y) (x.natAbs * y.natAbs) = x * y := by
  rcases Int.natAbs_eq x with h | h <;> rcases Int.natAbs_eq y with h' | h' <;> (generalize x.natAbs = a at h; generalize y.natAbs = b at h'; subst h; subst h')
  · simp [ng_nat, sg]
  · by_cases hb : b = 0
    · subst hb; simp [sg]
    · have : ng (-(b : Int)) = true := ng_true.2 (by omega)
      simp [ng_nat, sg, this, Int.mul_neg]
  · by_cases hb : a = 0
    · subst hb; simp [sg]
    · have : ng (-(a : Int)) = true := ng_true.2 (by omega)
      simp [ng_nat, sg, this, Int.neg_mul]
  · by_cases ha : a = 0
    · subst ha; simp [sg]
    · by_cases hb : b = 0
      · subst hb; simp [sg]
      · have h1 : ng (-(b : Int)) = true := ng_true.2 (by omega)
        have h2 : ng (-(a : Int)) = true := ng_true.2 (by omega)
        simp [sg, h1, h2, Int.neg_mul_neg]
def cmpI (a b : Int) : Int := if a < b then -1 else if b < a then 1 else 0
attribute [go_sem] RI RM I
end Vm

/- Plain facts on the operations of words. (Own work of this repo.) -/
namespace Vm
open Go

theorem denP_ex {E : Env} {α : Type} {f : FuncId} {fn : Func} {c : Code} {args : List AV} {F : α → AV} {Q : α → Prop} (hf : E.fn f = some fn) (hb : fn.body = some c) (hp : AV.pureL args = true)
    (h : W E c ⟨args ++ List.replicate (fn.ntmps - args.length) undef, Heap.empty, 0⟩ (retK E fn.results.toList (fun v => ∃ o, v = F o ∧ Q o))) : ∃ o, denP E f args = some (.ret (F o)) ∧ Q o := by
  obtain ⟨v, h1, o, rfl, h2⟩ := denP_intro hf hb hp h
  exact ⟨o, h1, h2⟩
theorem ofInt_nat (w n : Nat) : BitVec.ofInt w (n : Int) = BitVec.ofNat w n := BitVec.ofInt_natCast w n
/-- The bits that two numbers have in common, of 64. -/
theorem and64 {a b : Nat} (ha : a < 18446744073709551616) (hb : b < 18446744073709551616) : IntKind.u64.wrap ((BitVec.ofInt (kb .u64) (a : Int) &&& BitVec.ofInt (kb .u64) (b : Int)).toNat : Int) = ((a &&& b : Nat) : Int) := by
  have e : (BitVec.ofInt (kb .u64) (a : Int) &&& BitVec.ofInt (kb .u64) (b : Int)).toNat = a &&& b := by
    rw [ofInt_nat, ofInt_nat, show (kb .u64) = 64 from rfl, BitVec.toNat_and, BitVec.toNat_ofNat, BitVec.toNat_ofNat, Nat.mod_eq_of_lt ha, Nat.mod_eq_of_lt hb]
  rw [e]
  have : a &&& b ≤ a := Nat.and_le_left
  exact wrapu64 (by omega) (by omega)
theorem or64 {a b : Nat} (ha : a < 18446744073709551616) (hb : b < 18446744073709551616) : IntKind.u64.wrap ((BitVec.ofInt (kb .u64) (a : Int) ||| BitVec.ofInt (kb .u64) (b : Int)).toNat : Int) = ((a ||| b : Nat) : Int) := by
  have e : (BitVec.ofInt (kb .u64) (a : Int) ||| BitVec.ofInt (kb .u64) (b : Int)).toNat = a ||| b := by
    rw [ofInt_nat, ofInt_nat, show (kb .u64) = 64 from rfl, BitVec.toNat_or, BitVec.toNat_ofNat, BitVec.toNat_ofNat, Nat.mod_eq_of_lt ha, Nat.mod_eq_of_lt hb]
  rw [e]
  have : a ||| b < 2 ^ 64 := Nat.or_lt_two_pow ha hb
  exact wrapu64 (by omega) (by omega)
theorem and32b {a b : Nat} (ha : a < 4294967296) (hb : b < 4294967296) : IntKind.u32.wrap ((BitVec.ofInt (kb .u32) (a : Int) &&& BitVec.ofInt (kb .u32) (b : Int)).toNat : Int) = ((a &&& b : Nat) : Int) := by
  have e : (BitVec.ofInt (kb .u32) (a : Int) &&& BitVec.ofInt (kb .u32) (b : Int)).toNat = a &&& b := by
    rw [ofInt_nat, ofInt_nat, show (kb .u32) = 32 from rfl, BitVec.toNat_and, BitVec.toNat_ofNat, BitVec.toNat_ofNat, Nat.mod_eq_of_lt ha, Nat.mod_eq_of_lt hb]
  rw [e]
  have : a &&& b ≤ a := Nat.and_le_left
  exact wrapu32 (by omega) (by omega)
theorem or32b {a b : Nat} (ha : a < 4294967296) (hb : b < 4294967296) : IntKind.u32.wrap ((BitVec.ofInt (kb .u32) (a : Int) ||| BitVec.ofInt (kb .u32) (b : Int)).toNat : Int) = ((a ||| b : Nat) : Int) := by
  have e : (BitVec.ofInt (kb .u32) (a : Int) ||| BitVec.ofInt (kb .u32) (b : Int)).toNat = a ||| b := by
    rw [ofInt_nat, ofInt_nat, show (kb .u32) = 32 from rfl, BitVec.toNat_or, BitVec.toNat_ofNat, BitVec.toNat_ofNat, Nat.mod_eq_of_lt ha, Nat.mod_eq_of_lt hb]
  rw [e]
  have : a ||| b < 2 ^ 32 := Nat.or_lt_two_pow ha hb
  exact wrapu32 (by omega) (by omega)
theorem and63 {a b : Nat} (ha : a < 9223372036854775808) (hb : b < 9223372036854775808) : IntKind.i64.wrap ((BitVec.ofInt (kb .i64) (a : Int) &&& BitVec.ofInt (kb .i64) (b : Int)).toNat : Int) = ((a &&& b : Nat) : Int) := by
  have e : (BitVec.ofInt (kb .i64) (a : Int) &&& BitVec.ofInt (kb .i64) (b : Int)).toNat = a &&& b := by
    rw [ofInt_nat, ofInt_nat, show (kb .i64) = 64 from rfl, BitVec.toNat_and, BitVec.toNat_ofNat, BitVec.toNat_ofNat, Nat.mod_eq_of_lt (by omega), Nat.mod_eq_of_lt (by omega)]
  rw [e]
  have : a &&& b ≤ a := Nat.and_le_left
  exact wrap64 (by omega) (by omega)
/-- The low word. -/
theorem and_low {n : Nat} (h : n < 18446744073709551616) : IntKind.u64.wrap ((BitVec.ofInt (kb .u64) (n : Int) &&& BitVec.ofInt (kb .u64) 4294967295).toNat : Int) = ((n % 4294967296 : Nat) : Int) := by
  have := and64 (b := 4294967295) h (by decide)
  rw [show (4294967295 : Int) = ((4294967295 : Nat) : Int) from rfl, this, show 4294967295 = 2 ^ 32 - 1 from rfl, Nat.and_two_pow_sub_one_eq_mod]
theorem shr_nat (n k b : Nat) : (n : Int).fdiv (2 ^ min k b) = ((n / 2 ^ min k b : Nat) : Int) := by
  rw [Int.fdiv_eq_ediv_of_nonneg _ (by exact Int.pow_nonneg (by decide))]
  push_cast
  rfl
/-- Bits that don't meet. -/
theorem or_add {a b k : Nat} (ha : a < 2 ^ k) : a ||| (b * 2 ^ k) = a + b * 2 ^ k := by
  rw [Nat.or_comm, Nat.mul_comm b, ← Nat.two_pow_add_eq_or_of_lt ha]; omega
end Vm

/- The machine over pure values: a walk cut in two. (Own work of this repo.) -/
namespace Vm
open Go
section
variable {E : Env} {Q Q' : Ex → St → Prop} {all os : List Oper} {o : Oper} {dst : Option Nat} {σ : St} {g : FuncId} {ids : List Nat}
theorem Rg_mono (hq : ∀ e σ, Q e σ → Q' e σ) (h : Rg E all os σ Q) : Rg E all os σ Q' := let ⟨e, σ', h1, h2⟩ := h; ⟨e, σ', h1, hq _ _ h2⟩
theorem effK_mono (hq : ∀ e σ, Q e σ → Q' e σ) {x : Option Eff} (h : effK E all os dst Q σ x) : effK E all os dst Q' σ x := by
  unfold effK at h ⊢
  split at h
  · exact Rg_mono hq h
  · exact Rg_mono hq h
  · exact hq _ _ h
  · exact h.elim
theorem callK_mono (hq : ∀ e σ, Q e σ → Q' e σ) {x : Option Res} (h : callK E all os dst Q σ g ids x) : callK E all os dst Q' σ g ids x := by
  unfold callK at h ⊢
  split at h
  · exact Rg_mono hq h
  · exact hq _ _ h
  · exact h.elim
theorem argK_mono (hq : ∀ e σ, Q e σ → Q' e σ) {x : Option (List AV × List Nat)} (h : argK E all os dst Q σ g x) : argK E all os dst Q' σ g x := by
  unfold argK at h ⊢
  split at h
  · exact callK_mono hq h
  · exact h.elim
theorem openK_mono (hq : ∀ e σ, Q e σ → Q' e σ) {x : Option (Res × Heap × Nat)} (h : openK E all os dst Q σ x) : openK E all os dst Q' σ x := by
  unfold openK at h ⊢
  split at h
  · exact Rg_mono hq h
  · exact hq _ _ h
  · exact h.elim
theorem targK_mono (hq : ∀ e σ, Q e σ → Q' e σ) {x : Option (FuncId × List AV)} (h : targK E all os o Q σ x) : targK E all os o Q' σ x := by
  unfold targK at h ⊢
  split at h
  · split at h
    · rename_i hc; rw [if_pos hc]; exact openK_mono hq h
    · rename_i hc; rw [if_neg hc]; exact argK_mono hq h
  · exact effK_mono hq h
theorem wantK_mono (hq : ∀ e σ, Q e σ → Q' e σ) {x : Option Bool} (h : wantK E all os o Q σ x) : wantK E all os o Q' σ x := by
  unfold wantK at h ⊢
  split at h
  · exact targK_mono hq h
  · exact Rg_mono hq h
  · exact h.elim
theorem thenK_mono {b : Code} (hq : ∀ e σ, Q e σ → Q' e σ) : ∀ e σ, thenK E b Q e σ → thenK E b Q' e σ := by
  intro e σ h
  cases e with
  | norm => exact W_mono h hq
  | exit i => exact hq _ _ h
  | ret => exact hq _ _ h
  | panic v => exact hq _ _ h
theorem blockK_mono {i : Nat} (hq : ∀ e σ, Q e σ → Q' e σ) : ∀ e σ, blockK i Q e σ → blockK i Q' e σ := by
  intro e σ h
  cases e with
  | norm => exact hq _ _ h
  | exit j => rw [blockK_exit] at h ⊢; split at h <;> rename_i hj <;> simp only [hj, if_true, if_false] <;> exact hq _ _ h
  | ret => exact hq _ _ h
  | panic v => exact hq _ _ h
theorem condK_mono {a b : Code} (hq : ∀ e σ, Q e σ → Q' e σ) {x : Option AV} (h : condK E a b Q σ x) : condK E a b Q' σ x := by
  unfold condK at h ⊢
  split at h
  · split at h <;> rename_i ht
    · rw [if_pos ht]; exact W_mono h hq
    · rw [if_neg ht]; exact W_mono h hq
  · exact h.elim
variable {next next' : List Rec → St → Prop} {acc : List Rec}
theorem reK_mono (hn : ∀ acc σ, next acc σ → next' acc σ) {x : Option Eff} (h : reK dst next acc σ x) : reK dst next' acc σ x := by
  unfold reK at h ⊢
  split at h
  · exact hn _ _ h
  · exact hn _ _ h
  · exact h.elim
theorem rcK_mono (hn : ∀ acc σ, next acc σ → next' acc σ) {x : Option Res} (h : rcK dst next acc σ ids x) : rcK dst next' acc σ ids x := by
  unfold rcK at h ⊢
  split at h
  · exact hn _ _ h
  · exact h.elim
theorem raK_mono (hn : ∀ acc σ, next acc σ → next' acc σ) {x : Option (List AV × List Nat)} (h : raK E dst next acc σ g x) : raK E dst next' acc σ g x := by
  unfold raK at h ⊢
  split at h
  · exact rcK_mono hn h
  · exact h.elim
theorem rtK_mono (hn : ∀ acc σ, next acc σ → next' acc σ) {x : Option (FuncId × List AV)} (h : rtK E o next acc σ x) : rtK E o next' acc σ x := by
  unfold rtK at h ⊢
  split at h
  · exact raK_mono hn h
  · exact reK_mono hn h
theorem rwK_mono (hn : ∀ acc σ, next acc σ → next' acc σ) {x : Option Bool} (h : rwK E o next acc σ x) : rwK E o next' acc σ x := by
  unfold rwK at h ⊢
  split at h
  · exact rtK_mono hn h
  · exact hn _ _ h
  · exact h.elim
theorem Rc_mono (hq : ∀ σ, Q .norm σ → Q' .norm σ) : ∀ (os : List Oper) (acc : List Rec) (σ : St), Rc E all Q os acc σ → Rc E all Q' os acc σ
  | [], acc, σ, h => ⟨h.1, hq _ h.2⟩
  | o :: os, acc, σ, h => by
    simp only [Rc] at h ⊢
    exact rwK_mono (fun acc σ => Rc_mono hq os acc σ) h
end
end Vm

/- The machine over pure values: how one walks through a function that works over the caller's heap. (Own work of this repo.) -/
namespace Vm
open Go
section
variable {E : Env} {σ : St}
def resO (R : AV → Heap → Nat → Prop) (σ : St) : Option (List AV) → Prop
  | some vs => R (one vs) σ.h σ.nx
  | none => False
def retO (E : Env) (rs : List ResultVar) (R : AV → Heap → Nat → Prop) : Ex → St → Prop
  | .ret, σ => resO R σ (resOf E σ.h σ.sl rs)
  | .norm, σ => resO R σ (resOf E σ.h σ.sl rs)
  | _, _ => False
theorem resO_some {R : AV → Heap → Nat → Prop} {vs : List AV} : resO R σ (some vs) = R (one vs) σ.h σ.nx := rfl
theorem retO_ret {rs : List ResultVar} {R : AV → Heap → Nat → Prop} : retO E rs R .ret σ = resO R σ (resOf E σ.h σ.sl rs) := rfl
theorem retO_norm {rs : List ResultVar} {R : AV → Heap → Nat → Prop} : retO E rs R .norm σ = resO R σ (resOf E σ.h σ.sl rs) := rfl
theorem denO_intro {f : FuncId} {fn : Func} {c : Code} {args : List AV} {h : Heap} {nx : Nat} {R : AV → Heap → Nat → Prop} (hf : E.fn f = some fn) (hb : fn.body = some c)
    (hw : W E c ⟨args ++ List.replicate (fn.ntmps - args.length) undef, h, nx⟩ (retO E fn.results.toList R)) : ∃ v h' nx', denO E f args h nx = some (.ret v, h', nx') ∧ R v h' nx' := by
  obtain ⟨e, σ', hd, hq⟩ := hw
  unfold denO
  simp only [body, hf, hb, hd]
  have key : resO R σ' (resOf E σ'.h σ'.sl fn.results.toList) → ∃ vs, resOf E σ'.h σ'.sl fn.results.toList = some vs ∧ R (one vs) σ'.h σ'.nx := by
    intro hr
    unfold resO at hr
    split at hr
    · rename_i vs h1; exact ⟨vs, h1, hr⟩
    · exact hr.elim
  cases e with
  | ret =>
    obtain ⟨vs, h1, h2⟩ := key hq
    exact ⟨_, _, _, by simp only [h1], h2⟩
  | norm =>
    obtain ⟨vs, h1, h2⟩ := key hq
    exact ⟨_, _, _, by simp only [h1], h2⟩
  | exit i => exact hq.elim
  | panic v => exact hq.elim
theorem denO_eq {f : FuncId} {fn : Func} {c : Code} {args : List AV} {h h' : Heap} {nx nx' : Nat} {v : AV} (hf : E.fn f = some fn) (hb : fn.body = some c)
    (hw : W E c ⟨args ++ List.replicate (fn.ntmps - args.length) undef, h, nx⟩ (retO E fn.results.toList (fun r g n => r = v ∧ g = h' ∧ n = nx'))) : denO E f args h nx = some (.ret v, h', nx') := by
  obtain ⟨r, g, n, h1, rfl, rfl, rfl⟩ := denO_intro hf hb hw
  exact h1
theorem openK_ex {all os : List Oper} {dst : Option Nat} {Q : Ex → St → Prop} {α : Type} {x : Option (Res × Heap × Nat)} {v : AV} {n : Nat} {C : α → Heap → Prop} (h : ∃ o h', x = some (.ret v, h', n) ∧ C o h') (k : ∀ o h', C o h' → Rg E all os ⟨put σ.sl dst v, h', n⟩ Q) : openK E all os dst Q σ x := by
  obtain ⟨o, h', rfl, hc⟩ := h
  exact k o h' hc
theorem upd_same {h : Heap} {i : Nat} {b : Option Blk} : (h.upd i b) i = b := if_pos rfl
theorem upd_ne {h : Heap} {i j : Nat} {b : Option Blk} (e : j ≠ i) : (h.upd i b) j = h j := if_neg e
end
attribute [go_sem] retO_ret retO_norm resO_some
end Vm

/- Walks of the package large: what has to do with form. (Own work of this repo.) -/
namespace Go.Proofs.Ytnpomadbaanpkaa
open Vm
set_option maxRecDepth 10000

theorem clone_nil (h : Heap) (nx : Nat) : denO E 89 [.lst true []] h nx = some (.ret (.lst true []), h, nx) := by
  refine denO_eq E89 rfl ?_
  simp (maxSteps := 4000000) (disch := omega) only [go_sem, seval, ↓reduceIte, reduceCtorEq, ← List.map_take, ← List.map_drop, wrap64, wrapu64, wrapu32, Try.f89, List.map_nil]
theorem clone_empty (h : Heap) (nx : Nat) : denO E 89 [.lst false []] h nx = some (.ret (.ref nx 0 0), h.upd nx (some ⟨[], false, 1, false⟩), nx + 1) := by
  refine denO_eq E89 rfl ?_
  simp (maxSteps := 4000000) (disch := omega) only [go_sem, seval, ↓reduceIte, reduceCtorEq, ← List.map_take, ← List.map_drop, wrap64, wrapu64, wrapu32, Try.f89, reps, fillAll, List.toList_toArray, List.map_nil, appendEff, srcCells, flat]
theorem clone_ne (l : List Nat) (hl0 : 0 < l.length) (hl : l.length < 2 ^ 40) (h : Heap) (nx : Nat) :
    denO E 89 [.lst false (l.map wd)] h nx = some (.ret (.ref (nx + 1) 0 l.length), ((h.upd nx (some ⟨[], false, 1, false⟩)).upd nx none).upd (nx + 1) (some ⟨l.map wd, false, 1, false⟩), nx + 1 + 1) := by
  refine denO_eq E89 rfl ?_
  simp (maxSteps := 4000000) (disch := omega) only [go_sem, seval, ↓reduceIte, reduceCtorEq, ← List.map_take, ← List.map_drop, wrap64, wrapu64, wrapu32, Try.f89, reps, fillAll, List.toList_toArray, appendEff, srcCells]
theorem clone73 (nl : Bool) (l : List Nat) (hn : nl = true → l = []) (hl : l.length < 2 ^ 40) : denP E 107 [.lst nl (l.map wd)] = some (.ret (.lst nl (l.map wd))) := by
  refine denP_eq E107 rfl (by simp [AV.pureL, AV.pure, pure_wd]) ?_
  cases nl with
  | true =>
    obtain rfl := hn rfl
    simp (maxSteps := 4000000) (disch := omega) only [go_sem, seval, ↓reduceIte, reduceCtorEq, ← List.map_take, ← List.map_drop, wrap64, wrapu64, wrapu32, Try.f107, List.map_nil]
  | false =>
    by_cases h0 : l.length = 0
    · obtain rfl := List.length_eq_zero_iff.1 h0
      simp (maxSteps := 4000000) (disch := omega) only [go_sem, seval, ↓reduceIte, reduceCtorEq, ← List.map_take, ← List.map_drop, wrap64, wrapu64, wrapu32, Try.f107, reps, fillAll, List.toList_toArray, List.map_nil, appendEff, srcCells, flat]
      rfl
    · simp (maxSteps := 4000000) (disch := omega) only [go_sem, seval, ↓reduceIte, reduceCtorEq, ← List.map_take, ← List.map_drop, wrap64, wrapu64, wrapu32, Try.f107, reps, fillAll, List.toList_toArray, appendEff, srcCells]
      simp
def validW (neg : Bool) (l : List Nat) : Bool := decide (l.length ≤ 4096) && (decide (0 < l.length) && decide (l.getD (l.length - 1) 0 ≠ 0) || decide (l.length = 0) && !neg)
theorem valid24 (neg nl : Bool) (l : List Nat) (hl : l.length < 2 ^ 60) : denP E 37 [iv neg nl l] = some (.ret (.bool (validW neg l))) := by
  refine denP_eq E37 rfl (by simp [AV.pureL, AV.pure, pure_wd, iv]) ?_
  unfold validW
  by_cases h1 : l.length ≤ 4096
  · by_cases h2 : l.length = 0
    · simp (maxSteps := 4000000) (disch := omega) only [go_sem, seval, ↓reduceIte, reduceCtorEq, ← List.map_take, ← List.map_drop, wrap64, wrapu64, wrapu32, Try.f37, iv]
    · have e : (l.length : Int) - 1 = (l.length - 1 : Nat) := by omega
      by_cases h3 : l.getD (l.length - 1) 0 = 0
      · simp (maxSteps := 4000000) (disch := omega) only [go_sem, seval, ↓reduceIte, reduceCtorEq, ← List.map_take, ← List.map_drop, wrap64, wrapu64, wrapu32, Try.f37, iv, e, ne_eq]
      · simp (maxSteps := 4000000) (disch := omega) only [go_sem, seval, ↓reduceIte, reduceCtorEq, ← List.map_take, ← List.map_drop, wrap64, wrapu64, wrapu32, Try.f37, iv, e, ne_eq]
  · simp (maxSteps := 4000000) (disch := omega) only [go_sem, seval, ↓reduceIte, reduceCtorEq, ← List.map_take, ← List.map_drop, wrap64, wrapu64, wrapu32, Try.f37, iv]
theorem valid54 (na nl : Bool) (a : List Nat) (nb ml : Bool) (b : List Nat) (ha : a.length < 2 ^ 60) (hb : b.length < 2 ^ 60) : denP E 71 [.lst false [iv na nl a, iv nb ml b]] = some (.ret (.bool (validW na a && validW nb b))) := by
  refine denP_eq E71 rfl (by simp [AV.pureL, AV.pure, pure_wd, iv]) ?_
  simp (maxSteps := 4000000) (disch := omega) only [go_sem, seval, ↓reduceIte, reduceCtorEq, ← List.map_take, ← List.map_drop, wrap64, wrapu64, wrapu32, Try.f71]
  rw [W_unroll]
  cases hva : validW na a with
  | false => simp (maxSteps := 4000000) (disch := omega) only [go_sem, seval, ↓reduceIte, reduceCtorEq, ← List.map_take, ← List.map_drop, wrap64, wrapu64, wrapu32, valid24, hva]
  | true =>
    simp (maxSteps := 4000000) (disch := omega) only [go_sem, seval, ↓reduceIte, reduceCtorEq, ← List.map_take, ← List.map_drop, wrap64, wrapu64, wrapu32, valid24, hva]
    rw [W_unroll]
    cases hvb : validW nb b with
    | false => simp (maxSteps := 4000000) (disch := omega) only [go_sem, seval, ↓reduceIte, reduceCtorEq, ← List.map_take, ← List.map_drop, wrap64, wrapu64, wrapu32, valid24, hvb]
    | true =>
      simp (maxSteps := 4000000) (disch := omega) only [go_sem, seval, ↓reduceIte, reduceCtorEq, ← List.map_take, ← List.map_drop, wrap64, wrapu64, wrapu32, valid24, hvb]
      rw [W_unroll]
      simp (maxSteps := 4000000) (disch := omega) only [go_sem, seval, ↓reduceIte, reduceCtorEq, ← List.map_take, ← List.map_drop, wrap64, wrapu64, wrapu32]
theorem made55 (neg nl : Bool) (a : List Nat) (hn : nl = true → a = []) (ha : a.length < 2 ^ 40) : denP E 70 [.bool neg, .lst nl (a.map wd)] = some (.ret (if tz a a.length > 4096 then .tup [iv false true [], .int .i64 4] else .tup [iv (neg && decide (0 < tz a a.length)) nl (a.take (tz a a.length)), .int .i64 0])) := by
  have hlen : (a.take (tz a a.length)).length = tz a a.length := by rw [List.length_take]; have := tz_le a a.length; omega
  have hn' : nl = true → a.take (tz a a.length) = [] := fun h => by rw [hn h]; rfl
  refine denP_eq E70 rfl (by simp [AV.pureL, AV.pure, pure_wd, iv]) ?_
  by_cases h1 : tz a a.length > 4096
  · simp (maxSteps := 4000000) (disch := omega) only [go_sem, seval, ↓reduceIte, reduceCtorEq, ← List.map_take, ← List.map_drop, wrap64, wrapu64, wrapu32, Try.f70, trim_walk, hlen, places, fillAll, List.map_nil]
  · cases nl with
    | true =>
      have h0 : a = [] := hn rfl
      subst h0
      have ht := trim_walk true [] (by simp)
      simp only [List.map_nil, List.take_nil] at ht
      cases neg with
      | false => simp (maxSteps := 4000000) (disch := omega) only [go_sem, seval, ↓reduceIte, reduceCtorEq, ← List.map_take, ← List.map_drop, wrap64, wrapu64, wrapu32, Try.f70, ht, places, fillAll, clone_nil, tz]
      | true => simp (maxSteps := 4000000) (disch := omega) only [go_sem, seval, ↓reduceIte, reduceCtorEq, ← List.map_take, ← List.map_drop, wrap64, wrapu64, wrapu32, Try.f70, ht, places, fillAll, clone_nil, tz]
    | false =>
      by_cases h2 : 0 < tz a a.length
      · have c := clone_ne (a.take (tz a a.length)) (by omega) (by omega)
        rw [hlen] at c
        have ht : (a.take (tz a a.length)).take (tz a a.length) = a.take (tz a a.length) := by rw [List.take_take, Nat.min_self]
        cases neg with
        | false => simp (maxSteps := 4000000) (disch := omega) only [go_sem, seval, ↓reduceIte, reduceCtorEq, ← List.map_take, ← List.map_drop, wrap64, wrapu64, wrapu32, Try.f70, trim_walk, hlen, places, fillAll, c, ht]
        | true => simp (maxSteps := 4000000) (disch := omega) only [go_sem, seval, ↓reduceIte, reduceCtorEq, ← List.map_take, ← List.map_drop, wrap64, wrapu64, wrapu32, Try.f70, trim_walk, hlen, places, fillAll, c, ht]
      · have h3 : tz a a.length = 0 := by omega
        have h4 : a.take (tz a a.length) = [] := by rw [h3]; rfl
        rw [h3] at hlen h4 ⊢
        have ht := trim_walk false a (by omega)
        rw [h3, h4, List.map_nil] at ht
        rw [h4]
        cases neg with
        | false => simp (maxSteps := 4000000) (disch := omega) only [go_sem, seval, ↓reduceIte, reduceCtorEq, ← List.map_take, ← List.map_drop, wrap64, wrapu64, wrapu32, Try.f70, ht, List.map_nil, places, fillAll, clone_empty, refP_zero]
        | true => simp (maxSteps := 4000000) (disch := omega) only [go_sem, seval, ↓reduceIte, reduceCtorEq, ← List.map_take, ← List.map_drop, wrap64, wrapu64, wrapu32, Try.f70, ht, List.map_nil, places, fillAll, clone_empty, refP_zero]
/-- made, in terms of the number. -/
theorem made_spec (neg nl : Bool) (a : List Nat) (ha : InR a) (hn : nl = true → a = []) (la : a.length < 2 ^ 40) :
    denP E 70 [.bool neg, .lst nl (a.map wd)] = some (.ret (RI nl (sg neg (val a)))) := by
  have ht := take_tz ha
  have hlen : tz a a.length = (dig (val a)).length := by rw [← ht, List.length_take]; have := tz_le a a.length; omega
  rw [made55 neg nl a hn la, hlen, ← hlen, ht, hlen]
  by_cases h : (dig (val a)).length ≤ 4096
  · rw [if_neg (by omega), RI, fm_of (by rw [dg_sg]; exact h), fit_of (by rw [dg_sg]; exact h), er_of (by rw [dg_sg]; exact h), I, dg_sg, ng_sg]
    congr 7
    by_cases h0 : val a = 0
    · rw [h0, dig_zero]; simp
    · have : 0 < (dig (val a)).length := by
        rcases Nat.eq_zero_or_pos (dig (val a)).length with h2 | h2
        · exact absurd (dig_nil.1 (List.length_eq_zero_iff.1 h2)) h0
        · exact h2
      simp [this, h0]
  · rw [if_pos (by omega), RI, fm_no (by rw [dg_sg]; exact h), fit_no (by rw [dg_sg]; exact h), er_no (by rw [dg_sg]; exact h), I, dg_zero, ng_zero]
theorem made_dig (neg nl : Bool) (n : Nat) (hn : nl = true → n = 0) (la : (dig n).length < 2 ^ 40) :
    denP E 70 [.bool neg, .lst nl ((dig n).map wd)] = some (.ret (RI nl (sg neg n))) := by
  rw [made_spec neg nl (dig n) (dig_inR n) (fun h => by rw [hn h, dig_zero]) la, val_dig]
theorem validW_I (z : Int) : validW (ng z) (dg z) = decide ((dg z).length ≤ 4096) := by
  unfold validW
  rcases (dg_norm z).2 with h | h
  · rw [h]
    have : z = 0 := dg_nil.1 h
    subst this
    simp [ng]
  · have : 0 < (dg z).length := by
      rcases Nat.eq_zero_or_pos (dg z).length with h2 | h2
      · rw [List.length_eq_zero_iff.1 h2] at h; simp at h
      · exact h2
    have h3 : decide ((dg z).getD ((dg z).length - 1) 0 ≠ 0) = true := decide_eq_true h
    have h4 : decide (0 < (dg z).length) = true := decide_eq_true this
    rw [h3, h4]
    simp
theorem valid_I (m : Bool) (z : Int) (h : (dg z).length ≤ 4096) : denP E 37 [I m z] = some (.ret (.bool true)) := by
  have := valid24 (ng z) m (dg z) (by omega)
  rw [validW_I, decide_eq_true h] at this
  exact this
theorem valid2_I (m : Bool) (x : Int) (m' : Bool) (y : Int) (hx : (dg x).length ≤ 4096) (hy : (dg y).length ≤ 4096) : denP E 71 [.lst false [I m x, I m' y]] = some (.ret (.bool true)) := by
  have := valid54 (ng x) m (dg x) (ng y) m' (dg y) (by omega) (by omega)
  rw [validW_I, validW_I, decide_eq_true hx, decide_eq_true hy] at this
  exact this
end Go.Proofs.Ytnpomadbaanpkaa

/- Walks of the package large: the words' sums. (Own work of this repo.) -/
namespace Go.Proofs.Ytnpomadbaanpkaa
open Vm
set_option maxRecDepth 10000

theorem plus_spec (ma : Bool) (a : List Nat) (mb : Bool) (b : List Nat) (ha : InR a) (hb : InR b) (la : a.length < 2 ^ 40) (lb : b.length < 2 ^ 40) :
    denP E 67 [.lst ma (a.map wd), .lst mb (b.map wd)] = some (.ret (.lst false ((dig (val a + val b)).map wd))) := by
  refine denP_eq E67 rfl (by simp [AV.pureL, AV.pure, pure_wd]) ?_
  by_cases h : a.length < b.length
  · simp (maxSteps := 4000000) (disch := omega) only [go_sem, seval, ↓reduceIte, reduceCtorEq, ← List.map_take, ← List.map_drop, wrap64, wrapu64, wrapu32, ← Int.natCast_add, ← Int.natCast_mul, cast_succ, wrapu32_nat, shr32, reps_wd, map_set_wd, List.length_set, zs_len, Try.f67, Int.toNat_natCast]
    refine W_loopS (fun k sl H nx => ∃ (i c : Nat) (o : List Nat), (∃ g : Nat → AV, sl = [.lst mb (b.map wd), .lst ma (a.map wd), g 2, g 3, g 4, .ref 0 0 (b.length + 1), .int .u64 c, g 7, g 8, g 9, g 10, g 11, g 12, g 13, g 14, g 15, g 16, g 17, g 18, g 19, .lst mb (b.map wd), .int .i64 b.length, .int .i64 i, g 23, g 24, g 25, g 26, g 27, g 28, g 29, g 30, g 31, g 32, g 33, g 34, g 35, g 36, g 37, g 38, g 39, g 40, g 41, g 42, g 43, g 44, g 45, g 46, g 47, g 48, g 49, g 50, g 51, g 52, g 53, g 54, g 55, g 56, g 57]) ∧ nx = 1 ∧
      H 0 = some ⟨o.map wd, false, 1, false⟩ ∧ o.length = b.length + 1 ∧ InR o ∧ c ≤ 1 ∧ i + k = b.length ∧ vp o i + c * BB ^ i = vp b i + vp a i) b.length ⟨0, 0, _, garb rfl, rfl, rfl, zs_len _, zs_inR _, by omega, by omega, by simp [vp]⟩ ?_
    rintro k _ H _ ⟨i, c, o, ⟨g, rfl⟩, rfl, hH, ho, hr, hc, hi, hv⟩
    have hx := hb.get i
    have hy := ha.get i
    by_cases hk : k = 0
    · obtain rfl : i = b.length := by omega
      have hl : (o.set b.length c).length = b.length + 1 := by rw [List.length_set, ho]
      have hy2 := vp_ge a b.length (by omega)
      have hval : val (o.set b.length c) = val a + val b := by rw [val_set_last ho, hv, hy2]; exact Nat.add_comm (val b) (val a)
      have ht := trim_spec false (o.set b.length c) (hr.set (Nat.lt_of_le_of_lt hc (by decide))) (by omega)
      rw [hval] at ht
      simp (maxSteps := 4000000) (disch := omega) only [go_sem, seval, ↓reduceIte, reduceCtorEq, ← List.map_take, ← List.map_drop, wrap64, wrapu64, wrapu32, ← Int.natCast_add, ← Int.natCast_mul, cast_succ, wrapu32_nat, shr32, reps_wd, map_set_wd, List.length_set, zs_len, hH, ho, List.take_of_length_le, ht]
    · by_cases hiy : i < a.length
      · simp (maxSteps := 4000000) (disch := omega) only [go_sem, seval, ↓reduceIte, reduceCtorEq, ← List.map_take, ← List.map_drop, wrap64, wrapu64, wrapu32, ← Int.natCast_add, ← Int.natCast_mul, cast_succ, wrapu32_nat, shr32, reps_wd, map_set_wd, List.length_set, zs_len, hH, ho]
        refine ⟨k - 1, by omega, i + 1, (c + b.getD i 0 + a.getD i 0) / 4294967296, o.set i ((c + b.getD i 0 + a.getD i 0) % 4294967296), garb rfl, rfl, by rw [List.length_set, ho], hr.set (Nat.mod_lt _ (by decide)), by omega, by omega, plus_step (by omega) hv rfl⟩
      · simp (maxSteps := 4000000) (disch := omega) only [go_sem, seval, ↓reduceIte, reduceCtorEq, ← List.map_take, ← List.map_drop, wrap64, wrapu64, wrapu32, ← Int.natCast_add, ← Int.natCast_mul, cast_succ, wrapu32_nat, shr32, reps_wd, map_set_wd, List.length_set, zs_len, hH, ho]
        have h0 := getD_ge (l := a) (i := i) (by omega)
        refine ⟨k - 1, by omega, i + 1, (c + b.getD i 0) / 4294967296, o.set i ((c + b.getD i 0) % 4294967296), garb rfl, rfl, by rw [List.length_set, ho], hr.set (Nat.mod_lt _ (by decide)), by omega, by omega, plus_step (by omega) hv (by rw [h0]; rfl)⟩
  · simp (maxSteps := 4000000) (disch := omega) only [go_sem, seval, ↓reduceIte, reduceCtorEq, ← List.map_take, ← List.map_drop, wrap64, wrapu64, wrapu32, ← Int.natCast_add, ← Int.natCast_mul, cast_succ, wrapu32_nat, shr32, reps_wd, map_set_wd, List.length_set, zs_len, Try.f67, Int.toNat_natCast]
    refine W_loopS (fun k sl H nx => ∃ (i c : Nat) (o : List Nat), (∃ g : Nat → AV, sl = [.lst ma (a.map wd), .lst mb (b.map wd), g 2, g 3, g 4, .ref 0 0 (a.length + 1), .int .u64 c, g 7, g 8, g 9, g 10, g 11, g 12, g 13, g 14, g 15, g 16, g 17, g 18, g 19, .lst ma (a.map wd), .int .i64 a.length, .int .i64 i, g 23, g 24, g 25, g 26, g 27, g 28, g 29, g 30, g 31, g 32, g 33, g 34, g 35, g 36, g 37, g 38, g 39, g 40, g 41, g 42, g 43, g 44, g 45, g 46, g 47, g 48, g 49, g 50, g 51, g 52, g 53, g 54, g 55, g 56, g 57]) ∧ nx = 1 ∧
      H 0 = some ⟨o.map wd, false, 1, false⟩ ∧ o.length = a.length + 1 ∧ InR o ∧ c ≤ 1 ∧ i + k = a.length ∧ vp o i + c * BB ^ i = vp a i + vp b i) a.length ⟨0, 0, _, garb rfl, rfl, rfl, zs_len _, zs_inR _, by omega, by omega, by simp [vp]⟩ ?_
    rintro k _ H _ ⟨i, c, o, ⟨g, rfl⟩, rfl, hH, ho, hr, hc, hi, hv⟩
    have hx := ha.get i
    have hy := hb.get i
    by_cases hk : k = 0
    · obtain rfl : i = a.length := by omega
      have hl : (o.set a.length c).length = a.length + 1 := by rw [List.length_set, ho]
      have hy2 := vp_ge b a.length (by omega)
      have hval : val (o.set a.length c) = val a + val b := by rw [val_set_last ho, hv, hy2]; exact rfl
      have ht := trim_spec false (o.set a.length c) (hr.set (Nat.lt_of_le_of_lt hc (by decide))) (by omega)
      rw [hval] at ht
      simp (maxSteps := 4000000) (disch := omega) only [go_sem, seval, ↓reduceIte, reduceCtorEq, ← List.map_take, ← List.map_drop, wrap64, wrapu64, wrapu32, ← Int.natCast_add, ← Int.natCast_mul, cast_succ, wrapu32_nat, shr32, reps_wd, map_set_wd, List.length_set, zs_len, hH, ho, List.take_of_length_le, ht]
    · by_cases hiy : i < b.length
      · simp (maxSteps := 4000000) (disch := omega) only [go_sem, seval, ↓reduceIte, reduceCtorEq, ← List.map_take, ← List.map_drop, wrap64, wrapu64, wrapu32, ← Int.natCast_add, ← Int.natCast_mul, cast_succ, wrapu32_nat, shr32, reps_wd, map_set_wd, List.length_set, zs_len, hH, ho]
        refine ⟨k - 1, by omega, i + 1, (c + a.getD i 0 + b.getD i 0) / 4294967296, o.set i ((c + a.getD i 0 + b.getD i 0) % 4294967296), garb rfl, rfl, by rw [List.length_set, ho], hr.set (Nat.mod_lt _ (by decide)), by omega, by omega, plus_step (by omega) hv rfl⟩
      · simp (maxSteps := 4000000) (disch := omega) only [go_sem, seval, ↓reduceIte, reduceCtorEq, ← List.map_take, ← List.map_drop, wrap64, wrapu64, wrapu32, ← Int.natCast_add, ← Int.natCast_mul, cast_succ, wrapu32_nat, shr32, reps_wd, map_set_wd, List.length_set, zs_len, hH, ho]
        have h0 := getD_ge (l := b) (i := i) (by omega)
        refine ⟨k - 1, by omega, i + 1, (c + a.getD i 0) / 4294967296, o.set i ((c + a.getD i 0) % 4294967296), garb rfl, rfl, by rw [List.length_set, ho], hr.set (Nat.mod_lt _ (by decide)), by omega, by omega, plus_step (by omega) hv (by rw [h0]; rfl)⟩
end Go.Proofs.Ytnpomadbaanpkaa

/- Walks of the package large: how two numbers stand. (Own work of this repo.) -/
namespace Go.Proofs.Ytnpomadbaanpkaa
open Vm
set_option maxRecDepth 10000

theorem compare_spec (ma : Bool) (a : List Nat) (mb : Bool) (b : List Nat) (ha : Norm a) (hb : Norm b) (la : a.length < 2 ^ 40) (lb : b.length < 2 ^ 40) :
    denP E 100 [.lst ma (a.map wd), .lst mb (b.map wd)] = some (.ret (.int .i64 (cmpN (val a) (val b)))) := by
  refine denP_eq E100 rfl (by simp [AV.pureL, AV.pure, pure_wd]) ?_
  by_cases h : a.length = b.length
  · simp (maxSteps := 4000000) (disch := omega) only [go_sem, seval, ↓reduceIte, reduceCtorEq, ← List.map_take, ← List.map_drop, wrap64, wrapu64, wrapu32, ← Int.natCast_add, ← Int.natCast_mul, cast_succ, wrapu32_nat, shr32, reps_wd, map_set_wd, List.length_set, zs_len, Try.f100]
    refine W_loopS (fun k sl h nx => (∃ g : Nat → AV, sl = [.lst ma (a.map wd), .lst mb (b.map wd), g 2, g 3, .int .i64 0, .int .i64 ((k : Int) - 1), g 6, g 7, g 8, g 9, g 10, g 11, g 12, g 13, g 14, g 15, g 16, g 17, g 18, g 19, g 20, g 21, g 22, g 23, g 24, g 25, g 26, g 27, g 28, g 29, g 30, g 31, g 32, g 33, g 34, g 35, g 36, g 37, g 38, g 39, g 40, g 41, g 42]) ∧ h = Heap.empty ∧ nx = 0 ∧
      k ≤ a.length ∧ ∀ j, k ≤ j → j < a.length → a.getD j 0 = b.getD j 0) a.length ⟨garb rfl, rfl, rfl, Nat.le_refl _, by omega⟩ ?_
    rintro k _ _ _ ⟨⟨g, rfl⟩, rfl, rfl, hk, hall⟩
    by_cases hk0 : k = 0
    · subst hk0
      have hv : val a = val b := by
        rw [val, val, ← h]; exact vp_congr _ (fun i hi => hall i (by omega) hi)
      have hc : cmpN (val a) (val b) = 0 := by unfold cmpN; rw [if_neg (by omega), if_neg (by omega)]
      simp (maxSteps := 4000000) (disch := omega) only [go_sem, seval, ↓reduceIte, reduceCtorEq, ← List.map_take, ← List.map_drop, wrap64, wrapu64, wrapu32, ← Int.natCast_add, ← Int.natCast_mul, cast_succ, wrapu32_nat, shr32, reps_wd, map_set_wd, List.length_set, zs_len, hc]
    · have e : (k : Int) - 1 = ((k - 1 : Nat) : Int) := by omega
      simp (maxSteps := 4000000) (disch := omega) only [go_sem, seval, ↓reduceIte, reduceCtorEq, ← List.map_take, ← List.map_drop, wrap64, wrapu64, wrapu32, ← Int.natCast_add, ← Int.natCast_mul, cast_succ, wrapu32_nat, shr32, reps_wd, map_set_wd, List.length_set, zs_len, e]
      refine W_drawn ?_
      by_cases h1 : a.getD (k - 1) 0 < b.getD (k - 1) 0
      · have hv : val a < val b := by
          rw [val, val, ← h]; exact vp_less ha.1 (by omega) (fun j h1 h2 => hall j (by omega) h2) h1
        have hc : cmpN (val a) (val b) = -1 := by unfold cmpN; rw [if_pos hv]
        simp (maxSteps := 4000000) (disch := omega) only [go_sem, seval, ↓reduceIte, reduceCtorEq, ← List.map_take, ← List.map_drop, wrap64, wrapu64, wrapu32, ← Int.natCast_add, ← Int.natCast_mul, cast_succ, wrapu32_nat, shr32, reps_wd, map_set_wd, List.length_set, zs_len, hc]
        rfl
      · simp (maxSteps := 4000000) (disch := omega) only [go_sem, seval, ↓reduceIte, reduceCtorEq, ← List.map_take, ← List.map_drop, wrap64, wrapu64, wrapu32, ← Int.natCast_add, ← Int.natCast_mul, cast_succ, wrapu32_nat, shr32, reps_wd, map_set_wd, List.length_set, zs_len]
        refine ⟨by rfl, ?_⟩
        refine W_drawn ?_
        by_cases h2 : b.getD (k - 1) 0 < a.getD (k - 1) 0
        · have hv : val b < val a := by
            rw [val, val, ← h]; exact vp_less hb.1 (by omega) (fun j h1 h2 => (hall j (by omega) h2).symm) h2
          have hc : cmpN (val a) (val b) = 1 := by unfold cmpN; rw [if_neg (by omega), if_pos hv]
          simp (maxSteps := 4000000) (disch := omega) only [go_sem, seval, ↓reduceIte, reduceCtorEq, ← List.map_take, ← List.map_drop, wrap64, wrapu64, wrapu32, ← Int.natCast_add, ← Int.natCast_mul, cast_succ, wrapu32_nat, shr32, reps_wd, map_set_wd, List.length_set, zs_len, hc]
          rfl
        · simp (maxSteps := 4000000) (disch := omega) only [go_sem, seval, ↓reduceIte, reduceCtorEq, ← List.map_take, ← List.map_drop, wrap64, wrapu64, wrapu32, ← Int.natCast_add, ← Int.natCast_mul, cast_succ, wrapu32_nat, shr32, reps_wd, map_set_wd, List.length_set, zs_len]
          refine ⟨by rfl, ?_⟩
          exact ⟨k - 1, by omega, garb rfl, by omega, fun j h3 h4 => by
            by_cases hj : j = k - 1
            · subst hj; omega
            · exact hall j (by omega) h4⟩
  · by_cases hl : a.length < b.length
    · have hv := val_less_len ha.1 hb hl
      have hc : cmpN (val a) (val b) = -1 := by unfold cmpN; rw [if_pos hv]
      simp (maxSteps := 4000000) (disch := omega) only [go_sem, seval, ↓reduceIte, reduceCtorEq, ← List.map_take, ← List.map_drop, wrap64, wrapu64, wrapu32, ← Int.natCast_add, ← Int.natCast_mul, cast_succ, wrapu32_nat, shr32, reps_wd, map_set_wd, List.length_set, zs_len, Try.f100, hc]
    · have hv := val_less_len hb.1 ha (by omega)
      have hc : cmpN (val a) (val b) = 1 := by unfold cmpN; rw [if_neg (by omega), if_pos hv]
      simp (maxSteps := 4000000) (disch := omega) only [go_sem, seval, ↓reduceIte, reduceCtorEq, ← List.map_take, ← List.map_drop, wrap64, wrapu64, wrapu32, ← Int.natCast_add, ← Int.natCast_mul, cast_succ, wrapu32_nat, shr32, reps_wd, map_set_wd, List.length_set, zs_len, Try.f100, hc]
end Go.Proofs.Ytnpomadbaanpkaa

/- Walks of the package large: the words' product. (Own work of this repo.) -/
namespace Go.Proofs.Ytnpomadbaanpkaa
open Vm
set_option maxRecDepth 10000

theorem times_spec (ma : Bool) (a : List Nat) (mb : Bool) (b : List Nat) (ha : InR a) (hb : InR b) (la : a.length < 2 ^ 40) (lb : b.length < 2 ^ 40) :
    denP E 68 [.lst ma (a.map wd), .lst mb (b.map wd)] = some (.ret (.lst (decide (a.length = 0 ∨ b.length = 0)) ((dig (val a * val b)).map wd))) := by
  by_cases ha0 : a.length = 0
  · obtain rfl := List.length_eq_zero_iff.1 ha0
    rw [show decide (([] : List Nat).length = 0 ∨ b.length = 0) = true by simp]
    rw [val_nil, Nat.zero_mul, dig_zero]
    refine denP_eq E68 rfl (by simp [AV.pureL, AV.pure, pure_wd]) ?_
    simp (maxSteps := 4000000) (disch := omega) only [go_sem, seval, ↓reduceIte, reduceCtorEq, ← List.map_take, ← List.map_drop, wrap64, wrapu64, wrapu32, ← Int.natCast_add, ← Int.natCast_mul, cast_succ, wrapu32_nat, shr32, reps_wd, map_set_wd, List.length_set, zs_len, Try.f68]
  by_cases hb0 : b.length = 0
  · obtain rfl := List.length_eq_zero_iff.1 hb0
    rw [show decide (a.length = 0 ∨ ([] : List Nat).length = 0) = true by simp]
    rw [val_nil, Nat.mul_zero, dig_zero]
    refine denP_eq E68 rfl (by simp [AV.pureL, AV.pure, pure_wd]) ?_
    simp (maxSteps := 4000000) (disch := omega) only [go_sem, seval, ↓reduceIte, reduceCtorEq, ← List.map_take, ← List.map_drop, wrap64, wrapu64, wrapu32, ← Int.natCast_add, ← Int.natCast_mul, cast_succ, wrapu32_nat, shr32, reps_wd, map_set_wd, List.length_set, zs_len, Try.f68]
  rw [show decide (a.length = 0 ∨ b.length = 0) = false by simp [ha0, hb0]]
  refine denP_eq E68 rfl (by simp [AV.pureL, AV.pure, pure_wd]) ?_
  simp (maxSteps := 4000000) (disch := omega) only [go_sem, seval, ↓reduceIte, reduceCtorEq, ← List.map_take, ← List.map_drop, wrap64, wrapu64, wrapu32, ← Int.natCast_add, ← Int.natCast_mul, cast_succ, wrapu32_nat, shr32, reps_wd, map_set_wd, List.length_set, zs_len, Try.f68, Int.toNat_natCast]
  refine W_loopS (fun k sl H nx => ∃ (i : Nat) (o : List Nat), (∃ g : Nat → AV, sl = [.lst ma (a.map wd), .lst mb (b.map wd), g 2, g 3, g 4, .ref 0 0 (a.length + b.length), g 6, g 7, g 8, g 9, g 10, g 11, g 12, g 13, g 14, g 15, g 16, g 17, g 18, g 19, g 20, g 21, g 22, g 23, g 24, .lst ma (a.map wd), .int .i64 a.length, .int .i64 i, g 28, g 29, g 30, g 31, g 32, g 33, g 34, g 35, g 36, g 37, g 38, g 39, g 40, g 41, g 42, g 43, g 44, g 45, g 46, g 47, g 48, g 49, g 50, g 51, g 52, g 53, g 54, g 55, g 56, g 57, g 58, g 59, g 60, g 61, g 62, g 63, g 64, g 65, g 66, g 67, g 68, g 69, g 70, g 71, g 72, g 73, g 74]) ∧ nx = 1 ∧
    H 0 = some ⟨o.map wd, false, 1, false⟩ ∧ o.length = a.length + b.length ∧ InR o ∧ i + k = a.length ∧ Hd (vp o (i + b.length) = vp a i * val b) ∧ ∀ t, i + b.length ≤ t → o.getD t 0 = 0) a.length
    ⟨0, _, garb rfl, rfl, rfl, zs_len _, zs_inR _, by omega, ⟨by simp [vp, zs_vp]⟩, fun t _ => zs_get _ t⟩ ?_
  rintro k _ H _ ⟨i, o, ⟨g, rfl⟩, rfl, hH, ho, hr, hi, ⟨hv⟩, hz⟩
  replace hv := Hd.mk hv
  by_cases hk : k = 0
  · obtain rfl : i = a.length := by omega
    have hval : val o = val a * val b := by rw [val, ho]; exact hv.out
    have ht := trim_spec false o hr (by omega)
    rw [hval] at ht
    simp (maxSteps := 4000000) (disch := omega) only [go_sem, seval, ↓reduceIte, reduceCtorEq, ← List.map_take, ← List.map_drop, wrap64, wrapu64, wrapu32, ← Int.natCast_add, ← Int.natCast_mul, cast_succ, wrapu32_nat, shr32, reps_wd, map_set_wd, List.length_set, zs_len, hH, ho, List.take_of_length_le, ht]
  · have hx := ha.get i
    simp (maxSteps := 4000000) (disch := omega) only [go_sem, seval, ↓reduceIte, reduceCtorEq, ← List.map_take, ← List.map_drop, wrap64, wrapu64, wrapu32, ← Int.natCast_add, ← Int.natCast_mul, cast_succ, wrapu32_nat, shr32, reps_wd, map_set_wd, List.length_set, zs_len, hH, ho]
    refine W_loopS (fun k sl H nx => ∃ (j c : Nat) (p : List Nat), (∃ g : Nat → AV, sl = [.lst ma (a.map wd), .lst mb (b.map wd), g 2, g 3, g 4, .ref 0 0 (a.length + b.length), .int .i64 i, .int .u32 (a.getD i 0 : Nat), .int .u64 c, g 9, g 10, g 11, g 12, g 13, g 14, g 15, g 16, g 17, g 18, g 19, g 20, g 21, g 22, g 23, g 24, .lst ma (a.map wd), .int .i64 a.length, .int .i64 i, g 28, g 29, g 30, g 31, .lst mb (b.map wd), .int .i64 b.length, .int .i64 j, g 35, g 36, g 37, g 38, g 39, g 40, g 41, g 42, g 43, g 44, g 45, g 46, g 47, g 48, g 49, g 50, g 51, g 52, g 53, g 54, g 55, g 56, g 57, g 58, g 59, g 60, g 61, g 62, g 63, g 64, g 65, g 66, g 67, g 68, g 69, g 70, g 71, g 72, g 73, g 74]) ∧ nx = 1 ∧
      H 0 = some ⟨p.map wd, false, 1, false⟩ ∧ p.length = a.length + b.length ∧ InR p ∧ c < 4294967296 ∧ j + k = b.length ∧ Hd (vp p (i + j) + c * BB ^ (i + j) = vp o (i + j) + a.getD i 0 * vp b j * BB ^ i) ∧ ∀ t, i + j ≤ t → p.getD t 0 = o.getD t 0) b.length
      ⟨0, 0, _, garb rfl, rfl, hH, ho, hr, by omega, by omega, ⟨by simp [vp]⟩, fun t _ => rfl⟩ ?_
    rintro k' _ H' _ ⟨j, c, p, ⟨g, rfl⟩, rfl, hH', hp, hr', hc, hj, hv', hz'⟩
    by_cases hk' : k' = 0
    · obtain rfl : j = b.length := by omega
      simp (maxSteps := 4000000) (disch := omega) only [go_sem, seval, ↓reduceIte, reduceCtorEq, ← List.map_take, ← List.map_drop, wrap64, wrapu64, wrapu32, ← Int.natCast_add, ← Int.natCast_mul, cast_succ, wrapu32_nat, shr32, reps_wd, map_set_wd, List.length_set, zs_len, hH', hp]
      refine ⟨k - 1, by omega, i + 1, p.set (i + b.length) c, garb rfl, rfl, by rw [List.length_set, hp], hr'.set hc, by omega, ⟨?_⟩, fun t ht => ?_⟩
      · rw [show i + 1 + b.length = i + b.length + 1 by omega, vp, vp_set p _ _ _ (Nat.le_refl _), lget_set_self (by omega), hv'.out, hv.out, vp, Nat.add_mul]
        rw [show vp b b.length = val b from rfl]
        congr 1
        rw [Nat.mul_assoc, Nat.mul_assoc, Nat.mul_comm (val b)]
      · rw [lget_set_ne (by omega), hz' t (by omega), hz t (by omega)]
    · have hy := hb.get j
      have hw := hr.get (i + j)
      have hm := mul_word hx hy
      have e := hz' (i + j) (Nat.le_refl _)
      simp (maxSteps := 4000000) (disch := omega) only [go_sem, seval, ↓reduceIte, reduceCtorEq, ← List.map_take, ← List.map_drop, wrap64, wrapu64, wrapu32, ← Int.natCast_add, ← Int.natCast_mul, cast_succ, wrapu32_nat, shr32, reps_wd, map_set_wd, List.length_set, zs_len, hH', hp, e]
      have hs : (c + (a.getD i 0 * b.getD j 0 + o.getD (i + j) 0)) / 4294967296 < 4294967296 := by omega
      refine ⟨k' - 1, by omega, j + 1, (c + (a.getD i 0 * b.getD j 0 + o.getD (i + j) 0)) / 4294967296, p.set (i + j) ((c + (a.getD i 0 * b.getD j 0 + o.getD (i + j) 0)) % 4294967296), garb rfl, rfl, by rw [List.length_set, hp], hr'.set (Nat.mod_lt _ (by decide)), hs, by omega, ⟨times_step (by omega) hv'.out rfl⟩, fun t ht => ?_⟩
      rw [lget_set_ne (by omega)]
      exact hz' t (by omega)
end Go.Proofs.Ytnpomadbaanpkaa

/- Walks of the package large: the words' difference. (Own work of this repo.) -/
namespace Go.Proofs.Ytnpomadbaanpkaa
open Vm
set_option maxRecDepth 10000

theorem setCells_full : ∀ (vs cs pre : List AV), vs.length = cs.length → setCells (pre ++ cs) pre.length vs = pre ++ vs
  | [], [], pre, _ => rfl
  | v :: vs, c :: cs, pre, h => by
    rw [setCells_cons, List.set_append_right _ _ (Nat.le_refl _), Nat.sub_self, List.set_cons_zero]
    have := setCells_full vs cs (pre ++ [v]) (by simpa using h)
    simpa using this
theorem setCells_wd {l m : List Nat} (h : l.length = m.length) : setCells (l.map wd) 0 (m.map wd) = m.map wd := by
  have := setCells_full (m.map wd) (l.map wd) [] (by simpa using h.symm)
  simpa using this
theorem shr63 (n : Nat) : (n : Int).fdiv (2 ^ min 63 (kb .u64)) = ((n / 9223372036854775808 : Nat) : Int) := by
  rw [show min 63 (kb .u64) = 63 from rfl, Int.fdiv_eq_ediv_of_nonneg _ (by decide)]; rfl
theorem minus_step {o a b : List Nat} {i c w c' : Nat} (ho : i < o.length) (hv : vp a i + c * BB ^ i = vp o i + vp b i) (hs : a.getD i 0 + c' * 4294967296 = w + b.getD i 0 + c) :
    vp a (i + 1) + c' * BB ^ (i + 1) = vp (o.set i w) (i + 1) + vp b (i + 1) := by
  rw [vp, vp, vp, vp_set o i _ i (Nat.le_refl _), lget_set_self ho, Nat.pow_succ]
  have h3 : (a.getD i 0 + c' * 4294967296) * BB ^ i = (w + b.getD i 0 + c) * BB ^ i := by rw [hs]
  rw [Nat.add_mul, Nat.add_mul, Nat.add_mul] at h3
  have h4 : c' * (BB ^ i * BB) = c' * 4294967296 * BB ^ i := by rw [Nat.mul_comm (BB ^ i) BB, ← Nat.mul_assoc]
  rw [h4]
  omega
theorem minus_spec (ma : Bool) (a : List Nat) (mb : Bool) (b : List Nat) (ha : InR a) (hb : InR b) (la : a.length < 2 ^ 40) (lb : b.length ≤ a.length) (hle : val b ≤ val a) :
    denP E 97 [.lst ma (a.map wd), .lst mb (b.map wd)] = some (.ret (.lst false ((dig (val a - val b)).map wd))) := by
  refine denP_eq E97 rfl (by simp [AV.pureL, AV.pure, pure_wd]) ?_
  have hs0 := setCells_wd (l := zs a.length) (m := a) (zs_len _)
  simp (maxSteps := 4000000) (disch := omega) only [go_sem, seval, ↓reduceIte, reduceCtorEq, ← List.map_take, ← List.map_drop, wrap64, wrapu64, wrapu32, ← Int.natCast_add, ← Int.natCast_mul, cast_succ, wrapu32_nat, shr32, reps_wd, map_set_wd, List.length_set, zs_len, Try.f97, Int.toNat_natCast, copyEff, srcCells, Nat.min_self, List.take_of_length_le, hs0]
  refine W_loopI (fun k σ => ∃ (H : Heap) (i c : Nat) (o : List Nat) (g2 g3 g4 g7 g8 g9 g10 g11 g12 g13 g14 g18 g19 g20 g21 g22 g23 g24 g25 g26 g27 g28 g29 g30 g31 g32 g33 g34 g35 g36 g37 g38 g39 g40 g41 g42 g43 g44 g45 g46 g47 : AV), σ = ⟨[.lst ma (a.map wd), .lst mb (b.map wd), g2, g3, g4, .ref 0 0 a.length, .int .u64 c, g7, g8, g9, g10, g11, g12, g13, g14, .ref 0 0 a.length, .int .i64 a.length, .int .i64 i, g18, g19, g20, g21, g22, g23, g24, g25, g26, g27, g28, g29, g30, g31, g32, g33, g34, g35, g36, g37, g38, g39, g40, g41, g42, g43, g44, g45, g46, g47], H, 1⟩ ∧
      H 0 = some ⟨o.map wd, false, 1, false⟩ ∧ o.length = a.length ∧ InR o ∧ c ≤ 1 ∧ i + k = a.length ∧ Hd (vp a i + c * BB ^ i = vp o i + vp b i) ∧ ∀ t, i ≤ t → o.getD t 0 = a.getD t 0) a.length
    ⟨_, 0, 0, a, _, _, _, _, _, _, _, _, _, _, _, _, _, _, _, _, _, _, _, _, _, _, _, _, _, _, _, _, _, _, _, _, _, _, _, _, _, _, _, _, _, rfl, rfl, rfl, ha, by omega, by omega, ⟨by simp [vp]⟩, fun _ _ => rfl⟩ ?_
  rintro k σ ⟨H, i, c, o, g2, g3, g4, g7, g8, g9, g10, g11, g12, g13, g14, g18, g19, g20, g21, g22, g23, g24, g25, g26, g27, g28, g29, g30, g31, g32, g33, g34, g35, g36, g37, g38, g39, g40, g41, g42, g43, g44, g45, g46, g47, rfl, hH, ho, hr, hc, hi, hv, hz⟩
  by_cases hk : k = 0
  · obtain rfl : i = a.length := by omega
    have h1 := hv.out
    rw [vp_ge b _ lb, show vp a a.length = val a from rfl, ← ho, show vp o o.length = val o from rfl, ho] at h1
    have h2 := val_lt hr
    rw [ho] at h2
    have h3 : c = 0 := by
      rcases Nat.lt_or_ge 0 c with h | h
      · have : c = 1 := by omega
        subst this; omega
      · omega
    subst h3
    have hval : val o = val a - val b := by omega
    have ht := trim_spec false o hr (by omega)
    rw [hval] at ht
    clear hv h1 h2 hval
    simp (maxSteps := 4000000) (disch := omega) only [go_sem, seval, ↓reduceIte, reduceCtorEq, ← List.map_take, ← List.map_drop, wrap64, wrapu64, wrapu32, ← Int.natCast_add, ← Int.natCast_mul, cast_succ, wrapu32_nat, shr32, reps_wd, map_set_wd, List.length_set, zs_len, hH, ho, List.take_of_length_le, ht]
  · have hx := ha.get i
    have hy := hb.get i
    have e := hz i (Nat.le_refl _)
    obtain ⟨X, hX⟩ : ∃ X : Nat, (b.getD i 0 + c ≤ a.getD i 0 ∧ X = a.getD i 0 - c - b.getD i 0) ∨ (a.getD i 0 < b.getD i 0 + c ∧ X = 18446744073709551616 + a.getD i 0 - c - b.getD i 0) := by
      by_cases h : b.getD i 0 + c ≤ a.getD i 0
      · exact ⟨_, .inl ⟨h, rfl⟩⟩
      · exact ⟨_, .inr ⟨by omega, rfl⟩⟩
    have hw : a.getD i 0 + X / 9223372036854775808 * 4294967296 = X % 4294967296 + b.getD i 0 + c := by omega
    have hc2 : X / 9223372036854775808 ≤ 1 := by omega
    have fin : ∃ m, m < k ∧ i + 1 + m = a.length := ⟨k - 1, by omega, by omega⟩
    have hz2 : ∀ t, i + 1 ≤ t → (o.set i (X % 4294967296)).getD t 0 = a.getD t 0 := fun t ht => by rw [lget_set_ne (by omega)]; exact hz t (by omega)
    by_cases hiy : i < b.length
    · have eX : IntKind.u64.wrap (IntKind.u64.wrap ((a.getD i 0 : Nat) - (c : Int)) - (b.getD i 0 : Nat)) = (X : Int) := by
        rw [IntKind.wrap_u64, IntKind.wrap_u64]; omega
      have hst := minus_step (o := o) (by omega) hv.out hw
      clear hX hw
      simp (maxSteps := 4000000) (disch := omega) only [go_sem, seval, ↓reduceIte, reduceCtorEq, ← List.map_take, ← List.map_drop, wrap64, wrapu64, wrapu32, ← Int.natCast_add, ← Int.natCast_mul, cast_succ, wrapu32_nat, shr32, reps_wd, map_set_wd, List.length_set, zs_len, hH, ho, e, eX, shr63]
      exact ⟨k - 1, by omega, H.upd 0 (some ⟨(o.set i (X % 4294967296)).map wd, false, 1, false⟩), i + 1, X / 9223372036854775808, o.set i (X % 4294967296), _, _, _, _, _, _, _, _, _, _, _, _, _, _, _, _, _, _, _, _, _, _, _, _, _, _, _, _, _, _, _, _, _, _, _, _, _, _, _, _, _, rfl, rfl, by rw [List.length_set, ho], hr.set (Nat.mod_lt _ (by decide)), hc2, by omega, ⟨hst⟩, hz2⟩
    · have h0 := getD_ge (l := b) (i := i) (by omega)
      have eX : IntKind.u64.wrap ((a.getD i 0 : Nat) - (c : Int)) = (X : Int) := by
        rw [IntKind.wrap_u64]; omega
      have hst := minus_step (o := o) (by omega) hv.out hw
      clear hX hw
      simp (maxSteps := 4000000) (disch := omega) only [go_sem, seval, ↓reduceIte, reduceCtorEq, ← List.map_take, ← List.map_drop, wrap64, wrapu64, wrapu32, ← Int.natCast_add, ← Int.natCast_mul, cast_succ, wrapu32_nat, shr32, reps_wd, map_set_wd, List.length_set, zs_len, hH, ho, e, eX, shr63]
      exact ⟨k - 1, by omega, H.upd 0 (some ⟨(o.set i (X % 4294967296)).map wd, false, 1, false⟩), i + 1, X / 9223372036854775808, o.set i (X % 4294967296), _, _, _, _, _, _, _, _, _, _, _, _, _, _, _, _, _, _, _, _, _, _, _, _, _, _, _, _, _, _, _, _, _, _, _, _, _, _, _, _, _, rfl, rfl, by rw [List.length_set, ho], hr.set (Nat.mod_lt _ (by decide)), hc2, by omega, ⟨hst⟩, hz2⟩
end Go.Proofs.Ytnpomadbaanpkaa

/- Walks of the package large: sums, differences and products of numbers with signs. (Own work of this repo.) -/
namespace Go.Proofs.Ytnpomadbaanpkaa
open Vm
set_option maxRecDepth 10000

theorem sum_spec (ma : Bool) (x : Int) (mb : Bool) (y : Int) (neg : Bool) (hx : (dg x).length ≤ 4096) (hy : (dg y).length ≤ 4096) :
    denP E 95 [I ma x, I mb y, .bool neg] = some (.ret (RI false (x + sg neg y.natAbs))) := by
  refine denP_eq E95 rfl (by simp [AV.pureL, AV.pure, pure_wd]) ?_
  have h1 := plus_spec ma (dg x) mb (dg y) (dg_inR x) (dg_inR y) (by omega) (by omega)
  have h2 := compare_spec ma (dg x) mb (dg y) (dg_norm x) (dg_norm y) (by omega) (by omega)
  have l1 := dig_add x.natAbs y.natAbs
  have l1' : (dig (x.natAbs + y.natAbs)).length < 2 ^ 40 := by unfold dg at hx hy; omega
  have h3 := made_dig neg false (x.natAbs + y.natAbs) (by simp) l1'
  rw [val_dg, val_dg] at h1 h2
  by_cases hs : ng x = neg
  · have e : sg neg (x.natAbs + y.natAbs) = x + sg neg y.natAbs := by
      rw [← hs]; unfold sg ng; by_cases h : x < 0 <;> simp [h] <;> omega
    rw [e] at h3
    simp (maxSteps := 4000000) (disch := omega) only [go_sem, seval, ↓reduceIte, reduceCtorEq, ← List.map_take, ← List.map_drop, wrap64, wrapu64, wrapu32, Try.f95, h1, h3, hs]
  · by_cases hc : x.natAbs < y.natAbs
    · have h4 := minus_spec mb (dg y) ma (dg x) (dg_inR y) (dg_inR x) (by omega) (dig_mono (by omega)) (by rw [val_dg, val_dg]; omega)
      rw [val_dg, val_dg] at h4
      have l2 := dig_mono (a := y.natAbs - x.natAbs) (b := y.natAbs) (by omega)
      have h5 := made_dig neg false (y.natAbs - x.natAbs) (by simp) (by unfold dg at hy; omega)
      have e : sg neg (y.natAbs - x.natAbs) = x + sg neg y.natAbs := by
        have : neg = !(ng x) := by cases neg <;> cases h : ng x <;> simp_all
        rw [this]; unfold sg ng; by_cases h : x < 0 <;> simp [h] <;> omega
      rw [e] at h5
      have hc' : cmpN x.natAbs y.natAbs = -1 := if_pos hc
      rw [hc'] at h2
      have hs' : (ng x == neg) = false := by simpa using hs
      simp (maxSteps := 4000000) (disch := omega) only [go_sem, seval, ↓reduceIte, reduceCtorEq, ← List.map_take, ← List.map_drop, wrap64, wrapu64, wrapu32, Try.f95, h2, h4, h5, hs']
    · have h4 := minus_spec ma (dg x) mb (dg y) (dg_inR x) (dg_inR y) (by omega) (dig_mono (by omega)) (by rw [val_dg, val_dg]; omega)
      rw [val_dg, val_dg] at h4
      have l2 := dig_mono (a := x.natAbs - y.natAbs) (b := x.natAbs) (by omega)
      have h5 := made_dig (ng x) false (x.natAbs - y.natAbs) (by simp) (by unfold dg at hx; omega)
      have e : sg (ng x) (x.natAbs - y.natAbs) = x + sg neg y.natAbs := by
        have : neg = !(ng x) := by cases neg <;> cases h : ng x <;> simp_all
        rw [this]; unfold sg ng; by_cases h : x < 0 <;> simp [h] <;> omega
      rw [e] at h5
      have hc' : ¬ cmpN x.natAbs y.natAbs < 0 := by unfold cmpN; rw [if_neg hc]; split <;> decide
      have hs' : (ng x == neg) = false := by simpa using hs
      simp (maxSteps := 4000000) (disch := omega) only [go_sem, seval, ↓reduceIte, reduceCtorEq, ← List.map_take, ← List.map_drop, wrap64, wrapu64, wrapu32, Try.f95, h2, hs', hc']
      refine W_drawn ?_
      simp (maxSteps := 4000000) (disch := omega) only [go_sem, seval, ↓reduceIte, reduceCtorEq, ← List.map_take, ← List.map_drop, wrap64, wrapu64, wrapu32, h4, h5]
      rfl
theorem add_spec (ma : Bool) (x : Int) (mb : Bool) (y : Int) (hx : (dg x).length ≤ 4096) (hy : (dg y).length ≤ 4096) : denP E 88 [I ma x, I mb y] = some (.ret (RI false (x + y))) := by
  refine denP_eq E88 rfl (by simp [AV.pureL, AV.pure, pure_wd]) ?_
  have h1 := valid2_I ma x mb y hx hy
  have h2 := sum_spec ma x mb y (ng y) hx hy
  rw [sg_ng] at h2
  simp (maxSteps := 4000000) (disch := omega) only [go_sem, seval, ↓reduceIte, reduceCtorEq, ← List.map_take, ← List.map_drop, wrap64, wrapu64, wrapu32, Try.f88, h1, h2, fillAll, reps, refP, elems]
theorem sub_spec (ma : Bool) (x : Int) (mb : Bool) (y : Int) (hx : (dg x).length ≤ 4096) (hy : (dg y).length ≤ 4096) : denP E 80 [I ma x, I mb y] = some (.ret (RI false (x - y))) := by
  refine denP_eq E80 rfl (by simp [AV.pureL, AV.pure, pure_wd]) ?_
  have h1 := valid2_I ma x mb y hx hy
  have h2 := sum_spec ma x mb y (!(ng y)) hx hy
  rw [sg_not, ← Int.sub_eq_add_neg] at h2
  simp (maxSteps := 4000000) (disch := omega) only [go_sem, seval, ↓reduceIte, reduceCtorEq, ← List.map_take, ← List.map_drop, wrap64, wrapu64, wrapu32, Try.f80, h1, h2, fillAll, reps, refP, elems]
theorem mul_spec (ma : Bool) (x : Int) (mb : Bool) (y : Int) (hx : (dg x).length ≤ 4096) (hy : (dg y).length ≤ 4096) : denP E 32 [I ma x, I mb y] = some (.ret (RI (mz x y) (x * y))) := by
  refine denP_eq E32 rfl (by simp [AV.pureL, AV.pure, pure_wd]) ?_
  have h1 := valid2_I ma x mb y hx hy
  have h2 := times_spec ma (dg x) mb (dg y) (dg_inR x) (dg_inR y) (by omega) (by omega)
  rw [val_dg, val_dg] at h2
  have e : decide ((dg x).length = 0 ∨ (dg y).length = 0) = mz x y := by unfold mz; simp only [dg_len0]
  rw [e] at h2
  have l1 := dig_mul x.natAbs y.natAbs
  have h3 := made_dig (ng x != ng y) (mz x y) (x.natAbs * y.natAbs) (fun h => by
    unfold mz at h; rw [decide_eq_true_eq] at h; rcases h with rfl | rfl <;> simp) (by unfold dg at hx hy; omega)
  rw [sg_mul] at h3
  have hb : (!(ng x == ng y)) = (ng x != ng y) := rfl
  by_cases h0 : x = 0
  · have hl : (dg x).length = 0 := dg_len0.2 h0
    simp (maxSteps := 4000000) (disch := omega) only [go_sem, seval, ↓reduceIte, reduceCtorEq, ← List.map_take, ← List.map_drop, wrap64, wrapu64, wrapu32, Try.f32, h1, hl, fillAll, reps, refP, elems]
    refine W_drawn ?_
    simp (maxSteps := 4000000) (disch := omega) only [go_sem, seval, ↓reduceIte, reduceCtorEq, ← List.map_take, ← List.map_drop, wrap64, wrapu64, wrapu32, h2, h3, hb]
    rfl
  · have hl : 0 < (dg x).length := dg_pos.2 h0
    by_cases h0' : y = 0
    · have hl' : (dg y).length = 0 := dg_len0.2 h0'
      simp (maxSteps := 4000000) (disch := omega) only [go_sem, seval, ↓reduceIte, reduceCtorEq, ← List.map_take, ← List.map_drop, wrap64, wrapu64, wrapu32, Try.f32, h1, hl', fillAll, reps, refP, elems]
      refine W_drawn ?_
      simp (maxSteps := 4000000) (disch := omega) only [go_sem, seval, ↓reduceIte, reduceCtorEq, ← List.map_take, ← List.map_drop, wrap64, wrapu64, wrapu32, h2, h3, hb]
      rfl
    · have hl' : 0 < (dg y).length := dg_pos.2 h0'
      by_cases hs : (dg x).length + (dg y).length ≤ 4097
      · simp (maxSteps := 4000000) (disch := omega) only [go_sem, seval, ↓reduceIte, reduceCtorEq, ← List.map_take, ← List.map_drop, wrap64, wrapu64, wrapu32, Try.f32, h1, fillAll, reps, refP, elems]
        refine W_drawn ?_
        simp (maxSteps := 4000000) (disch := omega) only [go_sem, seval, ↓reduceIte, reduceCtorEq, ← List.map_take, ← List.map_drop, wrap64, wrapu64, wrapu32, h2, h3, hb]
        rfl
      · have := dg_mul_ge h0 h0'
        have h4 : ¬ (dg (x * y)).length ≤ 4096 := by omega
        simp (maxSteps := 4000000) (disch := omega) only [go_sem, seval, ↓reduceIte, reduceCtorEq, ← List.map_take, ← List.map_drop, wrap64, wrapu64, wrapu32, Try.f32, h1, fillAll, reps, refP, elems, places, RI, I, fit_no h4, er_no h4, fm_no h4, ng_zero, dg_zero]
theorem cmp_spec (ma : Bool) (x : Int) (mb : Bool) (y : Int) (hx : (dg x).length ≤ 4096) (hy : (dg y).length ≤ 4096) : denP E 90 [I ma x, I mb y] = some (.ret (.tup [.int .i64 (cmpI x y), .int .i64 0])) := by
  refine denP_eq E90 rfl (by simp [AV.pureL, AV.pure, pure_wd]) ?_
  have h1 := valid2_I ma x mb y hx hy
  have h2 := compare_spec ma (dg x) mb (dg y) (dg_norm x) (dg_norm y) (by omega) (by omega)
  have h3 := compare_spec mb (dg y) ma (dg x) (dg_norm y) (dg_norm x) (by omega) (by omega)
  rw [val_dg, val_dg] at h2 h3
  cases ha : ng x with
  | true =>
    have ha' := ng_true.1 ha
    cases hb : ng y with
    | true =>
      have hb' := ng_true.1 hb
      have e : cmpN y.natAbs x.natAbs = cmpI x y := by
        unfold cmpN cmpI
        by_cases h1 : x < y
        · rw [if_pos h1, if_pos (by omega)]
        · rw [if_neg h1, if_neg (by omega)]
          by_cases h2 : y < x
          · rw [if_pos h2, if_pos (by omega)]
          · rw [if_neg h2, if_neg (by omega)]
      rw [e] at h3
      simp only [I, ha, hb] at h1
      simp (maxSteps := 4000000) (disch := omega) only [go_sem, seval, ↓reduceIte, reduceCtorEq, ← List.map_take, ← List.map_drop, wrap64, wrapu64, wrapu32, Try.f90, ha, hb, h1, h3, fillAll, reps, refP, elems]
    | false =>
      have hb' := ng_false.1 hb
      have e : cmpI x y = -1 := by unfold cmpI; rw [if_pos (by omega)]
      simp only [I, ha, hb] at h1
      simp (maxSteps := 4000000) (disch := omega) only [go_sem, seval, ↓reduceIte, reduceCtorEq, ← List.map_take, ← List.map_drop, wrap64, wrapu64, wrapu32, Try.f90, ha, hb, h1, e, fillAll, reps, refP, elems]
  | false =>
    have ha' := ng_false.1 ha
    cases hb : ng y with
    | true =>
      have hb' := ng_true.1 hb
      have e : cmpI x y = 1 := by unfold cmpI; rw [if_neg (by omega), if_pos (by omega)]
      simp only [I, ha, hb] at h1
      simp (maxSteps := 4000000) (disch := omega) only [go_sem, seval, ↓reduceIte, reduceCtorEq, ← List.map_take, ← List.map_drop, wrap64, wrapu64, wrapu32, Try.f90, ha, hb, h1, e, fillAll, reps, refP, elems]
    | false =>
      have hb' := ng_false.1 hb
      have e : cmpN x.natAbs y.natAbs = cmpI x y := by
        unfold cmpN cmpI
        by_cases h1 : x < y
        · rw [if_pos h1, if_pos (by omega)]
        · rw [if_neg h1, if_neg (by omega)]
          by_cases h2 : y < x
          · rw [if_pos h2, if_pos (by omega)]
          · rw [if_neg h2, if_neg (by omega)]
      rw [e] at h2
      simp only [I, ha, hb] at h1
      simp (maxSteps := 4000000) (disch := omega) only [go_sem, seval, ↓reduceIte, reduceCtorEq, ← List.map_take, ← List.map_drop, wrap64, wrapu64, wrapu32, Try.f90, ha, hb, h1, h2, fillAll, reps, refP, elems]
end Go.Proofs.Ytnpomadbaanpkaa

/- Walks of the reference of chapter 1: comparing, making. (Own work of this repo.) -/
namespace Go.Proofs.Ytnpomadbaanpkaa
open Vm
set_option maxRecDepth 10000

theorem rSameWords_walk (ma : Bool) (a : List Nat) (mb : Bool) (b : List Nat) (la : a.length < 2 ^ 60) (lb : b.length < 2 ^ 60) :
    denP E 75 [.lst ma (a.map wd), .lst mb (b.map wd)] = some (.ret (.bool (decide (a = b)))) := by
  refine denP_eq E75 rfl (by simp [AV.pureL, AV.pure, pure_wd]) ?_
  by_cases h : a.length = b.length
  · simp (maxSteps := 4000000) (disch := omega) only [go_sem, seval, ↓reduceIte, reduceCtorEq, ← List.map_take, ← List.map_drop, wrap64, wrapu64, wrapu32, ← Int.natCast_add, ← Int.natCast_mul, cast_succ, wrapu32_nat, shr32, reps_wd, map_set_wd, List.length_set, zs_len, Try.f75]
    refine W_loopS (fun k sl h nx => ∃ i : Nat, (∃ g : Nat → AV, sl = [.lst ma (a.map wd), .lst mb (b.map wd), g 2, g 3, g 4, .int .i64 i, g 6, g 7, g 8, g 9, g 10, g 11, g 12, g 13, g 14, g 15, g 16, g 17, g 18, g 19, g 20, g 21, g 22, g 23, g 24, g 25]) ∧ h = Heap.empty ∧ nx = 0 ∧
      i + k = a.length ∧ ∀ j, j < i → a.getD j 0 = b.getD j 0) a.length ⟨0, garb rfl, rfl, rfl, by omega, by omega⟩ ?_
    rintro k _ _ _ ⟨i, ⟨g, rfl⟩, rfl, rfl, hk, hall⟩
    by_cases hk0 : k = 0
    · have hv : a = b := by
        refine List.ext_getElem h fun j h1 h2 => ?_
        have := hall j (by omega)
        rw [List.getD_eq_getElem?_getD, List.getD_eq_getElem?_getD, List.getElem?_eq_getElem h1, List.getElem?_eq_getElem h2] at this
        exact this
      have hc : decide (a = b) = true := decide_eq_true hv
      simp (maxSteps := 4000000) (disch := omega) only [go_sem, seval, ↓reduceIte, reduceCtorEq, ← List.map_take, ← List.map_drop, wrap64, wrapu64, wrapu32, ← Int.natCast_add, ← Int.natCast_mul, cast_succ, wrapu32_nat, shr32, reps_wd, map_set_wd, List.length_set, zs_len, hc]
    · simp (maxSteps := 4000000) (disch := omega) only [go_sem, seval, ↓reduceIte, reduceCtorEq, ← List.map_take, ← List.map_drop, wrap64, wrapu64, wrapu32, ← Int.natCast_add, ← Int.natCast_mul, cast_succ, wrapu32_nat, shr32, reps_wd, map_set_wd, List.length_set, zs_len]
      refine W_drawn ?_
      by_cases h1 : a.getD i 0 = b.getD i 0
      · simp (maxSteps := 4000000) (disch := omega) only [go_sem, seval, ↓reduceIte, reduceCtorEq, ← List.map_take, ← List.map_drop, wrap64, wrapu64, wrapu32, ← Int.natCast_add, ← Int.natCast_mul, cast_succ, wrapu32_nat, shr32, reps_wd, map_set_wd, List.length_set, zs_len, h1]
        refine ⟨by rfl, ?_⟩
        refine ⟨k - 1, by omega, i + 1, garb rfl, by omega, fun j hj => ?_⟩
        by_cases hji : j = i
        · subst hji; exact h1
        · exact hall j (by omega)
      · have hv : decide (a = b) = false := decide_eq_false (fun e => h1 (by rw [e]))
        simp (maxSteps := 4000000) (disch := omega) only [go_sem, seval, ↓reduceIte, reduceCtorEq, ← List.map_take, ← List.map_drop, wrap64, wrapu64, wrapu32, ← Int.natCast_add, ← Int.natCast_mul, cast_succ, wrapu32_nat, shr32, reps_wd, map_set_wd, List.length_set, zs_len, hv]
        rfl
  · have hv : decide (a = b) = false := decide_eq_false (fun e => h (by rw [e]))
    simp (maxSteps := 4000000) (disch := omega) only [go_sem, seval, ↓reduceIte, reduceCtorEq, ← List.map_take, ← List.map_drop, wrap64, wrapu64, wrapu32, ← Int.natCast_add, ← Int.natCast_mul, cast_succ, wrapu32_nat, shr32, reps_wd, map_set_wd, List.length_set, zs_len, Try.f75, hv]
theorem rSameB_spec (na ma : Bool) (a : List Nat) (nb mb : Bool) (b : List Nat) (la : a.length < 2 ^ 60) (lb : b.length < 2 ^ 60) :
    denP E 45 [iv na ma a, iv nb mb b] = some (.ret (.bool (na == nb && decide (a = b)))) := by
  refine denP_eq E45 rfl (by simp [AV.pureL, AV.pure, pure_wd]) ?_
  have h := rSameWords_walk ma a mb b la lb
  cases hs : na == nb with
  | true => simp (maxSteps := 4000000) (disch := omega) only [go_sem, seval, ↓reduceIte, reduceCtorEq, ← List.map_take, ← List.map_drop, wrap64, wrapu64, wrapu32, Try.f45, hs, h]
  | false => simp (maxSteps := 4000000) (disch := omega) only [go_sem, seval, ↓reduceIte, reduceCtorEq, ← List.map_take, ← List.map_drop, wrap64, wrapu64, wrapu32, Try.f45, hs, h]
theorem rSame_spec (ma : Bool) (x : Int) (mb : Bool) (y : Int) (hx : (dg x).length < 2 ^ 60) (hy : (dg y).length < 2 ^ 60) :
    denP E 45 [I ma x, I mb y] = some (.ret (.bool (decide (x = y)))) := by
  have h := rSameB_spec (ng x) ma (dg x) (ng y) mb (dg y) hx hy
  rw [h]
  congr 3
  by_cases e : x = y
  · subst e; simp
  · rw [decide_eq_false e]
    rw [Bool.eq_false_iff]
    intro h
    rw [Bool.and_eq_true, beq_iff_eq, decide_eq_true_eq] at h
    exact e (int_ext h.1 h.2)
def rvalidW (neg : Bool) (l : List Nat) : Bool := if l.length = 0 then !neg else decide (l.length ≤ 4096) && decide (l.getD (l.length - 1) 0 ≠ 0)
theorem rValid_walk (neg nl : Bool) (l : List Nat) (hl : l.length < 2 ^ 60) : denP E 49 [iv neg nl l] = some (.ret (.bool (rvalidW neg l))) := by
  refine denP_eq E49 rfl (by simp [AV.pureL, AV.pure, pure_wd]) ?_
  unfold rvalidW
  by_cases h2 : l.length = 0
  · simp (maxSteps := 4000000) (disch := omega) only [go_sem, seval, ↓reduceIte, reduceCtorEq, ← List.map_take, ← List.map_drop, wrap64, wrapu64, wrapu32, Try.f49]
  · have e : (l.length : Int) - 1 = (l.length - 1 : Nat) := by omega
    by_cases h1 : l.length ≤ 4096
    · by_cases h3 : l.getD (l.length - 1) 0 = 0
      · simp (maxSteps := 4000000) (disch := omega) only [go_sem, seval, ↓reduceIte, reduceCtorEq, ← List.map_take, ← List.map_drop, wrap64, wrapu64, wrapu32, Try.f49, e, ne_eq]
      · simp (maxSteps := 4000000) (disch := omega) only [go_sem, seval, ↓reduceIte, reduceCtorEq, ← List.map_take, ← List.map_drop, wrap64, wrapu64, wrapu32, Try.f49, e, ne_eq]
    · simp (maxSteps := 4000000) (disch := omega) only [go_sem, seval, ↓reduceIte, reduceCtorEq, ← List.map_take, ← List.map_drop, wrap64, wrapu64, wrapu32, Try.f49]
/-- A valid number is one. -/
theorem rvalid_norm {neg : Bool} {l : List Nat} (hr : InR l) (h : rvalidW neg l = true) : l.length ≤ 4096 ∧ ∃ z : Int, ng z = neg ∧ dg z = l := by
  unfold rvalidW at h
  by_cases h0 : l.length = 0
  · rw [if_pos h0] at h
    have := List.length_eq_zero_iff.1 h0
    subst this
    refine ⟨by simp, 0, ?_, dg_zero⟩
    simp at h; rw [h]; rfl
  · rw [if_neg h0, Bool.and_eq_true, decide_eq_true_eq, decide_eq_true_eq] at h
    have hn : Norm l := ⟨hr, .inr h.2⟩
    have hp := norm_pos hn (fun e => h0 (by rw [e]; rfl))
    refine ⟨h.1, sg neg (val l), ?_, ?_⟩
    · rw [ng_sg, decide_eq_true (by omega), Bool.and_true]
    · rw [dg_sg, dig_val hn]
theorem rvalidW_I (z : Int) : rvalidW (ng z) (dg z) = decide ((dg z).length ≤ 4096) := by
  unfold rvalidW
  rcases (dg_norm z).2 with h | h
  · have : z = 0 := dg_nil.1 h
    subst this
    rw [h]; rfl
  · have h0 : (dg z).length ≠ 0 := fun e => by rw [List.length_eq_zero_iff.1 e] at h; simp at h
    rw [if_neg h0, decide_eq_true h, Bool.and_true]
theorem rValid_spec (m : Bool) (z : Int) (h : (dg z).length < 2 ^ 60) : denP E 49 [I m z] = some (.ret (.bool (decide ((dg z).length ≤ 4096)))) := by
  have := rValid_walk (ng z) m (dg z) h
  rwa [rvalidW_I] at this
theorem rMake_spec (neg nl : Bool) (w : List Nat) (hw : InR w) (lw : w.length < 2 ^ 40) :
    denP E 50 [.bool neg, .lst nl (w.map wd)] = some (.ret (I (decide (val w = 0)) (sg neg (val w)))) := by
  refine denP_eq E50 rfl (by simp [AV.pureL, AV.pure, pure_wd]) ?_
  simp (maxSteps := 4000000) (disch := omega) only [go_sem, seval, ↓reduceIte, reduceCtorEq, ← List.map_take, ← List.map_drop, wrap64, wrapu64, wrapu32, ← Int.natCast_add, ← Int.natCast_mul, cast_succ, wrapu32_nat, shr32, reps_wd, map_set_wd, List.length_set, zs_len, Try.f50]
  refine W_loopS (fun k sl H nx => (∃ g : Nat → AV, sl = [.bool neg, .lst nl (w.map wd), g 2, g 3, .ptr 0 0, .int .i64 k, g 6, g 7, g 8, g 9, g 10, g 11, g 12, g 13, g 14, g 15, g 16, g 17, g 18, g 19, g 20, g 21, g 22, g 23, g 24, g 25, g 26, g 27, g 28, g 29, g 30, g 31, g 32, g 33, g 34]) ∧ nx = 1 ∧
    H 0 = some ⟨[.bool false, .lst true []], true, 2, false⟩ ∧ k ≤ w.length ∧ tz w k = tz w w.length) w.length ⟨garb rfl, rfl, rfl, by omega, rfl⟩ ?_
  rintro k _ H _ ⟨⟨g, rfl⟩, rfl, hH, hk, ht⟩
  have hd := take_tz hw
  have hln := ng_sg neg (val w)
  rw [dg_sg, hln]
  by_cases hk0 : k = 0
  · subst hk0
    have hv : val w = 0 := by
      rw [← ht] at hd
      have : dig (val w) = [] := by rw [← hd]; rfl
      exact dig_nil.1 this
    have e1 : decide (val w = 0) = true := decide_eq_true hv
    have e2 : decide (val w ≠ 0) = false := decide_eq_false (by simp [hv])
    rw [e1, e2, hv, dig_zero]
    cases neg with
    | true =>
      simp (maxSteps := 4000000) (disch := omega) only [go_sem, seval, ↓reduceIte, reduceCtorEq, ← List.map_take, ← List.map_drop, wrap64, wrapu64, wrapu32, ← Int.natCast_add, ← Int.natCast_mul, cast_succ, wrapu32_nat, shr32, reps_wd, map_set_wd, List.length_set, zs_len, fillAll, places, hH, appendEff, srcCells, cutBounds, flat]
      refine W_drawn ?_
      simp (maxSteps := 4000000) (disch := omega) only [go_sem, seval, ↓reduceIte, reduceCtorEq, ← List.map_take, ← List.map_drop, wrap64, wrapu64, wrapu32, ← Int.natCast_add, ← Int.natCast_mul, cast_succ, wrapu32_nat, shr32, reps_wd, map_set_wd, List.length_set, zs_len, fillAll, places, hH, appendEff, srcCells, cutBounds, flat]
      rfl
    | false =>
      simp (maxSteps := 4000000) (disch := omega) only [go_sem, seval, ↓reduceIte, reduceCtorEq, ← List.map_take, ← List.map_drop, wrap64, wrapu64, wrapu32, ← Int.natCast_add, ← Int.natCast_mul, cast_succ, wrapu32_nat, shr32, reps_wd, map_set_wd, List.length_set, zs_len, fillAll, places, hH, appendEff, srcCells, cutBounds, flat]
      refine W_drawn ?_
      simp (maxSteps := 4000000) (disch := omega) only [go_sem, seval, ↓reduceIte, reduceCtorEq, ← List.map_take, ← List.map_drop, wrap64, wrapu64, wrapu32, ← Int.natCast_add, ← Int.natCast_mul, cast_succ, wrapu32_nat, shr32, reps_wd, map_set_wd, List.length_set, zs_len, fillAll, places, hH, appendEff, srcCells, cutBounds, flat]
      rfl
  · have e : (k : Int) - 1 = ((k - 1 : Nat) : Int) := by omega
    by_cases h0 : w.getD (k - 1) 0 = 0
    · simp (maxSteps := 4000000) (disch := omega) only [go_sem, seval, ↓reduceIte, reduceCtorEq, ← List.map_take, ← List.map_drop, wrap64, wrapu64, wrapu32, ← Int.natCast_add, ← Int.natCast_mul, cast_succ, wrapu32_nat, shr32, reps_wd, map_set_wd, List.length_set, zs_len, e, h0]
      refine ⟨k - 1, by omega, garb rfl, hH, by omega, ?_⟩
      rw [← ht]
      obtain ⟨j, rfl⟩ : ∃ j, k = j + 1 := ⟨k - 1, by omega⟩
      simp only [Nat.add_sub_cancel] at h0 ⊢
      simp only [tz, if_pos h0]
    · have htk : tz w w.length = k := by
        rw [← ht]
        obtain ⟨j, rfl⟩ : ∃ j, k = j + 1 := ⟨k - 1, by omega⟩
        simp only [Nat.add_sub_cancel] at h0
        simp only [tz, if_neg h0]
      rw [htk] at hd
      have hv : val w ≠ 0 := by
        intro h
        rw [h, dig_zero] at hd
        have := congrArg List.length hd
        rw [List.length_take, Nat.min_eq_left hk] at this
        simp at this; omega
      have e1 : decide (val w = 0) = false := decide_eq_false hv
      have e2 : decide (val w ≠ 0) = true := decide_eq_true hv
      rw [e1, e2, ← hd]
      have hlen : (w.take k).length = k := by rw [List.length_take]; omega
      cases neg with
      | true =>
        simp (maxSteps := 4000000) (disch := omega) only [go_sem, seval, ↓reduceIte, reduceCtorEq, ← List.map_take, ← List.map_drop, wrap64, wrapu64, wrapu32, ← Int.natCast_add, ← Int.natCast_mul, cast_succ, wrapu32_nat, shr32, reps_wd, map_set_wd, List.length_set, zs_len, e, h0, fillAll, places, hH, appendEff, srcCells, cutBounds, hlen, List.take_take, Nat.min_self]
        refine W_drawn ?_
        simp (maxSteps := 4000000) (disch := omega) only [go_sem, seval, ↓reduceIte, reduceCtorEq, ← List.map_take, ← List.map_drop, wrap64, wrapu64, wrapu32, ← Int.natCast_add, ← Int.natCast_mul, cast_succ, wrapu32_nat, shr32, reps_wd, map_set_wd, List.length_set, zs_len, e, h0, fillAll, places, hH, appendEff, srcCells, cutBounds, hlen, List.take_take, Nat.min_self]
        rfl
      | false =>
        simp (maxSteps := 4000000) (disch := omega) only [go_sem, seval, ↓reduceIte, reduceCtorEq, ← List.map_take, ← List.map_drop, wrap64, wrapu64, wrapu32, ← Int.natCast_add, ← Int.natCast_mul, cast_succ, wrapu32_nat, shr32, reps_wd, map_set_wd, List.length_set, zs_len, e, h0, fillAll, places, hH, appendEff, srcCells, cutBounds, hlen, List.take_take, Nat.min_self]
        refine W_drawn ?_
        simp (maxSteps := 4000000) (disch := omega) only [go_sem, seval, ↓reduceIte, reduceCtorEq, ← List.map_take, ← List.map_drop, wrap64, wrapu64, wrapu32, ← Int.natCast_add, ← Int.natCast_mul, cast_succ, wrapu32_nat, shr32, reps_wd, map_set_wd, List.length_set, zs_len, e, h0, fillAll, places, hH, appendEff, srcCells, cutBounds, hlen, List.take_take, Nat.min_self]
        rfl
end Go.Proofs.Ytnpomadbaanpkaa

/- Walks of the reference of chapter 1: order, sums, products. (Own work of this repo.) -/
namespace Go.Proofs.Ytnpomadbaanpkaa
open Vm
set_option maxRecDepth 10000

theorem rorder_walk (ma : Bool) (a : List Nat) (mb : Bool) (b : List Nat) (ha : Norm a) (hb : Norm b) (la : a.length < 2 ^ 40) (lb : b.length < 2 ^ 40) :
    denP E 52 [.lst ma (a.map wd), .lst mb (b.map wd)] = some (.ret (.int .i64 (cmpN (val a) (val b)))) := by
  refine denP_eq E52 rfl (by simp [AV.pureL, AV.pure, pure_wd]) ?_
  by_cases h : a.length = b.length
  · simp (maxSteps := 4000000) (disch := omega) only [go_sem, seval, ↓reduceIte, reduceCtorEq, ← List.map_take, ← List.map_drop, wrap64, wrapu64, wrapu32, ← Int.natCast_add, ← Int.natCast_mul, cast_succ, wrapu32_nat, shr32, reps_wd, map_set_wd, List.length_set, zs_len, Try.f52]
    refine W_loopS (fun k sl h nx => (∃ g : Nat → AV, sl = [.lst ma (a.map wd), .lst mb (b.map wd), g 2, g 3, .int .i64 0, .int .i64 ((k : Int) - 1), g 6, g 7, g 8, g 9, g 10, g 11, g 12, g 13, g 14, g 15, g 16, g 17, g 18, g 19, g 20, g 21, g 22, g 23, g 24, g 25, g 26, g 27, g 28, g 29, g 30, g 31, g 32, g 33, g 34, g 35, g 36, g 37, g 38, g 39, g 40]) ∧ h = Heap.empty ∧ nx = 0 ∧
      k ≤ a.length ∧ ∀ j, k ≤ j → j < a.length → a.getD j 0 = b.getD j 0) a.length ⟨garb rfl, rfl, rfl, Nat.le_refl _, by omega⟩ ?_
    rintro k _ _ _ ⟨⟨g, rfl⟩, rfl, rfl, hk, hall⟩
    by_cases hk0 : k = 0
    · subst hk0
      have hv : val a = val b := by
        rw [val, val, ← h]; exact vp_congr _ (fun i hi => hall i (by omega) hi)
      have hc : cmpN (val a) (val b) = 0 := by unfold cmpN; rw [if_neg (by omega), if_neg (by omega)]
      simp (maxSteps := 4000000) (disch := omega) only [go_sem, seval, ↓reduceIte, reduceCtorEq, ← List.map_take, ← List.map_drop, wrap64, wrapu64, wrapu32, ← Int.natCast_add, ← Int.natCast_mul, cast_succ, wrapu32_nat, shr32, reps_wd, map_set_wd, List.length_set, zs_len, hc]
    · have e : (k : Int) - 1 = ((k - 1 : Nat) : Int) := by omega
      simp (maxSteps := 4000000) (disch := omega) only [go_sem, seval, ↓reduceIte, reduceCtorEq, ← List.map_take, ← List.map_drop, wrap64, wrapu64, wrapu32, ← Int.natCast_add, ← Int.natCast_mul, cast_succ, wrapu32_nat, shr32, reps_wd, map_set_wd, List.length_set, zs_len, e]
      refine W_drawn ?_
      by_cases h1 : a.getD (k - 1) 0 < b.getD (k - 1) 0
      · have hv : val a < val b := by
          rw [val, val, ← h]; exact vp_less ha.1 (by omega) (fun j h1 h2 => hall j (by omega) h2) h1
        have hc : cmpN (val a) (val b) = -1 := by unfold cmpN; rw [if_pos hv]
        simp (maxSteps := 4000000) (disch := omega) only [go_sem, seval, ↓reduceIte, reduceCtorEq, ← List.map_take, ← List.map_drop, wrap64, wrapu64, wrapu32, ← Int.natCast_add, ← Int.natCast_mul, cast_succ, wrapu32_nat, shr32, reps_wd, map_set_wd, List.length_set, zs_len, hc]
        rfl
      · simp (maxSteps := 4000000) (disch := omega) only [go_sem, seval, ↓reduceIte, reduceCtorEq, ← List.map_take, ← List.map_drop, wrap64, wrapu64, wrapu32, ← Int.natCast_add, ← Int.natCast_mul, cast_succ, wrapu32_nat, shr32, reps_wd, map_set_wd, List.length_set, zs_len]
        refine ⟨by rfl, ?_⟩
        refine W_drawn ?_
        by_cases h2 : b.getD (k - 1) 0 < a.getD (k - 1) 0
        · have hv : val b < val a := by
            rw [val, val, ← h]; exact vp_less hb.1 (by omega) (fun j h1 h2 => (hall j (by omega) h2).symm) h2
          have hc : cmpN (val a) (val b) = 1 := by unfold cmpN; rw [if_neg (by omega), if_pos hv]
          simp (maxSteps := 4000000) (disch := omega) only [go_sem, seval, ↓reduceIte, reduceCtorEq, ← List.map_take, ← List.map_drop, wrap64, wrapu64, wrapu32, ← Int.natCast_add, ← Int.natCast_mul, cast_succ, wrapu32_nat, shr32, reps_wd, map_set_wd, List.length_set, zs_len, hc]
          rfl
        · simp (maxSteps := 4000000) (disch := omega) only [go_sem, seval, ↓reduceIte, reduceCtorEq, ← List.map_take, ← List.map_drop, wrap64, wrapu64, wrapu32, ← Int.natCast_add, ← Int.natCast_mul, cast_succ, wrapu32_nat, shr32, reps_wd, map_set_wd, List.length_set, zs_len]
          refine ⟨by rfl, ?_⟩
          exact ⟨k - 1, by omega, garb rfl, by omega, fun j h3 h4 => by
            by_cases hj : j = k - 1
            · subst hj; omega
            · exact hall j (by omega) h4⟩
  · by_cases hl : a.length < b.length
    · have hv := val_less_len ha.1 hb hl
      have hc : cmpN (val a) (val b) = -1 := by unfold cmpN; rw [if_pos hv]
      simp (maxSteps := 4000000) (disch := omega) only [go_sem, seval, ↓reduceIte, reduceCtorEq, ← List.map_take, ← List.map_drop, wrap64, wrapu64, wrapu32, ← Int.natCast_add, ← Int.natCast_mul, cast_succ, wrapu32_nat, shr32, reps_wd, map_set_wd, List.length_set, zs_len, Try.f52, hc]
    · have hv := val_less_len hb.1 ha (by omega)
      have hc : cmpN (val a) (val b) = 1 := by unfold cmpN; rw [if_neg (by omega), if_pos hv]
      simp (maxSteps := 4000000) (disch := omega) only [go_sem, seval, ↓reduceIte, reduceCtorEq, ← List.map_take, ← List.map_drop, wrap64, wrapu64, wrapu32, ← Int.natCast_add, ← Int.natCast_mul, cast_succ, wrapu32_nat, shr32, reps_wd, map_set_wd, List.length_set, zs_len, Try.f52, hc]
theorem rorder_spec (ma : Bool) (x : Int) (mb : Bool) (y : Int) (hx : (dg x).length < 2 ^ 40) (hy : (dg y).length < 2 ^ 40) :
    denP E 52 [.lst ma ((dg x).map wd), .lst mb ((dg y).map wd)] = some (.ret (.int .i64 (cmpN x.natAbs y.natAbs))) := by
  rw [rorder_walk ma (dg x) mb (dg y) (dg_norm x) (dg_norm y) hx hy, val_dg, val_dg]
theorem rplus_walk (ma : Bool) (a : List Nat) (mb : Bool) (b : List Nat) (ha : InR a) (hb : InR b) (la : a.length < 2 ^ 40) (lb : b.length < 2 ^ 40) :
    ∃ o : List Nat, denP E 51 [.lst ma (a.map wd), .lst mb (b.map wd)] = some (.ret (.lst false (o.map wd))) ∧ InR o ∧ o.length = max a.length b.length + 1 ∧ val o = val a + val b := by
  refine denP_ex E51 rfl (by simp [AV.pureL, AV.pure, pure_wd]) ?_
  obtain ⟨n, hn⟩ : ∃ n : Nat, n = max a.length b.length + 1 := ⟨_, rfl⟩
  have e1 : (if (a.length : Int) < (b.length : Int) then (b.length : Int) else (a.length : Int)) + 1 = (n : Int) := by split <;> omega
  simp (maxSteps := 4000000) (disch := omega) only [go_sem, seval, ↓reduceIte, reduceCtorEq, ← List.map_take, ← List.map_drop, wrap64, wrapu64, wrapu32, ← Int.natCast_add, ← Int.natCast_mul, cast_succ, wrapu32_nat, shr32, reps_wd, map_set_wd, List.length_set, zs_len, Try.f51, e1]
  refine W_loopS (fun k sl H nx => ∃ (i c : Nat) (o : List Nat), (∃ g : Nat → AV, sl = [.lst ma (a.map wd), .lst mb (b.map wd), g 2, g 3, g 4, .int .i64 n, .ref 0 0 n, .int .u64 c, .int .i64 i, g 9, g 10, g 11, g 12, g 13, g 14, g 15, g 16, g 17, g 18, g 19, g 20, g 21, g 22, g 23, g 24, g 25, g 26, g 27, g 28, g 29, g 30, g 31, g 32, g 33, g 34, g 35, g 36, g 37, g 38, g 39, g 40, g 41, g 42, g 43, g 44, g 45, g 46, g 47, g 48, g 49, g 50, g 51, g 52]) ∧ nx = 1 ∧
    H 0 = some ⟨o.map wd, false, 1, false⟩ ∧ o.length = n ∧ InR o ∧ c ≤ 1 ∧ i + k = n ∧ Hd (vp o i + c * BB ^ i = vp a i + vp b i)) n ⟨0, 0, _, garb rfl, rfl, rfl, zs_len _, zs_inR _, by omega, by omega, ⟨by simp [vp]⟩⟩ ?_
  rintro k _ H _ ⟨i, c, o, ⟨g, rfl⟩, rfl, hH, ho, hr, hc, hi, hv⟩
  have hx := ha.get i
  have hy := hb.get i
  by_cases hk : k = 0
  · obtain rfl : i = n := by omega
    have hval : val o = val a + val b := by
      have h1 := hv.out
      have h2 := vp_ge a i (by omega)
      have h3 := vp_ge b i (by omega)
      rw [h2, h3, show vp o i = val o by rw [val, ho]] at h1
      have h4 := val_lt ha
      have h5 := val_lt hb
      have h6 := pow_max a.length b.length
      rcases Nat.eq_zero_or_pos c with h | h
      · subst h; omega
      · have : c = 1 := by omega
        subst this
        rw [hn] at h1
        omega
    clear hv
    simp (maxSteps := 4000000) (disch := omega) only [go_sem, seval, ↓reduceIte, reduceCtorEq, ← List.map_take, ← List.map_drop, wrap64, wrapu64, wrapu32, ← Int.natCast_add, ← Int.natCast_mul, cast_succ, wrapu32_nat, shr32, reps_wd, map_set_wd, List.length_set, zs_len, hH, ho, List.take_of_length_le]
    exact ⟨o, rfl, hr, by omega, hval⟩
  · by_cases hia : i < a.length
    · by_cases hib : i < b.length
      · simp (maxSteps := 4000000) (disch := omega) only [go_sem, seval, ↓reduceIte, reduceCtorEq, ← List.map_take, ← List.map_drop, wrap64, wrapu64, wrapu32, ← Int.natCast_add, ← Int.natCast_mul, cast_succ, wrapu32_nat, shr32, reps_wd, map_set_wd, List.length_set, zs_len, hH, ho, and_low]
        refine ⟨k - 1, by omega, i + 1, (c + a.getD i 0 + b.getD i 0) / 4294967296, o.set i ((c + a.getD i 0 + b.getD i 0) % 4294967296), garb rfl, rfl, by rw [List.length_set, ho], hr.set (Nat.mod_lt _ (by decide)), by omega, by omega, ⟨plus_step (by omega) hv.out rfl⟩⟩
      · have h0 := getD_ge (l := b) (i := i) (by omega)
        simp (maxSteps := 4000000) (disch := omega) only [go_sem, seval, ↓reduceIte, reduceCtorEq, ← List.map_take, ← List.map_drop, wrap64, wrapu64, wrapu32, ← Int.natCast_add, ← Int.natCast_mul, cast_succ, wrapu32_nat, shr32, reps_wd, map_set_wd, List.length_set, zs_len, hH, ho, and_low]
        refine ⟨k - 1, by omega, i + 1, (c + a.getD i 0) / 4294967296, o.set i ((c + a.getD i 0) % 4294967296), garb rfl, rfl, by rw [List.length_set, ho], hr.set (Nat.mod_lt _ (by decide)), by omega, by omega, ⟨plus_step (by omega) hv.out (by rw [h0]; rfl)⟩⟩
    · have h0 := getD_ge (l := a) (i := i) (by omega)
      by_cases hib : i < b.length
      · simp (maxSteps := 4000000) (disch := omega) only [go_sem, seval, ↓reduceIte, reduceCtorEq, ← List.map_take, ← List.map_drop, wrap64, wrapu64, wrapu32, ← Int.natCast_add, ← Int.natCast_mul, cast_succ, wrapu32_nat, shr32, reps_wd, map_set_wd, List.length_set, zs_len, hH, ho, and_low]
        refine ⟨k - 1, by omega, i + 1, (c + b.getD i 0) / 4294967296, o.set i ((c + b.getD i 0) % 4294967296), garb rfl, rfl, by rw [List.length_set, ho], hr.set (Nat.mod_lt _ (by decide)), by omega, by omega, ⟨plus_step (by omega) hv.out (by rw [h0]; rfl)⟩⟩
      · have h1 := getD_ge (l := b) (i := i) (by omega)
        simp (maxSteps := 4000000) (disch := omega) only [go_sem, seval, ↓reduceIte, reduceCtorEq, ← List.map_take, ← List.map_drop, wrap64, wrapu64, wrapu32, ← Int.natCast_add, ← Int.natCast_mul, cast_succ, wrapu32_nat, shr32, reps_wd, map_set_wd, List.length_set, zs_len, hH, ho, and_low]
        refine ⟨k - 1, by omega, i + 1, c / 4294967296, o.set i (c % 4294967296), garb rfl, rfl, by rw [List.length_set, ho], hr.set (Nat.mod_lt _ (by decide)), by omega, by omega, ⟨plus_step (by omega) hv.out (by rw [h0, h1]; rfl)⟩⟩
theorem minus_step2 {o a b : List Nat} {i c w c' : Nat} (ho : i < o.length) (hv : vp a i + c * BB ^ i = vp o i + vp b i) (hs : a.getD i 0 + c' * 4294967296 = w + b.getD i 0 + c) :
    vp a (i + 1) + c' * BB ^ (i + 1) = vp (o.set i w) (i + 1) + vp b (i + 1) := by
  rw [vp, vp, vp, vp_set o i _ i (Nat.le_refl _), lget_set_self ho, Nat.pow_succ]
  have h3 : (a.getD i 0 + c' * 4294967296) * BB ^ i = (w + b.getD i 0 + c) * BB ^ i := by rw [hs]
  rw [Nat.add_mul, Nat.add_mul, Nat.add_mul] at h3
  have h4 : c' * (BB ^ i * BB) = c' * 4294967296 * BB ^ i := by rw [Nat.mul_comm (BB ^ i) BB, ← Nat.mul_assoc]
  rw [h4]
  omega
theorem rminus_walk (ma : Bool) (a : List Nat) (mb : Bool) (b : List Nat) (ha : InR a) (hb : InR b) (la : a.length < 2 ^ 40) (lb : b.length ≤ a.length) (hle : val b ≤ val a) :
    ∃ o : List Nat, denP E 53 [.lst ma (a.map wd), .lst mb (b.map wd)] = some (.ret (.lst false (o.map wd))) ∧ InR o ∧ o.length = a.length ∧ val o = val a - val b := by
  refine denP_ex E53 rfl (by simp [AV.pureL, AV.pure, pure_wd]) ?_
  simp (maxSteps := 4000000) (disch := omega) only [go_sem, seval, ↓reduceIte, reduceCtorEq, ← List.map_take, ← List.map_drop, wrap64, wrapu64, wrapu32, ← Int.natCast_add, ← Int.natCast_mul, cast_succ, wrapu32_nat, shr32, reps_wd, map_set_wd, List.length_set, zs_len, Try.f53]
  refine W_loopS (fun k sl H nx => ∃ (i c : Nat) (o : List Nat), (∃ g : Nat → AV, sl = [.lst ma (a.map wd), .lst mb (b.map wd), g 2, g 3, g 4, .ref 0 0 a.length, .int .u64 c, .int .i64 i, g 8, g 9, g 10, g 11, g 12, g 13, g 14, g 15, g 16, g 17, g 18, g 19, g 20, g 21, g 22, g 23, g 24, g 25, g 26, g 27, g 28, g 29, g 30, g 31, g 32, g 33, g 34, g 35, g 36, g 37, g 38, g 39, g 40, g 41, g 42, g 43, g 44, g 45, g 46]) ∧ nx = 1 ∧
    H 0 = some ⟨o.map wd, false, 1, false⟩ ∧ o.length = a.length ∧ InR o ∧ c ≤ 1 ∧ i + k = a.length ∧ Hd (vp a i + c * BB ^ i = vp o i + vp b i)) a.length ⟨0, 0, _, garb rfl, rfl, rfl, zs_len _, zs_inR _, by omega, by omega, ⟨by simp [vp]⟩⟩ ?_
  rintro k _ H _ ⟨i, c, o, ⟨g, rfl⟩, rfl, hH, ho, hr, hc, hi, hv⟩
  have hx := ha.get i
  have hy := hb.get i
  by_cases hk : k = 0
  · obtain rfl : i = a.length := by omega
    have hval : val o = val a - val b := by
      have h1 := hv.out
      rw [vp_ge b _ lb, show vp a a.length = val a from rfl, ← ho, show vp o o.length = val o from rfl, ho] at h1
      have h2 := val_lt hr
      rw [ho] at h2
      rcases Nat.eq_zero_or_pos c with h | h
      · subst h; omega
      · have : c = 1 := by omega
        subst this; omega
    clear hv
    simp (maxSteps := 4000000) (disch := omega) only [go_sem, seval, ↓reduceIte, reduceCtorEq, ← List.map_take, ← List.map_drop, wrap64, wrapu64, wrapu32, ← Int.natCast_add, ← Int.natCast_mul, cast_succ, wrapu32_nat, shr32, reps_wd, map_set_wd, List.length_set, zs_len, hH, ho, List.take_of_length_le]
    exact ⟨o, rfl, hr, ho, hval⟩
  · by_cases hib : i < b.length
    · obtain ⟨X, hX⟩ : ∃ X : Nat, X = a.getD i 0 + 4294967296 - c - b.getD i 0 := ⟨_, rfl⟩
      have e1 : (((a.getD i 0 : Nat) : Int) + 4294967296 - (c : Int)) - ((b.getD i 0 : Nat) : Int) = (X : Int) := by omega
      have hX2 : X < 8589934592 := by omega
      have e2 : (1 : Int) - ((X / 4294967296 : Nat) : Int) = ((1 - X / 4294967296 : Nat) : Int) := by omega
      have hw : a.getD i 0 + (1 - X / 4294967296) * 4294967296 = X % 4294967296 + b.getD i 0 + c := by omega
      have hst := minus_step2 (o := o) (by omega) hv.out hw
      simp (maxSteps := 4000000) (disch := omega) only [go_sem, seval, ↓reduceIte, reduceCtorEq, ← List.map_take, ← List.map_drop, wrap64, wrapu64, wrapu32, ← Int.natCast_add, ← Int.natCast_mul, cast_succ, wrapu32_nat, shr32, reps_wd, map_set_wd, List.length_set, zs_len, hH, ho, e1, and_low, e2]
      refine ⟨k - 1, by omega, i + 1, 1 - X / 4294967296, o.set i (X % 4294967296), garb rfl, rfl, by rw [List.length_set, ho], hr.set (Nat.mod_lt _ (by decide)), by omega, by omega, ⟨hst⟩⟩
    · have h0 := getD_ge (l := b) (i := i) (by omega)
      obtain ⟨X, hX⟩ : ∃ X : Nat, X = a.getD i 0 + 4294967296 - c := ⟨_, rfl⟩
      have e1 : ((a.getD i 0 : Nat) : Int) + 4294967296 - (c : Int) = (X : Int) := by omega
      have hX2 : X < 8589934592 := by omega
      have e2 : (1 : Int) - ((X / 4294967296 : Nat) : Int) = ((1 - X / 4294967296 : Nat) : Int) := by omega
      have hw : a.getD i 0 + (1 - X / 4294967296) * 4294967296 = X % 4294967296 + b.getD i 0 + c := by omega
      have hst := minus_step2 (o := o) (by omega) hv.out hw
      simp (maxSteps := 4000000) (disch := omega) only [go_sem, seval, ↓reduceIte, reduceCtorEq, ← List.map_take, ← List.map_drop, wrap64, wrapu64, wrapu32, ← Int.natCast_add, ← Int.natCast_mul, cast_succ, wrapu32_nat, shr32, reps_wd, map_set_wd, List.length_set, zs_len, hH, ho, e1, and_low, e2]
      refine ⟨k - 1, by omega, i + 1, 1 - X / 4294967296, o.set i (X % 4294967296), garb rfl, rfl, by rw [List.length_set, ho], hr.set (Nat.mod_lt _ (by decide)), by omega, by omega, ⟨hst⟩⟩
end Go.Proofs.Ytnpomadbaanpkaa

/- Walks of the reference of chapter 1: sums and products of numbers with signs. (Own work of this repo.) -/
namespace Go.Proofs.Ytnpomadbaanpkaa
open Vm
set_option maxRecDepth 10000

theorem rMake_z {neg nl : Bool} {w : List Nat} {z : Int} (hw : InR w) (lw : w.length < 2 ^ 40) (h : sg neg (val w) = z) : denP E 50 [.bool neg, .lst nl (w.map wd)] = some (.ret (RM z)) := by
  have e : decide (val w = 0) = decide (z = 0) := by
    rw [← h, decide_eq_decide]; unfold sg; split <;> omega
  rw [rMake_spec neg nl w hw lw, h, e]
theorem rAdd_spec (ma : Bool) (x : Int) (mb : Bool) (y : Int) (hx : (dg x).length < 2 ^ 38) (hy : (dg y).length < 2 ^ 38) : denP E 22 [I ma x, I mb y] = some (.ret (RM (x + y))) := by
  refine denP_eq E22 rfl (by simp [AV.pureL, AV.pure, pure_wd]) ?_
  have h2 := rorder_spec ma x mb y (by omega) (by omega)
  cases hs : ng x == ng y with
  | true =>
    obtain ⟨o, h1, hr, ho, hv⟩ := rplus_walk ma (dg x) mb (dg y) (dg_inR x) (dg_inR y) (by omega) (by omega)
    rw [val_dg, val_dg] at hv
    have h3 := rMake_z (neg := ng x) (nl := false) (w := o) (z := x + y) hr (by omega) (by
      rw [hv]; rw [beq_iff_eq] at hs; revert hs; unfold sg ng; by_cases h : x < 0 <;> by_cases h' : y < 0 <;> simp [h, h'] <;> omega)
    simp (maxSteps := 4000000) (disch := omega) only [go_sem, seval, ↓reduceIte, reduceCtorEq, ← List.map_take, ← List.map_drop, wrap64, wrapu64, wrapu32, Try.f22, hs]
    refine W_drawn ?_
    simp (maxSteps := 4000000) (disch := omega) only [go_sem, seval, ↓reduceIte, reduceCtorEq, ← List.map_take, ← List.map_drop, wrap64, wrapu64, wrapu32, h1, h3]
    rfl
  | false =>
    by_cases hc : x.natAbs < y.natAbs
    · obtain ⟨o, h1, hr, ho, hv⟩ := rminus_walk mb (dg y) ma (dg x) (dg_inR y) (dg_inR x) (by omega) (dig_mono (by omega)) (by rw [val_dg, val_dg]; omega)
      rw [val_dg, val_dg] at hv
      have h3 := rMake_z (neg := ng y) (nl := false) (w := o) (z := x + y) hr (by omega) (by
        rw [hv]; rw [beq_eq_false_iff_ne] at hs; revert hs; unfold sg ng; by_cases h : x < 0 <;> by_cases h' : y < 0 <;> simp [h, h'] <;> omega)
      have hc' : cmpN x.natAbs y.natAbs = -1 := if_pos hc
      simp (maxSteps := 4000000) (disch := omega) only [go_sem, seval, ↓reduceIte, reduceCtorEq, ← List.map_take, ← List.map_drop, wrap64, wrapu64, wrapu32, Try.f22, hs, h2, hc']
      refine W_drawn ?_
      simp (maxSteps := 4000000) (disch := omega) only [go_sem, seval, ↓reduceIte, reduceCtorEq, ← List.map_take, ← List.map_drop, wrap64, wrapu64, wrapu32, h1, h3]
      rfl
    · obtain ⟨o, h1, hr, ho, hv⟩ := rminus_walk ma (dg x) mb (dg y) (dg_inR x) (dg_inR y) (by omega) (dig_mono (by omega)) (by rw [val_dg, val_dg]; omega)
      rw [val_dg, val_dg] at hv
      have h3 := rMake_z (neg := ng x) (nl := false) (w := o) (z := x + y) hr (by omega) (by
        rw [hv]; rw [beq_eq_false_iff_ne] at hs; revert hs; unfold sg ng; by_cases h : x < 0 <;> by_cases h' : y < 0 <;> simp [h, h'] <;> omega)
      have hc' : 0 ≤ cmpN x.natAbs y.natAbs := by unfold cmpN; rw [if_neg hc]; split <;> decide
      simp (maxSteps := 4000000) (disch := omega) only [go_sem, seval, ↓reduceIte, reduceCtorEq, ← List.map_take, ← List.map_drop, wrap64, wrapu64, wrapu32, Try.f22, hs, h2, hc']
      refine W_drawn ?_
      simp (maxSteps := 4000000) (disch := omega) only [go_sem, seval, ↓reduceIte, reduceCtorEq, ← List.map_take, ← List.map_drop, wrap64, wrapu64, wrapu32, h1, h3]
      rfl
theorem rMul_spec (ma : Bool) (x : Int) (mb : Bool) (y : Int) (hx : (dg x).length < 2 ^ 38) (hy : (dg y).length < 2 ^ 38) : denP E 19 [I ma x, I mb y] = some (.ret (RM (x * y))) := by
  have key : ∀ (na nb : Bool) (a b : List Nat), InR a → InR b → a.length < 2 ^ 38 → b.length < 2 ^ 38 → denP E 19 [iv na ma a, iv nb mb b] = some (.ret (RM (sg (na != nb) (val a * val b)))) := by
    intro na nb a b ha hb la lb
    refine denP_eq E19 rfl (by simp [AV.pureL, AV.pure, pure_wd]) ?_
    simp (maxSteps := 4000000) (disch := omega) only [go_sem, seval, ↓reduceIte, reduceCtorEq, ← List.map_take, ← List.map_drop, wrap64, wrapu64, wrapu32, ← Int.natCast_add, ← Int.natCast_mul, cast_succ, wrapu32_nat, shr32, reps_wd, map_set_wd, List.length_set, zs_len, Try.f19]
    refine W_loopS (fun k sl H nx => ∃ (i : Nat) (o : List Nat), (∃ g : Nat → AV, sl = [g 0, g 1, .ptr 0 0, .ptr 1 0, .ptr 2 0, .ref 3 0 (a.length + b.length), .int .i64 i, g 7, g 8, g 9, g 10, g 11, g 12, g 13, g 14, g 15, g 16, g 17, g 18, g 19, g 20, g 21, g 22, g 23, g 24, g 25, g 26, g 27, g 28, g 29, g 30, g 31, g 32, g 33, g 34, g 35, g 36, g 37, g 38, g 39, g 40, g 41, g 42, g 43, g 44, g 45, g 46, g 47, g 48, g 49, g 50, g 51, g 52, g 53, g 54, g 55, g 56, g 57, g 58, g 59, g 60, g 61, g 62, g 63, g 64, g 65, g 66, g 67, g 68, g 69, g 70, g 71, g 72, g 73, g 74, g 75, g 76, g 77, g 78, g 79]) ∧ nx = 4 ∧
      H 0 = some ⟨[.bool na, .lst ma (a.map wd)], true, 2, false⟩ ∧ H 1 = some ⟨[.bool nb, .lst mb (b.map wd)], true, 2, false⟩ ∧ H 2 = some ⟨[.bool false, .lst true []], true, 2, false⟩ ∧
      H 3 = some ⟨o.map wd, false, 1, false⟩ ∧ o.length = a.length + b.length ∧ InR o ∧ i + k = a.length ∧ Hd (vp o (i + b.length) = vp a i * val b) ∧ ∀ t, i + b.length ≤ t → o.getD t 0 = 0) a.length
      ⟨0, _, garb rfl, rfl, rfl, rfl, rfl, rfl, zs_len _, zs_inR _, by omega, ⟨by simp [vp, zs_vp]⟩, fun t _ => zs_get _ t⟩ ?_
    rintro k _ H _ ⟨i, o, ⟨g, rfl⟩, rfl, hH0, hH1, hH2, hH, ho, hr, hi, hv, hz⟩
    by_cases hk : k = 0
    · obtain rfl : i = a.length := by omega
      have hval : val o = val a * val b := by rw [val, ho]; exact hv.out
      have h3 := rMake_z (neg := na != nb) (nl := false) (w := o) (z := sg (na != nb) (val a * val b)) hr (by omega) (by rw [hval])
      have hb2 : (!(na == nb)) = (na != nb) := rfl
      clear hv
      simp (maxSteps := 4000000) (disch := omega) only [go_sem, seval, ↓reduceIte, reduceCtorEq, ← List.map_take, ← List.map_drop, wrap64, wrapu64, wrapu32, ← Int.natCast_add, ← Int.natCast_mul, cast_succ, wrapu32_nat, shr32, reps_wd, map_set_wd, List.length_set, zs_len, hH, hH0, hH1, hH2, ho, List.take_of_length_le, hb2, h3]
    · have hx := ha.get i
      simp (maxSteps := 4000000) (disch := omega) only [go_sem, seval, ↓reduceIte, reduceCtorEq, ← List.map_take, ← List.map_drop, wrap64, wrapu64, wrapu32, ← Int.natCast_add, ← Int.natCast_mul, cast_succ, wrapu32_nat, shr32, reps_wd, map_set_wd, List.length_set, zs_len, hH, hH0, hH1, hH2, ho]
      refine W_loopS (fun k sl H nx => ∃ (j c : Nat) (p : List Nat), (∃ g : Nat → AV, sl = [g 0, g 1, .ptr 0 0, .ptr 1 0, .ptr 2 0, .ref 3 0 (a.length + b.length), .int .i64 i, .int .u64 c, .int .i64 j, g 9, g 10, g 11, g 12, g 13, g 14, g 15, g 16, g 17, g 18, g 19, g 20, g 21, g 22, g 23, g 24, g 25, g 26, g 27, g 28, g 29, g 30, g 31, g 32, g 33, g 34, g 35, g 36, g 37, g 38, g 39, g 40, g 41, g 42, g 43, g 44, g 45, g 46, g 47, g 48, g 49, g 50, g 51, g 52, g 53, g 54, g 55, g 56, g 57, g 58, g 59, g 60, g 61, g 62, g 63, g 64, g 65, g 66, g 67, g 68, g 69, g 70, g 71, g 72, g 73, g 74, g 75, g 76, g 77, g 78, g 79]) ∧ nx = 4 ∧
        H 0 = some ⟨[.bool na, .lst ma (a.map wd)], true, 2, false⟩ ∧ H 1 = some ⟨[.bool nb, .lst mb (b.map wd)], true, 2, false⟩ ∧ H 2 = some ⟨[.bool false, .lst true []], true, 2, false⟩ ∧
        H 3 = some ⟨p.map wd, false, 1, false⟩ ∧ p.length = a.length + b.length ∧ InR p ∧ c < 4294967296 ∧ j + k = b.length ∧ Hd (vp p (i + j) + c * BB ^ (i + j) = vp o (i + j) + a.getD i 0 * vp b j * BB ^ i) ∧ ∀ t, i + j ≤ t → p.getD t 0 = o.getD t 0) b.length
        ⟨0, 0, _, garb rfl, rfl, hH0, hH1, hH2, hH, ho, hr, by omega, by omega, ⟨by simp [vp]⟩, fun t _ => rfl⟩ ?_
      rintro k' _ H' _ ⟨j, c, p, ⟨g, rfl⟩, rfl, hH0', hH1', hH2', hH', hp, hr', hc, hj, hv', hz'⟩
      by_cases hk' : k' = 0
      · obtain rfl : j = b.length := by omega
        simp (maxSteps := 4000000) (disch := omega) only [go_sem, seval, ↓reduceIte, reduceCtorEq, ← List.map_take, ← List.map_drop, wrap64, wrapu64, wrapu32, ← Int.natCast_add, ← Int.natCast_mul, cast_succ, wrapu32_nat, shr32, reps_wd, map_set_wd, List.length_set, zs_len, hH', hH0', hH1', hH2', hp]
        refine ⟨k - 1, by omega, i + 1, p.set (i + b.length) c, garb rfl, rfl, by rw [List.length_set, hp], hr'.set hc, by omega, ⟨?_⟩, fun t ht => ?_⟩
        · rw [show i + 1 + b.length = i + b.length + 1 by omega, vp, vp_set p _ _ _ (Nat.le_refl _), lget_set_self (by omega), hv'.out, hv.out, vp, Nat.add_mul]
          rw [show vp b b.length = val b from rfl]
          congr 1
          rw [Nat.mul_assoc, Nat.mul_assoc, Nat.mul_comm (val b)]
        · rw [lget_set_ne (by omega), hz' t (by omega), hz t (by omega)]
      · have hy := hb.get j
        have hw := hr.get (i + j)
        have hm := mul_word hx hy
        have e := hz' (i + j) (Nat.le_refl _)
        simp (maxSteps := 4000000) (disch := omega) only [go_sem, seval, ↓reduceIte, reduceCtorEq, ← List.map_take, ← List.map_drop, wrap64, wrapu64, wrapu32, ← Int.natCast_add, ← Int.natCast_mul, cast_succ, wrapu32_nat, shr32, reps_wd, map_set_wd, List.length_set, zs_len, hH', hH0', hH1', hH2', hp, e]
        refine W_drawn ?_
        simp (maxSteps := 4000000) (disch := omega) only [go_sem, seval, ↓reduceIte, reduceCtorEq, ← List.map_take, ← List.map_drop, wrap64, wrapu64, wrapu32, ← Int.natCast_add, ← Int.natCast_mul, cast_succ, wrapu32_nat, shr32, reps_wd, map_set_wd, List.length_set, zs_len, hH', hH0', hH1', hH2', hp, e]
        refine ⟨by rfl, ?_⟩
        have hs : (c + (a.getD i 0 * b.getD j 0 + o.getD (i + j) 0)) / 4294967296 < 4294967296 := by omega
        simp (maxSteps := 4000000) (disch := omega) only [go_sem, seval, ↓reduceIte, reduceCtorEq, ← List.map_take, ← List.map_drop, wrap64, wrapu64, wrapu32, ← Int.natCast_add, ← Int.natCast_mul, cast_succ, wrapu32_nat, shr32, reps_wd, map_set_wd, List.length_set, zs_len, hH', hH0', hH1', hH2', hp, e, and_low]
        refine ⟨k' - 1, by omega, j + 1, (c + (a.getD i 0 * b.getD j 0 + o.getD (i + j) 0)) / 4294967296, p.set (i + j) ((c + (a.getD i 0 * b.getD j 0 + o.getD (i + j) 0)) % 4294967296), garb rfl, rfl, by rw [List.length_set, hp], hr'.set (Nat.mod_lt _ (by decide)), hs, by omega, ⟨times_step (by omega) hv'.out rfl⟩, fun t ht => ?_⟩
        rw [lget_set_ne (by omega)]
        exact hz' t (by omega)
  have := key (ng x) (ng y) (dg x) (dg y) (dg_inR x) (dg_inR y) hx hy
  rwa [val_dg, val_dg, show sg (ng x != ng y) (x.natAbs * y.natAbs) = x * y from sg_mul x y] at this
end Go.Proofs.Ytnpomadbaanpkaa
