/- The machine over pure values: its runs without fuel. (Own work of this repo.) -/
import Derived.Test.YtpfcijgcjghgeaaVm20
set_option linter.unusedVariables false
set_option linter.unusedSimpArgs false
namespace Vm
open Go

abbrev Ag := Code → St → Option (Ex × St)
def AgLim (d : Ag) (an : Nat → Ag) : Prop := ∀ c σ r, d c σ = some r → ∃ n, ∀ m, n ≤ m → an m c σ = some r
structure ClLim (d : Cl) (an : Nat → Cl) : Prop where
  p : ∀ f l r, d.p f l = some r → ∃ n, ∀ m, n ≤ m → (an m).p f l = some r
  o : ∀ f l h nx r, d.o f l h nx = some r → ∃ n, ∀ m, n ≤ m → (an m).o f l h nx = some r

section
variable {E : Env} {d : Cl} {an : Nat → Cl}

theorem pcall_lim (hl : ClLim d an) {H : Heap} {g : FuncId} {l : List AV} {e : Eff} (h : pcallEff d.p H g l = some e) : ∃ n, ∀ m, n ≤ m → pcallEff (an m).p H g l = some e := by
  unfold pcallEff at h
  split at h
  · rename_i l' ids hm
    have key : ∃ r, d.p g l' = some r := by split at h <;> first | exact ⟨_, by assumption⟩ | cases h
    obtain ⟨r, hr⟩ := key
    obtain ⟨n, hn⟩ := hl.p _ _ _ hr
    refine ⟨n, fun m hm' => ?_⟩
    unfold pcallEff
    rw [hm]
    dsimp only
    rw [hn m hm', ← hr]
    exact h
  · cases h

theorem any_lim (hl : ClLim d an) {H : Heap} {nid : Nat} {s : List AV} {op : Op} {e : Eff} (h : anyEff E d.p H nid s op = some e) : ∃ n, ∀ m, n ≤ m → anyEff E (an m).p H nid s op = some e := by
  unfold anyEff at h
  split at h
  · rename_i g l ht
    obtain ⟨n, hn⟩ := pcall_lim hl h
    refine ⟨n, fun m hm => ?_⟩
    unfold anyEff
    rw [ht]
    exact hn m hm
  · rename_i ht
    refine ⟨0, fun m _ => ?_⟩
    unfold anyEff
    rw [ht]
    exact h

theorem runOps_lim (hl : ClLim d an) (all : List Oper) : ∀ (os : List Oper) (σ : St) (r : Ex × St), runOps E d all os σ = some r → ∃ n, ∀ m, n ≤ m → runOps E (an m) all os σ = some r
  | [], σ, r, h => ⟨0, fun _ _ => h⟩
  | o :: os, σ, r, h => by
    simp only [runOps] at h
    split at h
    · rename_i hw
      split at h
      · rename_i g l ht
        split at h
        · rename_i ho
          have key : ∃ q, d.o g l σ.h σ.nx = some q := by split at h <;> first | exact ⟨_, by assumption⟩ | cases h
          obtain ⟨q, hq⟩ := key
          obtain ⟨n1, hn1⟩ := hl.o _ _ _ _ _ hq
          rw [hq] at h
          obtain ⟨q1, h', n⟩ := q
          cases q1 with
          | ret v =>
            dsimp only at h
            obtain ⟨n2, hn2⟩ := runOps_lim hl all os _ r h
            refine ⟨max n1 n2, fun m hm => ?_⟩
            simp only [runOps, hw, ht, ho, if_true, hn1 m (by omega)]
            exact hn2 m (by omega)
          | panic v =>
            dsimp only at h
            refine ⟨n1, fun m hm => ?_⟩
            simp only [runOps, hw, ht, ho, if_true, hn1 m hm]
            exact h
        · rename_i ho
          have key : ∃ e, pcallEff d.p σ.h g l = some e := by split at h <;> first | exact ⟨_, by assumption⟩ | cases h
          obtain ⟨e, he⟩ := key
          obtain ⟨n1, hn1⟩ := pcall_lim hl he
          rw [he] at h
          dsimp only at h
          split at h
          · rename_i v hv
            obtain ⟨n2, hn2⟩ := runOps_lim hl all os _ r h
            refine ⟨max n1 n2, fun m hm => ?_⟩
            simp only [runOps, hw, ht, if_neg ho, hn1 m (by omega), hv]
            exact hn2 m (by omega)
          · rename_i hv
            obtain ⟨n2, hn2⟩ := runOps_lim hl all os _ r h
            refine ⟨max n1 n2, fun m hm => ?_⟩
            simp only [runOps, hw, ht, if_neg ho, hn1 m (by omega), hv]
            exact hn2 m (by omega)
          · rename_i v hv
            refine ⟨n1, fun m hm => ?_⟩
            simp only [runOps, hw, ht, if_neg ho, hn1 m hm, hv]
            exact h
      · rename_i ht
        split at h
        · rename_i e he
          split at h
          · rename_i v hv
            obtain ⟨n2, hn2⟩ := runOps_lim hl all os _ r h
            refine ⟨n2, fun m hm => ?_⟩
            simp only [runOps, hw, ht, he, hv]
            exact hn2 m hm
          · rename_i hv
            obtain ⟨n2, hn2⟩ := runOps_lim hl all os _ r h
            refine ⟨n2, fun m hm => ?_⟩
            simp only [runOps, hw, ht, he, hv]
            exact hn2 m hm
          · rename_i v hv
            refine ⟨0, fun m hm => ?_⟩
            simp only [runOps, hw, ht, he, hv]
            exact h
        · cases h
    · rename_i hw
      obtain ⟨n2, hn2⟩ := runOps_lim hl all os _ r h
      refine ⟨n2, fun m hm => ?_⟩
      simp only [runOps, hw]
      exact hn2 m hm
    · cases h

theorem recs_lim (hl : ClLim d an) (all : List Oper) : ∀ (os : List Oper) (i : Nat) (p : Option (Nat × AV)) (σ : St) (r : List Rec × Option (Nat × AV) × St), recs E d.p all os i p σ = some r → ∃ n, ∀ m, n ≤ m → recs E (an m).p all os i p σ = some r
  | [], i, p, σ, r, h => ⟨0, fun _ _ => h⟩
  | o :: os, i, p, σ, r, h => by
    have sub : ∀ {i : Nat} {p : Option (Nat × AV)} {σ : St} {f : List Rec × Option (Nat × AV) × St → Option (List Rec × Option (Nat × AV) × St)}, (match recs E d.p all os i p σ with
        | some (rs, p', σ') => f (rs, p', σ')
        | none => none) = some r → ∃ q n, recs E d.p all os i p σ = some q ∧ f q = some r ∧ ∀ m, n ≤ m → recs E (an m).p all os i p σ = some q := by
      intro i p σ f h
      split at h
      · rename_i rs p' σ' hq
        obtain ⟨n, hn⟩ := recs_lim hl all os _ _ _ _ hq
        exact ⟨_, n, hq, h, hn⟩
      · cases h
    simp only [recs] at h
    split at h
    · rename_i hb
      obtain ⟨q, n, hq, hf, hn⟩ := sub (f := fun q => some (_ :: q.1, q.2.1, q.2.2)) h
      refine ⟨n, fun m hm => ?_⟩
      simp only [recs]
      split
      · rw [hn m hm]; exact hf
      · rename_i hb'; rw [hb] at hb'; cases hb'
    · rename_i hb
      split at h
      · rename_i hw
        split at h
        · rename_i e he
          obtain ⟨n1, hn1⟩ := any_lim hl he
          split at h
          · rename_i v hv
            obtain ⟨q, n, hq, hf, hn⟩ := sub (f := fun q => some (_ :: q.1, q.2.1, q.2.2)) h
            refine ⟨max n1 n, fun m hm => ?_⟩
            simp only [recs]
            split
            · rename_i hb2; rw [hb] at hb2; cases hb2
            · simp only [hw, hn1 m (by omega), hv]
              rw [hn m (by omega)]; exact hf
          · rename_i hv
            obtain ⟨q, n, hq, hf, hn⟩ := sub (f := fun q => some (_ :: q.1, q.2.1, q.2.2)) h
            refine ⟨max n1 n, fun m hm => ?_⟩
            simp only [recs]
            split
            · rename_i hb2; rw [hb] at hb2; cases hb2
            · simp only [hw, hn1 m (by omega), hv]
              rw [hn m (by omega)]; exact hf
          · rename_i v hv
            split at h <;> try cases h
            split at h <;> try cases h
            rename_i hc
            obtain ⟨q, n, hq, hf, hn⟩ := sub (f := fun q => some (_ :: q.1, q.2.1, q.2.2)) h
            refine ⟨max n1 n, fun m hm => ?_⟩
            simp only [recs]
            simp only [Bool.false_eq_true, hw, hn1 m (by omega), hv, hc, if_true]
            rw [hn m (by omega)]; exact hf
        · cases h
      · rename_i hw
        obtain ⟨q, n, hq, hf, hn⟩ := sub (f := fun q => some (_ :: q.1, q.2.1, q.2.2)) h
        refine ⟨n, fun m hm => ?_⟩
        simp only [recs]
        split
        · rename_i hb2; rw [hb] at hb2; cases hb2
        · simp only [hw]
          rw [hn m (by omega)]; exact hf
      · cases h

theorem draw_lim (hl : ClLim d an) {ops : List Oper} {σ : St} {r : Ex × St} (h : runDraw E d ops σ = some r) : ∃ n, ∀ m, n ≤ m → runDraw E (an m) ops σ = some r := by
  unfold runDraw at h
  have key : ∃ q, recs E d.p ops ops 0 none σ = some q := by split at h <;> first | exact ⟨_, by assumption⟩ | cases h
  obtain ⟨q, hq⟩ := key
  obtain ⟨n, hn⟩ := recs_lim hl ops ops 0 none σ q hq
  refine ⟨n, fun m hm => ?_⟩
  unfold runDraw
  rw [hn m hm, ← hq]
  exact h

theorem step_lim (hl : ClLim d an) {da : Ag} {aa : Nat → Ag} (ha : AgLim da aa) : ∀ (c : Code) (σ : St) (r : Ex × St), step E d da c σ = some r → ∃ n, ∀ m, n ≤ m → step E (an m) (aa m) c σ = some r := by
  intro c
  induction c with
  | skip => intro σ r h; exact ⟨0, fun _ _ => h⟩
  | region id ops draw =>
    intro σ r h
    simp only [step] at h
    split at h
    · rename_i hd
      obtain ⟨n, hn⟩ := draw_lim hl h
      exact ⟨n, fun m hm => by simp only [step, hd, if_true]; exact hn m hm⟩
    · rename_i hd
      obtain ⟨n, hn⟩ := runOps_lim hl _ _ _ _ h
      exact ⟨n, fun m hm => by simp only [step, if_neg hd]; exact hn m hm⟩
  | seq x y ihx ihy =>
    intro σ r h
    simp only [step] at h
    have key : ∃ q, step E d da x σ = some q := by split at h <;> first | exact ⟨_, by assumption⟩ | cases h
    obtain ⟨q, hq⟩ := key
    obtain ⟨n, hn⟩ := ihx σ q hq
    rw [hq] at h
    obtain ⟨ex, σ'⟩ := q
    cases ex with
    | norm =>
      dsimp only at h
      obtain ⟨n2, hn2⟩ := ihy σ' r h
      refine ⟨max n n2, fun m hm => ?_⟩
      simp only [step]
      rw [hn m (by omega)]
      exact hn2 m (by omega)
    | _ =>
      refine ⟨n, fun m hm => ?_⟩
      simp only [step]
      rw [hn m (by omega)]
      exact h
  | cond c x y ihx ihy =>
    intro σ r h
    simp only [step] at h
    split at h
    · rename_i he
      obtain ⟨n, hn⟩ := ihx σ r h
      exact ⟨n, fun m hm => by simp only [step, he]; exact hn m hm⟩
    · rename_i he
      obtain ⟨n, hn⟩ := ihy σ r h
      exact ⟨n, fun m hm => by simp only [step, he]; exact hn m hm⟩
    · cases h
  | block i c ih =>
    intro σ r h
    simp only [step] at h
    have key : ∃ q, step E d da c σ = some q := by split at h <;> first | exact ⟨_, by assumption⟩ | cases h
    obtain ⟨q, hq⟩ := key
    obtain ⟨n, hn⟩ := ih σ q hq
    rw [hq] at h
    refine ⟨n, fun m hm => ?_⟩
    simp only [step]
    rw [hn m (by omega)]
    exact h
  | loop c ih =>
    intro σ r h
    simp only [step] at h
    have key : ∃ q, da c σ = some q := by split at h <;> first | exact ⟨_, by assumption⟩ | cases h
    obtain ⟨q, hq⟩ := key
    obtain ⟨n, hn⟩ := ha c σ q hq
    rw [hq] at h
    obtain ⟨ex, σ'⟩ := q
    cases ex with
    | norm =>
      dsimp only at h
      obtain ⟨n2, hn2⟩ := ha _ σ' r h
      refine ⟨max n n2, fun m hm => ?_⟩
      simp only [step]
      rw [hn m (by omega)]
      exact hn2 m (by omega)
    | _ =>
      refine ⟨n, fun m hm => ?_⟩
      simp only [step]
      rw [hn m (by omega)]
      exact h
  | exit i => intro σ r h; exact ⟨0, fun _ _ => h⟩
  | ret => intro σ r h; exact ⟨0, fun _ _ => h⟩
  | _ => intro σ r h; simp [step] at h
end

theorem cl_lim {E : Env} {da : Ag} {aa : Nat → Ag} (ha : AgLim da aa) : ClLim (cl E da) (fun m => cl E (aa m)) := by
  have hb : ∀ f l h nx r, body E da f l h nx = some r → ∃ n, ∀ m, n ≤ m → body E (aa m) f l h nx = some r := by
    intro f l h nx r hb
    unfold body at hb
    split at hb <;> try cases hb
    rename_i fn hfn
    split at hb <;> try cases hb
    rename_i c hc
    have key : ∃ q, da c ⟨l ++ List.replicate (fn.ntmps - l.length) undef, h, nx⟩ = some q := by split at hb <;> first | exact ⟨_, by assumption⟩ | cases hb
    obtain ⟨q, hq⟩ := key
    obtain ⟨n, hn⟩ := ha _ _ _ hq
    refine ⟨n, fun m hm => ?_⟩
    unfold body
    rw [hfn]
    dsimp only
    rw [hc]
    dsimp only
    rw [hn m hm, ← hq]
    exact hb
  refine ⟨fun f l r h => ?_, hb⟩
  simp only [cl, bodyP] at h ⊢
  split at h
  · rename_i hp
    have key : ∃ q, body E da f l Heap.empty 0 = some q := by split at h <;> first | exact ⟨_, by assumption⟩ | cases h
    obtain ⟨q, hq⟩ := key
    obtain ⟨n, hn⟩ := hb _ _ _ _ _ hq
    refine ⟨n, fun m hm => ?_⟩
    rw [if_pos hp, hn m hm, ← hq]
    exact h
  · cases h

theorem exec_succ {E : Env} {n : Nat} : ∀ (c : Code) (σ : St) (r : Ex × St), exec E n c σ = some r → exec E (n + 1) c σ = some r := by
  induction n with
  | zero => intro c σ r h; simp [exec] at h
  | succ n ih =>
    intro c σ r h
    have ha : AgLim (exec E n) (fun _ => exec E (n + 1)) := fun c σ r h => ⟨0, fun _ _ => ih c σ r h⟩
    obtain ⟨k, hk⟩ := step_lim (cl_lim ha) ha c σ r h
    exact hk k (Nat.le_refl _)
theorem exec_mono {E : Env} {n m : Nat} (h : n ≤ m) {c : Code} {σ : St} {r : Ex × St} (hr : exec E n c σ = some r) : exec E m c σ = some r := by
  induction h with
  | refl => exact hr
  | step _ ih => exact exec_succ _ _ _ ih

open Classical in
/-- What a piece of code comes to. -/
noncomputable def den (E : Env) : Ag := fun c σ => if h : ∃ n r, exec E n c σ = some r then exec E h.choose c σ else none
theorem den_iff {E : Env} {c : Code} {σ : St} {r : Ex × St} : den E c σ = some r ↔ ∃ n, exec E n c σ = some r := by
  unfold den
  split
  · rename_i h
    constructor
    · exact fun hr => ⟨_, hr⟩
    · rintro ⟨n, hn⟩
      obtain ⟨r', hr'⟩ := h.choose_spec
      rcases Nat.le_total n h.choose with hle | hle
      · exact exec_mono hle hn
      · have := exec_mono hle hr'
        rw [hn] at this
        cases this
        exact hr'
  · rename_i h
    exact ⟨fun h => (by cases h), fun ⟨n, hn⟩ => absurd ⟨n, r, hn⟩ h⟩
theorem den_lim (E : Env) : AgLim (den E) (exec E) := fun c σ r h => let ⟨n, hn⟩ := den_iff.1 h; ⟨n, fun m hm => exec_mono hm hn⟩
/-- It is the fixed point of the step. -/
theorem den_eq (E : Env) (c : Code) (σ : St) : den E c σ = step E (cl E (den E)) (den E) c σ := by
  refine Option.ext fun r => ?_
  constructor
  · intro h
    obtain ⟨n, hn⟩ := den_iff.1 h
    cases n with
    | zero => simp [exec] at hn
    | succ n =>
      have ha : AgLim (exec E n) (fun _ => den E) := fun c σ r h => ⟨0, fun _ _ => den_iff.2 ⟨n, h⟩⟩
      obtain ⟨k, hk⟩ := step_lim (cl_lim ha) ha c σ r hn
      exact hk k (Nat.le_refl _)
  · intro h
    obtain ⟨n, hn⟩ := step_lim (cl_lim (den_lim E)) (den_lim E) c σ r h
    exact den_iff.2 ⟨n + 1, hn n (Nat.le_refl _)⟩

noncomputable def denP (E : Env) : FuncId → List AV → Option Res := bodyP E (den E)
noncomputable def denO (E : Env) : FuncId → List AV → Heap → Nat → Option (Res × Heap × Nat) := body E (den E)

theorem den_ok {P : Program} {E : Env} (hE : POk P E) : CodeOk P (den E) := by
  intro c hc σ r h
  obtain ⟨n, hn⟩ := den_iff.1 h
  exact (exec_ok hE n).1 c hc σ r hn
theorem denP_ok {P : Program} {E : Env} (hE : POk P E) : PureOk P (denP E) := bodyP_ok hE (den_ok hE)
theorem denO_ok {P : Program} {E : Env} (hE : POk P E) : BodyOk P (denO E) := body_ok hE (den_ok hE)
theorem denP_of {E : Env} {f : FuncId} {l : List AV} {r : Res} {n : Nat} (h : bodyP E (exec E n) f l = some r) : denP E f l = some r := by
  have ha : AgLim (exec E n) (fun _ => den E) := fun c σ r h => ⟨0, fun _ _ => den_iff.2 ⟨n, h⟩⟩
  obtain ⟨k, hk⟩ := (cl_lim (E := E) ha).p f l r h
  exact hk k (Nat.le_refl _)
end Vm
