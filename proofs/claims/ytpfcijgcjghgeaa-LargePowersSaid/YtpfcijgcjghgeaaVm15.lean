/- The machine over pure values and the model's world: calls, and a statement whose order is fixed. (Own work of this repo.) -/
import Derived.Test.YtpfcijgcjghgeaaVm14
set_option linter.unusedVariables false
set_option linter.unusedSimpArgs false
namespace Vm
open Go

/-- One entry of a panic. -/
def entry (v : Value) : PanicEntry := { v, recovered := false }
/-- A call over a heap: what is asked of it. -/
def BodyOk (P : Program) (b : FuncId → List AV → Heap → Nat → Option (Res × Heap × Nat)) : Prop :=
  ∀ (f : FuncId) (l : List AV) (H : Heap) (nx : Nat) (r : Res) (H' : Heap) (nx' : Nat), b f l H nx = some (r, H', nx') → ∀ (C : Cx) (vs : Array Value), C.H = H → (C.B = fun i => i < nx) → C.Ok → RepL C vs.toList l →
    (∃ fn, P.funcs[f]? = some fn ∧ fn.name ≠ "runtime.NumGoroutine" ∧ fn.body.isSome = true) ∧
    Calls P f vs C.w fun e w' => ∃ C', C'.w = w' ∧ C'.H = H' ∧ (C'.B = fun i => i < nx') ∧ C'.Ok ∧ C.Le C' ∧ match r with
      | .ret x => ∃ v, e = .returned v ∧ Rep C' v x
      | .panic x => ∃ v, e = .panicked [entry v] ∧ Rep C' v x
/-- A call over a heap of its own. -/
def PureOk (P : Program) (dp : FuncId → List AV → Option Res) : Prop :=
  ∀ (f : FuncId) (l : List AV) (r : Res), dp f l = some r → ∀ (C : Cx) (vs : Array Value), C.Ok → RepL C vs.toList l → AV.pureL l = true →
    (∃ fn, P.funcs[f]? = some fn ∧ fn.name ≠ "runtime.NumGoroutine" ∧ fn.body.isSome = true) ∧
    Calls P f vs C.w fun e w' => C.Le { C with w := w' } ∧ ({ C with w := w' } : Cx).Ok ∧ match r with
      | .ret x => ∃ v, e = .returned v ∧ Rep { C with w := w' } v x ∧ x.pure = true
      | .panic x => ∃ v, e = .panicked [entry v] ∧ Rep { C with w := w' } v x ∧ x.pure = true

theorem wpOps_mono {P : Program} {ops : Array Oper} {Q Q' : Exit → Act → World → Prop} (hq : ∀ e a w, Q e a w → Q' e a w) : ∀ (l : List Nat) (a : Act) (w : World), wpOps P ops Q l a w → wpOps P ops Q' l a w
  | [], a, w, h => hq _ _ _ h
  | i :: rest, a, w, h => by
    simp only [wpOps] at h ⊢
    split
    · rename_i hn; simp only [hn] at h; exact wpOps_mono hq rest a w h
    · rename_i o ho
      simp only [ho] at h
      split
      · rename_i hw
        rw [if_pos hw] at h
        rcases h with h | ⟨h1, a', w', h2⟩
        · left
          unfold Oper.wp at h ⊢
          generalize (execOp a.eval o).run P w = r at *
          cases r with
          | ok n w' =>
            cases n <;> simp only [Oper.upon] at h ⊢ <;> first
              | exact wpOps_mono hq rest _ _ h
              | exact Calls.mono h (fun e w'' he => by
                  cases e with
                  | returned v => exact wpOps_mono hq rest _ _ he
                  | panicked c => exact hq _ _ _ he
                  | outgrown => obtain ⟨a', w', h'⟩ := he; exact ⟨a', w', hq _ _ _ h'⟩)
              | exact Rows.mono h (fun _ _ he => wpOps_mono hq rest _ _ he)
              | exact h
          | halt x w' => cases x <;> simp only [Oper.upon] at h ⊢ <;> first | exact hq _ _ _ h | exact h
        · exact .inr ⟨h1, a', w', hq _ _ _ h2⟩
      · rename_i hw
        rw [if_neg hw] at h
        exact wpOps_mono hq rest _ _ h

section
variable {P : Program} {E : Env} {o : Oper} {a : Act} {C : Cx} {nid : Nat} {sl : List AV}

def IsFn (P : Program) (g : FuncId) : Prop := ∃ fn, P.funcs[g]? = some fn ∧ fn.name ≠ "runtime.NumGoroutine" ∧ fn.body.isSome = true
/-- What a call's operation does in the model. -/
theorem target_run (hs : SRel C sl a.tmps) {g : FuncId} {l : List AV} (ht : target sl o.op = some (g, l)) :
    ∃ vs : Array Value, RepL C vs.toList l ∧ (IsFn P g → (execOp a.eval o).run P C.w = .ok (.enter g vs) C.w) := by
  unfold target at ht
  split at ht <;> try cases ht
  rename_i c hop
  split at ht <;> try cases ht
  rename_i f hc
  split at ht <;> cases ht
  rename_i x y z hl hf'
  have hr := ev_rep hs hf'
  have hrl := evs_rep hs hl
  cases hx : a.eval f <;> rw [hx] at hr <;> cases hr
  rename_i fi ca h1 r1 h2 r2
  refine ⟨fi ++ c.args.map a.eval ++ ca, ?_, ?_⟩
  · simp only [Array.toList_append, Array.toList_map]
    refine RepL.app (RepL.app (RepL.of_get (by simpa using h1) fun j v x hv hx => r1 j v x (by simpa using hv) hx) hrl) (RepL.of_get (by simpa using h2) fun j v x hv hx => r2 j v x (by simpa using hv) hx)
  · rintro ⟨fn, q1, q2, q3⟩
    have hn : fn.body.isNone = false := by cases hb : fn.body <;> simp_all
    have hq : (fn.name == "runtime.NumGoroutine") = false := by simpa using q2
    simp only [execOp, hop, resolve, hc, hx, Deferred.ofValue, Sem.run_bind, Sem.run_pure, Result.andThen_ok, invoke, callFunc, run_program, q1, hq, hn, Bool.false_eq_true, if_false]

/-- A call over a heap of its own, as an operation. -/
theorem pcall_ok {dp : FuncId → List AV → Option Res} (hp : PureOk P dp) (h : C.Ok) (hs : SRel C sl a.tmps) {g : FuncId} {l : List AV} (ht : target sl o.op = some (g, l)) {e : Eff} (he : pcallEff dp C.H g l = some e)
    {K : Act → World → Prop} {Q : Exit → Act → World → Prop}
    (hK : ∀ v x C', e.out = .val x → After C e nid C' → Rep C' v x → K (a.put o.dst v) C'.w) (hQ : ∀ v x C', e.out = .panic x → After C e nid C' → Rep C' v x → Q (.panic [entry v]) a C'.w) :
    o.wp P a C.w K Q := by
  obtain ⟨vs, hrl, hrun⟩ := target_run (P := P) hs ht
  unfold pcallEff at he
  split at he <;> try cases he
  rename_i l' ids hl
  obtain ⟨r1, r2⟩ := purifyL_sound h hl hrl
  have hfr := h.freeze ids
  have key : ∀ r, dp g l' = some r → (execOp a.eval o).run P C.w = .ok (.enter g vs) C.w ∧ Calls P g vs C.w fun e w' => (C.fr ids).Le { C.fr ids with w := w' } ∧ ({ C.fr ids with w := w' } : Cx).Ok ∧ match r with
      | .ret x => ∃ v, e = .returned v ∧ Rep { C.fr ids with w := w' } v x ∧ x.pure = true
      | .panic x => ∃ v, e = .panicked [entry v] ∧ Rep { C.fr ids with w := w' } v x ∧ x.pure = true := fun r hr => by
    obtain ⟨q1, q2⟩ := hp g l' r hr (C.fr ids) vs hfr.2 r1 r2
    exact ⟨hrun q1, q2⟩
  split at he <;> cases he
  · rename_i x hd
    obtain ⟨hrun, hcall⟩ := key _ hd
    unfold Oper.wp
    rw [hrun]
    refine Calls.mono hcall ?_
    rintro e' w' ⟨le, ok, v, rfl, hr, _⟩
    exact hK v x { C.fr ids with w := w' } rfl ⟨rfl, by funext i; simp [Cx.fr], ok, hfr.1.trans le⟩ hr
  · rename_i x hd
    obtain ⟨hrun, hcall⟩ := key _ hd
    unfold Oper.wp
    rw [hrun]
    refine Calls.mono hcall ?_
    rintro e' w' ⟨le, ok, v, rfl, hr, _⟩
    exact hQ v x { C.fr ids with w := w' } rfl ⟨rfl, by funext i; simp [Cx.fr], ok, hfr.1.trans le⟩ hr

/-- Any operation whose effect is told, in the model's own words. -/
theorem any_wp (hE : EOk P E) {dp : FuncId → List AV → Option Res} (hp : PureOk P dp) (h : C.Ok) (hs : SRel C sl a.tmps) (hn : C.H nid = none) (hB : ¬ C.B nid) {e : Eff} (he : anyEff E dp C.H nid sl o.op = some e)
    {K : Act → World → Prop} {Q : Exit → Act → World → Prop}
    (hK : ∀ v x C', (e.out = .val x ∨ (e.out = .skip ∧ v = Go.undef ∧ x = undef)) → After C e nid C' → Rep C' v x → K (a.put o.dst v) C'.w)
    (hQ : ∀ v x C', e.out = .panic x → After C e nid C' → Rep C' v x → Q (.panic [entry v]) a C'.w) : o.wp P a C.w K Q := by
  unfold anyEff at he
  split at he
  · rename_i g l ht
    exact pcall_ok (nid := nid) hp h hs ht he (fun v x C' ho => hK v x C' (.inl ho)) hQ
  · have := op_ok hE h hs hn hB he
    unfold OpOk at this
    unfold Oper.wp
    split at this
    · rename_i x hout
      obtain ⟨v, C', hrun, hA, hr⟩ := this
      rw [hrun]
      exact hK v x C' (.inl hout) hA hr
    · rename_i hout
      obtain ⟨C', hrun, hA⟩ := this
      rw [hrun]
      exact hK Go.undef undef C' (.inr ⟨hout, rfl, rfl⟩) hA (rep_undef _)
    · rename_i x hout
      obtain ⟨v, hrun, hr, hu, hnw⟩ := this
      rw [hrun]
      have hA : After C e nid C := by
        obtain ⟨out, rds, ups, new⟩ := e
        simp only at hu hnw
        subst hu hnw
        exact .same h
      exact hQ v x C hout hA hr

/-! #### regions in the order of the text -/
/-- What a piece of code comes to. -/
def ExRel (C : Cx) (a0 : Act) (r : Ex × St) : Exit → Act → World → Prop := fun e a w => ∃ C', C'.w = w ∧ C'.H = r.2.h ∧ (C'.B = fun i => i < r.2.nx) ∧ C'.Ok ∧ C.Le C' ∧ a.defers = a0.defers ∧
  match r.1 with
  | .norm => e = .normal ∧ SRel C' r.2.sl a.tmps
  | .exit i => e = .exit i ∧ SRel C' r.2.sl a.tmps
  | .ret => e = .ret ∧ SRel C' r.2.sl a.tmps
  | .panic x => ∃ v, e = .panic [entry v] ∧ Rep C' v x
theorem ExRel.le {C C1 : Cx} {a0 a1 : Act} (h : C.Le C1) (hd : a1.defers = a0.defers) {r : Ex × St} {e : Exit} {a : Act} {w : World} (g : ExRel C1 a1 r e a w) : ExRel C a0 r e a w := by
  obtain ⟨C', h1, h2, h3, h4, h5, h6, h7⟩ := g
  exact ⟨C', h1, h2, h3, h4, h.trans h5, h6.trans hd, h7⟩

theorem want_ok {all : Array Oper} (hs : SRel C sl a.tmps) {b : Bool} (h : want all.toList sl o = some b) : Region.wanted o (yielded all a.tmps) = b := by
  unfold want at h
  unfold Region.wanted
  split at h
  · rename_i hg; rw [hg]; cases h; rfl
  · rename_i j w hg
    rw [hg]
    dsimp only
    unfold yielded
    rw [Array.getElem?_toList] at h
    split at h
    · rename_i hn
      cases h
      simp [hn]
    · rename_i q hq
      rw [hq]
      split at h
      · rename_i hd
        cases h
        simp [hd]
      · rename_i d hd
        simp only [Option.bind_some, hd]
        split at h
        · rename_i hn
          cases h
          have : a.tmps[d]? = none := by
            rw [Array.getElem?_eq_none_iff]
            have := List.getElem?_eq_none_iff.1 hn
            rw [← hs.1] at this
            exact this
          simp [this]
        · rename_i b' hb
          cases h
          have hlt : d < a.tmps.size := by rw [hs.1]; exact (List.getElem?_eq_some_iff.1 hb).1
          have hv : a.tmps[d]? = some a.tmps[d] := Array.getElem?_eq_getElem hlt
          have := rep_bool (hs.2 d _ _ hv hb)
          rw [hv, this]
          simp
        · rename_i cs hb
          cases h
          have hlt : d < a.tmps.size := by rw [hs.1]; exact (List.getElem?_eq_some_iff.1 hb).1
          have hv : a.tmps[d]? = some a.tmps[d] := Array.getElem?_eq_getElem hlt
          have hr := hs.2 d _ _ hv hb
          rw [hv]
          generalize a.tmps[d] = v at hr
          cases hr
          simp
        · cases h

theorem nx_fresh {H : Heap} {nx : Nat} (h : C.Ok) (hH : C.H = H) (hB : C.B = fun i => i < nx) : C.H nx = none ∧ ¬ C.B nx := by
  have h2 : ¬ C.B nx := by rw [hB]; exact Nat.lt_irrefl _
  refine ⟨?_, h2⟩
  cases hh : C.H nx with
  | none => rfl
  | some b => exact absurd (h.born _ _ hh) h2

theorem runOps_ok (hE : EOk P E) {cl : Cl} (hp : PureOk P cl.p) (ho : BodyOk P cl.o) (all : Array Oper) : ∀ (os : List Oper) (i : Nat) (σ : St) (r : Ex × St), (∀ j, os[j]? = all[i + j]?) → runOps E cl all.toList os σ = some r →
    ∀ (C : Cx) (a : Act), C.H = σ.h → (C.B = fun i => i < σ.nx) → C.Ok → SRel C σ.sl a.tmps → wpOps P all (ExRel C a r) (List.range' i os.length) a C.w
  | [], i, σ, r, _, hr, C, a, hH, hB, hok, hs => by
    simp only [runOps, Option.some.injEq] at hr
    subst hr
    exact ⟨C, rfl, hH, hB, hok, Cx.Le.refl C, rfl, rfl, hs⟩
  | o :: os, i, σ, r, hall, hr, C, a, hH, hB, hok, hs => by
    simp only [List.length_cons, List.range'_succ, wpOps]
    have h0 : all[i]? = some o := by have := hall 0; simpa using this.symm
    rw [h0]
    dsimp only
    have hall' : ∀ j, os[j]? = all[i + 1 + j]? := fun j => by have := hall (j + 1); simp only [List.getElem?_cons_succ] at this; rw [this]; congr 1; omega
    have next : ∀ (C1 : Cx) (a1 : Act) (σ1 : St), C1.H = σ1.h → (C1.B = fun i => i < σ1.nx) → C1.Ok → SRel C1 σ1.sl a1.tmps → C.Le C1 → a1.defers = a.defers → runOps E cl all.toList os σ1 = some r →
        wpOps P all (ExRel C a r) (List.range' (i + 1) os.length) a1 C1.w := by
      intro C1 a1 σ1 g1 g2 g3 g4 g5 g6 g7
      have := runOps_ok hE hp ho all os (i + 1) σ1 r hall' g7 C1 a1 g1 g2 g3 g4
      exact wpOps_mono (fun e a w => ExRel.le g5 g6) _ _ _ this
    have hnx := nx_fresh hok hH hB
    have hput : ∀ (v : Value), (a.put o.dst v).defers = a.defers := fun v => by unfold Act.put; split <;> rfl
    simp only [runOps] at hr
    split at hr
    · rename_i hw
      rw [want_ok hs hw, if_pos rfl]
      refine .inl ?_
      split at hr
      · rename_i g l ht
        split at hr
        · -- over the caller's heap
          obtain ⟨vs, hrl, hrun⟩ := target_run (P := P) hs ht
          split at hr
          · rename_i v h n hc
            obtain ⟨q1, q2⟩ := ho g l _ _ _ _ _ hc C vs hH hB hok hrl
            unfold Oper.wp
            rw [hrun q1]
            refine Calls.mono q2 ?_
            rintro e' w' ⟨C', rfl, p1, p2, p3, p4, u, rfl, hu⟩
            exact next C' _ _ p1 p2 p3 ((hs.le p4).put o.dst hu) p4 (hput u) hr
          · rename_i v h n hc
            obtain ⟨q1, q2⟩ := ho g l _ _ _ _ _ hc C vs hH hB hok hrl
            cases hr
            unfold Oper.wp
            rw [hrun q1]
            refine Calls.mono q2 ?_
            rintro e' w' ⟨C', rfl, p1, p2, p3, p4, u, rfl, hu⟩
            exact ⟨C', rfl, p1, p2, p3, p4, rfl, u, rfl, hu⟩
          · cases hr
        · split at hr
          · rename_i e he
            have hBn : ∀ C', After C e σ.nx C' → e.new = false → (C'.B = fun i => i < σ.nx) := fun C' hA hn => by rw [hA.B, hB]; funext i; simp [hn]
            have hnew : e.new = false := by
              unfold pcallEff at he
              split at he <;> try cases he
              split at he <;> cases he <;> rfl
            refine pcall_ok (nid := σ.nx) hp hok hs ht (by rw [hH]; exact he) (fun v x C' hout hA hv => ?_) (fun v x C' hout hA hv => ?_)
            · rw [hout] at hr
              refine next C' _ _ ?_ ?_ hA.ok ((hs.le hA.le).put o.dst hv) hA.le (hput v) hr
              · rw [hA.H, hH]; rfl
              · rw [hBn C' hA hnew]; simp [St.put, St.eff, hnew]
            · rw [hout] at hr
              cases hr
              refine ⟨C', rfl, by rw [hA.H, hH]; rfl, ?_, hA.ok, hA.le, rfl, v, rfl, hv⟩
              rw [hBn C' hA hnew]; simp [St.eff, hnew]
          · cases hr
      · rename_i ht
        split at hr
        · rename_i e he
          have hany : anyEff E cl.p C.H σ.nx σ.sl o.op = some e := by unfold anyEff; rw [ht, hH]; exact he
          have hBn : ∀ C', After C e σ.nx C' → (C'.B = fun i => i < (σ.eff e).nx) := fun C' hA => by
            rw [hA.B, hB]
            funext i
            cases hn : e.new <;> simp [St.eff, hn]
            omega
          refine any_wp hE hp hok hs hnx.1 hnx.2 hany (fun v x C' hout hA hv => ?_) (fun v x C' hout hA hv => ?_)
          · rcases hout with hout | ⟨hout, rfl, rfl⟩
            · rw [hout] at hr
              exact next C' _ ((σ.eff e).put o.dst x) (by rw [hA.H, hH]; rfl) (hBn C' hA) hA.ok ((hs.le hA.le).put o.dst hv) hA.le (hput v) hr
            · rw [hout] at hr
              exact next C' _ ((σ.eff e).put o.dst undef) (by rw [hA.H, hH]; rfl) (hBn C' hA) hA.ok ((hs.le hA.le).put o.dst hv) hA.le (hput _) hr
          · rw [hout] at hr
            cases hr
            exact ⟨C', rfl, by rw [hA.H, hH]; rfl, hBn C' hA, hA.ok, hA.le, rfl, v, rfl, hv⟩
        · cases hr
    · rename_i hw
      rw [want_ok hs hw, if_neg (by simp)]
      exact next C _ (σ.put o.dst undef) hH hB hok (hs.put o.dst (rep_undef C)) (Cx.Le.refl C) (hput _) hr
    · cases hr
end
end Vm
