/- The machine over pure values and the model's world: code, bodies, calls. (Own work of this repo.) -/
import Derived.Test.YtpfcijgcjghgeaaVm19
set_option linter.unusedVariables false
set_option linter.unusedSimpArgs false
namespace Vm
open Go

def codeOk : Code → Bool
  | .region _ ops draw => !draw || regOk ops.toList
  | .seq a b => codeOk a && codeOk b
  | .cond _ a b => codeOk a && codeOk b
  | .block _ c => codeOk c
  | .loop c => codeOk c
  | _ => true

/-- What is asked of the environment and of the program. -/
structure POk (P : Program) (E : Env) : Prop extends EOk P E where
  fn : ∀ f fn, E.fn f = some fn → P.funcs[f]? = some fn ∧ fn.name ≠ "runtime.NumGoroutine" ∧ ∀ c, fn.body = some c → codeOk c = true
  mixed : P.follows .mixedOrders = true

def CodeOk (P : Program) (again : Code → St → Option (Ex × St)) : Prop :=
  ∀ (c : Code), codeOk c = true → ∀ (σ : St) (r : Ex × St), again c σ = some r → ∀ (C : Cx) (a : Act), C.H = σ.h → (C.B = fun i => i < σ.nx) → C.Ok → SRel C σ.sl a.tmps → c.wp P (ExRel C a r) a C.w
def LoopOk (P : Program) (again : Code → St → Option (Ex × St)) : Prop :=
  ∀ (c : Code), codeOk c = true → ∀ (σ : St) (r : Ex × St), again (.loop c) σ = some r → ∀ (C : Cx) (a : Act), C.H = σ.h → (C.B = fun i => i < σ.nx) → C.Ok → SRel C σ.sl a.tmps →
    ∀ (b : Frame) (k : List Item) (cs : List Frame), ∃ e a' w', ExRel C a r e a' w' ∧ Arrives P (lone (b.at a (.code c :: .inLoop c :: k)) cs C.w) b k cs e a' w'

section
variable {P : Program} {E : Env}

theorem loop_next {again : Code → St → Option (Ex × St)} (hag : CodeOk P again) (hlo : LoopOk P again) {c : Code} (hc : codeOk c = true) {σ : St} {r : Ex × St}
    (h : (match again c σ with
      | some (.norm, σ') => again (.loop c) σ'
      | some (.exit i, σ') => some (.exit i, σ')
      | some (.ret, σ') => some (.ret, σ')
      | some (.panic v, σ') => some (.panic v, σ')
      | none => none) = some r) (C : Cx) (a : Act) (hH : C.H = σ.h) (hB : C.B = fun i => i < σ.nx) (hok : C.Ok) (hs : SRel C σ.sl a.tmps) :
    ∀ (b : Frame) (k : List Item) (cs : List Frame), ∃ e a' w', ExRel C a r e a' w' ∧ Arrives P (lone (b.at a (.code c :: .inLoop c :: k)) cs C.w) b k cs e a' w' := by
  intro b k cs
  split at h
  · rename_i σ' hr
    obtain ⟨e, a1, w1, hq, harr⟩ := hag c hc σ _ hr C a hH hB hok hs b (.inLoop c :: k) cs
    obtain ⟨C', rfl, h2, h3, h4, h5, h6, h7, h8⟩ := hq
    dsimp only at h7 h8
    subst h7
    obtain ⟨e2, a2, w2, hq2, harr2⟩ := hlo c hc σ' r h C' a1 h2 h3 h4 h8 b k cs
    exact ⟨e2, a2, w2, hq2.le h5 h6, .of_steps (Steps.trans harr (.one step_inLoop)) harr2⟩
  · rename_i i σ' hr
    cases h
    obtain ⟨e, a1, w1, hq, harr⟩ := hag c hc σ _ hr C a hH hB hok hs b (.inLoop c :: k) cs
    have he : e = .exit i := by obtain ⟨_, _, _, _, _, _, _, h7, _⟩ := hq; exact h7
    subst he
    exact ⟨_, a1, w1, hq, .pass (x := .inLoop c) rfl (fun _ _ => .inl (by simp)) harr⟩
  · rename_i σ' hr
    cases h
    obtain ⟨e, a1, w1, hq, harr⟩ := hag c hc σ _ hr C a hH hB hok hs b (.inLoop c :: k) cs
    have he : e = .ret := by obtain ⟨_, _, _, _, _, _, _, h7, _⟩ := hq; exact h7
    subst he
    exact ⟨_, a1, w1, hq, .pass (x := .inLoop c) rfl (fun _ _ => .inl (by simp)) harr⟩
  · rename_i v σ' hr
    cases h
    obtain ⟨e, a1, w1, hq, harr⟩ := hag c hc σ _ hr C a hH hB hok hs b (.inLoop c :: k) cs
    obtain ⟨u, he⟩ : ∃ u, e = .panic [entry u] := by obtain ⟨_, _, _, _, _, _, _, u, h7, _⟩ := hq; exact ⟨u, h7⟩
    subst he
    exact ⟨_, a1, w1, hq, .pass (x := .inLoop c) rfl (fun _ _ => .inl (by simp)) harr⟩
  · cases h

theorem step_code (hE : POk P E) {cl : Cl} (hp : PureOk P cl.p) (ho : BodyOk P cl.o) {again : Code → St → Option (Ex × St)} (hag : CodeOk P again) (hlo : LoopOk P again) : CodeOk P (step E cl again) := by
  intro c
  induction c with
  | skip =>
    intro _ σ r h C a hH hB hok hs
    simp only [step, Option.some.injEq] at h
    subst h
    exact wp_skip ⟨C, rfl, hH, hB, hok, Cx.Le.refl C, rfl, rfl, hs⟩
  | region id ops draw =>
    intro hc σ r h C a hH hB hok hs
    cases draw with
    | false =>
      simp only [step, Bool.false_eq_true, if_false] at h
      refine wp_region ?_
      have := runOps_ok hE.toEOk hp ho ops ops.toList 0 σ r (fun j => by simp) h C a hH hB hok hs
      rw [List.range_eq_range']
      simpa using this
    | true =>
      simp only [step, if_true] at h
      simp only [codeOk, Bool.not_true, Bool.false_or] at hc
      refine wp_region_any hE.mixed ?_
      obtain ⟨l, ok'⟩ := hok.same (w := { C.w with drawn := C.w.drawn + 1 }) rfl
      have := draw_ok (a0 := a) hE.toEOk hp hc h (C0 := { C with w := { C.w with drawn := C.w.drawn + 1 } }) hH hB ok' (hs.le l)
      have hm : ∀ (n : Nat) (ls : Array Bool) (a' : Act) (w' : World), wpAny P .any ops (ExRel { C with w := { C.w with drawn := C.w.drawn + 1 } } a r) n ls a' w' → wpAny P .any ops (ExRel C a r) n ls a' w' := by
        have hq : ∀ e a' w', ExRel { C with w := { C.w with drawn := C.w.drawn + 1 } } a r e a' w' → ExRel C a r e a' w' := fun e a' w' g => g.le l rfl
        intro n
        induction n with
        | zero => intro ls a' w' h; exact ⟨h.1, hq _ _ _ h.2⟩
        | succ n ih =>
          intro ls a' w' h
          refine ⟨fun h0 => hq _ _ _ (h.1 h0), fun i hi => ?_⟩
          have h2 := h.2 i hi
          have h3 := wpOp_mono (K' := wpAny P .any ops (ExRel C a r) n (ls.setIfInBounds i true)) (fun a w h => ih _ a w h) h2
          -- the exits
          unfold wpOp at h3 ⊢
          split
          · rename_i hn; simp only [hn] at h3; exact h3
          · rename_i o ho'
            simp only [ho'] at h3
            split
            · rename_i hw
              rw [if_pos hw] at h3
              rcases h3 with h3 | ⟨g1, a2, w2, g2⟩
              · left
                unfold Oper.wp at h3 ⊢
                generalize (execOp a'.eval o).run P w' = rr at *
                cases rr with
                | ok nx w'' =>
                  cases nx <;> simp only [Oper.upon] at h3 ⊢ <;> first
                    | exact h3
                    | exact Calls.mono h3 (fun e w'' he => by
                        cases e with
                        | returned v => exact he
                        | panicked c => exact hq _ _ _ he
                        | outgrown => obtain ⟨a3, w3, h'⟩ := he; exact ⟨a3, w3, hq _ _ _ h'⟩)
                | halt x w'' => cases x <;> simp only [Oper.upon] at h3 ⊢ <;> first | exact hq _ _ _ h3 | exact h3
              · exact .inr ⟨g1, a2, w2, hq _ _ _ g2⟩
            · rename_i hw
              rw [if_neg hw] at h3
              exact h3
      exact hm _ _ _ _ this
  | seq x y ihx ihy =>
    intro hc σ r h C a hH hB hok hs
    simp only [codeOk, Bool.and_eq_true] at hc
    simp only [step] at h
    refine wp_seq ?_
    split at h
    · rename_i σ' hr
      refine wp_mono (ihx hc.1 σ _ hr C a hH hB hok hs) fun e a1 w1 hq => ?_
      obtain ⟨C', rfl, h2, h3, h4, h5, h6, h7, h8⟩ := hq
      dsimp only at h7 h8
      subst h7
      exact wp_mono (ihy hc.2 σ' r h C' a1 h2 h3 h4 h8) fun e a2 w2 hq2 => hq2.le h5 h6
    · rename_i i σ' hr
      cases h
      refine wp_mono (ihx hc.1 σ _ hr C a hH hB hok hs) fun e a1 w1 hq => ?_
      have he : e = .exit i := by obtain ⟨_, _, _, _, _, _, _, h7, _⟩ := hq; exact h7
      subst he
      exact hq
    · rename_i σ' hr
      cases h
      refine wp_mono (ihx hc.1 σ _ hr C a hH hB hok hs) fun e a1 w1 hq => ?_
      have he : e = .ret := by obtain ⟨_, _, _, _, _, _, _, h7, _⟩ := hq; exact h7
      subst he
      exact hq
    · rename_i v σ' hr
      cases h
      refine wp_mono (ihx hc.1 σ _ hr C a hH hB hok hs) fun e a1 w1 hq => ?_
      obtain ⟨u, he⟩ : ∃ u, e = .panic [entry u] := by obtain ⟨_, _, _, _, _, _, _, u, h7, _⟩ := hq; exact ⟨u, h7⟩
      subst he
      exact hq
    · cases h
  | cond c x y ihx ihy =>
    intro hc σ r h C a hH hB hok hs
    simp only [codeOk, Bool.and_eq_true] at hc
    simp only [step] at h
    split at h
    · rename_i he
      exact wp_cond_true (rep_bool (ev_rep hs he)) (ihx hc.1 σ r h C a hH hB hok hs)
    · rename_i he
      exact wp_cond_false (rep_bool (ev_rep hs he)) (ihy hc.2 σ r h C a hH hB hok hs)
    · cases h
  | block i c ih =>
    intro hc σ r h C a hH hB hok hs
    simp only [codeOk] at hc
    simp only [step] at h
    refine wp_block ?_
    split at h
    · rename_i σ' hr
      cases h
      refine wp_mono (ih hc σ _ hr C a hH hB hok hs) fun e a1 w1 hq => ?_
      have he : e = .normal := by obtain ⟨_, _, _, _, _, _, _, h7, _⟩ := hq; exact h7
      subst he
      exact hq
    · rename_i j σ' hr
      refine wp_mono (ih hc σ _ hr C a hH hB hok hs) fun e a1 w1 hq => ?_
      have he : e = .exit j := by obtain ⟨_, _, _, _, _, _, _, h7, _⟩ := hq; exact h7
      subst he
      simp only [Exit.inBlock]
      split at h
      · rename_i hj
        cases h
        rw [if_pos hj]
        obtain ⟨C', h1, h2, h3, h4, h5, h6, h7, h8⟩ := hq
        exact ⟨C', h1, h2, h3, h4, h5, h6, rfl, h8⟩
      · rename_i hj
        cases h
        rw [if_neg hj]
        exact hq
    · rename_i σ' hr
      cases h
      refine wp_mono (ih hc σ _ hr C a hH hB hok hs) fun e a1 w1 hq => ?_
      have he : e = .ret := by obtain ⟨_, _, _, _, _, _, _, h7, _⟩ := hq; exact h7
      subst he
      exact hq
    · rename_i v σ' hr
      cases h
      refine wp_mono (ih hc σ _ hr C a hH hB hok hs) fun e a1 w1 hq => ?_
      obtain ⟨u, he⟩ : ∃ u, e = .panic [entry u] := by obtain ⟨_, _, _, _, _, _, _, u, h7, _⟩ := hq; exact ⟨u, h7⟩
      subst he
      exact hq
    · cases h
  | loop c ih =>
    intro hc σ r h C a hH hB hok hs
    simp only [codeOk] at hc
    simp only [step] at h
    intro b k cs
    obtain ⟨e, a', w', hq, harr⟩ := loop_next hag hlo hc h C a hH hB hok hs b k cs
    exact ⟨e, a', w', hq, .of_steps (.one step_loop) harr⟩
  | exit i =>
    intro _ σ r h C a hH hB hok hs
    simp only [step, Option.some.injEq] at h
    subst h
    exact wp_exit ⟨C, rfl, hH, hB, hok, Cx.Le.refl C, rfl, rfl, hs⟩
  | ret =>
    intro _ σ r h C a hH hB hok hs
    simp only [step, Option.some.injEq] at h
    subst h
    exact wp_ret ⟨C, rfl, hH, hB, hok, Cx.Le.refl C, rfl, rfl, hs⟩
  | _ => intro _ σ r h; simp [step] at h

theorem step_loopOk {cl : Cl} {again : Code → St → Option (Ex × St)} (hag : CodeOk P again) (hlo : LoopOk P again) : LoopOk P (step E cl again) := by
  intro c hc σ r h C a hH hB hok hs
  simp only [step] at h
  exact loop_next hag hlo hc h C a hH hB hok hs

/-! #### what a function hands back -/
def oneV : List Value → Value
  | [v] => v
  | vs => .tuple vs.toArray
theorem results_eq (fn : Func) (tmps : Array Value) : results fn tmps = (do
    let vs ← fn.results.toList.mapM fun
      | .tmp t => pure (tmps.getD t Go.undef)
      | .cell a t => do loadVar t (← asAddr (tmps.getD a Go.undef))
    pure (oneV vs)) := by
  unfold results
  rw [Array.mapM_eq_mapM_toList]
  simp only [map_eq_pure_bind, bind_assoc, pure_bind]
  congr 1
  funext vs
  congr 1
  match vs with
  | [] => rfl
  | [v] => rfl
  | v :: u :: vs => simp [oneV]
theorem rep_get {C : Cx} {sl : List AV} {tm : Array Value} (h : SRel C sl tm) (t : Nat) : Rep C (tm.getD t Go.undef) (sl.getD t undef) := by
  have := ev_rep (a := ⟨tm, []⟩) h (o := .tmp t) rfl
  simpa [Act.eval] using this
theorem resOf_run (hE : EOk P E) {C : Cx} (h : C.Ok) {sl : List AV} {tm : Array Value} (hs : SRel C sl tm) : ∀ (rs : List ResultVar) (xs : List AV), resOf E C.H sl rs = some xs →
    ∃ vs, (rs.mapM (m := Sem) fun
      | .tmp t => pure (tm.getD t Go.undef)
      | .cell a t => do loadVar t (← asAddr (tm.getD a Go.undef))).run P C.w = .ok vs C.w ∧ RepL C vs xs
  | [], xs, hx => by
    simp only [resOf, Option.some.injEq] at hx
    subst hx
    exact ⟨[], by simp, trivial⟩
  | .tmp t :: rs, xs, hx => by
    simp only [resOf] at hx
    split at hx <;> cases hx
    rename_i ys hys
    obtain ⟨vs, h1, h2⟩ := resOf_run hE h hs rs ys hys
    refine ⟨tm.getD t Go.undef :: vs, ?_, rep_get hs t, h2⟩
    simp only [List.mapM_cons, Sem.run_bind, Sem.run_pure, Result.andThen_ok, h1]
  | .cell b t :: rs, xs, hx => by
    simp only [resOf] at hx
    split at hx <;> cases hx
    rename_i x rds ups new ys hx hys
    obtain ⟨vs, h1, h2⟩ := resOf_run hE h hs rs ys hys
    obtain ⟨u, y, rds', he, _, hr, ad, hv, hl⟩ := load_run hE h (rep_get hs b) hx
    cases he
    refine ⟨u :: vs, ?_, hr, h2⟩
    have ha : asAddr (tm.getD b Go.undef) = pure ad := by rw [hv]; rfl
    simp only [List.mapM_cons, Sem.run_bind, ha, Sem.run_pure, Result.andThen_ok, hl, h1]

theorem body_ok (hE : POk P E) {again : Code → St → Option (Ex × St)} (hag : CodeOk P again) : BodyOk P (body E again) := by
  intro f l H nx r H' nx' hb C vs hH hB hok hr
  unfold body at hb
  split at hb <;> try cases hb
  rename_i fn hfn
  obtain ⟨q1, q2, q3⟩ := hE.fn f fn hfn
  split at hb <;> try cases hb
  rename_i c hc
  refine ⟨⟨fn, q1, q2, by rw [hc]; rfl⟩, ?_⟩
  have hlen : vs.size = l.length := by have := hr.length; simpa using this
  have hs : SRel C (l ++ List.replicate (fn.ntmps - l.length) undef) (vs ++ Array.replicate (fn.ntmps - vs.size) Go.undef) := by
    refine ⟨by simp [hlen], fun i v x hv hx => ?_⟩
    by_cases hi : i < l.length
    · rw [Array.getElem?_append_left (by omega)] at hv
      rw [List.getElem?_append_left hi] at hx
      exact hr.get i v x (by simpa using hv) hx
    · rw [Array.getElem?_append_right (by omega), Array.getElem?_replicate] at hv
      rw [List.getElem?_append_right (by omega), List.getElem?_replicate] at hx
      split at hv <;> cases hv
      split at hx <;> cases hx
      exact rep_undef C
  refine calls_of_wp q1 hc ?_
  have fin : ∀ (σ : St) (C' : Cx) (a' : Act), C'.H = σ.h → (C'.B = fun i => i < σ.nx) → C'.Ok → C.Le C' → a'.defers = [] → SRel C' σ.sl a'.tmps → (match resOf E σ.h σ.sl fn.results.toList with
        | some vs => some (Res.ret (one vs), σ.h, σ.nx)
        | none => none) = some (r, H', nx') → a'.defers = [] ∧ ∃ v, (results fn a'.tmps).run P C'.w = .ok v C'.w ∧ (∃ C2 : Cx, C2.w = C'.w ∧ C2.H = H' ∧ (C2.B = fun i => i < nx') ∧ C2.Ok ∧ C.Le C2 ∧ match (generalizing := false) r with
      | .ret x => ∃ v', Ending.returned v = .returned v' ∧ Rep C2 v' x
      | .panic x => ∃ v', Ending.returned v = .panicked [entry v'] ∧ Rep C2 v' x) := by
    intro σ C' a' h1 h2 h3 h4 h5 h6 h7
    split at h7 <;> cases h7
    rename_i xs hxs
    obtain ⟨us, g1, g2⟩ := resOf_run hE.toEOk h3 h6 fn.results.toList xs (by rw [h1]; exact hxs)
    have hone : Rep C' (oneV us) (one xs) := by
      clear g1 hxs hb
      match us, xs, g2 with
      | [], [], _ => exact .tup #[] [] rfl (by simp)
      | [v], [x], g => exact g.1
      | v :: v' :: us, x :: x' :: xs, g =>
        exact .tup _ _ (by have := g.length; simpa using this) (fun j v x hv hx => g.get j v x (by simpa using hv) hx)
    refine ⟨h5, _, ?_, C', rfl, h1, h2, h3, h4, _, rfl, hone⟩
    rw [results_eq]
    simp only [Sem.run_bind, g1, Result.andThen_ok, Sem.run_pure]
  split at hb
  · rename_i σ hrun
    refine wp_mono (hag c (q3 c hc) _ _ hrun C ⟨vs ++ Array.replicate (fn.ntmps - vs.size) Go.undef, []⟩ hH hB hok hs) fun e a' w' hq => ?_
    obtain ⟨C', rfl, h2, h3, h4, h5, h6, h7, h8⟩ := hq
    dsimp only at h7 h8
    subst h7
    exact fin σ C' a' h2 h3 h4 h5 h6 h8 hb
  · rename_i σ hrun
    refine wp_mono (hag c (q3 c hc) _ _ hrun C ⟨vs ++ Array.replicate (fn.ntmps - vs.size) Go.undef, []⟩ hH hB hok hs) fun e a' w' hq => ?_
    obtain ⟨C', rfl, h2, h3, h4, h5, h6, h7, h8⟩ := hq
    dsimp only at h7 h8
    subst h7
    exact fin σ C' a' h2 h3 h4 h5 h6 h8 hb
  · rename_i v σ hrun
    cases hb
    refine wp_mono (hag c (q3 c hc) _ _ hrun C ⟨vs ++ Array.replicate (fn.ntmps - vs.size) Go.undef, []⟩ hH hB hok hs) fun e a' w' hq => ?_
    obtain ⟨C', rfl, h2, h3, h4, h5, h6, u, h7, h8⟩ := hq
    subst h7
    exact ⟨h6, C', rfl, h2, h3, h4, h5, u, rfl, h8⟩
  · cases hb

theorem bodyP_ok (hE : POk P E) {again : Code → St → Option (Ex × St)} (hag : CodeOk P again) : PureOk P (bodyP E again) := by
  intro f l r hb C vs hok hr hpl
  unfold bodyP at hb
  rw [if_pos hpl] at hb
  let D : Cx := ⟨Heap.empty, fun _ => 0, C.wr, fun _ => False, C.w⟩
  have hwr : ∀ b, D.wr b ↔ C.wr b := fun b => ⟨fun h => h.elim id fun ⟨i, blk, h, _⟩ => absurd h (by simp [D, Heap.empty]), .inl⟩
  have hD : D.Ok := by
    refine ⟨fun i j bi bj h => absurd h (by simp [D, Heap.empty]), fun i b h => absurd h (by simp [D, Heap.empty]), fun i b h => absurd h (by simp [D, Heap.empty]), fun i b h => absurd h (by simp [D, Heap.empty]), fun b hb => ?_⟩
    rcases hb with hb | ⟨i, blk, h1, _, h3⟩
    · exact hok.Fsz b hb
    · rw [← h3]; exact hok.lt h1
  have pure_mem : ∀ x ∈ l, x.pure = true := of_pureL hpl
  have hrD : RepL D vs.toList l := RepL.of_get hr.length fun j v x hv hx => Rep.pureOn (C := C) (C' := D) (fun _ _ _ => rfl) (fun b _ h => (hwr b).1 h) (Nat.le_refl _) (hr.get j v x hv hx) (pure_mem x (List.mem_of_getElem? hx))
  have hDB : D.B = fun i => i < 0 := by funext i; simp [D]
  have back : ∀ (D' : Cx), D.Le D' → D'.Ok → C.Le { C with w := D'.w } ∧ ({ C with w := D'.w } : Cx).Ok ∧ ∀ v x ids, Rep (D'.fr ids) v x → x.pure = true → Rep { C with w := D'.w } v x := by
    intro D' hle hok'
    have hmem : ∀ b, b < C.w.heap.size → D'.w.heap[b]? = C.w.heap[b]? := fun b hb => hle.mem b hb (by rintro ⟨i, blk, h, _⟩; simp [D, Heap.empty] at h)
    have l : C.Le { C with w := D'.w } := ⟨fun b hb _ => hmem b hb, fun _ _ h => h, rfl, fun i b _ hb => ⟨b, hb, rfl, rfl⟩, fun _ h => h, fun b cs t fz hb => ⟨cs, by dsimp only; rw [hmem b (Array.getElem?_eq_some_iff.1 hb).1]; exact hb, rfl⟩, hle.size, hle.env⟩
    refine ⟨l, ⟨hok.inj, hok.nF, hok.born, fun i b hb => ?_, fun b hb => Nat.lt_of_lt_of_le (hok.Fsz b hb) hle.size⟩, fun v x ids hv hp => ?_⟩
    · obtain ⟨cs, t, h1, h2, h3⟩ := hok.blk i b hb
      exact ⟨cs, t, by dsimp only; rw [hmem _ (hok.lt hb)]; exact h1, h2, fun j c hc => let ⟨v, hv, hr, h1⟩ := h3 j c hc; ⟨v, hv, hr.le l, h1⟩⟩
    · refine Rep.pureOn (C := D'.fr ids) (C' := { C with w := D'.w }) (fun _ _ _ => rfl) (fun b _ h => .inl ?_) (Nat.le_refl _) hv hp
      show D'.F b
      rw [hle.out]
      rcases h with h | ⟨i, blk, h1, h2, h3⟩
      · exact .inl h
      · exact .inr ⟨i, blk, h1, h2, h3⟩
  split at hb
  · rename_i v h n hbody
    split at hb <;> cases hb
    rename_i v' ids hpur
    obtain ⟨q1, q2⟩ := body_ok hE hag f l _ _ _ _ _ hbody D vs rfl hDB hD hrD
    refine ⟨q1, Calls.mono q2 ?_⟩
    rintro e w' ⟨D', rfl, g1, g2, g3, g4, u, rfl, hu⟩
    obtain ⟨b1, b2, b3⟩ := back D' g4 g3
    obtain ⟨p1, p2⟩ := purify_sound g3 ids deep v v' ids u (by rw [g1]; exact hpur) (fun _ h => h) hu
    exact ⟨b1, b2, u, rfl, b3 u v' ids p1 p2, p2⟩
  · rename_i v h n hbody
    split at hb <;> cases hb
    rename_i v' ids hpur
    obtain ⟨q1, q2⟩ := body_ok hE hag f l _ _ _ _ _ hbody D vs rfl hDB hD hrD
    refine ⟨q1, Calls.mono q2 ?_⟩
    rintro e w' ⟨D', rfl, g1, g2, g3, g4, u, rfl, hu⟩
    obtain ⟨b1, b2, b3⟩ := back D' g4 g3
    obtain ⟨p1, p2⟩ := purify_sound g3 ids deep v v' ids u (by rw [g1]; exact hpur) (fun _ h => h) hu
    exact ⟨b1, b2, u, rfl, b3 u v' ids p1 p2, p2⟩
  · cases hb

theorem exec_ok (hE : POk P E) : ∀ n, CodeOk P (exec E n) ∧ LoopOk P (exec E n)
  | 0 => ⟨fun c _ σ r h => by simp [exec] at h, fun c _ σ r h => by simp [exec] at h⟩
  | n + 1 => by
    obtain ⟨h1, h2⟩ := exec_ok hE n
    exact ⟨step_code hE (bodyP_ok hE h1) (body_ok hE h1) h1 h2, step_loopOk h1 h2⟩
end
end Vm
