/- The machine over pure values: a statement that leaves its order open comes to the same in every order (II). (Own work of this repo.) -/
import Derived.Test.YtpfcijgcjghgeaaVm17
import Derived.Orders
set_option linter.unusedVariables false
set_option linter.unusedSimpArgs false
namespace Vm
open Go

/-- What a record says of its operation, at the state that the text's order gives. -/
inductive RecAt (E : Env) (dp : FuncId → List AV → Option Res) (all : List Oper) (p : Option (Nat × AV)) (j : Nat) (o : Oper) (r : Rec) (σ : LS) (nx : Nat) : Prop
  | skip (hw : want all σ.1 o = some false) (hr : r = ⟨.ok, o.dst, undef, [], [], none⟩)
  | done (e : Eff) (x : AV) (hw : want all σ.1 o = some true) (he : anyEff E dp σ.2 nx σ.1 o.op = some e) (ho : e.out = .val x ∨ (e.out = .skip ∧ x = undef)) (hr : r = ⟨.ok, o.dst, x, e.rds, e.ups, if e.new then some nx else none⟩)
  | pan (e : Eff) (v : AV) (hw : want all σ.1 o = some true) (he : anyEff E dp σ.2 nx σ.1 o.op = some e) (ho : e.out = .panic v) (hu : e.ups = []) (hn : e.new = false) (hp : p = some (j, v)) (hr : r = ⟨.pan, none, v, e.rds, [], none⟩)
  | dead (q : Nat) (v : AV) (hp : p = some (q, v)) (hb : befBit all j q = true) (hr : r = ⟨.dead, none, undef, [], [], none⟩)

structure Spec (E : Env) (dp : FuncId → List AV → Option Res) (all : List Oper) (os : List Oper) (k : Nat) (p : Option (Nat × AV)) (σ : St) (rs : List Rec) (p' : Option (Nat × AV)) (σ' : St) : Prop where
  len : rs.length = os.length
  at_ : ∀ (j : Nat) (o : Oper), os[j]? = some o → ∃ r nx, rs[j]? = some r ∧ σ.nx ≤ nx ∧ RecAt E dp all p' (k + j) o r (apps (σ.sl, σ.h) (rs.take j)) nx
  fin : (σ'.sl, σ'.h) = apps (σ.sl, σ.h) rs
  mono : σ.nx ≤ σ'.nx
  nid : ∀ (j : Nat) (r : Rec) (i : Nat), rs[j]? = some r → r.nid = some i → σ.nx ≤ i ∧ i < σ'.nx ∧ ∀ (j' : Nat) (r' : Rec), rs[j']? = some r' → r'.nid = some i → j' = j
  all_ : ∀ i, σ.nx ≤ i → i < σ'.nx → ∃ (j : Nat) (r : Rec), rs[j]? = some r ∧ r.nid = some i
  none_ : p' = none → p = none
  some_ : ∀ q v, p = some (q, v) → p' = some (q, v)
  new : p = none → ∀ q v, p' = some (q, v) → ∃ (j : Nat) (r : Rec), q = k + j ∧ rs[j]? = some r ∧ r.k = .pan

theorem spec_cons {E : Env} {dp : FuncId → List AV → Option Res} {all os : List Oper} {o : Oper} {k : Nat} {p p1 p' : Option (Nat × AV)} {σ σ1 σ' : St} {r : Rec} {rs : List Rec}
    (h : Spec E dp all os (k + 1) p1 σ1 rs p' σ') (happ : (σ1.sl, σ1.h) = app (σ.sl, σ.h) r) (hat : RecAt E dp all p' k o r (σ.sl, σ.h) σ.nx)
    (hnx : (r.nid = none ∧ σ1.nx = σ.nx) ∨ (r.nid = some σ.nx ∧ σ1.nx = σ.nx + 1))
    (hp1 : p1 = none → p = none) (hp2 : ∀ q v, p = some (q, v) → p1 = some (q, v)) (hp3 : p = none → ∀ q v, p1 = some (q, v) → q = k ∧ r.k = .pan) : Spec E dp all (o :: os) k p σ (r :: rs) p' σ' where
  len := by simp [h.len]
  at_ j o' ho := by
    cases j with
    | zero => simp at ho; subst ho; exact ⟨r, σ.nx, rfl, Nat.le_refl _, by simpa [apps] using hat⟩
    | succ j =>
      obtain ⟨r', nx, h1, h2, h3⟩ := h.at_ j o' (by simpa using ho)
      refine ⟨r', nx, by simpa using h1, by rcases hnx with h | h <;> omega, ?_⟩
      simp only [List.take_succ_cons, apps]
      rw [← happ, show k + (j + 1) = k + 1 + j by omega]
      exact h3
  fin := by simp only [apps]; rw [← happ]; exact h.fin
  mono := by have := h.mono; rcases hnx with h | h <;> omega
  nid j r' i hr hi := by
    have hm := h.mono
    cases j with
    | zero =>
      simp at hr
      subst hr
      rcases hnx with ⟨h0, _⟩ | ⟨h0, h1⟩
      · rw [h0] at hi; cases hi
      · rw [h0] at hi
        cases hi
        refine ⟨Nat.le_refl _, by omega, fun j' r' hr' hi' => ?_⟩
        cases j' with
        | zero => rfl
        | succ j' =>
          have := (h.nid j' r' _ (by simpa using hr') hi').1
          omega
    | succ j =>
      obtain ⟨q1, q2, q3⟩ := h.nid j r' i (by simpa using hr) hi
      refine ⟨by rcases hnx with h | h <;> omega, q2, fun j' r'' hr' hi' => ?_⟩
      cases j' with
      | zero =>
        simp at hr'
        subst hr'
        rcases hnx with ⟨h0, _⟩ | ⟨h0, h1⟩
        · rw [h0] at hi'; cases hi'
        · rw [h0] at hi'; cases hi'; omega
      | succ j' => rw [q3 j' r'' (by simpa using hr') hi']
  all_ i h1 h2 := by
    rcases hnx with ⟨h0, h3⟩ | ⟨h0, h3⟩
    · obtain ⟨j, r', q1, q2⟩ := h.all_ i (by omega) h2
      exact ⟨j + 1, r', by simpa using q1, q2⟩
    · by_cases he : i = σ.nx
      · exact ⟨0, r, rfl, by rw [h0, he]⟩
      · obtain ⟨j, r', q1, q2⟩ := h.all_ i (by omega) h2
        exact ⟨j + 1, r', by simpa using q1, q2⟩
  none_ hn := hp1 (h.none_ hn)
  some_ q v hq := h.some_ q v (hp2 q v hq)
  new hn q v hq := by
    cases hp1' : p1 with
    | none =>
      obtain ⟨j, r', q1, q2, q3⟩ := h.new hp1' q v hq
      exact ⟨j + 1, r', by omega, by simpa using q2, q3⟩
    | some qv =>
      obtain ⟨q0, v0⟩ := qv
      have := h.some_ q0 v0 hp1'
      rw [this] at hq
      cases hq
      obtain ⟨e1, e2⟩ := hp3 hn q v hp1'
      exact ⟨0, r, by omega, rfl, e2⟩

theorem recs_spec {E : Env} {dp : FuncId → List AV → Option Res} {all : List Oper} : ∀ (os : List Oper) (k : Nat) (p : Option (Nat × AV)) (σ : St) (rs : List Rec) (p' : Option (Nat × AV)) (σ' : St),
    recs E dp all os k p σ = some (rs, p', σ') → Spec E dp all os k p σ rs p' σ'
  | [], k, p, σ, rs, p', σ', h => by
    simp only [recs, Option.some.injEq, Prod.mk.injEq] at h
    obtain ⟨rfl, rfl, rfl⟩ := h
    exact ⟨rfl, by simp, rfl, Nat.le_refl _, by simp, fun i h1 h2 => by omega, id, fun _ _ h => h, fun h q v hq => by rw [h] at hq; cases hq⟩
  | o :: os, k, p, σ, rs, p', σ', h => by
    simp only [recs] at h
    split at h
    · rename_i hb
      split at h <;> cases h
      rename_i hrec
      have hs := recs_spec os (k + 1) _ _ _ _ _ hrec
      cases p with
      | none => simp at hb
      | some qv =>
        obtain ⟨q, v⟩ := qv
        exact spec_cons hs rfl (.dead q v (hs.some_ q v rfl) hb rfl) (.inl ⟨rfl, rfl⟩) id (fun _ _ h => h) (fun h => by cases h)
    · split at h
      · rename_i hw
        split at h
        · rename_i e he
          have hnx : ∀ (x : AV), ((⟨.ok, o.dst, x, e.rds, e.ups, if e.new then some σ.nx else none⟩ : Rec).nid = none ∧ ((σ.eff e).put o.dst x).nx = σ.nx) ∨
              ((⟨.ok, o.dst, x, e.rds, e.ups, if e.new then some σ.nx else none⟩ : Rec).nid = some σ.nx ∧ ((σ.eff e).put o.dst x).nx = σ.nx + 1) := by
            intro x; cases hn : e.new <;> simp [St.put, St.eff, hn]
          split at h
          · rename_i x hout
            split at h <;> cases h
            rename_i hrec
            have hs := recs_spec os (k + 1) _ _ _ _ _ hrec
            exact spec_cons hs rfl (.done e x hw he (.inl hout) rfl) (hnx x) id (fun _ _ h => h) (fun h q v hq => by rw [h] at hq; cases hq)
          · rename_i hout
            split at h <;> cases h
            rename_i hrec
            have hs := recs_spec os (k + 1) _ _ _ _ _ hrec
            exact spec_cons hs rfl (.done e undef hw he (.inr ⟨hout, rfl⟩) rfl) (hnx undef) id (fun _ _ h => h) (fun h q v hq => by rw [h] at hq; cases hq)
          · rename_i v hout
            split at h <;> try cases h
            split at h <;> try cases h
            rename_i hcond
            split at h <;> cases h
            rename_i hrec
            simp only [Bool.and_eq_true, Bool.not_eq_true', List.isEmpty_iff] at hcond
            have hs := recs_spec os (k + 1) _ _ _ _ _ hrec
            exact spec_cons hs rfl (.pan e v hw he hout hcond.1 hcond.2 (hs.some_ k v rfl) rfl) (.inl ⟨rfl, rfl⟩) (fun h => by cases h) (fun _ _ h => by cases h) (fun _ q v hq => by cases hq; exact ⟨rfl, rfl⟩)
        · cases h
      · rename_i hw
        split at h <;> cases h
        rename_i hrec
        have hs := recs_spec os (k + 1) _ _ _ _ _ hrec
        exact spec_cons hs rfl (.skip hw rfl) (.inl ⟨rfl, rfl⟩) id (fun _ _ h => h) (fun h q v hq => by rw [h] at hq; cases hq)
      · cases h

theorem want_congr {all : List Oper} {s s' : List AV} {o : Oper} (h : ∀ t ∈ looks all o, agree s s' t) : want all s o = want all s' o := by
  unfold want
  split
  · rfl
  · rename_i j w hg
    split
    · rfl
    · rename_i q hq
      split
      · rfl
      · rename_i d hd
        have : s[d]? = s'[d]? := h d (by unfold looks; rw [hg]; dsimp only; rw [hq]; dsimp only; rw [hd]; simp)
        rw [this]

theorem disj_spec {a b : List Nat} (h : disj a b = true) : ∀ i, i ∈ a → i ∉ b := by
  intro i hi hb
  have := List.all_eq_true.1 h i hi
  simp at this
  exact this hb
theorem free_spec {r s : Rec} (h : r.free s = true) : (∀ i, i ∈ r.ids → i ∉ s.rds ∧ i ∉ s.ids) ∧ (∀ i, i ∈ s.ids → i ∉ r.rds) := by
  unfold Rec.free at h
  simp only [Bool.and_eq_true] at h
  refine ⟨fun i hi => ?_, disj_spec h.2⟩
  have := disj_spec h.1 i hi
  simp only [List.mem_append, not_or] at this
  exact this
theorem slotFree_spec {all : List Oper} {x y : Oper} (h : slotFree all x y = true) : (∀ d, x.dst = some d → d ∉ looks all y ∧ y.dst ≠ some d) ∧ (∀ d, y.dst = some d → d ∉ looks all x) := by
  unfold slotFree at h
  simp only [Bool.and_eq_true] at h
  refine ⟨fun d hd => ?_, fun d hd => ?_⟩
  · have := h.1
    rw [hd] at this
    simpa using this
  · have := h.2
    rw [hd] at this
    simpa using this
end Vm
