/- The machine over pure values: a statement that leaves its order open comes to the same in every order (III). (Own work of this repo.) -/
import Derived.Test.YtpfcijgcjghgeaaVm18
set_option linter.unusedVariables false
set_option linter.unusedSimpArgs false
namespace Vm
open Go

section
variable {E : Env} {H : Heap} {nid nid' : Nat} {s : List AV}
/-- An operation that makes no row does not look at the next number. -/
theorem opEff_nid {op : Op} {e : Eff} (h : opEff E H nid s op = some e) (hn : e.new = false) : opEff E H nid' s op = some e := by
  cases op
  case makeFunc f x y => cases f <;> exact h
  all_goals simp only [opEff] at h ⊢
  all_goals try exact h
  case alloc t => (repeat' split at h) <;> cases h <;> cases hn
  case box t x => (repeat' split at h) <;> cases h <;> cases hn
  case buildSlice t n ps => (repeat' split at h) <;> cases h <;> cases hn
  case makeSlice t x y => (repeat' split at h) <;> cases h <;> cases hn
  case call c =>
    split at h <;> try cases h
    rename_i b hc
    split at h <;> try cases h
    rename_i l hl
    generalize c.argTypes.toList = ts at h ⊢
    unfold builtinEff at h ⊢
    split at h
    · exact h
    · rename_i t u s x
      unfold appendEff at h ⊢
      split at h <;> try cases h
      rename_i ti tj ht htj
      split at h <;> try cases h
      rename_i el hd hnint
      split at h <;> try cases h
      rename_i te cs n rd hte hsrc
      split at h <;> try cases h
      rename_i hcond
      split at h
      · split at h
        · rename_i h0; simp only [if_neg hcond, if_pos h0]; exact h
        · split at h <;> cases h
          cases hn
      · split at h <;> try cases h
        rename_i b hb
        split at h <;> try cases h
        rename_i hq
        split at h
        · rename_i h0; simp only [hb, if_neg hcond, if_pos hq, if_pos h0]; exact h
        · split at h <;> cases h
          cases hn
      · cases h
    · exact h
    · exact h
    · exact h
    · cases h
theorem anyEff_nid {dp : FuncId → List AV → Option Res} {op : Op} {e : Eff} (h : anyEff E dp H nid s op = some e) (hn : e.new = false) : anyEff E dp H nid' s op = some e := by
  unfold anyEff at h ⊢
  split at h
  · exact h
  · exact opEff_nid h hn
end

/-- What has been carried out, in whatever order, comes to the same as in the text's order. -/
structure Inv (E : Env) (ops : Array Oper) (rs : List Rec) (σ0 : St) (C0 : Cx) (a0 : Act) (S : Nat → Bool) (C : Cx) (a : Act) : Prop where
  down : Down ops fun j => S j = true
  ok_ : ∀ (j : Nat) (r : Rec), rs[j]? = some r → S j = true → r.k = .ok
  heap : C.H = (rep S rs 0 (σ0.sl, σ0.h)).2
  sl : SRel C (rep S rs 0 (σ0.sl, σ0.h)).1 a.tmps
  cx : C.Ok
  le : C0.Le C
  born : ∀ i, C.B i ↔ (i < σ0.nx ∨ ∃ (j : Nat) (r : Rec), rs[j]? = some r ∧ S j = true ∧ r.nid = some i)
  defers : a.defers = a0.defers

theorem RecAt.dst {E : Env} {dp : FuncId → List AV → Option Res} {all : List Oper} {p : Option (Nat × AV)} {j : Nat} {o : Oper} {r : Rec} {σ : LS} {nx : Nat} (h : RecAt E dp all p j o r σ nx) {d : Nat} (hd : r.dst = some d) : o.dst = some d := by
  cases h with
  | skip hw hr => subst hr; exact hd
  | done e x hw he ho hr => subst hr; exact hd
  | pan e v hw he ho hu hn hp hr => subst hr; cases hd
  | dead q v hp hb hr => subst hr; cases hd

section
variable {P : Program} {E : Env} {dp : FuncId → List AV → Option Res} {ops : Array Oper} {σ0 σ' : St} {rs : List Rec} {p' : Option (Nat × AV)} {C0 : Cx} {a0 : Act}

/-- One operation more. -/
theorem inv_step (hE : EOk P E) (hp : PureOk P dp) (hreg : regOk ops.toList = true) (sp : Spec E dp ops.toList ops.toList 0 none σ0 rs p' σ')
    (hfree : ∀ (j k : Nat) (r s : Rec), rs[j]? = some r → rs[k]? = some s → j < k → befBit ops.toList k j = false → (∀ i, i ∈ r.ids → i ∉ s.rds ∧ i ∉ s.ids) ∧ (∀ i, i ∈ s.ids → i ∉ r.rds))
    {S : Nat → Bool} {C : Cx} {a : Act} (inv : Inv E ops rs σ0 C0 a0 S C a) {i : Nat} {o : Oper} (ho : ops[i]? = some o) (hS : S i = false) (hedge : ∀ e ∈ o.after, Region.binds .any e = true → S e.on = true)
    {Q : Exit → Act → World → Prop} {K : Act → World → Prop}
    (hK : ∀ C' a', Inv E ops rs σ0 C0 a0 (fun j => S j || j == i) C' a' → K a' C'.w)
    (hQ : ∀ C' v x, p' = some (i, x) → C.Le C' → C'.Ok → C'.H = C.H → (∀ j, C'.B j ↔ C.B j) → Rep C' v x → Q (.panic [entry v]) a C'.w) :
    wpOp P ops Q i K a C.w := by
  have hol : ops.toList[i]? = some o := by simpa using ho
  obtain ⟨r, nx, hr, hnx, hat⟩ := sp.at_ i o hol
  have hat0 := hat
  rw [Nat.zero_add] at hat hat0
  simp only [regOk, Bool.and_eq_true] at hreg
  have hlen : i < ops.toList.length := (List.getElem?_eq_some_iff.1 hol).1
  -- an operation before it that is not carried out yet, or one behind it that is, is free of it
  have far : ∀ (j : Nat) (s : Rec), rs[j]? = some s → S j ≠ decide (j < i) → j ≠ i → (∀ t ∈ looks ops.toList o, s.dst ≠ some t) ∧ (∀ x ∈ r.rds, x ∉ s.ids) ∧ (j > i → Comm r s) := by
    intro j s hs hne hji
    have hjl : j < ops.toList.length := by rw [← sp.len]; exact (List.getElem?_eq_some_iff.1 hs).1
    have hoj : ops.toList[j]? = some ops.toList[j] := List.getElem?_eq_getElem hjl
    generalize ops.toList[j] = oj at hoj
    obtain ⟨s', nx', hs', _, hat'⟩ := sp.at_ j oj hoj
    rw [hs] at hs'
    cases hs'
    rcases Nat.lt_or_gt_of_ne hji with hlt | hgt
    · -- j < i, not carried out
      have hSj : S j = false := by simpa [hlt] using hne
      have hb : befBit ops.toList i j = false := by
        cases hb : befBit ops.toList i j with
        | false => rfl
        | true =>
          have := before_in inv.down i j o ho hb hedge
          rw [hSj] at this
          cases this
      have hst := statAll_spec _ 0 hreg.1 j i oj o hoj hol hlt
      simp only [Nat.zero_add] at hst
      unfold befBit at hb
      have hst := hst.resolve_right (by rw [hb]; simp)
      obtain ⟨f1, f2⟩ := slotFree_spec hst
      obtain ⟨g1, g2⟩ := hfree j i s r hs hr hlt hb
      refine ⟨fun t ht hd => (f1 t (hat'.dst hd)).1 ht, fun x hx hi => (g1 x hi).1 hx, fun hgt => by omega⟩
    · have hSj : S j = true := by
        cases hSj : S j with
        | true => rfl
        | false => exact absurd (by rw [hSj]; simp; omega) hne
      have hb : befBit ops.toList j i = false := by
        cases hb : befBit ops.toList j i with
        | false => rfl
        | true =>
          have := before_in inv.down j i oj (by simpa using hoj) hb (inv.down j oj hSj (by simpa using hoj))
          rw [hS] at this
          cases this
      have hst := statAll_spec _ 0 hreg.1 i j o oj hol hoj hgt
      simp only [Nat.zero_add] at hst
      unfold befBit at hb
      have hst := hst.resolve_right (by rw [hb]; simp)
      obtain ⟨f1, f2⟩ := slotFree_spec hst
      obtain ⟨g1, g2⟩ := hfree i j r s hr hs hgt hb
      refine ⟨fun t ht hd => f2 t (hat'.dst hd) ht, fun x hx hi => g2 x hi hx, fun _ => ⟨fun d hd hd' => (f1 d (hat0.dst hd)).2 (hat'.dst hd'), fun x hx hx' => (g1 x hx).2 hx'⟩⟩
  have htk : apps (σ0.sl, σ0.h) (rs.take i) = rep (fun j => decide (j < i)) rs 0 (σ0.sl, σ0.h) := by
    have := rep_take rs 0 i (σ0.sl, σ0.h)
    simp only [Nat.zero_add] at this
    exact this.symm
  rw [htk] at hat
  have hsl : ∀ t ∈ looks ops.toList o, agree (rep S rs 0 (σ0.sl, σ0.h)).1 (rep (fun j => decide (j < i)) rs 0 (σ0.sl, σ0.h)).1 t := by
    intro t ht
    refine rep_slot rs 0 _ _ (fun j s hs hne => ?_) rfl
    simp only [Nat.zero_add] at hne
    by_cases hji : j = i
    · subst hji; simp [hS] at hne
    · exact (far j s hs hne hji).1 t ht
  have hhp : ∀ x ∈ r.rds, (rep S rs 0 (σ0.sl, σ0.h)).2 x = (rep (fun j => decide (j < i)) rs 0 (σ0.sl, σ0.h)).2 x := by
    intro x hx
    refine rep_heap rs 0 _ _ (fun j s hs hne => ?_) rfl
    simp only [Nat.zero_add] at hne
    by_cases hji : j = i
    · subst hji; simp [hS] at hne
    · exact (far j s hs hne hji).2.1 x hx
  have hadd : rep (fun j => S j || j == i) rs 0 (σ0.sl, σ0.h) = app (rep S rs 0 (σ0.sl, σ0.h)) r := by
    have := rep_add (S := S) rs 0 i (σ0.sl, σ0.h) hr (by simpa using hS) (fun j s hs hSj hlt => (far j s hs (by simp only [Nat.zero_add] at hSj; rw [hSj]; simp; omega) (by omega)).2.2 hlt)
    simpa using this
  have hdown : Down ops fun j => (S j || j == i) = true := by
    intro j oj hj hoj e he hb
    simp only [Bool.or_eq_true, beq_iff_eq] at hj ⊢
    rcases hj with hj | rfl
    · exact .inl (inv.down j oj hj hoj e he hb)
    · rw [ho] at hoj
      cases hoj
      exact .inl (hedge e he hb)
  have hput : ∀ (v : Value), (a.put o.dst v).defers = a0.defers := fun v => by rw [← inv.defers]; unfold Act.put; split <;> rfl
  have hok : r.k = .ok → ∀ (j : Nat) (r' : Rec), rs[j]? = some r' → (S j || j == i) = true → r'.k = .ok := by
    intro hk j r' hr' hj
    simp only [Bool.or_eq_true, beq_iff_eq] at hj
    rcases hj with hj | rfl
    · exact inv.ok_ j r' hr' hj
    · rw [hr] at hr'; cases hr'; exact hk
  -- the number is fresh
  unfold wpOp
  rw [ho]
  dsimp only
  cases hat with
  | skip hw hrr =>
    have hw' : want ops.toList (rep S rs 0 (σ0.sl, σ0.h)).1 o = some false := by rw [want_congr hsl]; exact hw
    rw [want_ok inv.sl hw', if_neg (by simp)]
    refine hK C _ ⟨hdown, hok (by rw [hrr]), ?_, ?_, inv.cx, inv.le, ?_, hput _⟩
    · rw [hadd, inv.heap, hrr]; rfl
    · rw [hadd, hrr]; exact inv.sl.put o.dst (rep_undef C)
    · intro k
      rw [inv.born k]
      constructor
      · rintro (h | ⟨j, r', h1, h2, h3⟩)
        · exact .inl h
        · exact .inr ⟨j, r', h1, by simp [h2], h3⟩
      · rintro (h | ⟨j, r', h1, h2, h3⟩)
        · exact .inl h
        · simp only [Bool.or_eq_true, beq_iff_eq] at h2
          rcases h2 with h2 | rfl
          · exact .inr ⟨j, r', h1, h2, h3⟩
          · rw [hr] at h1; cases h1; rw [hrr] at h3; cases h3
  | done e x hw he hout hrr =>
    have hw' : want ops.toList (rep S rs 0 (σ0.sl, σ0.h)).1 o = some true := by rw [want_congr hsl]; exact hw
    rw [want_ok inv.sl hw', if_pos rfl]
    refine .inl ?_
    have he' : anyEff E dp C.H nx (rep S rs 0 (σ0.sl, σ0.h)).1 o.op = some e := by
      rw [anyEff_congr (s' := (rep (fun j => decide (j < i)) rs 0 (σ0.sl, σ0.h)).1) (fun t ht => hsl t (by unfold looks; exact List.mem_append_left _ ht)), inv.heap]
      exact anyEff_local he (fun x hx => hhp x (by rw [hrr]; exact hx))
    have fresh : ∃ n, ¬ C.B n ∧ anyEff E dp C.H n (rep S rs 0 (σ0.sl, σ0.h)).1 o.op = some e ∧ (e.new = true → n = nx) := by
      cases hn : e.new with
      | true =>
        refine ⟨nx, ?_, he', fun _ => rfl⟩
        rw [inv.born]
        rintro (h | ⟨j, r', h1, h2, h3⟩)
        · omega
        · have := (sp.nid i r nx hr (by rw [hrr]; simp [hn])).2.2 j r' h1 h3
          subst this
          rw [hS] at h2
          cases h2
      | false =>
        refine ⟨σ'.nx, ?_, anyEff_nid he' hn, fun h => by cases h⟩
        rw [inv.born]
        rintro (h | ⟨j, r', h1, h2, h3⟩)
        · have := sp.mono; omega
        · have := (sp.nid j r' _ h1 h3).2.1; omega
    obtain ⟨n, hB, hen, hnn⟩ := fresh
    have hHn : C.H n = none := by
      cases hh : C.H n with
      | none => rfl
      | some b => exact absurd (inv.cx.born _ _ hh) hB
    have next : ∀ v C', After C e n C' → Rep C' v x → K (a.put o.dst v) C'.w := by
      intro v C' hA hv
      refine hK C' _ ⟨hdown, hok (by rw [hrr]), ?_, ?_, hA.ok, inv.le.trans hA.le, ?_, hput _⟩
      · rw [hadd, hA.H, inv.heap, hrr]; rfl
      · rw [hadd, hrr]; exact (inv.sl.le hA.le).put o.dst hv
      · intro k
        rw [hA.B]
        dsimp only
        rw [inv.born k]
        constructor
        · rintro ((h | ⟨j, r', h1, h2, h3⟩) | ⟨h1, h2⟩)
          · exact .inl h
          · exact .inr ⟨j, r', h1, by simp [h2], h3⟩
          · exact .inr ⟨i, r, hr, by simp, by rw [hrr, h2, hnn h1]; simp [h1]⟩
        · rintro (h | ⟨j, r', h1, h2, h3⟩)
          · exact .inl (.inl h)
          · simp only [Bool.or_eq_true, beq_iff_eq] at h2
            rcases h2 with h2 | rfl
            · exact .inl (.inr ⟨j, r', h1, h2, h3⟩)
            · rw [hr] at h1
              cases h1
              rw [hrr] at h3
              dsimp only at h3
              split at h3
              · rename_i hnew; cases h3; exact .inr ⟨hnew, (hnn hnew).symm⟩
              · cases h3
    refine any_wp hE hp inv.cx inv.sl hHn hB hen (fun v y C' ho' hA hv => ?_) (fun v y C' ho' hA hv => ?_)
    · rcases hout with hout | ⟨hout, rfl⟩ <;> rcases ho' with ho' | ⟨ho', rfl, rfl⟩ <;> rw [hout] at ho' <;> cases ho'
      · exact next v C' hA hv
      · exact next _ C' hA hv
    · rcases hout with hout | ⟨hout, _⟩ <;> rw [hout] at ho' <;> cases ho'
  | pan e v hw he hout hu hn hp' hrr =>
    have hw' : want ops.toList (rep S rs 0 (σ0.sl, σ0.h)).1 o = some true := by rw [want_congr hsl]; exact hw
    rw [want_ok inv.sl hw', if_pos rfl]
    refine .inl ?_
    have he' : anyEff E dp C.H nx (rep S rs 0 (σ0.sl, σ0.h)).1 o.op = some e := by
      rw [anyEff_congr (s' := (rep (fun j => decide (j < i)) rs 0 (σ0.sl, σ0.h)).1) (fun t ht => hsl t (by unfold looks; exact List.mem_append_left _ ht)), inv.heap]
      exact anyEff_local he (fun x hx => hhp x (by rw [hrr]; exact hx))
    have hB : ¬ C.B σ'.nx := by
      rw [inv.born]
      rintro (h | ⟨j, r', h1, h2, h3⟩)
      · have := sp.mono; omega
      · have := (sp.nid j r' _ h1 h3).2.1; omega
    have hHn : C.H σ'.nx = none := by
      cases hh : C.H σ'.nx with
      | none => rfl
      | some b => exact absurd (inv.cx.born _ _ hh) hB
    refine any_wp hE hp inv.cx inv.sl hHn hB (anyEff_nid he' hn) (fun v' y C' ho' hA hv => ?_) (fun v' y C' ho' hA hv => ?_)
    · rcases ho' with ho' | ⟨ho', _⟩ <;> rw [hout] at ho' <;> cases ho'
    · rw [hout] at ho'
      cases ho'
      refine hQ C' v' _ hp' hA.le hA.ok (by rw [hA.H, hu]; rfl) (fun j => by rw [hA.B]; simp [hn]) hv
  | dead q v hp' hb hrr =>
    obtain ⟨j, r', hq, hrj, hk⟩ := sp.new rfl q v hp'
    rw [Nat.zero_add] at hq
    subst hq
    have := inv.ok_ q r' hrj (before_in inv.down i q o ho hb hedge)
    rw [hk] at this
    cases this

theorem ready_iff {listed : Array Bool} {i : Nat} : i ∈ Region.ready .any ops listed ↔ ∃ o, ops[i]? = some o ∧ listed.getD i true = false ∧ ∀ e ∈ o.after, Region.binds .any e = true → listed.getD e.on false = true := by
  unfold Region.ready
  simp only [List.mem_filter, List.mem_range, Bool.and_eq_true, Bool.not_eq_true']
  constructor
  · rintro ⟨h1, h2, h3⟩
    have ho : ops[i]? = some ops[i] := Array.getElem?_eq_getElem h1
    refine ⟨_, ho, h2, fun e he hb => ?_⟩
    rw [ho] at h3
    simp only [Option.map_some, Option.getD_some] at h3
    have := Array.all_eq_true'.1 h3 e he
    simpa [hb] using this
  · rintro ⟨o, ho, h2, h3⟩
    refine ⟨(Array.getElem?_eq_some_iff.1 ho).1, h2, ?_⟩
    rw [ho]
    simp only [Option.map_some, Option.getD_some]
    refine Array.all_eq_true'.2 fun e he => ?_
    cases hb : Region.binds .any e with
    | false => rfl
    | true => simpa using h3 e he hb

theorem inv_run (hE : EOk P E) (hp : PureOk P dp) (hreg : regOk ops.toList = true) (sp : Spec E dp ops.toList ops.toList 0 none σ0 rs p' σ')
    (hfree : ∀ (j k : Nat) (r s : Rec), rs[j]? = some r → rs[k]? = some s → j < k → befBit ops.toList k j = false → (∀ i, i ∈ r.ids → i ∉ s.rds ∧ i ∉ s.ids) ∧ (∀ i, i ∈ s.ids → i ∉ r.rds))
    {Q : Exit → Act → World → Prop}
    (hN : p' = none → ∀ C' a', Inv E ops rs σ0 C0 a0 (fun _ => true) C' a' → Q .normal a' C'.w)
    (hQ : ∀ C C' S a v i x, p' = some (i, x) → Inv E ops rs σ0 C0 a0 S C a → C.Le C' → C'.Ok → C'.H = C.H → (∀ j, C'.B j ↔ C.B j) → Rep C' v x → Q (.panic [entry v]) a C'.w) :
    ∀ (fuel : Nat) (listed : Array Bool) (C : Cx) (a : Act), listed.size = ops.size → listed.toList.countP (fun b => !b) ≤ fuel → Inv E ops rs σ0 C0 a0 (fun j => listed.getD j false) C a → wpAny P .any ops Q fuel listed a C.w := by
  have getT : ∀ (listed : Array Bool) (i : Nat), i < listed.size → listed.getD i true = listed.getD i false := fun l i h => by simp [h]
  have stuck : ∀ (listed : Array Bool) (C : Cx) (a : Act), listed.size = ops.size → Inv E ops rs σ0 C0 a0 (fun j => listed.getD j false) C a → Region.ready .any ops listed = [] → Q .normal a C.w := by
    intro listed C a hsz inv hnil
    simp only [regOk, Bool.and_eq_true] at hreg
    have hall : ∀ i, i < ops.size → listed.getD i false = true := by
      intro i
      induction i using Nat.strongRecOn with
      | _ i ih =>
        intro hi
        cases hl : listed.getD i false with
        | true => rfl
        | false =>
          have ho : ops[i]? = some ops[i] := Array.getElem?_eq_getElem hi
          have : i ∈ Region.ready .any ops listed := by
            refine ready_iff.2 ⟨_, ho, by rw [getT _ _ (by omega)]; exact hl, fun e he hb => ?_⟩
            have := edgesOk_spec _ 0 hreg.2 i _ (by simp) e he hb
            exact ih e.on (by omega) (by omega)
          rw [hnil] at this
          cases this
    have hrl : rs.length = ops.size := by rw [sp.len]; simp
    have inv' : Inv E ops rs σ0 C0 a0 (fun _ => true) C a := by
      have hrep : rep (fun j => listed.getD j false) rs 0 (σ0.sl, σ0.h) = rep (fun _ => true) rs 0 (σ0.sl, σ0.h) := rep_congr rs 0 _ fun i _ h2 => hall i (by omega)
      have hin : ∀ (j : Nat) (r : Rec), rs[j]? = some r → listed.getD j false = true := fun j r hr => hall j (by have := (List.getElem?_eq_some_iff.1 hr).1; omega)
      refine ⟨fun _ _ _ _ _ _ _ => rfl, fun j r hr _ => inv.ok_ j r hr (hin j r hr), by rw [← hrep]; exact inv.heap, by rw [← hrep]; exact inv.sl, inv.cx, inv.le, fun i => ?_, inv.defers⟩
      rw [inv.born i]
      constructor
      · rintro (h | ⟨j, r, h1, h2, h3⟩)
        · exact .inl h
        · exact .inr ⟨j, r, h1, rfl, h3⟩
      · rintro (h | ⟨j, r, h1, h2, h3⟩)
        · exact .inl h
        · exact .inr ⟨j, r, h1, hin j r h1, h3⟩
    cases hpp : p' with
    | none => exact hN hpp C a inv'
    | some qv =>
      obtain ⟨q, v⟩ := qv
      obtain ⟨j, r', hq, hrj, hk⟩ := sp.new rfl q v hpp
      have := inv'.ok_ j r' hrj rfl
      rw [hk] at this
      cases this
  intro fuel
  induction fuel with
  | zero =>
    intro listed C a hsz hc inv
    have hnil : Region.ready .any ops listed = [] := by
      refine List.eq_nil_iff_forall_not_mem.2 fun i hi => ?_
      obtain ⟨o, ho, hl, _⟩ := ready_iff.1 hi
      have hlt : i < listed.size := by have := (Array.getElem?_eq_some_iff.1 ho).1; omega
      have h0 : listed.toList.countP (fun b => !b) = 0 := by omega
      rw [List.countP_eq_zero] at h0
      have := h0 listed[i] (by simp)
      rw [getT _ _ hlt] at hl
      simp [hlt] at hl
      simp [hl] at this
    exact ⟨hnil, stuck listed C a hsz inv hnil⟩
  | succ fuel ih =>
    intro listed C a hsz hc inv
    refine ⟨stuck listed C a hsz inv, fun i hi => ?_⟩
    obtain ⟨o, ho, hl, he⟩ := ready_iff.1 hi
    have hlt : i < listed.size := by have := (Array.getElem?_eq_some_iff.1 ho).1; omega
    rw [getT _ _ hlt] at hl
    have hl' : listed[i] = false := by simpa [hlt] using hl
    refine inv_step hE hp hreg sp hfree inv ho hl he (fun C' a' inv' => ?_) (fun C' v x h1 h2 h3 h4 h5 h6 => hQ C C' _ a v i x h1 inv h2 h3 h4 h5 h6)
    refine ih _ C' a' (by simpa using hsz) ?_ ?_
    · rw [Array.toList_setIfInBounds, List.countP_set (by simpa using hlt)]
      have hpos : 0 < listed.toList.countP (fun b => !b) := List.countP_pos_iff.2 ⟨listed[i], by simp, by simp [hl']⟩
      simp only [Array.getElem_toList, hl', Bool.not_false, if_true, Bool.not_true, Bool.false_eq_true, if_false]
      omega
    · have : (fun j => (listed.setIfInBounds i true).getD j false) = fun j => listed.getD j false || j == i := by
        funext j
        by_cases hj : j = i
        · subst hj; simp [hlt]
        · simp only [Array.getD_eq_getD_getElem?]
          rw [Array.getElem?_setIfInBounds_ne (fun e => hj e.symm)]
          simp [hj]
      rw [this]
      exact inv'

theorem draw_ok (hE : EOk P E) {cl : Cl} (hp : PureOk P cl.p) (hreg : regOk ops.toList = true) {r : Ex × St} (hrun : runDraw E cl ops.toList σ0 = some r)
    (hH : C0.H = σ0.h) (hB : C0.B = fun i => i < σ0.nx) (hok : C0.Ok) (hs : SRel C0 σ0.sl a0.tmps) : wpAny P .any ops (ExRel C0 a0 r) ops.size (Array.replicate ops.size false) a0 C0.w := by
  unfold runDraw at hrun
  have hinv : ∀ rs, Inv E ops rs σ0 C0 a0 (fun j => (Array.replicate ops.size false).getD j false) C0 a0 := by
    intro rs
    have h0 : ∀ j, (Array.replicate ops.size false).getD j false = false := fun j => by
      simp only [Array.getD_eq_getD_getElem?, Array.getElem?_replicate]; split <;> rfl
    refine ⟨fun j o h => absurd ((h0 j).symm.trans h) (by simp), fun j r _ h => absurd ((h0 j).symm.trans h) (by simp), ?_, ?_, hok, Cx.Le.refl C0, fun i => ?_, rfl⟩
    · rw [rep_none rs 0 _ fun i _ => h0 i]; exact hH
    · rw [rep_none rs 0 _ fun i _ => h0 i]; exact hs
    · rw [hB]
      exact ⟨.inl, fun h => h.elim id fun ⟨j, r, _, h, _⟩ => absurd ((h0 j).symm.trans h) (by simp)⟩
  have hfree : ∀ rs : List Rec, (match rs.all Rec.quiet with | true => true | false => dynOk ops.toList 0 rs) = true → ∀ (j k : Nat) (r s : Rec), rs[j]? = some r → rs[k]? = some s → j < k → befBit ops.toList k j = false → (∀ i, i ∈ r.ids → i ∉ s.rds ∧ i ∉ s.ids) ∧ (∀ i, i ∈ s.ids → i ∉ r.rds) := by
    intro rs h j k r s hr hs' hlt hb
    split at h
    · rename_i hq
      have q : ∀ t ∈ rs, t.ids = [] := fun t ht => by
        have := List.all_eq_true.1 hq t ht
        unfold Rec.quiet at this
        unfold Rec.ids
        rw [List.isEmpty_iff.1 this]
        rfl
      rw [q r (List.mem_of_getElem? hr), q s (List.mem_of_getElem? hs')]
      exact ⟨fun _ h => absurd h (by simp), fun _ h => absurd h (by simp)⟩
    · have := dynOk_spec rs 0 h j k r s hr hs' hlt
      simp only [Nat.zero_add, hb, Bool.false_eq_true, or_false] at this
      exact free_spec this
  have hcount : (Array.replicate ops.size false).toList.countP (fun b => !b) ≤ ops.size := by
    have := List.countP_le_length (p := fun b => !b) (l := (Array.replicate ops.size false).toList)
    simpa using this
  split at hrun
  · rename_i rs σ' hrecs
    have sp := recs_spec _ _ _ _ _ _ _ hrecs
    split at hrun <;> cases hrun
    rename_i hq
    refine inv_run hE hp hreg sp (hfree rs hq) (fun _ C' a' inv => ?_) (fun C C' S a v i x h => by cases h) ops.size _ C0 a0 (by simp) hcount (hinv rs)
    have hrep : rep (fun _ => true) rs 0 (σ0.sl, σ0.h) = (σ'.sl, σ'.h) := by rw [rep_all rs 0 _ fun _ _ _ => rfl, sp.fin]
    refine ⟨C', rfl, by rw [inv.heap, hrep], ?_, inv.cx, inv.le, inv.defers, rfl, ?_⟩
    · funext i
      refine propext ⟨fun h => ?_, fun h => ?_⟩
      · rcases (inv.born i).1 h with h | ⟨j, r, h1, _, h3⟩
        · have := sp.mono; dsimp only; omega
        · exact (sp.nid j r i h1 h3).2.1
      · refine (inv.born i).2 ?_
        by_cases hi : i < σ0.nx
        · exact .inl hi
        · obtain ⟨j, r, h1, h2⟩ := sp.all_ i (by omega) h
          exact .inr ⟨j, r, h1, rfl, h2⟩
    · have := inv.sl
      rw [hrep] at this
      exact this
  · rename_i rs q v0 σ' hrecs
    have sp := recs_spec _ _ _ _ _ _ _ hrecs
    split at hrun <;> cases hrun
    rename_i hq
    have hq1 : (match rs.all Rec.quiet with | true => true | false => dynOk ops.toList 0 rs) = true := by
      split at hq
      · rename_i hqq; rw [hqq]
      · rename_i hqq; rw [hqq]; simp only [Bool.and_eq_true] at hq; exact hq.1
    have hids : ∀ r ∈ rs, ∀ i ∈ r.ids, σ0.nx ≤ i := by
      split at hq
      · rename_i hqq
        intro t ht i hi
        have := List.all_eq_true.1 hqq t ht
        unfold Rec.quiet at this
        unfold Rec.ids at hi
        rw [List.isEmpty_iff.1 this] at hi
        cases hi
      · simp only [Bool.and_eq_true] at hq
        intro t ht i hi
        have := List.all_eq_true.1 (List.all_eq_true.1 hq.2 t ht) i hi
        simpa using this
    refine inv_run hE hp hreg sp (hfree rs hq1) (fun h => by cases h) (fun C C' S a v i x hpx inv hle hok' hH' hB' hv => ?_) ops.size _ C0 a0 (by simp) hcount (hinv rs)
    cases hpx
    have hlow : ∀ i, i < σ0.nx → C'.H i = σ0.h i := by
      intro i hi
      rw [hH', inv.heap]
      have := rep_heap (S := S) (S' := fun _ => false) (x := i) rs 0 (σ0.sl, σ0.h) (σ0.sl, σ0.h) (fun j r hr _ hm => by have := hids r (List.mem_of_getElem? hr) i hm; omega) rfl
      rw [this, rep_none rs 0 _ fun _ _ => rfl]
    have hin : ∀ i b, σ0.h i = some b → C'.H i = some b ∧ i < σ0.nx := by
      intro i b hb
      have : C0.B i := hok.born i b (by rw [hH]; exact hb)
      rw [hB] at this
      exact ⟨by rw [hlow i this]; exact hb, this⟩
    have hBs : ∀ i, C'.B i → i < σ'.nx := by
      intro i hi
      rcases (inv.born i).1 ((hB' i).1 hi) with h | ⟨j, r, h1, _, h3⟩
      · have := sp.mono; omega
      · exact (sp.nid j r i h1 h3).2.1
    have hle3 : C'.Le { C' with H := σ0.h, B := fun i => i < σ'.nx } := by
      refine ⟨fun _ _ _ => rfl, ?_, rfl, ?_, fun i hi => hBs i hi, fun b cs t fz h => ⟨cs, h, rfl⟩, Nat.le_refl _, rfl, rfl, rfl⟩
      · rintro b _ ⟨i, blk, h1, h2, h3⟩
        exact ⟨i, blk, (hin i blk h1).1, h2, h3⟩
      · intro i blk hi hb
        exact ⟨blk, (hin i blk hb).1, rfl, rfl⟩
    refine ⟨{ C' with H := σ0.h, B := fun i => i < σ'.nx }, rfl, rfl, rfl, ?_, (inv.le.trans hle).trans hle3, inv.defers, v, rfl, hv.le hle3⟩
    refine ⟨fun i j bi bj h1 h2 h3 => hok'.inj i j bi bj (hin i bi h1).1 (hin j bj h2).1 h3, fun i b h => hok'.nF i b (hin i b h).1, fun i b h => ?_, fun i b h => ?_, hok'.Fsz⟩
    · have := (hin i b h).2; have := sp.mono; dsimp only; omega
    · obtain ⟨cs, t, h1, h2, h3⟩ := hok'.blk i b (hin i b h).1
      refine ⟨cs, t, h1, h2, fun j c hc => ?_⟩
      obtain ⟨v, q1, q2, q3⟩ := h3 j c hc
      exact ⟨v, q1, q2.le hle3, q3⟩
  · cases hrun
end
end Vm
