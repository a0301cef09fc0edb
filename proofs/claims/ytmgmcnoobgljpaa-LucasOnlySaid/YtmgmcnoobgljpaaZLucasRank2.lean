/- Part 2 of a proof about this seat: Vm24, Val, Trim, Nums, Words, Cut, Open, Form, Nat1, Nat2, Nat3, Nat4, Int1, Ref1, Ref2, Ref3, Of, BitLen, Bit1, Row, Law1. (Own work of this repo.) -/
import Derived.Test.YtmgmcnoobgljpaaZLucasRank1
import Derived.OpenShut
import Derived.Carry
import Derived.Deep.Slices
set_option linter.unusedVariables false
set_option linter.unusedSimpArgs false
/- The machine over pure values: how one walks through a statement that leaves its order open. (Own work of this repo.) -/
namespace Vm
open Go

def mk (rds ids : List Nat) : Rec := ⟨.ok, none, undef, rds, ids.map fun i => (i, none), none, .all⟩
def summ (r : Rec) : Rec := mk r.rds r.ids
theorem mk_ids (rds ids : List Nat) : (mk rds ids).ids = ids := by unfold mk Rec.ids; simp [Function.comp_def]
theorem summ_ids (r : Rec) : (summ r).ids = r.ids := mk_ids _ _
theorem summ_free (r s : Rec) : (summ r).free (summ s) = r.free s := by unfold Rec.free; rw [summ_ids, summ_ids]; rfl
theorem summ_quiet (r : Rec) : (summ r).quiet = r.quiet := by unfold Rec.quiet summ mk Rec.ids; cases r.ups <;> rfl
theorem summ_one {all : List Oper} {i : Nat} {r : Rec} : ∀ (ss : List Rec) (j : Nat), dynOne all i (summ r) j (ss.map summ) = dynOne all i r j ss
  | [], _ => rfl
  | s :: ss, j => by simp only [List.map_cons, dynOne, summ_free, summ_one ss (j + 1)]
theorem summ_dyn {all : List Oper} : ∀ (rs : List Rec) (i : Nat), dynOk all i (rs.map summ) = dynOk all i rs
  | [], _ => rfl
  | r :: rs, i => by simp only [List.map_cons, dynOk, summ_one, summ_dyn rs (i + 1)]
/-- May the order be left open? -/
def okR (all : List Oper) (rs : List Rec) : Bool := match rs.all Rec.quiet with | true => true | false => dynOk all 0 rs
theorem summ_ok {all : List Oper} (rs : List Rec) : okR all (rs.map summ) = okR all rs := by
  unfold okR
  have : (rs.map summ).all Rec.quiet = rs.all Rec.quiet := by
    rw [List.all_map]; congr 1; funext r; exact summ_quiet r
  rw [this, summ_dyn]

section
variable {E : Env}
def reK (dst : Option Nat) (next : List Rec → St → Prop) (acc : List Rec) (σ : St) : Option Eff → Prop
  | some ⟨.val v, rds, ups, new⟩ => next (acc ++ [mk rds (ups.map (·.1))]) ⟨put σ.sl dst v, σ.h.upds ups, if new then σ.nx + 1 else σ.nx⟩
  | some ⟨.skip, rds, ups, new⟩ => next (acc ++ [mk rds (ups.map (·.1))]) ⟨put σ.sl dst undef, σ.h.upds ups, if new then σ.nx + 1 else σ.nx⟩
  | _ => False
def rcK (dst : Option Nat) (next : List Rec → St → Prop) (acc : List Rec) (σ : St) (ids : List Nat) : Option Res → Prop
  | some (.ret v) => next (acc ++ [mk ids ((freezes σ.h ids).map (·.1))]) ⟨put σ.sl dst v, σ.h.upds (freezes σ.h ids), σ.nx⟩
  | _ => False
def raK (E : Env) (dst : Option Nat) (next : List Rec → St → Prop) (acc : List Rec) (σ : St) (g : FuncId) : Option (List AV × List Nat) → Prop
  | some (l, ids) => rcK dst next acc σ ids (denP E g l)
  | none => False
def rtK (E : Env) (o : Oper) (next : List Rec → St → Prop) (acc : List Rec) (σ : St) : Option (FuncId × List AV) → Prop
  | some (g, l) => raK E o.dst next acc σ g (mapL (purify deep σ.h) l)
  | none => reK o.dst next acc σ (opEff E σ.h σ.nx σ.sl o.op)
def rwK (E : Env) (o : Oper) (next : List Rec → St → Prop) (acc : List Rec) (σ : St) : Option Bool → Prop
  | some true => rtK E o next acc σ (target σ.sl o.op)
  | some false => next (acc ++ [mk [] []]) ⟨put σ.sl o.dst undef, σ.h, σ.nx⟩
  | none => False
def Rc (E : Env) (all : List Oper) (Q : Ex → St → Prop) : List Oper → List Rec → St → Prop
  | [] => fun acc σ => okR all acc = true ∧ Q .norm σ
  | o :: os => fun acc σ => rwK E o (Rc E all Q os) acc σ (want all σ.sl o)

/-- The effects of calls. -/
noncomputable abbrev CE (E : Env) (N : Nat) : Heap → FuncId → List AV → Option Eff := callEff E (cl E (den E)) N
theorem mapL_lends {n : Nat} {H : Heap} : ∀ {l : List AV} {r : List AV × List Nat}, mapL (purify (n + 1) H) l = some r → lends l = false
  | [], _, _ => rfl
  | x :: xs, r, h => by
    simp only [mapL] at h
    split at h
    · rename_i y i ys j hy hys
      have ih := mapL_lends hys
      unfold lends at ih ⊢
      rw [List.any_cons, ih, Bool.or_false]
      cases x <;> first
        | rfl
        | (simp only [purify] at hy
           split at hy <;> cases hy
           rename_i hp
           dsimp only
           rw [hp]
           rfl)
        | (simp [purify, AV.pure] at hy)
    · cases h
theorem ce_pure {N : Nat} {H : Heap} {g : FuncId} {l l' : List AV} {ids : List Nat} {v : AV} (hl : mapL (purify deep H) l = some (l', ids)) (hd : denP E g l' = some (.ret v)) : CE E N H g l = some ⟨.val v, ids, freezes H ids, false⟩ := by
  have h1 := mapL_lends (n := 4) hl
  have hd' : (cl E (den E)).p g l' = some (.ret v) := hd
  unfold CE callEff
  rw [h1, Bool.and_false, if_neg (by simp)]
  simp only [pcallEff, hl, hd']
theorem Rc_sound {N : Nat} {all : List Oper} {Q : Ex → St → Prop} : ∀ (os : List Oper) (i : Nat) (acc : List Rec) (σ : St), Rc E all Q os acc σ → ∃ rs σ', recs E (CE E N) all os i none σ = some (rs, none, σ') ∧ okR all (acc ++ rs.map summ) = true ∧ Q .norm σ'
  | [], i, acc, σ, h => ⟨[], σ, rfl, by simpa using h.1, h.2⟩
  | o :: os, i, acc, σ, h => by
    have step : ∀ (r : Rec) (σ1 : St), Rc E all Q os (acc ++ [summ r]) σ1 → ∃ rs σ', recs E (CE E N) all os (i + 1) none σ1 = some (rs, none, σ') ∧ okR all (acc ++ (r :: rs).map summ) = true ∧ Q .norm σ' := by
      intro r σ1 h
      obtain ⟨rs, σ', h1, h2, h3⟩ := Rc_sound os (i + 1) _ σ1 h
      exact ⟨rs, σ', h1, by simpa using h2, h3⟩
    simp only [Rc] at h
    simp only [recs]
    unfold rwK at h
    split at h
    · rename_i hw
      rw [hw]
      dsimp only
      unfold rtK at h
      split at h
      · rename_i g l ht
        unfold raK at h
        split at h
        · rename_i l' ids hl
          unfold rcK at h
          split at h
          · rename_i v hd
            obtain ⟨rs, σ', h1, h2, h3⟩ := step ⟨.ok, o.dst, v, ids, freezes σ.h ids, none, depOf σ.sl σ.h o.op ⟨.val v, ids, freezes σ.h ids, false⟩⟩ _ h
            refine ⟨_, σ', ?_, h2, h3⟩
            have he : anyEff E (CE E N) σ.h σ.nx σ.sl o.op = some ⟨.val v, ids, freezes σ.h ids, false⟩ := by
              unfold anyEff
              rw [ht]
              exact ce_pure hl hd
            have h1' : recs E (CE E N) all os (i + 1) none ((σ.eff ⟨.val v, ids, freezes σ.h ids, false⟩).put o.dst v) = some (rs, none, σ') := h1
            simp only [he, h1', Bool.false_eq_true, if_false]
          · exact h.elim
        · exact h.elim
      · rename_i ht
        have he : anyEff E (CE E N) σ.h σ.nx σ.sl o.op = opEff E σ.h σ.nx σ.sl o.op := by unfold anyEff; rw [ht]
        unfold reK at h
        split at h
        · rename_i v rds ups new ho
          obtain ⟨rs, σ', h1, h2, h3⟩ := step ⟨.ok, o.dst, v, rds, ups, if new then some σ.nx else none, depOf σ.sl σ.h o.op ⟨.val v, rds, ups, new⟩⟩ _ h
          refine ⟨_, σ', ?_, h2, h3⟩
          have h1' : recs E (CE E N) all os (i + 1) none ((σ.eff ⟨.val v, rds, ups, new⟩).put o.dst v) = some (rs, none, σ') := h1
          simp only [he, ho, h1']
        · rename_i rds ups new ho
          obtain ⟨rs, σ', h1, h2, h3⟩ := step ⟨.ok, o.dst, undef, rds, ups, if new then some σ.nx else none, depOf σ.sl σ.h o.op ⟨.skip, rds, ups, new⟩⟩ _ h
          refine ⟨_, σ', ?_, h2, h3⟩
          have h1' : recs E (CE E N) all os (i + 1) none ((σ.eff ⟨.skip, rds, ups, new⟩).put o.dst undef) = some (rs, none, σ') := h1
          simp only [he, ho, h1']
        · exact h.elim
    · rename_i hw
      obtain ⟨rs, σ', h1, h2, h3⟩ := step ⟨.ok, o.dst, undef, [], [], none, .all⟩ _ h
      refine ⟨_, σ', ?_, h2, h3⟩
      have h1' : recs E (CE E N) all os (i + 1) none (σ.put o.dst undef) = some (rs, none, σ') := h1
      simp only [hw, h1']
    · exact h.elim

variable {Q : Ex → St → Prop} {σ : St}
theorem W_drawn {i : Nat} {ops : Array Oper} (h : Rc E ops.toList Q ops.toList [] σ) : W E (.region i ops true) σ Q := by
  obtain ⟨rs, σ', h1, h2, h3⟩ := Rc_sound (N := σ.nx + ops.toList.length) ops.toList 0 [] σ h
  rw [List.nil_append, summ_ok] at h2
  have : runDraw E (cl E (den E)) ops.toList σ = some (.norm, σ') := by
    unfold runDraw
    have h1' : recs E (callEff E (cl E (den E)) (σ.nx + ops.toList.length)) ops.toList ops.toList 0 none σ = some (rs, none, σ') := h1
    rw [h1']
    unfold okR at h2
    dsimp only
    split
    · rfl
    · rename_i hf; cases hq : rs.all Rec.quiet <;> simp only [hq] at h2 hf <;> first | (cases hf; done) | (rw [h2] at hf; cases hf)
  rw [W_draw this]
  exact h3
theorem Rc_nil {all : List Oper} {acc : List Rec} : Rc E all Q [] acc σ = (okR all acc = true ∧ Q .norm σ) := rfl
theorem Rc_cons {all os : List Oper} {o : Oper} {acc : List Rec} : Rc E all Q (o :: os) acc σ = rwK E o (Rc E all Q os) acc σ (want all σ.sl o) := propext ⟨fun h => h, fun h => h⟩
variable {dst : Option Nat} {next : List Rec → St → Prop} {acc : List Rec} {v : AV} {rds ids : List Nat} {ups : List (Nat × Option Blk)} {new : Bool} {g : FuncId} {l : List AV} {o : Oper}
theorem reK_val : reK dst next acc σ (some ⟨.val v, rds, ups, new⟩) = next (acc ++ [mk rds (ups.map (·.1))]) ⟨put σ.sl dst v, σ.h.upds ups, if new then σ.nx + 1 else σ.nx⟩ := propext ⟨fun h => h, fun h => h⟩
theorem reK_skip : reK dst next acc σ (some ⟨.skip, rds, ups, new⟩) = next (acc ++ [mk rds (ups.map (·.1))]) ⟨put σ.sl dst undef, σ.h.upds ups, if new then σ.nx + 1 else σ.nx⟩ := propext ⟨fun h => h, fun h => h⟩
theorem rcK_ret : rcK dst next acc σ ids (some (.ret v)) = next (acc ++ [mk ids ((freezes σ.h ids).map (·.1))]) ⟨put σ.sl dst v, σ.h.upds (freezes σ.h ids), σ.nx⟩ := propext ⟨fun h => h, fun h => h⟩
theorem raK_some : raK E dst next acc σ g (some (l, ids)) = rcK dst next acc σ ids (denP E g l) := propext ⟨fun h => h, fun h => h⟩
theorem rtK_some : rtK E o next acc σ (some (g, l)) = raK E o.dst next acc σ g (mapL (purify deep σ.h) l) := propext ⟨fun h => h, fun h => h⟩
theorem rtK_none : rtK E o next acc σ none = reK o.dst next acc σ (opEff E σ.h σ.nx σ.sl o.op) := propext ⟨fun h => h, fun h => h⟩
theorem rwK_t : rwK E o next acc σ (some true) = rtK E o next acc σ (target σ.sl o.op) := propext ⟨fun h => h, fun h => h⟩
theorem rwK_f : rwK E o next acc σ (some false) = next (acc ++ [mk [] []]) ⟨put σ.sl o.dst undef, σ.h, σ.nx⟩ := propext ⟨fun h => h, fun h => h⟩
end
/-! #### with readers that hang on little -/
def cr (rds : List Nat) (ups : List (Nat × Option Blk)) (dep : Dep) : Rec := ⟨.ok, none, undef, rds, ups, none, dep⟩
def core (r : Rec) : Rec := cr r.rds r.ups r.dep
/-- What a reader needs is not touched by any writer. -/
def StW (E : Env) (rs : List Rec) (H : Heap) (r : Rec) : Prop := r.ids = [] ∧ ∃ x, r.rds = [x] ∧ r.dep.ok E (H x) ∧ ∀ s ∈ rs, ∀ p ∈ s.ups, p.1 = x → r.dep.ok E p.2
def PairW (E : Env) (rs : List Rec) (H : Heap) (r s : Rec) : Prop :=
  (∀ i, i ∈ r.ids → i ∉ s.ids) ∧ ((∀ i, i ∈ r.ids → i ∉ s.rds) ∨ StW E rs H s) ∧ ((∀ i, i ∈ s.ids → i ∉ r.rds) ∨ StW E rs H r)
/-- The pairs that nothing keeps in order. -/
def fl1 (all : List Oper) (i : Nat) (r : Rec) : Nat → List Rec → List (Rec × Rec)
  | _, [] => []
  | j, s :: ss => (match r.quiet && s.quiet || befBit all j i with | true => fl1 all i r (j + 1) ss | false => (r, s) :: fl1 all i r (j + 1) ss)
def fl (all : List Oper) : Nat → List Rec → List (Rec × Rec)
  | _, [] => []
  | i, r :: rs => fl1 all i r (i + 1) rs ++ fl all (i + 1) rs
def allW (E : Env) (rs : List Rec) (H : Heap) : List (Rec × Rec) → Prop
  | [] => True
  | p :: ps => PairW E rs H p.1 p.2 ∧ allW E rs H ps
section
variable {E : Env} {H : Heap} {all : List Oper}
theorem allW_mem {rs : List Rec} {l : List (Rec × Rec)} (h : allW E rs H l) : ∀ p ∈ l, PairW E rs H p.1 p.2 := by
  induction l with
  | nil => intro p hp; cases hp
  | cons x xs ih =>
    intro p hp
    rcases List.mem_cons.1 hp with rfl | hp
    · exact h.1
    · exact ih h.2 p hp
theorem quiet_ids' {r : Rec} (h : r.quiet = true) : r.ids = [] := by
  unfold Rec.quiet at h; unfold Rec.ids
  rw [List.isEmpty_iff] at h; rw [h]; rfl
theorem fl1_mem {i : Nat} {r : Rec} : ∀ (ss : List Rec) (j k : Nat) (s : Rec), ss[k]? = some s → befBit all (j + k) i = false → (r.ids = [] ∧ s.ids = []) ∨ (r, s) ∈ fl1 all i r j ss
  | [], _, _, _, h, _ => by simp at h
  | t :: ss, j, k, s, h, hb => by
    rw [fl1]
    cases k with
    | zero =>
      simp at h; subst h
      rw [Nat.add_zero] at hb
      rw [hb, Bool.or_false]
      cases hq : r.quiet && t.quiet with
      | true =>
        rw [Bool.and_eq_true] at hq
        exact .inl ⟨quiet_ids' hq.1, quiet_ids' hq.2⟩
      | false => exact .inr List.mem_cons_self
    | succ k =>
      rcases fl1_mem ss (j + 1) k s (by simpa using h) (by rw [show j + 1 + k = j + (k + 1) by omega]; exact hb) with h | h
      · exact .inl h
      · right
        split
        · exact h
        · exact List.mem_cons_of_mem _ h
theorem fl_mem : ∀ (rs : List Rec) (i j k : Nat) (r s : Rec), rs[j]? = some r → rs[k]? = some s → j < k → befBit all (i + k) (i + j) = false → (r.ids = [] ∧ s.ids = []) ∨ (r, s) ∈ fl all i rs
  | [], _, _, _, _, _, h, _, _, _ => by simp at h
  | t :: rs, i, j, k, r, s, hr, hs, hlt, hb => by
    rw [fl]
    cases k with
    | zero => omega
    | succ k =>
      cases j with
      | zero =>
        simp at hr; subst hr
        exact (fl1_mem rs (i + 1) k s (by simpa using hs) (by rw [show i + 1 + k = i + (k + 1) by omega]; exact hb)).imp id (List.mem_append_left _)
      | succ j =>
        exact (fl_mem rs (i + 1) j k r s (by simpa using hr) (by simpa using hs) (by omega) (by rw [show i + 1 + k = i + (k + 1) by omega, show i + 1 + j = i + (j + 1) by omega]; exact hb)).imp id (List.mem_append_right _)
theorem upds_mem : ∀ (u : List (Nat × Option Blk)) (H : Heap) (x : Nat), x ∈ u.map (·.1) → ∃ p ∈ u, p.1 = x ∧ (H.upds u) x = p.2
  | [], _, _, h => by simp at h
  | (k, b) :: u, H, x, h => by
    simp only [Heap.upds]
    by_cases hx : x ∈ u.map (·.1)
    · obtain ⟨p, h1, h2, h3⟩ := upds_mem u (H.upd k b) x hx
      exact ⟨p, List.mem_cons_of_mem _ h1, h2, h3⟩
    · simp only [List.map_cons, List.mem_cons] at h
      have : x = k := h.resolve_right hx
      subst this
      exact ⟨(x, b), List.mem_cons_self, rfl, by rw [upds_other u hx, Heap.upd_same]⟩
theorem vis_sub {i x : Nat} : ∀ (rs : List Rec) (k : Nat) (acc : List (Option Blk)) (b : Option Blk), b ∈ vis all i x rs k acc → b ∈ acc ∨ ∃ s ∈ rs, x ∈ s.ids ∧ b = (Heap.empty.upds s.ups) x
  | [], _, _, _, h => .inl h
  | s :: ss, k, acc, b, h => by
    simp only [vis] at h
    rcases vis_sub ss (k + 1) _ b h with h | ⟨s', h1, h2, h3⟩
    · by_cases hx : x ∈ s.ids
      · split at h
        · simp at h; exact .inr ⟨s, List.mem_cons_self, hx, h⟩
        · rcases List.mem_cons.1 h with h | h
          · exact .inr ⟨s, List.mem_cons_self, hx, h⟩
          · exact .inl h
        · rcases List.mem_cons.1 h with h | h
          · exact .inr ⟨s, List.mem_cons_self, hx, h⟩
          · exact .inl h
        · exact .inl h
      · have hc : s.ids.contains x = false := by simpa using hx
        rw [hc] at h
        exact .inl h
    · exact .inr ⟨s', List.mem_cons_of_mem _ h1, h2, h3⟩
theorem stable_of {rs : List Rec} {i : Nat} {r : Rec} (h : StW E rs H r) : Stable E all rs H i r := by
  obtain ⟨h1, x, h2, h3, h4⟩ := h
  refine ⟨h1, x, h2, fun b hb => ?_⟩
  rcases vis_sub rs 0 _ b hb with hb | ⟨s, hs, hx, rfl⟩
  · simp at hb; rw [hb]; exact h3
  · obtain ⟨p, q1, q2, q3⟩ := upds_mem s.ups Heap.empty x hx
    rw [q3]; exact h4 s hs p q1 q2
theorem core_map {rs : List Rec} {H : Heap} {r : Rec} (h : StW E (rs.map core) H (core r)) : StW E rs H r := by
  obtain ⟨h1, x, h2, h3, h4⟩ := h
  exact ⟨h1, x, h2, h3, fun s hs p hp => h4 (core s) (List.mem_map_of_mem hs) p hp⟩
theorem dyn_of {rs : List Rec} (h : allW E (rs.map core) H (fl all 0 (rs.map core))) : DynP E all rs H := by
  intro j k r s hr hs hlt hb
  have key : PairW E (rs.map core) H (core r) (core s) ∨ ((core r).ids = [] ∧ (core s).ids = []) := by
    rcases fl_mem (all := all) (rs.map core) 0 j k (core r) (core s) (by simp [hr]) (by simp [hs]) hlt (by simpa using hb) with h1 | h1
    · exact .inr h1
    · exact .inl (allW_mem h _ h1)
  rcases key with ⟨h1, h2, h3⟩ | ⟨h1, h2⟩
  · exact ⟨h1, h2.symm.imp (fun h => stable_of (core_map h)) id, h3.symm.imp (fun h => stable_of (core_map h)) id⟩
  · have e1 : r.ids = [] := h1
    have e2 : s.ids = [] := h2
    unfold PairOk
    rw [e1, e2]
    exact ⟨fun _ h => absurd h (by simp), .inr fun _ h => absurd h (by simp), .inr fun _ h => absurd h (by simp)⟩
end

section
variable {E : Env}
def reK2 (dst : Option Nat) (op : Op) (next : List Rec → St → Prop) (acc : List Rec) (σ : St) : Option Eff → Prop
  | some ⟨.val v, rds, ups, new⟩ => next (acc ++ [cr rds ups (depOf σ.sl σ.h op ⟨.val v, rds, ups, new⟩)]) ⟨put σ.sl dst v, σ.h.upds ups, if new then σ.nx + 1 else σ.nx⟩
  | some ⟨.skip, rds, ups, new⟩ => next (acc ++ [cr rds ups (depOf σ.sl σ.h op ⟨.skip, rds, ups, new⟩)]) ⟨put σ.sl dst undef, σ.h.upds ups, if new then σ.nx + 1 else σ.nx⟩
  | _ => False
def rcK2 (dst : Option Nat) (next : List Rec → St → Prop) (acc : List Rec) (σ : St) (ids : List Nat) : Option Res → Prop
  | some (.ret v) => next (acc ++ [cr ids (freezes σ.h ids) .all]) ⟨put σ.sl dst v, σ.h.upds (freezes σ.h ids), σ.nx⟩
  | _ => False
/-- A call that is lent a part of the heap. -/
def lnK2 (E : Env) (N : Nat) (dst : Option Nat) (next : List Rec → St → Prop) (acc : List Rec) (σ : St) (g : FuncId) (l : List AV) : Prop :=
  lends l = true ∧ (E.opn g && g != 1000003) = true ∧ ∃ v H' n', denO E g l (σ.h.only (reach σ.h 3 l)) N = some (.ret v, H', n') ∧ v.pure = true ∧ lendOk σ.h H' (reach σ.h 3 l) = true ∧
    next (acc ++ [cr (reach σ.h 3 l) (lendUps σ.h H' (reach σ.h 3 l)) .all]) ⟨put σ.sl dst v, σ.h.upds (lendUps σ.h H' (reach σ.h 3 l)), σ.nx⟩
def raK2 (E : Env) (N : Nat) (dst : Option Nat) (next : List Rec → St → Prop) (acc : List Rec) (σ : St) (g : FuncId) (l0 : List AV) : Option (List AV × List Nat) → Prop
  | some (l, ids) => rcK2 dst next acc σ ids (denP E g l)
  | none => lnK2 E N dst next acc σ g l0
def rtK2 (E : Env) (N : Nat) (o : Oper) (next : List Rec → St → Prop) (acc : List Rec) (σ : St) : Option (FuncId × List AV) → Prop
  | some (g, l) => raK2 E N o.dst next acc σ g l (mapL (purify deep σ.h) l)
  | none => reK2 o.dst o.op next acc σ (opEff E σ.h σ.nx σ.sl o.op)
def rwK2 (E : Env) (N : Nat) (o : Oper) (next : List Rec → St → Prop) (acc : List Rec) (σ : St) : Option Bool → Prop
  | some true => rtK2 E N o next acc σ (target σ.sl o.op)
  | some false => next (acc ++ [cr [] [] .all]) ⟨put σ.sl o.dst undef, σ.h, σ.nx⟩
  | none => False
def Rc2 (E : Env) (N : Nat) (all : List Oper) (H : Heap) (Q : Ex → St → Prop) : List Oper → List Rec → St → Prop
  | [] => fun acc σ => allW E acc H (fl all 0 acc) ∧ Q .norm σ
  | o :: os => fun acc σ => rwK2 E N o (Rc2 E N all H Q os) acc σ (want all σ.sl o)

theorem depOf_call {E : Env} {σ : St} {op : Op} {g : FuncId} {l : List AV} (ht : target σ.sl op = some (g, l)) (e : Eff) : depOf σ.sl σ.h op e = .all := by
  unfold depOf
  split
  · split
    · cases op <;> simp only [target, reduceCtorEq] at ht
      rename_i c
      split at ht <;> try cases ht
      rename_i f hc
      simp only [hc]
    · rfl
  · rfl
theorem Rc2_sound {N : Nat} {all : List Oper} {H : Heap} {Q : Ex → St → Prop} : ∀ (os : List Oper) (i : Nat) (acc : List Rec) (σ : St), Rc2 E N all H Q os acc σ → ∃ rs σ', recs E (CE E N) all os i none σ = some (rs, none, σ') ∧ allW E (acc ++ rs.map core) H (fl all 0 (acc ++ rs.map core)) ∧ Q .norm σ'
  | [], i, acc, σ, h => ⟨[], σ, rfl, by simpa using h.1, h.2⟩
  | o :: os, i, acc, σ, h => by
    have step : ∀ (r : Rec) (σ1 : St), Rc2 E N all H Q os (acc ++ [core r]) σ1 → ∃ rs σ', recs E (CE E N) all os (i + 1) none σ1 = some (rs, none, σ') ∧ allW E (acc ++ (r :: rs).map core) H (fl all 0 (acc ++ (r :: rs).map core)) ∧ Q .norm σ' := by
      intro r σ1 h
      obtain ⟨rs, σ', h1, h2, h3⟩ := Rc2_sound os (i + 1) _ σ1 h
      exact ⟨rs, σ', h1, by simpa using h2, h3⟩
    simp only [Rc2] at h
    simp only [recs]
    unfold rwK2 at h
    split at h
    · rename_i hw
      rw [hw]
      dsimp only
      unfold rtK2 at h
      split at h
      · rename_i g l ht
        unfold raK2 at h
        split at h
        · rename_i l' ids hl
          unfold rcK2 at h
          split at h
          · rename_i v hd
            rw [← depOf_call (E := E) ht ⟨.val v, ids, freezes σ.h ids, false⟩] at h
            obtain ⟨rs, σ', h1, h2, h3⟩ := step ⟨.ok, o.dst, v, ids, freezes σ.h ids, none, depOf σ.sl σ.h o.op ⟨.val v, ids, freezes σ.h ids, false⟩⟩ _ h
            refine ⟨_, σ', ?_, h2, h3⟩
            have he : anyEff E (CE E N) σ.h σ.nx σ.sl o.op = some ⟨.val v, ids, freezes σ.h ids, false⟩ := by
              unfold anyEff
              rw [ht]
              exact ce_pure hl hd
            have h1' : recs E (CE E N) all os (i + 1) none ((σ.eff ⟨.val v, ids, freezes σ.h ids, false⟩).put o.dst v) = some (rs, none, σ') := h1
            simp only [he, h1', Bool.false_eq_true, if_false]
          · exact h.elim
        · obtain ⟨k1, k2, v, H', n', k3, k4, k5, k6⟩ := h
          rw [← depOf_call (E := E) ht ⟨.val v, reach σ.h 3 l, lendUps σ.h H' (reach σ.h 3 l), false⟩] at k6
          obtain ⟨rs, σ', h1, h2, h3⟩ := step ⟨.ok, o.dst, v, reach σ.h 3 l, lendUps σ.h H' (reach σ.h 3 l), none, depOf σ.sl σ.h o.op ⟨.val v, reach σ.h 3 l, lendUps σ.h H' (reach σ.h 3 l), false⟩⟩ _ k6
          refine ⟨_, σ', ?_, h2, h3⟩
          have he : anyEff E (CE E N) σ.h σ.nx σ.sl o.op = some ⟨.val v, reach σ.h 3 l, lendUps σ.h H' (reach σ.h 3 l), false⟩ := by
            unfold anyEff
            rw [ht]
            have k3' : (cl E (den E)).o g l (σ.h.only (reach σ.h 3 l)) N = some (.ret v, H', n') := k3
            rw [Bool.and_eq_true] at k2
            simp only [CE, callEff, k1, k2.1, k2.2, Bool.and_self, if_true, lendEff, k3', k4, k5]
          have h1' : recs E (CE E N) all os (i + 1) none ((σ.eff ⟨.val v, reach σ.h 3 l, lendUps σ.h H' (reach σ.h 3 l), false⟩).put o.dst v) = some (rs, none, σ') := h1
          simp only [he, h1', Bool.false_eq_true, if_false]
      · rename_i ht
        have he : anyEff E (CE E N) σ.h σ.nx σ.sl o.op = opEff E σ.h σ.nx σ.sl o.op := by unfold anyEff; rw [ht]
        unfold reK2 at h
        split at h
        · rename_i v rds ups new ho
          obtain ⟨rs, σ', h1, h2, h3⟩ := step ⟨.ok, o.dst, v, rds, ups, if new then some σ.nx else none, depOf σ.sl σ.h o.op ⟨.val v, rds, ups, new⟩⟩ _ h
          refine ⟨_, σ', ?_, h2, h3⟩
          have h1' : recs E (CE E N) all os (i + 1) none ((σ.eff ⟨.val v, rds, ups, new⟩).put o.dst v) = some (rs, none, σ') := h1
          simp only [he, ho, h1']
        · rename_i rds ups new ho
          obtain ⟨rs, σ', h1, h2, h3⟩ := step ⟨.ok, o.dst, undef, rds, ups, if new then some σ.nx else none, depOf σ.sl σ.h o.op ⟨.skip, rds, ups, new⟩⟩ _ h
          refine ⟨_, σ', ?_, h2, h3⟩
          have h1' : recs E (CE E N) all os (i + 1) none ((σ.eff ⟨.skip, rds, ups, new⟩).put o.dst undef) = some (rs, none, σ') := h1
          simp only [he, ho, h1']
        · exact h.elim
    · rename_i hw
      obtain ⟨rs, σ', h1, h2, h3⟩ := step ⟨.ok, o.dst, undef, [], [], none, .all⟩ _ h
      refine ⟨_, σ', ?_, h2, h3⟩
      have h1' : recs E (CE E N) all os (i + 1) none (σ.put o.dst undef) = some (rs, none, σ') := h1
      simp only [hw, h1']
    · exact h.elim

variable {Q : Ex → St → Prop} {σ : St}
theorem W_drawn2 {i : Nat} {ops : Array Oper} (h : Rc2 E (σ.nx + ops.toList.length) ops.toList σ.h Q ops.toList [] σ) : W E (.region i ops true) σ Q := by
  obtain ⟨rs, σ', h1, h2, h3⟩ := Rc2_sound ops.toList 0 [] σ h
  rw [List.nil_append] at h2
  have h2' := dyn_of h2
  have : runDraw E (cl E (den E)) ops.toList σ = some (.norm, σ') := by
    unfold runDraw
    have h1' : recs E (callEff E (cl E (den E)) (σ.nx + ops.toList.length)) ops.toList ops.toList 0 none σ = some (rs, none, σ') := h1
    rw [h1']
    dsimp only
    split
    · rfl
    · rw [if_pos h2']
  rw [W_draw this]
  exact h3
variable {H : Heap} {N : Nat}
theorem Rc2_nil {all : List Oper} {acc : List Rec} : Rc2 E N all H Q [] acc σ = (allW E acc H (fl all 0 acc) ∧ Q .norm σ) := propext ⟨fun h => h, fun h => h⟩
theorem Rc2_cons {all os : List Oper} {o : Oper} {acc : List Rec} : Rc2 E N all H Q (o :: os) acc σ = rwK2 E N o (Rc2 E N all H Q os) acc σ (want all σ.sl o) := propext ⟨fun h => h, fun h => h⟩
variable {dst : Option Nat} {op : Op} {next : List Rec → St → Prop} {acc : List Rec} {v : AV} {rds ids : List Nat} {ups : List (Nat × Option Blk)} {new : Bool} {g : FuncId} {l : List AV} {o : Oper}
theorem reK2_val : reK2 dst op next acc σ (some ⟨.val v, rds, ups, new⟩) = next (acc ++ [cr rds ups (depOf σ.sl σ.h op ⟨.val v, rds, ups, new⟩)]) ⟨put σ.sl dst v, σ.h.upds ups, if new then σ.nx + 1 else σ.nx⟩ := propext ⟨fun h => h, fun h => h⟩
theorem reK2_skip : reK2 dst op next acc σ (some ⟨.skip, rds, ups, new⟩) = next (acc ++ [cr rds ups (depOf σ.sl σ.h op ⟨.skip, rds, ups, new⟩)]) ⟨put σ.sl dst undef, σ.h.upds ups, if new then σ.nx + 1 else σ.nx⟩ := propext ⟨fun h => h, fun h => h⟩
theorem rcK2_ret : rcK2 dst next acc σ ids (some (.ret v)) = next (acc ++ [cr ids (freezes σ.h ids) .all]) ⟨put σ.sl dst v, σ.h.upds (freezes σ.h ids), σ.nx⟩ := propext ⟨fun h => h, fun h => h⟩
theorem raK2_some {l0 : List AV} : raK2 E N dst next acc σ g l0 (some (l, ids)) = rcK2 dst next acc σ ids (denP E g l) := propext ⟨fun h => h, fun h => h⟩
theorem rtK2_some : rtK2 E N o next acc σ (some (g, l)) = raK2 E N o.dst next acc σ g l (mapL (purify deep σ.h) l) := propext ⟨fun h => h, fun h => h⟩
theorem lnK2_intro {R : List Nat} {H' : Heap} {n' : Nat} (hl : lends l = true) (ho : (E.opn g && g != 1000003) = true) (hR : reach σ.h 3 l = R) (hd : denO E g l (σ.h.only R) N = some (.ret v, H', n')) (hp : v.pure = true) (hok : lendOk σ.h H' R = true) (hu : lendUps σ.h H' R = ups)
    (hn : next (acc ++ [cr R ups .all]) ⟨put σ.sl dst v, σ.h.upds ups, σ.nx⟩) : lnK2 E N dst next acc σ g l := by
  subst hR hu
  exact ⟨hl, ho, v, H', n', hd, hp, hok, hn⟩
theorem raK2_none {l0 : List AV} : raK2 E N dst next acc σ g l0 none = lnK2 E N dst next acc σ g l0 := propext ⟨fun h => h, fun h => h⟩
theorem lendUps_nil {H H' : Heap} : lendUps H H' [] = [] := rfl
theorem lendUps_cons {H H' : Heap} {i : Nat} {R : List Nat} : lendUps H H' (i :: R) = (i, H' i) :: lendUps H H' R := rfl
theorem rtK2_none : rtK2 E N o next acc σ none = reK2 o.dst o.op next acc σ (opEff E σ.h σ.nx σ.sl o.op) := propext ⟨fun h => h, fun h => h⟩
theorem rwK2_t : rwK2 E N o next acc σ (some true) = rtK2 E N o next acc σ (target σ.sl o.op) := propext ⟨fun h => h, fun h => h⟩
theorem rwK2_f : rwK2 E N o next acc σ (some false) = next (acc ++ [cr [] [] .all]) ⟨put σ.sl o.dst undef, σ.h, σ.nx⟩ := propext ⟨fun h => h, fun h => h⟩
/-- Evaluated at once where it is written down. -/
theorem depOf_none {sl : List AV} {h : Heap} {out : Out} : depOf sl h op ⟨out, [], ups, new⟩ = .all := rfl
theorem depOf_two {sl : List AV} {h : Heap} {out : Out} {x y : Nat} {xs : List Nat} : depOf sl h op ⟨out, x :: y :: xs, ups, new⟩ = .all := rfl
end
attribute [go_sem] Rc_nil Rc_cons reK_val reK_skip rcK_ret raK_some rtK_some rtK_none rwK_t rwK_f Rc2_nil Rc2_cons reK2_val reK2_skip rcK2_ret raK2_some rtK2_some rtK2_none rwK2_t rwK2_f depOf_none depOf_two depOf List.map_cons W_seq W_block W_region W_skip W_ret W_exit thenK_norm thenK_exit thenK_ret thenK_panic blockK_norm blockK_exit blockK_ret blockK_panic loopK_norm loopK_exit loopK_ret loopK_panic retK_ret retK_norm resK_some purK_some W_cond' condK_t condK_f Rg_nil Rg_cons wantK_t wantK_f targK_none targK_some effK_val effK_skip effK_panic argK_some callK_ret callK_panic openK_ret openK_panic want target opEff ev evs evo evps Option.map_some Option.map_none Option.isSome_none Option.isNone_some Option.isNone_none Int.toNat_natCast Int.toNat_zero Int.toNat_one Int.natCast_zero List.drop_zero Option.isSome_some put List.set_cons_zero List.set_cons_succ List.getD_cons_zero List.getD_cons_succ List.getElem?_cons_zero List.getElem?_cons_succ ofConst scalConst Eff.v Heap.upds Bool.false_eq_true if_false if_true builtinEff binEff bothInt intBin loadEff storeEff beq_self_eq_true Bool.and_self Bool.true_and Bool.and_true Bool.false_and Bool.and_false Bool.not_true Bool.not_false resOf one Nat.zero_add Nat.mul_one Nat.zero_mul List.replicate eqOf AV.cells List.length_cons List.length_nil inRange beq_true beq_false Bool.true_beq Bool.false_beq decide_true decide_false decide_eq_true_eq not_true_eq_false not_false_eq_true List.append_nil List.nil_append List.cons_append Vm.undef Int.cast_ofNat_Int Bool.or_true Bool.true_or Bool.or_false Bool.false_or purify_wd purify_lnil List.map_nil purify_ref refP_wd flat_wd purify_agg purify_tup purify_int purify_bool purify_str purify_nilf purify_fn mapL_nil mapL_cons pure_wd upd_apply setCells_cons setCells_nil freezes iv deep List.all_cons List.all_nil AV.scal List.take_succ_cons List.take_zero List.drop_succ_cons List.take_nil List.drop_nil true_or or_true or_self false_or or_false and_true true_and and_self ite_self if_pos if_neg decide_eq_true decide_eq_false get_wd get_wd' wd List.length_map
end Vm

/- Plain facts on words: what a row of words is worth, and the row of a number. (Own work of this repo.) -/
namespace Vm

/-- The words' base. -/
abbrev BB : Nat := 4294967296
/-- What the first words are worth. -/
def vp (l : List Nat) : Nat → Nat
  | 0 => 0
  | n + 1 => vp l n + l.getD n 0 * BB ^ n
def val (l : List Nat) : Nat := vp l l.length
def InR (l : List Nat) : Prop := ∀ x ∈ l, x < BB
theorem InR.get {l : List Nat} (h : InR l) (i : Nat) : l.getD i 0 < 4294967296 := by
  rw [List.getD_eq_getElem?_getD]
  by_cases hi : i < l.length
  · rw [List.getElem?_eq_getElem hi]; exact h _ (List.getElem_mem hi)
  · rw [List.getElem?_eq_none (by omega)]; decide
theorem vp_ge (l : List Nat) : ∀ n, l.length ≤ n → vp l n = val l := by
  intro n h
  induction n with
  | zero => have : l.length = 0 := by omega
            simp [val, this, vp]
  | succ n ih =>
    by_cases hn : l.length ≤ n
    · rw [vp, ih hn, List.getD_eq_getElem?_getD, List.getElem?_eq_none hn]; simp
    · have : l.length = n + 1 := by omega
      rw [val, this]
theorem vp_cons (x : Nat) (xs : List Nat) : ∀ n, vp (x :: xs) (n + 1) = x + BB * vp xs n := by
  intro n
  induction n with
  | zero => simp [vp]
  | succ n ih => rw [vp, ih, vp, List.getD_cons_succ, Nat.pow_succ, Nat.mul_add]; generalize BB ^ n = p; generalize xs.getD n 0 = y; rw [Nat.add_assoc, show y * (p * BB) = BB * (y * p) by rw [Nat.mul_comm p, ← Nat.mul_assoc, Nat.mul_comm y, Nat.mul_assoc]]
theorem val_nil : val [] = 0 := rfl
theorem val_cons (x : Nat) (xs : List Nat) : val (x :: xs) = x + BB * val xs := vp_cons x xs xs.length
theorem vp_lt {l : List Nat} (h : InR l) : ∀ n, vp l n < BB ^ n
  | 0 => by simp [vp]
  | n + 1 => by
    have h1 := vp_lt h n
    have h2 := h.get n
    rw [vp, Nat.pow_succ, Nat.mul_comm (BB ^ n)]
    have h3 : (l.getD n 0 + 1) * BB ^ n ≤ BB * BB ^ n := Nat.mul_le_mul_right _ h2
    rw [Nat.add_mul] at h3
    omega
theorem vp_set (l : List Nat) (i x : Nat) : ∀ n, n ≤ i → vp (l.set i x) n = vp l n
  | 0, _ => rfl
  | n + 1, h => by
    rw [vp, vp, vp_set l i x n (by omega)]
    congr 2
    rw [List.getD_eq_getElem?_getD, List.getD_eq_getElem?_getD, List.getElem?_set_ne (by omega)]
theorem lget_set_self {l : List Nat} {i x : Nat} (h : i < l.length) : (l.set i x).getD i 0 = x := by
  rw [List.getD_eq_getElem?_getD, List.getElem?_set_self h]; rfl
theorem lget_set_ne {l : List Nat} {i j x : Nat} (h : i ≠ j) : (l.set i x).getD j 0 = l.getD j 0 := by
  rw [List.getD_eq_getElem?_getD, List.getD_eq_getElem?_getD, List.getElem?_set_ne h]
theorem InR.set {l : List Nat} (h : InR l) {i x : Nat} (hx : x < BB) : InR (l.set i x) := by
  intro y hy
  rcases List.mem_or_eq_of_mem_set hy with hy | rfl
  · exact h y hy
  · exact hx
theorem InR.replicate (n : Nat) : InR (List.replicate n 0) := by intro x hx; rw [List.eq_of_mem_replicate hx]; decide
theorem vp_replicate (m : Nat) : ∀ n, vp (List.replicate m 0) n = 0
  | 0 => rfl
  | n + 1 => by
    rw [vp, vp_replicate m n, List.getD_eq_getElem?_getD, List.getElem?_replicate]
    split <;> simp
theorem getD_replicate (m i : Nat) : (List.replicate m 0).getD i 0 = 0 := by
  rw [List.getD_eq_getElem?_getD, List.getElem?_replicate]; split <;> rfl
theorem InR.take {l : List Nat} (h : InR l) (n : Nat) : InR (l.take n) := fun x hx => h x (List.mem_of_mem_take hx)
theorem InR.drop {l : List Nat} (h : InR l) (n : Nat) : InR (l.drop n) := fun x hx => h x (List.mem_of_mem_drop hx)
theorem vp_congr {l m : List Nat} : ∀ n, (∀ i, i < n → l.getD i 0 = m.getD i 0) → vp l n = vp m n
  | 0, _ => rfl
  | n + 1, h => by rw [vp, vp, vp_congr n (fun i hi => h i (by omega)), h n (by omega)]
theorem getD_take {l : List Nat} {i n : Nat} (h : i < n) : (l.take n).getD i 0 = l.getD i 0 := by
  rw [List.getD_eq_getElem?_getD, List.getD_eq_getElem?_getD, List.getElem?_take_of_lt h]
theorem getD_drop {l : List Nat} {i n : Nat} : (l.drop n).getD i 0 = l.getD (n + i) 0 := by
  rw [List.getD_eq_getElem?_getD, List.getD_eq_getElem?_getD, List.getElem?_drop]

/-- A row without zeros at its end. -/
def Norm (l : List Nat) : Prop := InR l ∧ (l = [] ∨ l.getD (l.length - 1) 0 ≠ 0)
/-- The row of a number. -/
def dig (n : Nat) : List Nat := if h : n = 0 then [] else n % BB :: dig (n / BB)
termination_by n
decreasing_by exact Nat.div_lt_self (by omega) (by decide)
theorem dig_zero : dig 0 = [] := by rw [dig]; simp
theorem dig_pos {n : Nat} (h : n ≠ 0) : dig n = n % BB :: dig (n / BB) := by rw [dig, dif_neg h]
theorem dig_inR (n : Nat) : InR (dig n) := by
  induction n using Nat.strongRecOn with
  | _ n ih =>
    by_cases h : n = 0
    · subst h; rw [dig_zero]; intro x hx; cases hx
    · rw [dig_pos h]
      intro x hx
      rcases List.mem_cons.1 hx with rfl | hx
      · exact Nat.mod_lt _ (by decide)
      · exact ih (n / BB) (Nat.div_lt_self (by omega) (by decide)) x hx
theorem val_dig (n : Nat) : val (dig n) = n := by
  induction n using Nat.strongRecOn with
  | _ n ih =>
    by_cases h : n = 0
    · subst h; rw [dig_zero]; rfl
    · rw [dig_pos h, val_cons, ih (n / BB) (Nat.div_lt_self (by omega) (by decide))]
      exact Nat.mod_add_div n BB
theorem InR.tail {x : Nat} {xs : List Nat} (h : InR (x :: xs)) : InR xs := fun y hy => h y (List.mem_cons_of_mem _ hy)
theorem Norm.tail {x : Nat} {xs : List Nat} (h : Norm (x :: xs)) : Norm xs := by
  refine ⟨h.1.tail, ?_⟩
  cases xs with
  | nil => exact .inl rfl
  | cons y ys =>
    right
    have := h.2.resolve_left (by simp)
    simpa using this
theorem norm_pos {l : List Nat} (h : Norm l) (hl : l ≠ []) : 0 < val l := by
  induction l with
  | nil => exact absurd rfl hl
  | cons x xs ih =>
    rw [val_cons]
    cases xs with
    | nil =>
      have := h.2.resolve_left (by simp)
      simp at this
      simp [val_nil]; omega
    | cons y ys =>
      have := ih h.tail (by simp)
      have : 0 < BB * val (y :: ys) := Nat.mul_pos (by decide) this
      omega
/-- A row without zeros at its end is its number's. -/
theorem dig_val {l : List Nat} (h : Norm l) : dig (val l) = l := by
  induction l with
  | nil => rw [val_nil, dig_zero]
  | cons x xs ih =>
    have h1 := norm_pos h (by simp)
    have hx : x < BB := h.1 x (by simp)
    rw [dig_pos (by omega), val_cons, Nat.add_mul_mod_self_left, Nat.mod_eq_of_lt hx, Nat.add_mul_div_left _ _ (by decide), Nat.div_eq_of_lt hx, Nat.zero_add, ih h.tail]
theorem dig_norm (n : Nat) : Norm (dig n) := by
  refine ⟨dig_inR n, ?_⟩
  induction n using Nat.strongRecOn with
  | _ n ih =>
    by_cases h : n = 0
    · subst h; left; rw [dig_zero]
    · right
      rw [dig_pos h]
      rcases ih (n / BB) (Nat.div_lt_self (by omega) (by decide)) with h1 | h1
      · rw [h1]
        have h0 : n / BB = 0 := by
          have := val_dig (n / BB)
          rw [h1] at this; exact this.symm
        have := Nat.mod_add_div n BB
        rw [h0] at this
        simp only [List.length_cons, List.length_nil, Nat.zero_add, Nat.sub_self, List.getD_cons_zero]
        omega
      · have h2 : (dig (n / BB)).length ≠ 0 := by
          intro e
          rw [List.length_eq_zero_iff] at e
          rw [e] at h1; simp at h1
        obtain ⟨k, hk⟩ : ∃ k, (dig (n / BB)).length = k + 1 := ⟨(dig (n / BB)).length - 1, by omega⟩
        rw [hk] at h1
        simp only [List.length_cons, hk, Nat.add_sub_cancel, List.getD_cons_succ]
        simpa using h1
theorem dig_inj {a b : Nat} (h : dig a = dig b) : a = b := by rw [← val_dig a, h, val_dig]
theorem dig_nil {n : Nat} : dig n = [] ↔ n = 0 := ⟨fun h => by rw [← val_dig n, h]; rfl, fun h => by rw [h, dig_zero]⟩
theorem norm_ext {a b : List Nat} (ha : Norm a) (hb : Norm b) (h : val a = val b) : a = b := by rw [← dig_val ha, h, dig_val hb]
/-- How long a number's row is. -/
theorem val_lt {l : List Nat} (h : InR l) : val l < BB ^ l.length := vp_lt h _
theorem norm_ge {l : List Nat} (h : Norm l) (hl : l ≠ []) : BB ^ (l.length - 1) ≤ val l := by
  obtain ⟨k, hk⟩ : ∃ k, l.length = k + 1 := ⟨l.length - 1, by have := List.length_pos_iff.2 hl; omega⟩
  have h1 := h.2.resolve_left hl
  rw [hk] at h1 ⊢
  rw [val, hk, vp]
  simp only [Nat.add_sub_cancel] at h1 ⊢
  have : 1 * BB ^ k ≤ l.getD k 0 * BB ^ k := Nat.mul_le_mul_right _ (by omega)
  omega
theorem dig_len {n k : Nat} : (dig n).length ≤ k ↔ n < BB ^ k := by
  constructor
  · intro h
    have h1 := val_lt (dig_inR n)
    rw [val_dig] at h1
    exact Nat.lt_of_lt_of_le h1 (Nat.pow_le_pow_right (by decide) h)
  · intro h
    by_cases h0 : dig n = []
    · rw [h0]; simp
    · have h1 := norm_ge (dig_norm n) h0
      rw [val_dig] at h1
      have h2 : BB ^ ((dig n).length - 1) < BB ^ k := by omega
      have := (Nat.pow_lt_pow_iff_right (by decide : 1 < BB)).1 h2
      omega

/-! #### for walks -/
/-- A fact that the reckoning of bounds need not look at. -/
structure Hd (p : Prop) : Prop where
  out : p
theorem cast_succ (i : Nat) : (i : Int) + 1 = ((i + 1 : Nat) : Int) := rfl
theorem wrapu32_nat (n : Nat) : Go.IntKind.u32.wrap (n : Int) = ((n % 4294967296 : Nat) : Int) := by rw [Go.IntKind.wrap_u32']; rfl
theorem shr32 (n : Nat) : (n : Int).fdiv (2 ^ min 32 (kb .u64)) = ((n / 4294967296 : Nat) : Int) := by
  rw [show min 32 (kb .u64) = 32 from rfl, Int.fdiv_eq_ediv_of_nonneg _ (by decide)]; rfl
/-- Zeros. -/
def zs (n : Nat) : List Nat := List.replicate n 0
theorem zs_len (n : Nat) : (zs n).length = n := List.length_replicate
theorem zs_inR (n : Nat) : InR (zs n) := InR.replicate n
theorem zs_vp (n k : Nat) : vp (zs n) k = 0 := vp_replicate n k
theorem zs_get (n i : Nat) : (zs n).getD i 0 = 0 := getD_replicate n i
theorem reps_wd : ∀ n, reps n [AV.int .u32 0] = (zs n).map wd := by
  unfold zs
  intro n
  induction n with
  | zero => rfl
  | succ n ih => simp only [reps, ih, List.replicate_succ, List.map_cons]; rfl
theorem split_mul (s p : Nat) : s % BB * p + s / BB * (p * BB) = s * p := by
  have h := Nat.mod_add_div s BB
  have h2 : s / BB * (p * BB) = BB * (s / BB) * p := by rw [Nat.mul_comm p BB, ← Nat.mul_assoc, Nat.mul_comm (s / BB) BB]
  rw [h2, ← Nat.add_mul, h]
theorem plus_step {o x y : List Nat} {i c s : Nat} (ho : i < o.length) (hv : vp o i + c * BB ^ i = vp x i + vp y i) (hs : s = c + x.getD i 0 + y.getD i 0) :
    vp (o.set i (s % 4294967296)) (i + 1) + s / 4294967296 * BB ^ (i + 1) = vp x (i + 1) + vp y (i + 1) := by
  have h : s % 4294967296 * BB ^ i + s / 4294967296 * (BB ^ i * BB) = s * BB ^ i := split_mul s (BB ^ i)
  rw [vp, vp, vp, vp_set o i _ i (Nat.le_refl _), lget_set_self ho, Nat.pow_succ]
  have h3 : s * BB ^ i = c * BB ^ i + x.getD i 0 * BB ^ i + y.getD i 0 * BB ^ i := by rw [hs, Nat.add_mul, Nat.add_mul]
  omega
theorem getD_ge {l : List Nat} {i : Nat} (h : l.length ≤ i) : l.getD i 0 = 0 := by
  rw [List.getD_eq_getElem?_getD, List.getElem?_eq_none h]; rfl
theorem val_set_last {o : List Nat} {n c : Nat} (ho : o.length = n + 1) : val (o.set n c) = vp o n + c * BB ^ n := by
  rw [val, List.length_set, ho, vp, vp_set o n c n (Nat.le_refl _), lget_set_self (by omega)]
theorem vp_hi {a b : List Nat} {k : Nat} : ∀ n, k ≤ n → (∀ j, k ≤ j → j < n → a.getD j 0 = b.getD j 0) → vp a n + vp b k = vp b n + vp a k := by
  intro n hn
  induction n with
  | zero => intro _; have : k = 0 := by omega
            subst this; omega
  | succ n ih =>
    intro h
    by_cases hk : k = n + 1
    · subst hk; omega
    · have := ih (by omega) (fun j h1 h2 => h j h1 (by omega))
      rw [vp, vp, h n (by omega) (by omega)]
      omega
theorem vp_less {a b : List Nat} {k n : Nat} (ha : InR a) (hk : k < n) (h : ∀ j, k < j → j < n → a.getD j 0 = b.getD j 0) (hlt : a.getD k 0 < b.getD k 0) : vp a n < vp b n := by
  have h1 := vp_hi (a := a) (b := b) (k := k + 1) n (by omega) (fun j h1 h2 => h j (by omega) h2)
  have h2 := vp_lt ha k
  rw [vp, vp] at h1
  have h3 : (a.getD k 0 + 1) * BB ^ k ≤ b.getD k 0 * BB ^ k := Nat.mul_le_mul_right _ hlt
  rw [Nat.add_mul] at h3
  omega
theorem val_less_len {a b : List Nat} (ha : InR a) (hb : Norm b) (h : a.length < b.length) : val a < val b := by
  have h1 := val_lt ha
  have h2 := norm_ge hb (by intro e; rw [e] at h; simp at h)
  have h3 : BB ^ a.length ≤ BB ^ (b.length - 1) := Nat.pow_le_pow_right (by decide) (by omega)
  omega
theorem mul_word {x y : Nat} (hx : x < 4294967296) (hy : y < 4294967296) : x * y ≤ 18446744065119617025 := by
  have := Nat.mul_le_mul (Nat.le_of_lt_succ hx) (Nat.le_of_lt_succ hy)
  simpa using this
theorem times_step {o p b : List Nat} {i j c x s : Nat} (hp : i + j < p.length) (hv : vp p (i + j) + c * BB ^ (i + j) = vp o (i + j) + x * vp b j * BB ^ i) (hs : s = c + (x * b.getD j 0 + o.getD (i + j) 0)) :
    vp (p.set (i + j) (s % 4294967296)) (i + (j + 1)) + s / 4294967296 * BB ^ (i + (j + 1)) = vp o (i + (j + 1)) + x * vp b (j + 1) * BB ^ i := by
  have h : s % 4294967296 * BB ^ (i + j) + s / 4294967296 * (BB ^ (i + j) * BB) = s * BB ^ (i + j) := split_mul s (BB ^ (i + j))
  rw [show i + (j + 1) = i + j + 1 by omega, vp, vp, vp, vp_set p (i + j) _ (i + j) (Nat.le_refl _), lget_set_self hp, Nat.pow_succ]
  have h3 : s * BB ^ (i + j) = c * BB ^ (i + j) + (x * b.getD j 0 * BB ^ (i + j) + o.getD (i + j) 0 * BB ^ (i + j)) := by rw [hs, Nat.add_mul, Nat.add_mul]
  have h4 : x * (vp b j + b.getD j 0 * BB ^ j) * BB ^ i = x * vp b j * BB ^ i + x * b.getD j 0 * BB ^ (i + j) := by
    rw [Nat.mul_add, Nat.add_mul, Nat.pow_add, Nat.mul_comm (BB ^ i) (BB ^ j), Nat.mul_assoc x (b.getD j 0), Nat.mul_assoc x (b.getD j 0 * BB ^ j), Nat.mul_assoc (b.getD j 0), Nat.mul_assoc x]
  rw [h4]
  omega
/-- How two numbers stand. -/
def cmpN (a b : Nat) : Int := if a < b then -1 else if b < a then 1 else 0
/-- A row of words as the program hands it back. -/
def RetW (r : Option Res) (N : Nat) : Prop := ∃ m, (m = true → N = 0) ∧ r = some (.ret (.lst m ((dig N).map wd)))
end Vm

/- trim. -/
namespace Go.Proofs.Ytmgmcnoobgljpaa
open Vm
set_option maxRecDepth 10000

def tz (l : List Nat) : Nat → Nat
  | 0 => 0
  | n + 1 => if l.getD n 0 = 0 then tz l n else n + 1
theorem tz_le (l : List Nat) : ∀ n, tz l n ≤ n
  | 0 => Nat.le_refl _
  | n + 1 => by simp only [tz]; split; exact Nat.le_succ_of_le (tz_le l n); exact Nat.le_refl _

theorem trim_walk (nl : Bool) (l : List Nat) (hl : l.length < 2 ^ 60) : denP E 94 [.lst nl (l.map wd)] = some (.ret (.lst nl ((l.take (tz l l.length)).map wd))) := by
  refine denP_eq E94 rfl (by simp [AV.pureL, AV.pure, pure_wd]) ?_
  simp only [Try.f94, List.length_cons, List.length_nil, List.replicate, List.cons_append, List.nil_append, go_sem, ↓reduceIte, Nat.reduceAdd, Nat.reduceSub, Nat.reduceMul, Nat.reduceEqDiff, reduceCtorEq, Int.reduceAdd, Int.reduceLT, Int.reduceLE, Int.reduceToNat, Int.reduceNeg, Int.reduceSub, ← List.map_take, ← List.map_drop, T73, T3, T4, T69, List.length_map]
  refine W_loopI (fun k σ => ∃ (g4 g5 g6 g7 g8 g9 g10 g11 g12 g13 g14 g15 g16 g17 g18 g19 g20 g21 : AV), σ = ⟨[.lst nl (l.map wd), Vm.undef, .lst true [], .int .i64 k, g4, g5, g6, g7, g8, g9, g10, g11, g12, g13, g14, g15, g16, g17, g18, g19, g20, g21], Heap.empty, 0⟩ ∧ k ≤ l.length ∧ tz l k = tz l l.length) l.length ⟨_, _, _, _, _, _, _, _, _, _, _, _, _, _, _, _, _, _, rfl, Nat.le_refl _, rfl⟩ ?_
  rintro k σ ⟨g4, g5, g6, g7, g8, g9, g10, g11, g12, g13, g14, g15, g16, g17, g18, g19, g20, g21, rfl, hk, ht⟩
  cases k with
  | zero =>
    simp (maxSteps := 4000000) (disch := omega) only [go_sem, ↓reduceIte, Nat.reduceAdd, Nat.reduceSub, Nat.reduceMul, Nat.reduceEqDiff, reduceCtorEq, Int.reduceAdd, Int.reduceLT, Int.reduceLE, Int.reduceToNat, Int.reduceNeg, Int.reduceSub, ← List.map_take, ← List.map_drop, wrap64, wrapu64, wrapu32, cutBounds]
    rw [← ht]; rfl
  | succ k => 
    have e : ((k + 1 : Nat) : Int) - 1 = k := by omega
    by_cases h0 : l.getD k 0 = 0
    · simp (maxSteps := 4000000) (disch := omega) only [go_sem, ↓reduceIte, Nat.reduceAdd, Nat.reduceSub, Nat.reduceMul, Nat.reduceEqDiff, reduceCtorEq, Int.reduceAdd, Int.reduceLT, Int.reduceLE, Int.reduceToNat, Int.reduceNeg, Int.reduceSub, ← List.map_take, ← List.map_drop, wrap64, wrapu64, wrapu32, cutBounds, e]
      exact ⟨k, by omega, _, _, _, _, _, _, _, _, _, _, _, _, _, _, _, _, _, _, rfl, by omega, by rw [← ht]; simp only [tz, if_pos h0]⟩
    · simp (maxSteps := 4000000) (disch := omega) only [go_sem, ↓reduceIte, Nat.reduceAdd, Nat.reduceSub, Nat.reduceMul, Nat.reduceEqDiff, reduceCtorEq, Int.reduceAdd, Int.reduceLT, Int.reduceLE, Int.reduceToNat, Int.reduceNeg, Int.reduceSub, ← List.map_take, ← List.map_drop, wrap64, wrapu64, wrapu32, cutBounds, e]
      rw [← ht]; simp only [tz, if_neg h0]

theorem tz_zero (l : List Nat) : ∀ n i, tz l n ≤ i → i < n → l.getD i 0 = 0
  | 0, i, _, h => by omega
  | n + 1, i, h1, h2 => by
    simp only [tz] at h1
    split at h1
    · rename_i h0
      by_cases hi : i = n
      · rw [hi]; exact h0
      · exact tz_zero l n i h1 (by omega)
    · omega
theorem tz_last (l : List Nat) : ∀ n, tz l n = 0 ∨ l.getD (tz l n - 1) 0 ≠ 0
  | 0 => .inl rfl
  | n + 1 => by
    simp only [tz]
    split
    · exact tz_last l n
    · rename_i h; right; simpa using h
theorem vp_tz (l : List Nat) : ∀ n, vp l (tz l n) = vp l n
  | 0 => rfl
  | n + 1 => by
    simp only [tz]
    split
    · rename_i h; rw [vp_tz l n, vp, h]; simp
    · rfl
/-- Cut at its end, a row is its number's. -/
theorem take_tz {l : List Nat} (h : InR l) : l.take (tz l l.length) = dig (val l) := by
  have hle := tz_le l l.length
  have hlen : (l.take (tz l l.length)).length = tz l l.length := by rw [List.length_take]; omega
  have hn : Norm (l.take (tz l l.length)) := by
    refine ⟨h.take _, ?_⟩
    rcases tz_last l l.length with h0 | h0
    · left; rw [h0]; rfl
    · by_cases hz : tz l l.length = 0
      · left; rw [hz]; rfl
      · right; rw [hlen, getD_take (by omega)]; exact h0
  have hv : val (l.take (tz l l.length)) = val l := by
    rw [val, hlen, vp_congr _ (fun i hi => getD_take hi), vp_tz]; rfl
  rw [← hv, dig_val hn]
theorem trim_spec (nl : Bool) (l : List Nat) (h : InR l) (hl : l.length < 2 ^ 60) : denP E 94 [.lst nl (l.map wd)] = some (.ret (.lst nl ((dig (val l)).map wd))) := by
  rw [trim_walk nl l hl, take_tz h]
end Go.Proofs.Ytmgmcnoobgljpaa

/- Plain facts on numbers with signs as the program holds them. (Own work of this repo.) -/
namespace Vm

def ng (z : Int) : Bool := decide (z < 0)
def dg (z : Int) : List Nat := dig z.natAbs
/-- A number as the program holds it: its sign, its words ('m': is the row nil?). -/
abbrev I (m : Bool) (z : Int) : AV := .agg [.bool (ng z), .lst m ((dg z).map wd)]
def fit (z : Int) : Int := if (dg z).length ≤ 4096 then z else 0
def er (z : Int) : Int := if (dg z).length ≤ 4096 then 0 else 4
def fm (m : Bool) (z : Int) : Bool := if (dg z).length ≤ 4096 then m else true
/-- A number and an error: the number, if it is not too long. -/
abbrev RI (m : Bool) (z : Int) : AV := .tup [I (fm m z) (fit z), .int .i64 (er z)]
/-- A number as the reference makes it. -/
abbrev RM (z : Int) : AV := I (decide (z = 0)) z
/-- A number out of sign and absolute value. -/
def sg (neg : Bool) (n : Nat) : Int := if neg then -(n : Int) else n

theorem dg_inR (z : Int) : InR (dg z) := dig_inR _
theorem dg_norm (z : Int) : Norm (dg z) := dig_norm _
theorem val_dg (z : Int) : val (dg z) = z.natAbs := val_dig _
theorem ng_true {z : Int} : ng z = true ↔ z < 0 := by simp [ng]
theorem ng_false {z : Int} : ng z = false ↔ 0 ≤ z := by simp [ng]
theorem ng_zero : ng 0 = false := rfl
theorem ng_nat (n : Nat) : ng (n : Int) = false := by simp [ng]
theorem dg_nat (n : Nat) : dg (n : Int) = dig n := rfl
theorem dg_zero : dg 0 = [] := dig_zero
theorem dg_neg (z : Int) : dg (-z) = dg z := by simp [dg]
theorem dg_abs (z : Int) : dg (z.natAbs : Int) = dg z := rfl
theorem dg_nil {z : Int} : dg z = [] ↔ z = 0 := by unfold dg; rw [dig_nil]; omega
theorem dg_len0 {z : Int} : (dg z).length = 0 ↔ z = 0 := by rw [List.length_eq_zero_iff, dg_nil]
theorem dg_pos {z : Int} : 0 < (dg z).length ↔ z ≠ 0 := by rw [Nat.pos_iff_ne_zero, ne_eq, dg_len0]
theorem dg_len {z : Int} {k : Nat} : (dg z).length ≤ k ↔ z.natAbs < BB ^ k := dig_len
theorem sg_abs (neg : Bool) (n : Nat) : (sg neg n).natAbs = n := by unfold sg; split <;> omega
theorem dg_sg (neg : Bool) (n : Nat) : dg (sg neg n) = dig n := by unfold dg; rw [sg_abs]
theorem ng_sg (neg : Bool) (n : Nat) : ng (sg neg n) = (neg && decide (n ≠ 0)) := by
  unfold sg ng; cases neg
  · simp
  · by_cases h : n = 0
    · subst h; simp
    · simp [h]; omega
theorem sg_ng (z : Int) : sg (ng z) z.natAbs = z := by
  unfold sg ng; by_cases h : z < 0
  · simp [h]; omega
  · simp [h]; omega
theorem sg_not (z : Int) : sg (!(ng z)) z.natAbs = -z := by
  unfold sg ng; by_cases h : z < 0
  · simp [h]; omega
  · simp [h]; omega
theorem int_ext {a b : Int} (h1 : ng a = ng b) (h2 : dg a = dg b) : a = b := by
  rw [← sg_ng a, ← sg_ng b, h1]
  congr 1
  exact dig_inj h2
theorem fit_of {z : Int} (h : (dg z).length ≤ 4096) : fit z = z := if_pos h
theorem er_of {z : Int} (h : (dg z).length ≤ 4096) : er z = 0 := if_pos h
theorem fm_of {m : Bool} {z : Int} (h : (dg z).length ≤ 4096) : fm m z = m := if_pos h
theorem fit_no {z : Int} (h : ¬ (dg z).length ≤ 4096) : fit z = 0 := if_neg h
theorem er_no {z : Int} (h : ¬ (dg z).length ≤ 4096) : er z = 4 := if_neg h
theorem fm_no {m : Bool} {z : Int} (h : ¬ (dg z).length ≤ 4096) : fm m z = true := if_neg h
theorem fit_len (z : Int) : (dg (fit z)).length ≤ 4096 := by
  unfold fit; split
  · assumption
  · rw [dg_zero]; simp
theorem pow_max (a b : Nat) : BB ^ a + BB ^ b ≤ BB ^ (max a b + 1) := by
  have h1 : BB ^ a ≤ BB ^ (max a b) := Nat.pow_le_pow_right (by decide) (by omega)
  have h2 : BB ^ b ≤ BB ^ (max a b) := Nat.pow_le_pow_right (by decide) (by omega)
  rw [Nat.pow_succ]
  have : BB ^ max a b * 2 ≤ BB ^ max a b * BB := Nat.mul_le_mul_left _ (by decide)
  omega
theorem dig_lt (n : Nat) : n < BB ^ (dig n).length := dig_len.1 (Nat.le_refl _)
theorem dig_add (a b : Nat) : (dig (a + b)).length ≤ max (dig a).length (dig b).length + 1 := by
  rw [dig_len]
  have h1 := dig_lt a
  have h2 := dig_lt b
  have h3 := pow_max (dig a).length (dig b).length
  omega
theorem dig_mono {a b : Nat} (h : a ≤ b) : (dig a).length ≤ (dig b).length := by
  rw [dig_len]
  have := dig_lt b
  omega
theorem dig_mul (a b : Nat) : (dig (a * b)).length ≤ (dig a).length + (dig b).length := by
  rw [dig_len, Nat.pow_add]
  exact Nat.mul_lt_mul'' (dig_lt a) (dig_lt b)
theorem dg_add (a b : Int) : (dg (a + b)).length ≤ max (dg a).length (dg b).length + 1 :=
  Nat.le_trans (dig_mono (Int.natAbs_add_le a b)) (dig_add _ _)
theorem dg_sub (a b : Int) : (dg (a - b)).length ≤ max (dg a).length (dg b).length + 1 := by
  have := dg_add a (-b)
  rwa [dg_neg] at this
theorem dg_mul (a b : Int) : (dg (a * b)).length ≤ (dg a).length + (dg b).length := by
  unfold dg; rw [Int.natAbs_mul]; exact dig_mul _ _
theorem dg_mono {a b : Int} (h : a.natAbs ≤ b.natAbs) : (dg a).length ≤ (dg b).length := dig_mono h
/-- The words' comparison, of numbers. -/
theorem dig_cmp {a b : Nat} (h : (dig a).length < (dig b).length) : a < b := by
  rcases Nat.lt_or_ge a b with h1 | h1
  · exact h1
  · have := dig_mono h1; omega
/-- A product of two numbers has at least so many words. -/
theorem dg_mul_ge {a b : Int} (ha : a ≠ 0) (hb : b ≠ 0) : (dg a).length + (dg b).length ≤ (dg (a * b)).length + 1 := by
  have h1 : BB ^ ((dg a).length - 1) ≤ a.natAbs := by
    have := norm_ge (dg_norm a) (by rw [ne_eq, dg_nil]; exact ha); rwa [val_dg] at this
  have h2 : BB ^ ((dg b).length - 1) ≤ b.natAbs := by
    have := norm_ge (dg_norm b) (by rw [ne_eq, dg_nil]; exact hb); rwa [val_dg] at this
  have h3 : BB ^ ((dg a).length - 1 + ((dg b).length - 1)) ≤ (a * b).natAbs := by
    rw [Nat.pow_add, Int.natAbs_mul]; exact Nat.mul_le_mul h1 h2
  have h4 := dg_pos.2 ha
  have h5 := dg_pos.2 hb
  rcases Nat.lt_or_ge ((dg (a * b)).length + 1) ((dg a).length + (dg b).length) with h | h
  · have h6 : (a * b).natAbs < BB ^ (dg (a * b)).length := dg_len.1 (Nat.le_refl _)
    have h7 : BB ^ (dg (a * b)).length ≤ BB ^ ((dg a).length - 1 + ((dg b).length - 1)) := Nat.pow_le_pow_right (by decide) (by omega)
    omega
  · exact h
def mz (x y : Int) : Bool := decide (x = 0 ∨ y = 0)
theorem sg_mul (x y : Int) : sg (ng x != ng y) (x.natAbs * y.natAbs) = x * y := by
  rcases Int.natAbs_eq x with h | h <;> rcases Int.natAbs_eq y with h' | h' <;> (generalize x.natAbs = a at h; generalize y.natAbs = b at h'; subst h; subst h')
  · simp [ng_nat, sg]
  · by_cases hb : b = 0
    · subst hb; simp [sg]
    · have : ng (-(b : Int)) = true := ng_true.2 (by omega)
      simp [ng_nat, sg, this, Int.mul_neg]
  · by_cases hb : a = 0
    · subst hb; simp [sg]
    · have : ng (-(a : Int)) = true := ng_true.2 (by omega)
      simp [ng_nat, sg, this, Int.neg_mul]
  · by_cases ha : a = 0
    · subst ha; simp [sg]
    · by_cases hb : b = 0
      · subst hb; simp [sg]
      · have h1 : ng (-(b : Int)) = true := ng_true.2 (by omega)
        have h2 : ng (-(a : Int)) = true := ng_true.2 (by omega)
        simp [sg, h1, h2, Int.neg_mul_neg]
def cmpI (a b : Int) : Int := if a < b then -1 else if b < a then 1 else 0
attribute [go_sem] RI RM I
end Vm

/- Plain facts on the operations of words. (Own work of this repo.) -/
namespace Vm
open Go

theorem denP_ex {E : Env} {α : Type} {f : FuncId} {fn : Func} {c : Code} {args : List AV} {F : α → AV} {Q : α → Prop} (hf : E.fn f = some fn) (hb : fn.body = some c) (hp : AV.pureL args = true)
    (h : W E c ⟨args ++ List.replicate (fn.ntmps - args.length) undef, Heap.empty, 0⟩ (retK E fn.results.toList (fun v => ∃ o, v = F o ∧ Q o))) : ∃ o, denP E f args = some (.ret (F o)) ∧ Q o := by
  obtain ⟨v, h1, o, rfl, h2⟩ := denP_intro hf hb hp h
  exact ⟨o, h1, h2⟩
theorem ofInt_nat (w n : Nat) : BitVec.ofInt w (n : Int) = BitVec.ofNat w n := BitVec.ofInt_natCast w n
/-- The bits that two numbers have in common, of 64. -/
theorem and64 {a b : Nat} (ha : a < 18446744073709551616) (hb : b < 18446744073709551616) : IntKind.u64.wrap ((BitVec.ofInt (kb .u64) (a : Int) &&& BitVec.ofInt (kb .u64) (b : Int)).toNat : Int) = ((a &&& b : Nat) : Int) := by
  have e : (BitVec.ofInt (kb .u64) (a : Int) &&& BitVec.ofInt (kb .u64) (b : Int)).toNat = a &&& b := by
    rw [ofInt_nat, ofInt_nat, show (kb .u64) = 64 from rfl, BitVec.toNat_and, BitVec.toNat_ofNat, BitVec.toNat_ofNat, Nat.mod_eq_of_lt ha, Nat.mod_eq_of_lt hb]
  rw [e]
  have : a &&& b ≤ a := Nat.and_le_left
  exact wrapu64 (by omega) (by omega)
theorem or64 {a b : Nat} (ha : a < 18446744073709551616) (hb : b < 18446744073709551616) : IntKind.u64.wrap ((BitVec.ofInt (kb .u64) (a : Int) ||| BitVec.ofInt (kb .u64) (b : Int)).toNat : Int) = ((a ||| b : Nat) : Int) := by
  have e : (BitVec.ofInt (kb .u64) (a : Int) ||| BitVec.ofInt (kb .u64) (b : Int)).toNat = a ||| b := by
    rw [ofInt_nat, ofInt_nat, show (kb .u64) = 64 from rfl, BitVec.toNat_or, BitVec.toNat_ofNat, BitVec.toNat_ofNat, Nat.mod_eq_of_lt ha, Nat.mod_eq_of_lt hb]
  rw [e]
  have : a ||| b < 2 ^ 64 := Nat.or_lt_two_pow ha hb
  exact wrapu64 (by omega) (by omega)
theorem and32b {a b : Nat} (ha : a < 4294967296) (hb : b < 4294967296) : IntKind.u32.wrap ((BitVec.ofInt (kb .u32) (a : Int) &&& BitVec.ofInt (kb .u32) (b : Int)).toNat : Int) = ((a &&& b : Nat) : Int) := by
  have e : (BitVec.ofInt (kb .u32) (a : Int) &&& BitVec.ofInt (kb .u32) (b : Int)).toNat = a &&& b := by
    rw [ofInt_nat, ofInt_nat, show (kb .u32) = 32 from rfl, BitVec.toNat_and, BitVec.toNat_ofNat, BitVec.toNat_ofNat, Nat.mod_eq_of_lt ha, Nat.mod_eq_of_lt hb]
  rw [e]
  have : a &&& b ≤ a := Nat.and_le_left
  exact wrapu32 (by omega) (by omega)
theorem or32b {a b : Nat} (ha : a < 4294967296) (hb : b < 4294967296) : IntKind.u32.wrap ((BitVec.ofInt (kb .u32) (a : Int) ||| BitVec.ofInt (kb .u32) (b : Int)).toNat : Int) = ((a ||| b : Nat) : Int) := by
  have e : (BitVec.ofInt (kb .u32) (a : Int) ||| BitVec.ofInt (kb .u32) (b : Int)).toNat = a ||| b := by
    rw [ofInt_nat, ofInt_nat, show (kb .u32) = 32 from rfl, BitVec.toNat_or, BitVec.toNat_ofNat, BitVec.toNat_ofNat, Nat.mod_eq_of_lt ha, Nat.mod_eq_of_lt hb]
  rw [e]
  have : a ||| b < 2 ^ 32 := Nat.or_lt_two_pow ha hb
  exact wrapu32 (by omega) (by omega)
theorem and63 {a b : Nat} (ha : a < 9223372036854775808) (hb : b < 9223372036854775808) : IntKind.i64.wrap ((BitVec.ofInt (kb .i64) (a : Int) &&& BitVec.ofInt (kb .i64) (b : Int)).toNat : Int) = ((a &&& b : Nat) : Int) := by
  have e : (BitVec.ofInt (kb .i64) (a : Int) &&& BitVec.ofInt (kb .i64) (b : Int)).toNat = a &&& b := by
    rw [ofInt_nat, ofInt_nat, show (kb .i64) = 64 from rfl, BitVec.toNat_and, BitVec.toNat_ofNat, BitVec.toNat_ofNat, Nat.mod_eq_of_lt (by omega), Nat.mod_eq_of_lt (by omega)]
  rw [e]
  have : a &&& b ≤ a := Nat.and_le_left
  exact wrap64 (by omega) (by omega)
/-- The low word. -/
theorem and_low {n : Nat} (h : n < 18446744073709551616) : IntKind.u64.wrap ((BitVec.ofInt (kb .u64) (n : Int) &&& BitVec.ofInt (kb .u64) 4294967295).toNat : Int) = ((n % 4294967296 : Nat) : Int) := by
  have := and64 (b := 4294967295) h (by decide)
  rw [show (4294967295 : Int) = ((4294967295 : Nat) : Int) from rfl, this, show 4294967295 = 2 ^ 32 - 1 from rfl, Nat.and_two_pow_sub_one_eq_mod]
theorem shr_nat (n k b : Nat) : (n : Int).fdiv (2 ^ min k b) = ((n / 2 ^ min k b : Nat) : Int) := by
  rw [Int.fdiv_eq_ediv_of_nonneg _ (by exact Int.pow_nonneg (by decide))]
  push_cast
  rfl
/-- Bits that don't meet. -/
theorem or_add {a b k : Nat} (ha : a < 2 ^ k) : a ||| (b * 2 ^ k) = a + b * 2 ^ k := by
  rw [Nat.or_comm, Nat.mul_comm b, ← Nat.two_pow_add_eq_or_of_lt ha]; omega
end Vm

/- The machine over pure values: a walk cut in two. (Own work of this repo.) -/
namespace Vm
open Go
section
variable {E : Env} {Q Q' : Ex → St → Prop} {all os : List Oper} {o : Oper} {dst : Option Nat} {σ : St} {g : FuncId} {ids : List Nat}
theorem Rg_mono (hq : ∀ e σ, Q e σ → Q' e σ) (h : Rg E all os σ Q) : Rg E all os σ Q' := let ⟨e, σ', h1, h2⟩ := h; ⟨e, σ', h1, hq _ _ h2⟩
theorem effK_mono (hq : ∀ e σ, Q e σ → Q' e σ) {x : Option Eff} (h : effK E all os dst Q σ x) : effK E all os dst Q' σ x := by
  unfold effK at h ⊢
  split at h
  · exact Rg_mono hq h
  · exact Rg_mono hq h
  · exact hq _ _ h
  · exact h.elim
theorem callK_mono (hq : ∀ e σ, Q e σ → Q' e σ) {x : Option Res} (h : callK E all os dst Q σ g ids x) : callK E all os dst Q' σ g ids x := by
  unfold callK at h ⊢
  split at h
  · exact Rg_mono hq h
  · exact hq _ _ h
  · exact h.elim
theorem argK_mono (hq : ∀ e σ, Q e σ → Q' e σ) {x : Option (List AV × List Nat)} (h : argK E all os dst Q σ g x) : argK E all os dst Q' σ g x := by
  unfold argK at h ⊢
  split at h
  · exact callK_mono hq h
  · exact h.elim
theorem openK_mono (hq : ∀ e σ, Q e σ → Q' e σ) {x : Option (Res × Heap × Nat)} (h : openK E all os dst Q σ x) : openK E all os dst Q' σ x := by
  unfold openK at h ⊢
  split at h
  · exact Rg_mono hq h
  · exact hq _ _ h
  · exact h.elim
theorem targK_mono (hq : ∀ e σ, Q e σ → Q' e σ) {x : Option (FuncId × List AV)} (h : targK E all os o Q σ x) : targK E all os o Q' σ x := by
  unfold targK at h ⊢
  split at h
  · split at h
    · rename_i hc; rw [if_pos hc]; exact openK_mono hq h
    · rename_i hc; rw [if_neg hc]; exact argK_mono hq h
  · exact effK_mono hq h
theorem wantK_mono (hq : ∀ e σ, Q e σ → Q' e σ) {x : Option Bool} (h : wantK E all os o Q σ x) : wantK E all os o Q' σ x := by
  unfold wantK at h ⊢
  split at h
  · exact targK_mono hq h
  · exact Rg_mono hq h
  · exact h.elim
theorem thenK_mono {b : Code} (hq : ∀ e σ, Q e σ → Q' e σ) : ∀ e σ, thenK E b Q e σ → thenK E b Q' e σ := by
  intro e σ h
  cases e with
  | norm => exact W_mono h hq
  | exit i => exact hq _ _ h
  | ret => exact hq _ _ h
  | panic v => exact hq _ _ h
theorem blockK_mono {i : Nat} (hq : ∀ e σ, Q e σ → Q' e σ) : ∀ e σ, blockK i Q e σ → blockK i Q' e σ := by
  intro e σ h
  cases e with
  | norm => exact hq _ _ h
  | exit j => rw [blockK_exit] at h ⊢; split at h <;> rename_i hj <;> simp only [hj, if_true, if_false] <;> exact hq _ _ h
  | ret => exact hq _ _ h
  | panic v => exact hq _ _ h
theorem condK_mono {a b : Code} (hq : ∀ e σ, Q e σ → Q' e σ) {x : Option AV} (h : condK E a b Q σ x) : condK E a b Q' σ x := by
  unfold condK at h ⊢
  split at h
  · split at h <;> rename_i ht
    · rw [if_pos ht]; exact W_mono h hq
    · rw [if_neg ht]; exact W_mono h hq
  · exact h.elim
variable {next next' : List Rec → St → Prop} {acc : List Rec}
theorem reK_mono (hn : ∀ acc σ, next acc σ → next' acc σ) {x : Option Eff} (h : reK dst next acc σ x) : reK dst next' acc σ x := by
  unfold reK at h ⊢
  split at h
  · exact hn _ _ h
  · exact hn _ _ h
  · exact h.elim
theorem rcK_mono (hn : ∀ acc σ, next acc σ → next' acc σ) {x : Option Res} (h : rcK dst next acc σ ids x) : rcK dst next' acc σ ids x := by
  unfold rcK at h ⊢
  split at h
  · exact hn _ _ h
  · exact h.elim
theorem raK_mono (hn : ∀ acc σ, next acc σ → next' acc σ) {x : Option (List AV × List Nat)} (h : raK E dst next acc σ g x) : raK E dst next' acc σ g x := by
  unfold raK at h ⊢
  split at h
  · exact rcK_mono hn h
  · exact h.elim
theorem rtK_mono (hn : ∀ acc σ, next acc σ → next' acc σ) {x : Option (FuncId × List AV)} (h : rtK E o next acc σ x) : rtK E o next' acc σ x := by
  unfold rtK at h ⊢
  split at h
  · exact raK_mono hn h
  · exact reK_mono hn h
theorem rwK_mono (hn : ∀ acc σ, next acc σ → next' acc σ) {x : Option Bool} (h : rwK E o next acc σ x) : rwK E o next' acc σ x := by
  unfold rwK at h ⊢
  split at h
  · exact rtK_mono hn h
  · exact hn _ _ h
  · exact h.elim
theorem Rc_mono (hq : ∀ σ, Q .norm σ → Q' .norm σ) : ∀ (os : List Oper) (acc : List Rec) (σ : St), Rc E all Q os acc σ → Rc E all Q' os acc σ
  | [], acc, σ, h => ⟨h.1, hq _ h.2⟩
  | o :: os, acc, σ, h => by
    simp only [Rc] at h ⊢
    exact rwK_mono (fun acc σ => Rc_mono hq os acc σ) h
end
end Vm

/- The machine over pure values: how one walks through a function that works over the caller's heap. (Own work of this repo.) -/
namespace Vm
open Go
section
variable {E : Env} {σ : St}
def resO (R : AV → Heap → Nat → Prop) (σ : St) : Option (List AV) → Prop
  | some vs => R (one vs) σ.h σ.nx
  | none => False
def retO (E : Env) (rs : List ResultVar) (R : AV → Heap → Nat → Prop) : Ex → St → Prop
  | .ret, σ => resO R σ (resOf E σ.h σ.sl rs)
  | .norm, σ => resO R σ (resOf E σ.h σ.sl rs)
  | _, _ => False
theorem resO_some {R : AV → Heap → Nat → Prop} {vs : List AV} : resO R σ (some vs) = R (one vs) σ.h σ.nx := rfl
theorem retO_ret {rs : List ResultVar} {R : AV → Heap → Nat → Prop} : retO E rs R .ret σ = resO R σ (resOf E σ.h σ.sl rs) := rfl
theorem retO_norm {rs : List ResultVar} {R : AV → Heap → Nat → Prop} : retO E rs R .norm σ = resO R σ (resOf E σ.h σ.sl rs) := rfl
theorem denO_intro {f : FuncId} {fn : Func} {c : Code} {args : List AV} {h : Heap} {nx : Nat} {R : AV → Heap → Nat → Prop} (hf : E.fn f = some fn) (hb : fn.body = some c)
    (hw : W E c ⟨args ++ List.replicate (fn.ntmps - args.length) undef, h, nx⟩ (retO E fn.results.toList R)) : ∃ v h' nx', denO E f args h nx = some (.ret v, h', nx') ∧ R v h' nx' := by
  obtain ⟨e, σ', hd, hq⟩ := hw
  unfold denO
  simp only [body, hf, hb, hd]
  have key : resO R σ' (resOf E σ'.h σ'.sl fn.results.toList) → ∃ vs, resOf E σ'.h σ'.sl fn.results.toList = some vs ∧ R (one vs) σ'.h σ'.nx := by
    intro hr
    unfold resO at hr
    split at hr
    · rename_i vs h1; exact ⟨vs, h1, hr⟩
    · exact hr.elim
  cases e with
  | ret =>
    obtain ⟨vs, h1, h2⟩ := key hq
    exact ⟨_, _, _, by simp only [h1], h2⟩
  | norm =>
    obtain ⟨vs, h1, h2⟩ := key hq
    exact ⟨_, _, _, by simp only [h1], h2⟩
  | exit i => exact hq.elim
  | panic v => exact hq.elim
theorem denO_eq {f : FuncId} {fn : Func} {c : Code} {args : List AV} {h h' : Heap} {nx nx' : Nat} {v : AV} (hf : E.fn f = some fn) (hb : fn.body = some c)
    (hw : W E c ⟨args ++ List.replicate (fn.ntmps - args.length) undef, h, nx⟩ (retO E fn.results.toList (fun r g n => r = v ∧ g = h' ∧ n = nx'))) : denO E f args h nx = some (.ret v, h', nx') := by
  obtain ⟨r, g, n, h1, rfl, rfl, rfl⟩ := denO_intro hf hb hw
  exact h1
theorem openK_ex {all os : List Oper} {dst : Option Nat} {Q : Ex → St → Prop} {α : Type} {x : Option (Res × Heap × Nat)} {v : AV} {n : Nat} {C : α → Heap → Prop} (h : ∃ o h', x = some (.ret v, h', n) ∧ C o h') (k : ∀ o h', C o h' → Rg E all os ⟨put σ.sl dst v, h', n⟩ Q) : openK E all os dst Q σ x := by
  obtain ⟨o, h', rfl, hc⟩ := h
  exact k o h' hc
theorem upd_same {h : Heap} {i : Nat} {b : Option Blk} : (h.upd i b) i = b := if_pos rfl
theorem upd_ne {h : Heap} {i j : Nat} {b : Option Blk} (e : j ≠ i) : (h.upd i b) j = h j := if_neg e
end
attribute [go_sem] retO_ret retO_norm resO_some
end Vm

/- Walks of the package large: what has to do with form. (Own work of this repo.) -/
namespace Go.Proofs.Ytmgmcnoobgljpaa
open Vm
set_option maxRecDepth 10000

theorem clone_nil (h : Heap) (nx : Nat) : denO E 95 [.lst true []] h nx = some (.ret (.lst true []), h, nx) := by
  refine denO_eq E95 rfl ?_
  simp (maxSteps := 4000000) (disch := omega) only [go_sem, ↓reduceIte, Nat.reduceAdd, Nat.reduceSub, Nat.reduceMul, Nat.reduceEqDiff, reduceCtorEq, Int.reduceAdd, Int.reduceLT, Int.reduceLE, Int.reduceToNat, Int.reduceNeg, Int.reduceSub, ← List.map_take, ← List.map_drop, wrap64, wrapu64, wrapu32, Try.f95, List.map_nil]
theorem clone_empty (h : Heap) (nx : Nat) : denO E 95 [.lst false []] h nx = some (.ret (.ref nx 0 0), h.upd nx (some ⟨[], false, 1, false⟩), nx + 1) := by
  refine denO_eq E95 rfl ?_
  simp (maxSteps := 4000000) (disch := omega) only [go_sem, ↓reduceIte, Nat.reduceAdd, Nat.reduceSub, Nat.reduceMul, Nat.reduceEqDiff, reduceCtorEq, Int.reduceAdd, Int.reduceLT, Int.reduceLE, Int.reduceToNat, Int.reduceNeg, Int.reduceSub, ← List.map_take, ← List.map_drop, wrap64, wrapu64, wrapu32, Try.f95, reps, fillAll, List.toList_toArray, List.map_nil, appendEff, srcCells, flat]
theorem clone_ne (l : List Nat) (hl0 : 0 < l.length) (hl : l.length < 2 ^ 40) (h : Heap) (nx : Nat) :
    denO E 95 [.lst false (l.map wd)] h nx = some (.ret (.ref (nx + 1) 0 l.length), ((h.upd nx (some ⟨[], false, 1, false⟩)).upd nx none).upd (nx + 1) (some ⟨l.map wd, false, 1, false⟩), nx + 1 + 1) := by
  refine denO_eq E95 rfl ?_
  simp (maxSteps := 4000000) (disch := omega) only [go_sem, ↓reduceIte, Nat.reduceAdd, Nat.reduceSub, Nat.reduceMul, Nat.reduceEqDiff, reduceCtorEq, Int.reduceAdd, Int.reduceLT, Int.reduceLE, Int.reduceToNat, Int.reduceNeg, Int.reduceSub, ← List.map_take, ← List.map_drop, wrap64, wrapu64, wrapu32, Try.f95, reps, fillAll, List.toList_toArray, appendEff, srcCells]
def validW (neg : Bool) (l : List Nat) : Bool := decide (l.length ≤ 4096) && (decide (0 < l.length) && decide (l.getD (l.length - 1) 0 ≠ 0) || decide (l.length = 0) && !neg)
theorem valid24 (neg nl : Bool) (l : List Nat) (hl : l.length < 2 ^ 60) : denP E 79 [iv neg nl l] = some (.ret (.bool (validW neg l))) := by
  refine denP_eq E79 rfl (by simp [AV.pureL, AV.pure, pure_wd, iv]) ?_
  unfold validW
  by_cases h1 : l.length ≤ 4096
  · by_cases h2 : l.length = 0
    · simp (maxSteps := 4000000) (disch := omega) only [go_sem, ↓reduceIte, Nat.reduceAdd, Nat.reduceSub, Nat.reduceMul, Nat.reduceEqDiff, reduceCtorEq, Int.reduceAdd, Int.reduceLT, Int.reduceLE, Int.reduceToNat, Int.reduceNeg, Int.reduceSub, ← List.map_take, ← List.map_drop, wrap64, wrapu64, wrapu32, Try.f79, iv]
    · have e : (l.length : Int) - 1 = (l.length - 1 : Nat) := by omega
      by_cases h3 : l.getD (l.length - 1) 0 = 0
      · simp (maxSteps := 4000000) (disch := omega) only [go_sem, ↓reduceIte, Nat.reduceAdd, Nat.reduceSub, Nat.reduceMul, Nat.reduceEqDiff, reduceCtorEq, Int.reduceAdd, Int.reduceLT, Int.reduceLE, Int.reduceToNat, Int.reduceNeg, Int.reduceSub, ← List.map_take, ← List.map_drop, wrap64, wrapu64, wrapu32, Try.f79, iv, e, ne_eq]
      · simp (maxSteps := 4000000) (disch := omega) only [go_sem, ↓reduceIte, Nat.reduceAdd, Nat.reduceSub, Nat.reduceMul, Nat.reduceEqDiff, reduceCtorEq, Int.reduceAdd, Int.reduceLT, Int.reduceLE, Int.reduceToNat, Int.reduceNeg, Int.reduceSub, ← List.map_take, ← List.map_drop, wrap64, wrapu64, wrapu32, Try.f79, iv, e, ne_eq]
  · simp (maxSteps := 4000000) (disch := omega) only [go_sem, ↓reduceIte, Nat.reduceAdd, Nat.reduceSub, Nat.reduceMul, Nat.reduceEqDiff, reduceCtorEq, Int.reduceAdd, Int.reduceLT, Int.reduceLE, Int.reduceToNat, Int.reduceNeg, Int.reduceSub, ← List.map_take, ← List.map_drop, wrap64, wrapu64, wrapu32, Try.f79, iv]
theorem valid54 (na nl : Bool) (a : List Nat) (nb ml : Bool) (b : List Nat) (ha : a.length < 2 ^ 60) (hb : b.length < 2 ^ 60) : denP E 88 [.lst false [iv na nl a, iv nb ml b]] = some (.ret (.bool (validW na a && validW nb b))) := by
  refine denP_eq E88 rfl (by simp [AV.pureL, AV.pure, pure_wd, iv]) ?_
  simp (maxSteps := 4000000) (disch := omega) only [go_sem, ↓reduceIte, Nat.reduceAdd, Nat.reduceSub, Nat.reduceMul, Nat.reduceEqDiff, reduceCtorEq, Int.reduceAdd, Int.reduceLT, Int.reduceLE, Int.reduceToNat, Int.reduceNeg, Int.reduceSub, ← List.map_take, ← List.map_drop, wrap64, wrapu64, wrapu32, Try.f88]
  rw [W_unroll]
  cases hva : validW na a with
  | false => simp (maxSteps := 4000000) (disch := omega) only [go_sem, ↓reduceIte, Nat.reduceAdd, Nat.reduceSub, Nat.reduceMul, Nat.reduceEqDiff, reduceCtorEq, Int.reduceAdd, Int.reduceLT, Int.reduceLE, Int.reduceToNat, Int.reduceNeg, Int.reduceSub, ← List.map_take, ← List.map_drop, wrap64, wrapu64, wrapu32, valid24, hva]
  | true =>
    simp (maxSteps := 4000000) (disch := omega) only [go_sem, ↓reduceIte, Nat.reduceAdd, Nat.reduceSub, Nat.reduceMul, Nat.reduceEqDiff, reduceCtorEq, Int.reduceAdd, Int.reduceLT, Int.reduceLE, Int.reduceToNat, Int.reduceNeg, Int.reduceSub, ← List.map_take, ← List.map_drop, wrap64, wrapu64, wrapu32, valid24, hva]
    rw [W_unroll]
    cases hvb : validW nb b with
    | false => simp (maxSteps := 4000000) (disch := omega) only [go_sem, ↓reduceIte, Nat.reduceAdd, Nat.reduceSub, Nat.reduceMul, Nat.reduceEqDiff, reduceCtorEq, Int.reduceAdd, Int.reduceLT, Int.reduceLE, Int.reduceToNat, Int.reduceNeg, Int.reduceSub, ← List.map_take, ← List.map_drop, wrap64, wrapu64, wrapu32, valid24, hvb]
    | true =>
      simp (maxSteps := 4000000) (disch := omega) only [go_sem, ↓reduceIte, Nat.reduceAdd, Nat.reduceSub, Nat.reduceMul, Nat.reduceEqDiff, reduceCtorEq, Int.reduceAdd, Int.reduceLT, Int.reduceLE, Int.reduceToNat, Int.reduceNeg, Int.reduceSub, ← List.map_take, ← List.map_drop, wrap64, wrapu64, wrapu32, valid24, hvb]
      rw [W_unroll]
      simp (maxSteps := 4000000) (disch := omega) only [go_sem, ↓reduceIte, Nat.reduceAdd, Nat.reduceSub, Nat.reduceMul, Nat.reduceEqDiff, reduceCtorEq, Int.reduceAdd, Int.reduceLT, Int.reduceLE, Int.reduceToNat, Int.reduceNeg, Int.reduceSub, ← List.map_take, ← List.map_drop, wrap64, wrapu64, wrapu32]
theorem made55 (neg nl : Bool) (a : List Nat) (hn : nl = true → a = []) (ha : a.length < 2 ^ 40) : denP E 81 [.bool neg, .lst nl (a.map wd)] = some (.ret (if tz a a.length > 4096 then .tup [iv false true [], .int .i64 4] else .tup [iv (neg && decide (0 < tz a a.length)) nl (a.take (tz a a.length)), .int .i64 0])) := by
  have hlen : (a.take (tz a a.length)).length = tz a a.length := by rw [List.length_take]; have := tz_le a a.length; omega
  have hn' : nl = true → a.take (tz a a.length) = [] := fun h => by rw [hn h]; rfl
  refine denP_eq E81 rfl (by simp [AV.pureL, AV.pure, pure_wd, iv]) ?_
  by_cases h1 : tz a a.length > 4096
  · simp (maxSteps := 4000000) (disch := omega) only [go_sem, ↓reduceIte, Nat.reduceAdd, Nat.reduceSub, Nat.reduceMul, Nat.reduceEqDiff, reduceCtorEq, Int.reduceAdd, Int.reduceLT, Int.reduceLE, Int.reduceToNat, Int.reduceNeg, Int.reduceSub, ← List.map_take, ← List.map_drop, wrap64, wrapu64, wrapu32, Try.f81, trim_walk, hlen, places, fillAll, List.map_nil]
  · cases nl with
    | true =>
      have h0 : a = [] := hn rfl
      subst h0
      have ht := trim_walk true [] (by simp)
      simp only [List.map_nil, List.take_nil] at ht
      cases neg with
      | false => simp (maxSteps := 4000000) (disch := omega) only [go_sem, ↓reduceIte, Nat.reduceAdd, Nat.reduceSub, Nat.reduceMul, Nat.reduceEqDiff, reduceCtorEq, Int.reduceAdd, Int.reduceLT, Int.reduceLE, Int.reduceToNat, Int.reduceNeg, Int.reduceSub, ← List.map_take, ← List.map_drop, wrap64, wrapu64, wrapu32, Try.f81, ht, places, fillAll, clone_nil, tz]
      | true => simp (maxSteps := 4000000) (disch := omega) only [go_sem, ↓reduceIte, Nat.reduceAdd, Nat.reduceSub, Nat.reduceMul, Nat.reduceEqDiff, reduceCtorEq, Int.reduceAdd, Int.reduceLT, Int.reduceLE, Int.reduceToNat, Int.reduceNeg, Int.reduceSub, ← List.map_take, ← List.map_drop, wrap64, wrapu64, wrapu32, Try.f81, ht, places, fillAll, clone_nil, tz]
    | false =>
      by_cases h2 : 0 < tz a a.length
      · have c := clone_ne (a.take (tz a a.length)) (by omega) (by omega)
        rw [hlen] at c
        have ht : (a.take (tz a a.length)).take (tz a a.length) = a.take (tz a a.length) := by rw [List.take_take, Nat.min_self]
        cases neg with
        | false => simp (maxSteps := 4000000) (disch := omega) only [go_sem, ↓reduceIte, Nat.reduceAdd, Nat.reduceSub, Nat.reduceMul, Nat.reduceEqDiff, reduceCtorEq, Int.reduceAdd, Int.reduceLT, Int.reduceLE, Int.reduceToNat, Int.reduceNeg, Int.reduceSub, ← List.map_take, ← List.map_drop, wrap64, wrapu64, wrapu32, Try.f81, trim_walk, hlen, places, fillAll, c, ht]
        | true => simp (maxSteps := 4000000) (disch := omega) only [go_sem, ↓reduceIte, Nat.reduceAdd, Nat.reduceSub, Nat.reduceMul, Nat.reduceEqDiff, reduceCtorEq, Int.reduceAdd, Int.reduceLT, Int.reduceLE, Int.reduceToNat, Int.reduceNeg, Int.reduceSub, ← List.map_take, ← List.map_drop, wrap64, wrapu64, wrapu32, Try.f81, trim_walk, hlen, places, fillAll, c, ht]
      · have h3 : tz a a.length = 0 := by omega
        have h4 : a.take (tz a a.length) = [] := by rw [h3]; rfl
        rw [h3] at hlen h4 ⊢
        have ht := trim_walk false a (by omega)
        rw [h3, h4, List.map_nil] at ht
        rw [h4]
        cases neg with
        | false => simp (maxSteps := 4000000) (disch := omega) only [go_sem, ↓reduceIte, Nat.reduceAdd, Nat.reduceSub, Nat.reduceMul, Nat.reduceEqDiff, reduceCtorEq, Int.reduceAdd, Int.reduceLT, Int.reduceLE, Int.reduceToNat, Int.reduceNeg, Int.reduceSub, ← List.map_take, ← List.map_drop, wrap64, wrapu64, wrapu32, Try.f81, ht, List.map_nil, places, fillAll, clone_empty, refP_zero]
        | true => simp (maxSteps := 4000000) (disch := omega) only [go_sem, ↓reduceIte, Nat.reduceAdd, Nat.reduceSub, Nat.reduceMul, Nat.reduceEqDiff, reduceCtorEq, Int.reduceAdd, Int.reduceLT, Int.reduceLE, Int.reduceToNat, Int.reduceNeg, Int.reduceSub, ← List.map_take, ← List.map_drop, wrap64, wrapu64, wrapu32, Try.f81, ht, List.map_nil, places, fillAll, clone_empty, refP_zero]
/-- made, in terms of the number. -/
theorem made_spec (neg nl : Bool) (a : List Nat) (ha : InR a) (hn : nl = true → a = []) (la : a.length < 2 ^ 40) :
    denP E 81 [.bool neg, .lst nl (a.map wd)] = some (.ret (RI nl (sg neg (val a)))) := by
  have ht := take_tz ha
  have hlen : tz a a.length = (dig (val a)).length := by rw [← ht, List.length_take]; have := tz_le a a.length; omega
  rw [made55 neg nl a hn la, hlen, ← hlen, ht, hlen]
  by_cases h : (dig (val a)).length ≤ 4096
  · rw [if_neg (by omega), RI, fm_of (by rw [dg_sg]; exact h), fit_of (by rw [dg_sg]; exact h), er_of (by rw [dg_sg]; exact h), I, dg_sg, ng_sg]
    congr 7
    by_cases h0 : val a = 0
    · rw [h0, dig_zero]; simp
    · have : 0 < (dig (val a)).length := by
        rcases Nat.eq_zero_or_pos (dig (val a)).length with h2 | h2
        · exact absurd (dig_nil.1 (List.length_eq_zero_iff.1 h2)) h0
        · exact h2
      simp [this, h0]
  · rw [if_pos (by omega), RI, fm_no (by rw [dg_sg]; exact h), fit_no (by rw [dg_sg]; exact h), er_no (by rw [dg_sg]; exact h), I, dg_zero, ng_zero]
theorem made_dig (neg nl : Bool) (n : Nat) (hn : nl = true → n = 0) (la : (dig n).length < 2 ^ 40) :
    denP E 81 [.bool neg, .lst nl ((dig n).map wd)] = some (.ret (RI nl (sg neg n))) := by
  rw [made_spec neg nl (dig n) (dig_inR n) (fun h => by rw [hn h, dig_zero]) la, val_dig]
theorem validW_I (z : Int) : validW (ng z) (dg z) = decide ((dg z).length ≤ 4096) := by
  unfold validW
  rcases (dg_norm z).2 with h | h
  · rw [h]
    have : z = 0 := dg_nil.1 h
    subst this
    simp [ng]
  · have : 0 < (dg z).length := by
      rcases Nat.eq_zero_or_pos (dg z).length with h2 | h2
      · rw [List.length_eq_zero_iff.1 h2] at h; simp at h
      · exact h2
    have h3 : decide ((dg z).getD ((dg z).length - 1) 0 ≠ 0) = true := decide_eq_true h
    have h4 : decide (0 < (dg z).length) = true := decide_eq_true this
    rw [h3, h4]
    simp
theorem valid_I (m : Bool) (z : Int) (h : (dg z).length ≤ 4096) : denP E 79 [I m z] = some (.ret (.bool true)) := by
  have := valid24 (ng z) m (dg z) (by omega)
  rw [validW_I, decide_eq_true h] at this
  exact this
theorem valid2_I (m : Bool) (x : Int) (m' : Bool) (y : Int) (hx : (dg x).length ≤ 4096) (hy : (dg y).length ≤ 4096) : denP E 88 [.lst false [I m x, I m' y]] = some (.ret (.bool true)) := by
  have := valid54 (ng x) m (dg x) (ng y) m' (dg y) (by omega) (by omega)
  rw [validW_I, validW_I, decide_eq_true hx, decide_eq_true hy] at this
  exact this
end Go.Proofs.Ytmgmcnoobgljpaa

/- Walks of the package large: the words' sums. (Own work of this repo.) -/
namespace Go.Proofs.Ytmgmcnoobgljpaa
open Vm
set_option maxRecDepth 10000

theorem plus_spec (ma : Bool) (a : List Nat) (mb : Bool) (b : List Nat) (ha : InR a) (hb : InR b) (la : a.length < 2 ^ 40) (lb : b.length < 2 ^ 40) :
    denP E 90 [.lst ma (a.map wd), .lst mb (b.map wd)] = some (.ret (.lst false ((dig (val a + val b)).map wd))) := by
  refine denP_eq E90 rfl (by simp [AV.pureL, AV.pure, pure_wd]) ?_
  by_cases h : a.length < b.length
  · simp (maxSteps := 4000000) (disch := omega) only [go_sem, ↓reduceIte, Nat.reduceAdd, Nat.reduceSub, Nat.reduceMul, Nat.reduceEqDiff, reduceCtorEq, Int.reduceAdd, Int.reduceLT, Int.reduceLE, Int.reduceToNat, Int.reduceNeg, Int.reduceSub, ← List.map_take, ← List.map_drop, wrap64, wrapu64, wrapu32, ← Int.natCast_add, ← Int.natCast_mul, cast_succ, wrapu32_nat, shr32, reps_wd, map_set_wd, List.length_set, zs_len, Try.f90, Int.toNat_natCast]
    refine W_loopS (fun k sl H nx => ∃ (i c : Nat) (o : List Nat), (∃ g : Nat → AV, sl = [.lst mb (b.map wd), .lst ma (a.map wd), g 2, g 3, g 4, .ref 0 0 (b.length + 1), .int .u64 c, g 7, g 8, g 9, g 10, g 11, g 12, g 13, g 14, g 15, g 16, g 17, g 18, g 19, .lst mb (b.map wd), .int .i64 b.length, .int .i64 i, g 23, g 24, g 25, g 26, g 27, g 28, g 29, g 30, g 31, g 32, g 33, g 34, g 35, g 36, g 37, g 38, g 39, g 40, g 41, g 42, g 43, g 44, g 45, g 46, g 47, g 48, g 49, g 50, g 51, g 52, g 53, g 54, g 55, g 56, g 57]) ∧ nx = 1 ∧
      H 0 = some ⟨o.map wd, false, 1, false⟩ ∧ o.length = b.length + 1 ∧ InR o ∧ c ≤ 1 ∧ i + k = b.length ∧ vp o i + c * BB ^ i = vp b i + vp a i) b.length ⟨0, 0, _, garb rfl, rfl, rfl, zs_len _, zs_inR _, by omega, by omega, by simp [vp]⟩ ?_
    rintro k _ H _ ⟨i, c, o, ⟨g, rfl⟩, rfl, hH, ho, hr, hc, hi, hv⟩
    have hx := hb.get i
    have hy := ha.get i
    by_cases hk : k = 0
    · obtain rfl : i = b.length := by omega
      have hl : (o.set b.length c).length = b.length + 1 := by rw [List.length_set, ho]
      have hy2 := vp_ge a b.length (by omega)
      have hval : val (o.set b.length c) = val a + val b := by rw [val_set_last ho, hv, hy2]; exact Nat.add_comm (val b) (val a)
      have ht := trim_spec false (o.set b.length c) (hr.set (Nat.lt_of_le_of_lt hc (by decide))) (by omega)
      rw [hval] at ht
      simp (maxSteps := 4000000) (disch := omega) only [go_sem, ↓reduceIte, Nat.reduceAdd, Nat.reduceSub, Nat.reduceMul, Nat.reduceEqDiff, reduceCtorEq, Int.reduceAdd, Int.reduceLT, Int.reduceLE, Int.reduceToNat, Int.reduceNeg, Int.reduceSub, ← List.map_take, ← List.map_drop, wrap64, wrapu64, wrapu32, ← Int.natCast_add, ← Int.natCast_mul, cast_succ, wrapu32_nat, shr32, reps_wd, map_set_wd, List.length_set, zs_len, hH, ho, List.take_of_length_le, ht]
    · by_cases hiy : i < a.length
      · simp (maxSteps := 4000000) (disch := omega) only [go_sem, ↓reduceIte, Nat.reduceAdd, Nat.reduceSub, Nat.reduceMul, Nat.reduceEqDiff, reduceCtorEq, Int.reduceAdd, Int.reduceLT, Int.reduceLE, Int.reduceToNat, Int.reduceNeg, Int.reduceSub, ← List.map_take, ← List.map_drop, wrap64, wrapu64, wrapu32, ← Int.natCast_add, ← Int.natCast_mul, cast_succ, wrapu32_nat, shr32, reps_wd, map_set_wd, List.length_set, zs_len, hH, ho]
        refine ⟨k - 1, by omega, i + 1, (c + b.getD i 0 + a.getD i 0) / 4294967296, o.set i ((c + b.getD i 0 + a.getD i 0) % 4294967296), garb rfl, rfl, by rw [List.length_set, ho], hr.set (Nat.mod_lt _ (by decide)), by omega, by omega, plus_step (by omega) hv rfl⟩
      · simp (maxSteps := 4000000) (disch := omega) only [go_sem, ↓reduceIte, Nat.reduceAdd, Nat.reduceSub, Nat.reduceMul, Nat.reduceEqDiff, reduceCtorEq, Int.reduceAdd, Int.reduceLT, Int.reduceLE, Int.reduceToNat, Int.reduceNeg, Int.reduceSub, ← List.map_take, ← List.map_drop, wrap64, wrapu64, wrapu32, ← Int.natCast_add, ← Int.natCast_mul, cast_succ, wrapu32_nat, shr32, reps_wd, map_set_wd, List.length_set, zs_len, hH, ho]
        have h0 := getD_ge (l := a) (i := i) (by omega)
        refine ⟨k - 1, by omega, i + 1, (c + b.getD i 0) / 4294967296, o.set i ((c + b.getD i 0) % 4294967296), garb rfl, rfl, by rw [List.length_set, ho], hr.set (Nat.mod_lt _ (by decide)), by omega, by omega, plus_step (by omega) hv (by rw [h0]; rfl)⟩
  · simp (maxSteps := 4000000) (disch := omega) only [go_sem, ↓reduceIte, Nat.reduceAdd, Nat.reduceSub, Nat.reduceMul, Nat.reduceEqDiff, reduceCtorEq, Int.reduceAdd, Int.reduceLT, Int.reduceLE, Int.reduceToNat, Int.reduceNeg, Int.reduceSub, ← List.map_take, ← List.map_drop, wrap64, wrapu64, wrapu32, ← Int.natCast_add, ← Int.natCast_mul, cast_succ, wrapu32_nat, shr32, reps_wd, map_set_wd, List.length_set, zs_len, Try.f90, Int.toNat_natCast]
    refine W_loopS (fun k sl H nx => ∃ (i c : Nat) (o : List Nat), (∃ g : Nat → AV, sl = [.lst ma (a.map wd), .lst mb (b.map wd), g 2, g 3, g 4, .ref 0 0 (a.length + 1), .int .u64 c, g 7, g 8, g 9, g 10, g 11, g 12, g 13, g 14, g 15, g 16, g 17, g 18, g 19, .lst ma (a.map wd), .int .i64 a.length, .int .i64 i, g 23, g 24, g 25, g 26, g 27, g 28, g 29, g 30, g 31, g 32, g 33, g 34, g 35, g 36, g 37, g 38, g 39, g 40, g 41, g 42, g 43, g 44, g 45, g 46, g 47, g 48, g 49, g 50, g 51, g 52, g 53, g 54, g 55, g 56, g 57]) ∧ nx = 1 ∧
      H 0 = some ⟨o.map wd, false, 1, false⟩ ∧ o.length = a.length + 1 ∧ InR o ∧ c ≤ 1 ∧ i + k = a.length ∧ vp o i + c * BB ^ i = vp a i + vp b i) a.length ⟨0, 0, _, garb rfl, rfl, rfl, zs_len _, zs_inR _, by omega, by omega, by simp [vp]⟩ ?_
    rintro k _ H _ ⟨i, c, o, ⟨g, rfl⟩, rfl, hH, ho, hr, hc, hi, hv⟩
    have hx := ha.get i
    have hy := hb.get i
    by_cases hk : k = 0
    · obtain rfl : i = a.length := by omega
      have hl : (o.set a.length c).length = a.length + 1 := by rw [List.length_set, ho]
      have hy2 := vp_ge b a.length (by omega)
      have hval : val (o.set a.length c) = val a + val b := by rw [val_set_last ho, hv, hy2]; exact rfl
      have ht := trim_spec false (o.set a.length c) (hr.set (Nat.lt_of_le_of_lt hc (by decide))) (by omega)
      rw [hval] at ht
      simp (maxSteps := 4000000) (disch := omega) only [go_sem, ↓reduceIte, Nat.reduceAdd, Nat.reduceSub, Nat.reduceMul, Nat.reduceEqDiff, reduceCtorEq, Int.reduceAdd, Int.reduceLT, Int.reduceLE, Int.reduceToNat, Int.reduceNeg, Int.reduceSub, ← List.map_take, ← List.map_drop, wrap64, wrapu64, wrapu32, ← Int.natCast_add, ← Int.natCast_mul, cast_succ, wrapu32_nat, shr32, reps_wd, map_set_wd, List.length_set, zs_len, hH, ho, List.take_of_length_le, ht]
    · by_cases hiy : i < b.length
      · simp (maxSteps := 4000000) (disch := omega) only [go_sem, ↓reduceIte, Nat.reduceAdd, Nat.reduceSub, Nat.reduceMul, Nat.reduceEqDiff, reduceCtorEq, Int.reduceAdd, Int.reduceLT, Int.reduceLE, Int.reduceToNat, Int.reduceNeg, Int.reduceSub, ← List.map_take, ← List.map_drop, wrap64, wrapu64, wrapu32, ← Int.natCast_add, ← Int.natCast_mul, cast_succ, wrapu32_nat, shr32, reps_wd, map_set_wd, List.length_set, zs_len, hH, ho]
        refine ⟨k - 1, by omega, i + 1, (c + a.getD i 0 + b.getD i 0) / 4294967296, o.set i ((c + a.getD i 0 + b.getD i 0) % 4294967296), garb rfl, rfl, by rw [List.length_set, ho], hr.set (Nat.mod_lt _ (by decide)), by omega, by omega, plus_step (by omega) hv rfl⟩
      · simp (maxSteps := 4000000) (disch := omega) only [go_sem, ↓reduceIte, Nat.reduceAdd, Nat.reduceSub, Nat.reduceMul, Nat.reduceEqDiff, reduceCtorEq, Int.reduceAdd, Int.reduceLT, Int.reduceLE, Int.reduceToNat, Int.reduceNeg, Int.reduceSub, ← List.map_take, ← List.map_drop, wrap64, wrapu64, wrapu32, ← Int.natCast_add, ← Int.natCast_mul, cast_succ, wrapu32_nat, shr32, reps_wd, map_set_wd, List.length_set, zs_len, hH, ho]
        have h0 := getD_ge (l := b) (i := i) (by omega)
        refine ⟨k - 1, by omega, i + 1, (c + a.getD i 0) / 4294967296, o.set i ((c + a.getD i 0) % 4294967296), garb rfl, rfl, by rw [List.length_set, ho], hr.set (Nat.mod_lt _ (by decide)), by omega, by omega, plus_step (by omega) hv (by rw [h0]; rfl)⟩
end Go.Proofs.Ytmgmcnoobgljpaa

/- Walks of the package large: how two numbers stand. (Own work of this repo.) -/
namespace Go.Proofs.Ytmgmcnoobgljpaa
open Vm
set_option maxRecDepth 10000

theorem compare_spec (ma : Bool) (a : List Nat) (mb : Bool) (b : List Nat) (ha : Norm a) (hb : Norm b) (la : a.length < 2 ^ 40) (lb : b.length < 2 ^ 40) :
    denP E 92 [.lst ma (a.map wd), .lst mb (b.map wd)] = some (.ret (.int .i64 (cmpN (val a) (val b)))) := by
  refine denP_eq E92 rfl (by simp [AV.pureL, AV.pure, pure_wd]) ?_
  by_cases h : a.length = b.length
  · simp (maxSteps := 4000000) (disch := omega) only [go_sem, ↓reduceIte, Nat.reduceAdd, Nat.reduceSub, Nat.reduceMul, Nat.reduceEqDiff, reduceCtorEq, Int.reduceAdd, Int.reduceLT, Int.reduceLE, Int.reduceToNat, Int.reduceNeg, Int.reduceSub, ← List.map_take, ← List.map_drop, wrap64, wrapu64, wrapu32, ← Int.natCast_add, ← Int.natCast_mul, cast_succ, wrapu32_nat, shr32, reps_wd, map_set_wd, List.length_set, zs_len, Try.f92]
    refine W_loopS (fun k sl h nx => (∃ g : Nat → AV, sl = [.lst ma (a.map wd), .lst mb (b.map wd), g 2, g 3, .int .i64 0, .int .i64 ((k : Int) - 1), g 6, g 7, g 8, g 9, g 10, g 11, g 12, g 13, g 14, g 15, g 16, g 17, g 18, g 19, g 20, g 21, g 22, g 23, g 24, g 25, g 26, g 27, g 28, g 29, g 30, g 31, g 32, g 33, g 34, g 35, g 36, g 37, g 38, g 39, g 40, g 41, g 42]) ∧ h = Heap.empty ∧ nx = 0 ∧
      k ≤ a.length ∧ ∀ j, k ≤ j → j < a.length → a.getD j 0 = b.getD j 0) a.length ⟨garb rfl, rfl, rfl, Nat.le_refl _, by omega⟩ ?_
    rintro k _ _ _ ⟨⟨g, rfl⟩, rfl, rfl, hk, hall⟩
    by_cases hk0 : k = 0
    · subst hk0
      have hv : val a = val b := by
        rw [val, val, ← h]; exact vp_congr _ (fun i hi => hall i (by omega) hi)
      have hc : cmpN (val a) (val b) = 0 := by unfold cmpN; rw [if_neg (by omega), if_neg (by omega)]
      simp (maxSteps := 4000000) (disch := omega) only [go_sem, ↓reduceIte, Nat.reduceAdd, Nat.reduceSub, Nat.reduceMul, Nat.reduceEqDiff, reduceCtorEq, Int.reduceAdd, Int.reduceLT, Int.reduceLE, Int.reduceToNat, Int.reduceNeg, Int.reduceSub, ← List.map_take, ← List.map_drop, wrap64, wrapu64, wrapu32, ← Int.natCast_add, ← Int.natCast_mul, cast_succ, wrapu32_nat, shr32, reps_wd, map_set_wd, List.length_set, zs_len, hc]
    · have e : (k : Int) - 1 = ((k - 1 : Nat) : Int) := by omega
      simp (maxSteps := 4000000) (disch := omega) only [go_sem, ↓reduceIte, Nat.reduceAdd, Nat.reduceSub, Nat.reduceMul, Nat.reduceEqDiff, reduceCtorEq, Int.reduceAdd, Int.reduceLT, Int.reduceLE, Int.reduceToNat, Int.reduceNeg, Int.reduceSub, ← List.map_take, ← List.map_drop, wrap64, wrapu64, wrapu32, ← Int.natCast_add, ← Int.natCast_mul, cast_succ, wrapu32_nat, shr32, reps_wd, map_set_wd, List.length_set, zs_len, e]
      refine W_drawn ?_
      by_cases h1 : a.getD (k - 1) 0 < b.getD (k - 1) 0
      · have hv : val a < val b := by
          rw [val, val, ← h]; exact vp_less ha.1 (by omega) (fun j h1 h2 => hall j (by omega) h2) h1
        have hc : cmpN (val a) (val b) = -1 := by unfold cmpN; rw [if_pos hv]
        simp (maxSteps := 4000000) (disch := omega) only [go_sem, ↓reduceIte, Nat.reduceAdd, Nat.reduceSub, Nat.reduceMul, Nat.reduceEqDiff, reduceCtorEq, Int.reduceAdd, Int.reduceLT, Int.reduceLE, Int.reduceToNat, Int.reduceNeg, Int.reduceSub, ← List.map_take, ← List.map_drop, wrap64, wrapu64, wrapu32, ← Int.natCast_add, ← Int.natCast_mul, cast_succ, wrapu32_nat, shr32, reps_wd, map_set_wd, List.length_set, zs_len, hc]
        rfl
      · simp (maxSteps := 4000000) (disch := omega) only [go_sem, ↓reduceIte, Nat.reduceAdd, Nat.reduceSub, Nat.reduceMul, Nat.reduceEqDiff, reduceCtorEq, Int.reduceAdd, Int.reduceLT, Int.reduceLE, Int.reduceToNat, Int.reduceNeg, Int.reduceSub, ← List.map_take, ← List.map_drop, wrap64, wrapu64, wrapu32, ← Int.natCast_add, ← Int.natCast_mul, cast_succ, wrapu32_nat, shr32, reps_wd, map_set_wd, List.length_set, zs_len]
        refine ⟨by rfl, ?_⟩
        refine W_drawn ?_
        by_cases h2 : b.getD (k - 1) 0 < a.getD (k - 1) 0
        · have hv : val b < val a := by
            rw [val, val, ← h]; exact vp_less hb.1 (by omega) (fun j h1 h2 => (hall j (by omega) h2).symm) h2
          have hc : cmpN (val a) (val b) = 1 := by unfold cmpN; rw [if_neg (by omega), if_pos hv]
          simp (maxSteps := 4000000) (disch := omega) only [go_sem, ↓reduceIte, Nat.reduceAdd, Nat.reduceSub, Nat.reduceMul, Nat.reduceEqDiff, reduceCtorEq, Int.reduceAdd, Int.reduceLT, Int.reduceLE, Int.reduceToNat, Int.reduceNeg, Int.reduceSub, ← List.map_take, ← List.map_drop, wrap64, wrapu64, wrapu32, ← Int.natCast_add, ← Int.natCast_mul, cast_succ, wrapu32_nat, shr32, reps_wd, map_set_wd, List.length_set, zs_len, hc]
          rfl
        · simp (maxSteps := 4000000) (disch := omega) only [go_sem, ↓reduceIte, Nat.reduceAdd, Nat.reduceSub, Nat.reduceMul, Nat.reduceEqDiff, reduceCtorEq, Int.reduceAdd, Int.reduceLT, Int.reduceLE, Int.reduceToNat, Int.reduceNeg, Int.reduceSub, ← List.map_take, ← List.map_drop, wrap64, wrapu64, wrapu32, ← Int.natCast_add, ← Int.natCast_mul, cast_succ, wrapu32_nat, shr32, reps_wd, map_set_wd, List.length_set, zs_len]
          refine ⟨by rfl, ?_⟩
          exact ⟨k - 1, by omega, garb rfl, by omega, fun j h3 h4 => by
            by_cases hj : j = k - 1
            · subst hj; omega
            · exact hall j (by omega) h4⟩
  · by_cases hl : a.length < b.length
    · have hv := val_less_len ha.1 hb hl
      have hc : cmpN (val a) (val b) = -1 := by unfold cmpN; rw [if_pos hv]
      simp (maxSteps := 4000000) (disch := omega) only [go_sem, ↓reduceIte, Nat.reduceAdd, Nat.reduceSub, Nat.reduceMul, Nat.reduceEqDiff, reduceCtorEq, Int.reduceAdd, Int.reduceLT, Int.reduceLE, Int.reduceToNat, Int.reduceNeg, Int.reduceSub, ← List.map_take, ← List.map_drop, wrap64, wrapu64, wrapu32, ← Int.natCast_add, ← Int.natCast_mul, cast_succ, wrapu32_nat, shr32, reps_wd, map_set_wd, List.length_set, zs_len, Try.f92, hc]
    · have hv := val_less_len hb.1 ha (by omega)
      have hc : cmpN (val a) (val b) = 1 := by unfold cmpN; rw [if_neg (by omega), if_pos hv]
      simp (maxSteps := 4000000) (disch := omega) only [go_sem, ↓reduceIte, Nat.reduceAdd, Nat.reduceSub, Nat.reduceMul, Nat.reduceEqDiff, reduceCtorEq, Int.reduceAdd, Int.reduceLT, Int.reduceLE, Int.reduceToNat, Int.reduceNeg, Int.reduceSub, ← List.map_take, ← List.map_drop, wrap64, wrapu64, wrapu32, ← Int.natCast_add, ← Int.natCast_mul, cast_succ, wrapu32_nat, shr32, reps_wd, map_set_wd, List.length_set, zs_len, Try.f92, hc]
end Go.Proofs.Ytmgmcnoobgljpaa

/- Walks of the package large: the words' product. (Own work of this repo.) -/
namespace Go.Proofs.Ytmgmcnoobgljpaa
open Vm
set_option maxRecDepth 10000

theorem times_spec (ma : Bool) (a : List Nat) (mb : Bool) (b : List Nat) (ha : InR a) (hb : InR b) (la : a.length < 2 ^ 40) (lb : b.length < 2 ^ 40) :
    denP E 97 [.lst ma (a.map wd), .lst mb (b.map wd)] = some (.ret (.lst (decide (a.length = 0 ∨ b.length = 0)) ((dig (val a * val b)).map wd))) := by
  by_cases ha0 : a.length = 0
  · obtain rfl := List.length_eq_zero_iff.1 ha0
    rw [show decide (([] : List Nat).length = 0 ∨ b.length = 0) = true by simp]
    rw [val_nil, Nat.zero_mul, dig_zero]
    refine denP_eq E97 rfl (by simp [AV.pureL, AV.pure, pure_wd]) ?_
    simp (maxSteps := 4000000) (disch := omega) only [go_sem, ↓reduceIte, Nat.reduceAdd, Nat.reduceSub, Nat.reduceMul, Nat.reduceEqDiff, reduceCtorEq, Int.reduceAdd, Int.reduceLT, Int.reduceLE, Int.reduceToNat, Int.reduceNeg, Int.reduceSub, ← List.map_take, ← List.map_drop, wrap64, wrapu64, wrapu32, ← Int.natCast_add, ← Int.natCast_mul, cast_succ, wrapu32_nat, shr32, reps_wd, map_set_wd, List.length_set, zs_len, Try.f97]
  by_cases hb0 : b.length = 0
  · obtain rfl := List.length_eq_zero_iff.1 hb0
    rw [show decide (a.length = 0 ∨ ([] : List Nat).length = 0) = true by simp]
    rw [val_nil, Nat.mul_zero, dig_zero]
    refine denP_eq E97 rfl (by simp [AV.pureL, AV.pure, pure_wd]) ?_
    simp (maxSteps := 4000000) (disch := omega) only [go_sem, ↓reduceIte, Nat.reduceAdd, Nat.reduceSub, Nat.reduceMul, Nat.reduceEqDiff, reduceCtorEq, Int.reduceAdd, Int.reduceLT, Int.reduceLE, Int.reduceToNat, Int.reduceNeg, Int.reduceSub, ← List.map_take, ← List.map_drop, wrap64, wrapu64, wrapu32, ← Int.natCast_add, ← Int.natCast_mul, cast_succ, wrapu32_nat, shr32, reps_wd, map_set_wd, List.length_set, zs_len, Try.f97]
  rw [show decide (a.length = 0 ∨ b.length = 0) = false by simp [ha0, hb0]]
  refine denP_eq E97 rfl (by simp [AV.pureL, AV.pure, pure_wd]) ?_
  simp (maxSteps := 4000000) (disch := omega) only [go_sem, ↓reduceIte, Nat.reduceAdd, Nat.reduceSub, Nat.reduceMul, Nat.reduceEqDiff, reduceCtorEq, Int.reduceAdd, Int.reduceLT, Int.reduceLE, Int.reduceToNat, Int.reduceNeg, Int.reduceSub, ← List.map_take, ← List.map_drop, wrap64, wrapu64, wrapu32, ← Int.natCast_add, ← Int.natCast_mul, cast_succ, wrapu32_nat, shr32, reps_wd, map_set_wd, List.length_set, zs_len, Try.f97, Int.toNat_natCast]
  refine W_loopS (fun k sl H nx => ∃ (i : Nat) (o : List Nat), (∃ g : Nat → AV, sl = [.lst ma (a.map wd), .lst mb (b.map wd), g 2, g 3, g 4, .ref 0 0 (a.length + b.length), g 6, g 7, g 8, g 9, g 10, g 11, g 12, g 13, g 14, g 15, g 16, g 17, g 18, g 19, g 20, g 21, g 22, g 23, g 24, .lst ma (a.map wd), .int .i64 a.length, .int .i64 i, g 28, g 29, g 30, g 31, g 32, g 33, g 34, g 35, g 36, g 37, g 38, g 39, g 40, g 41, g 42, g 43, g 44, g 45, g 46, g 47, g 48, g 49, g 50, g 51, g 52, g 53, g 54, g 55, g 56, g 57, g 58, g 59, g 60, g 61, g 62, g 63, g 64, g 65, g 66, g 67, g 68, g 69, g 70, g 71, g 72, g 73, g 74]) ∧ nx = 1 ∧
    H 0 = some ⟨o.map wd, false, 1, false⟩ ∧ o.length = a.length + b.length ∧ InR o ∧ i + k = a.length ∧ Hd (vp o (i + b.length) = vp a i * val b) ∧ ∀ t, i + b.length ≤ t → o.getD t 0 = 0) a.length
    ⟨0, _, garb rfl, rfl, rfl, zs_len _, zs_inR _, by omega, ⟨by simp [vp, zs_vp]⟩, fun t _ => zs_get _ t⟩ ?_
  rintro k _ H _ ⟨i, o, ⟨g, rfl⟩, rfl, hH, ho, hr, hi, ⟨hv⟩, hz⟩
  replace hv := Hd.mk hv
  by_cases hk : k = 0
  · obtain rfl : i = a.length := by omega
    have hval : val o = val a * val b := by rw [val, ho]; exact hv.out
    have ht := trim_spec false o hr (by omega)
    rw [hval] at ht
    simp (maxSteps := 4000000) (disch := omega) only [go_sem, ↓reduceIte, Nat.reduceAdd, Nat.reduceSub, Nat.reduceMul, Nat.reduceEqDiff, reduceCtorEq, Int.reduceAdd, Int.reduceLT, Int.reduceLE, Int.reduceToNat, Int.reduceNeg, Int.reduceSub, ← List.map_take, ← List.map_drop, wrap64, wrapu64, wrapu32, ← Int.natCast_add, ← Int.natCast_mul, cast_succ, wrapu32_nat, shr32, reps_wd, map_set_wd, List.length_set, zs_len, hH, ho, List.take_of_length_le, ht]
  · have hx := ha.get i
    simp (maxSteps := 4000000) (disch := omega) only [go_sem, ↓reduceIte, Nat.reduceAdd, Nat.reduceSub, Nat.reduceMul, Nat.reduceEqDiff, reduceCtorEq, Int.reduceAdd, Int.reduceLT, Int.reduceLE, Int.reduceToNat, Int.reduceNeg, Int.reduceSub, ← List.map_take, ← List.map_drop, wrap64, wrapu64, wrapu32, ← Int.natCast_add, ← Int.natCast_mul, cast_succ, wrapu32_nat, shr32, reps_wd, map_set_wd, List.length_set, zs_len, hH, ho]
    refine W_loopS (fun k sl H nx => ∃ (j c : Nat) (p : List Nat), (∃ g : Nat → AV, sl = [.lst ma (a.map wd), .lst mb (b.map wd), g 2, g 3, g 4, .ref 0 0 (a.length + b.length), .int .i64 i, .int .u32 (a.getD i 0 : Nat), .int .u64 c, g 9, g 10, g 11, g 12, g 13, g 14, g 15, g 16, g 17, g 18, g 19, g 20, g 21, g 22, g 23, g 24, .lst ma (a.map wd), .int .i64 a.length, .int .i64 i, g 28, g 29, g 30, g 31, .lst mb (b.map wd), .int .i64 b.length, .int .i64 j, g 35, g 36, g 37, g 38, g 39, g 40, g 41, g 42, g 43, g 44, g 45, g 46, g 47, g 48, g 49, g 50, g 51, g 52, g 53, g 54, g 55, g 56, g 57, g 58, g 59, g 60, g 61, g 62, g 63, g 64, g 65, g 66, g 67, g 68, g 69, g 70, g 71, g 72, g 73, g 74]) ∧ nx = 1 ∧
      H 0 = some ⟨p.map wd, false, 1, false⟩ ∧ p.length = a.length + b.length ∧ InR p ∧ c < 4294967296 ∧ j + k = b.length ∧ Hd (vp p (i + j) + c * BB ^ (i + j) = vp o (i + j) + a.getD i 0 * vp b j * BB ^ i) ∧ ∀ t, i + j ≤ t → p.getD t 0 = o.getD t 0) b.length
      ⟨0, 0, _, garb rfl, rfl, hH, ho, hr, by omega, by omega, ⟨by simp [vp]⟩, fun t _ => rfl⟩ ?_
    rintro k' _ H' _ ⟨j, c, p, ⟨g, rfl⟩, rfl, hH', hp, hr', hc, hj, hv', hz'⟩
    by_cases hk' : k' = 0
    · obtain rfl : j = b.length := by omega
      simp (maxSteps := 4000000) (disch := omega) only [go_sem, ↓reduceIte, Nat.reduceAdd, Nat.reduceSub, Nat.reduceMul, Nat.reduceEqDiff, reduceCtorEq, Int.reduceAdd, Int.reduceLT, Int.reduceLE, Int.reduceToNat, Int.reduceNeg, Int.reduceSub, ← List.map_take, ← List.map_drop, wrap64, wrapu64, wrapu32, ← Int.natCast_add, ← Int.natCast_mul, cast_succ, wrapu32_nat, shr32, reps_wd, map_set_wd, List.length_set, zs_len, hH', hp]
      refine ⟨k - 1, by omega, i + 1, p.set (i + b.length) c, garb rfl, rfl, by rw [List.length_set, hp], hr'.set hc, by omega, ⟨?_⟩, fun t ht => ?_⟩
      · rw [show i + 1 + b.length = i + b.length + 1 by omega, vp, vp_set p _ _ _ (Nat.le_refl _), lget_set_self (by omega), hv'.out, hv.out, vp, Nat.add_mul]
        rw [show vp b b.length = val b from rfl]
        congr 1
        rw [Nat.mul_assoc, Nat.mul_assoc, Nat.mul_comm (val b)]
      · rw [lget_set_ne (by omega), hz' t (by omega), hz t (by omega)]
    · have hy := hb.get j
      have hw := hr.get (i + j)
      have hm := mul_word hx hy
      have e := hz' (i + j) (Nat.le_refl _)
      simp (maxSteps := 4000000) (disch := omega) only [go_sem, ↓reduceIte, Nat.reduceAdd, Nat.reduceSub, Nat.reduceMul, Nat.reduceEqDiff, reduceCtorEq, Int.reduceAdd, Int.reduceLT, Int.reduceLE, Int.reduceToNat, Int.reduceNeg, Int.reduceSub, ← List.map_take, ← List.map_drop, wrap64, wrapu64, wrapu32, ← Int.natCast_add, ← Int.natCast_mul, cast_succ, wrapu32_nat, shr32, reps_wd, map_set_wd, List.length_set, zs_len, hH', hp, e]
      have hs : (c + (a.getD i 0 * b.getD j 0 + o.getD (i + j) 0)) / 4294967296 < 4294967296 := by omega
      refine ⟨k' - 1, by omega, j + 1, (c + (a.getD i 0 * b.getD j 0 + o.getD (i + j) 0)) / 4294967296, p.set (i + j) ((c + (a.getD i 0 * b.getD j 0 + o.getD (i + j) 0)) % 4294967296), garb rfl, rfl, by rw [List.length_set, hp], hr'.set (Nat.mod_lt _ (by decide)), hs, by omega, ⟨times_step (by omega) hv'.out rfl⟩, fun t ht => ?_⟩
      rw [lget_set_ne (by omega)]
      exact hz' t (by omega)
end Go.Proofs.Ytmgmcnoobgljpaa

/- Walks of the package large: the words' difference. (Own work of this repo.) -/
namespace Go.Proofs.Ytmgmcnoobgljpaa
open Vm
set_option maxRecDepth 10000

theorem setCells_full : ∀ (vs cs pre : List AV), vs.length = cs.length → setCells (pre ++ cs) pre.length vs = pre ++ vs
  | [], [], pre, _ => rfl
  | v :: vs, c :: cs, pre, h => by
    rw [setCells_cons, List.set_append_right _ _ (Nat.le_refl _), Nat.sub_self, List.set_cons_zero]
    have := setCells_full vs cs (pre ++ [v]) (by simpa using h)
    simpa using this
theorem setCells_wd {l m : List Nat} (h : l.length = m.length) : setCells (l.map wd) 0 (m.map wd) = m.map wd := by
  have := setCells_full (m.map wd) (l.map wd) [] (by simpa using h.symm)
  simpa using this
theorem shr63 (n : Nat) : (n : Int).fdiv (2 ^ min 63 (kb .u64)) = ((n / 9223372036854775808 : Nat) : Int) := by
  rw [show min 63 (kb .u64) = 63 from rfl, Int.fdiv_eq_ediv_of_nonneg _ (by decide)]; rfl
theorem minus_step {o a b : List Nat} {i c w c' : Nat} (ho : i < o.length) (hv : vp a i + c * BB ^ i = vp o i + vp b i) (hs : a.getD i 0 + c' * 4294967296 = w + b.getD i 0 + c) :
    vp a (i + 1) + c' * BB ^ (i + 1) = vp (o.set i w) (i + 1) + vp b (i + 1) := by
  rw [vp, vp, vp, vp_set o i _ i (Nat.le_refl _), lget_set_self ho, Nat.pow_succ]
  have h3 : (a.getD i 0 + c' * 4294967296) * BB ^ i = (w + b.getD i 0 + c) * BB ^ i := by rw [hs]
  rw [Nat.add_mul, Nat.add_mul, Nat.add_mul] at h3
  have h4 : c' * (BB ^ i * BB) = c' * 4294967296 * BB ^ i := by rw [Nat.mul_comm (BB ^ i) BB, ← Nat.mul_assoc]
  rw [h4]
  omega
theorem minus_spec (ma : Bool) (a : List Nat) (mb : Bool) (b : List Nat) (ha : InR a) (hb : InR b) (la : a.length < 2 ^ 40) (lb : b.length ≤ a.length) (hle : val b ≤ val a) :
    denP E 91 [.lst ma (a.map wd), .lst mb (b.map wd)] = some (.ret (.lst false ((dig (val a - val b)).map wd))) := by
  refine denP_eq E91 rfl (by simp [AV.pureL, AV.pure, pure_wd]) ?_
  have hs0 := setCells_wd (l := zs a.length) (m := a) (zs_len _)
  simp (maxSteps := 4000000) (disch := omega) only [go_sem, ↓reduceIte, Nat.reduceAdd, Nat.reduceSub, Nat.reduceMul, Nat.reduceEqDiff, reduceCtorEq, Int.reduceAdd, Int.reduceLT, Int.reduceLE, Int.reduceToNat, Int.reduceNeg, Int.reduceSub, ← List.map_take, ← List.map_drop, wrap64, wrapu64, wrapu32, ← Int.natCast_add, ← Int.natCast_mul, cast_succ, wrapu32_nat, shr32, reps_wd, map_set_wd, List.length_set, zs_len, Try.f91, Int.toNat_natCast, copyEff, srcCells, Nat.min_self, List.take_of_length_le, hs0]
  refine W_loopI (fun k σ => ∃ (H : Heap) (i c : Nat) (o : List Nat) (g2 g3 g4 g7 g8 g9 g10 g11 g12 g13 g14 g18 g19 g20 g21 g22 g23 g24 g25 g26 g27 g28 g29 g30 g31 g32 g33 g34 g35 g36 g37 g38 g39 g40 g41 g42 g43 g44 g45 g46 g47 : AV), σ = ⟨[.lst ma (a.map wd), .lst mb (b.map wd), g2, g3, g4, .ref 0 0 a.length, .int .u64 c, g7, g8, g9, g10, g11, g12, g13, g14, .ref 0 0 a.length, .int .i64 a.length, .int .i64 i, g18, g19, g20, g21, g22, g23, g24, g25, g26, g27, g28, g29, g30, g31, g32, g33, g34, g35, g36, g37, g38, g39, g40, g41, g42, g43, g44, g45, g46, g47], H, 1⟩ ∧
      H 0 = some ⟨o.map wd, false, 1, false⟩ ∧ o.length = a.length ∧ InR o ∧ c ≤ 1 ∧ i + k = a.length ∧ Hd (vp a i + c * BB ^ i = vp o i + vp b i) ∧ ∀ t, i ≤ t → o.getD t 0 = a.getD t 0) a.length
    ⟨_, 0, 0, a, _, _, _, _, _, _, _, _, _, _, _, _, _, _, _, _, _, _, _, _, _, _, _, _, _, _, _, _, _, _, _, _, _, _, _, _, _, _, _, _, _, rfl, rfl, rfl, ha, by omega, by omega, ⟨by simp [vp]⟩, fun _ _ => rfl⟩ ?_
  rintro k σ ⟨H, i, c, o, g2, g3, g4, g7, g8, g9, g10, g11, g12, g13, g14, g18, g19, g20, g21, g22, g23, g24, g25, g26, g27, g28, g29, g30, g31, g32, g33, g34, g35, g36, g37, g38, g39, g40, g41, g42, g43, g44, g45, g46, g47, rfl, hH, ho, hr, hc, hi, hv, hz⟩
  by_cases hk : k = 0
  · obtain rfl : i = a.length := by omega
    have h1 := hv.out
    rw [vp_ge b _ lb, show vp a a.length = val a from rfl, ← ho, show vp o o.length = val o from rfl, ho] at h1
    have h2 := val_lt hr
    rw [ho] at h2
    have h3 : c = 0 := by
      rcases Nat.lt_or_ge 0 c with h | h
      · have : c = 1 := by omega
        subst this; omega
      · omega
    subst h3
    have hval : val o = val a - val b := by omega
    have ht := trim_spec false o hr (by omega)
    rw [hval] at ht
    clear hv h1 h2 hval
    simp (maxSteps := 4000000) (disch := omega) only [go_sem, ↓reduceIte, Nat.reduceAdd, Nat.reduceSub, Nat.reduceMul, Nat.reduceEqDiff, reduceCtorEq, Int.reduceAdd, Int.reduceLT, Int.reduceLE, Int.reduceToNat, Int.reduceNeg, Int.reduceSub, ← List.map_take, ← List.map_drop, wrap64, wrapu64, wrapu32, ← Int.natCast_add, ← Int.natCast_mul, cast_succ, wrapu32_nat, shr32, reps_wd, map_set_wd, List.length_set, zs_len, hH, ho, List.take_of_length_le, ht]
  · have hx := ha.get i
    have hy := hb.get i
    have e := hz i (Nat.le_refl _)
    obtain ⟨X, hX⟩ : ∃ X : Nat, (b.getD i 0 + c ≤ a.getD i 0 ∧ X = a.getD i 0 - c - b.getD i 0) ∨ (a.getD i 0 < b.getD i 0 + c ∧ X = 18446744073709551616 + a.getD i 0 - c - b.getD i 0) := by
      by_cases h : b.getD i 0 + c ≤ a.getD i 0
      · exact ⟨_, .inl ⟨h, rfl⟩⟩
      · exact ⟨_, .inr ⟨by omega, rfl⟩⟩
    have hw : a.getD i 0 + X / 9223372036854775808 * 4294967296 = X % 4294967296 + b.getD i 0 + c := by omega
    have hc2 : X / 9223372036854775808 ≤ 1 := by omega
    have fin : ∃ m, m < k ∧ i + 1 + m = a.length := ⟨k - 1, by omega, by omega⟩
    have hz2 : ∀ t, i + 1 ≤ t → (o.set i (X % 4294967296)).getD t 0 = a.getD t 0 := fun t ht => by rw [lget_set_ne (by omega)]; exact hz t (by omega)
    by_cases hiy : i < b.length
    · have eX : IntKind.u64.wrap (IntKind.u64.wrap ((a.getD i 0 : Nat) - (c : Int)) - (b.getD i 0 : Nat)) = (X : Int) := by
        rw [IntKind.wrap_u64, IntKind.wrap_u64]; omega
      have hst := minus_step (o := o) (by omega) hv.out hw
      clear hX hw
      simp (maxSteps := 4000000) (disch := omega) only [go_sem, ↓reduceIte, Nat.reduceAdd, Nat.reduceSub, Nat.reduceMul, Nat.reduceEqDiff, reduceCtorEq, Int.reduceAdd, Int.reduceLT, Int.reduceLE, Int.reduceToNat, Int.reduceNeg, Int.reduceSub, ← List.map_take, ← List.map_drop, wrap64, wrapu64, wrapu32, ← Int.natCast_add, ← Int.natCast_mul, cast_succ, wrapu32_nat, shr32, reps_wd, map_set_wd, List.length_set, zs_len, hH, ho, e, eX, shr63]
      exact ⟨k - 1, by omega, H.upd 0 (some ⟨(o.set i (X % 4294967296)).map wd, false, 1, false⟩), i + 1, X / 9223372036854775808, o.set i (X % 4294967296), _, _, _, _, _, _, _, _, _, _, _, _, _, _, _, _, _, _, _, _, _, _, _, _, _, _, _, _, _, _, _, _, _, _, _, _, _, _, _, _, _, rfl, rfl, by rw [List.length_set, ho], hr.set (Nat.mod_lt _ (by decide)), hc2, by omega, ⟨hst⟩, hz2⟩
    · have h0 := getD_ge (l := b) (i := i) (by omega)
      have eX : IntKind.u64.wrap ((a.getD i 0 : Nat) - (c : Int)) = (X : Int) := by
        rw [IntKind.wrap_u64]; omega
      have hst := minus_step (o := o) (by omega) hv.out hw
      clear hX hw
      simp (maxSteps := 4000000) (disch := omega) only [go_sem, ↓reduceIte, Nat.reduceAdd, Nat.reduceSub, Nat.reduceMul, Nat.reduceEqDiff, reduceCtorEq, Int.reduceAdd, Int.reduceLT, Int.reduceLE, Int.reduceToNat, Int.reduceNeg, Int.reduceSub, ← List.map_take, ← List.map_drop, wrap64, wrapu64, wrapu32, ← Int.natCast_add, ← Int.natCast_mul, cast_succ, wrapu32_nat, shr32, reps_wd, map_set_wd, List.length_set, zs_len, hH, ho, e, eX, shr63]
      exact ⟨k - 1, by omega, H.upd 0 (some ⟨(o.set i (X % 4294967296)).map wd, false, 1, false⟩), i + 1, X / 9223372036854775808, o.set i (X % 4294967296), _, _, _, _, _, _, _, _, _, _, _, _, _, _, _, _, _, _, _, _, _, _, _, _, _, _, _, _, _, _, _, _, _, _, _, _, _, _, _, _, _, rfl, rfl, by rw [List.length_set, ho], hr.set (Nat.mod_lt _ (by decide)), hc2, by omega, ⟨hst⟩, hz2⟩
end Go.Proofs.Ytmgmcnoobgljpaa

/- Walks of the package large: sums, differences and products of numbers with signs. (Own work of this repo.) -/
namespace Go.Proofs.Ytmgmcnoobgljpaa
open Vm
set_option maxRecDepth 10000

theorem sum_spec (ma : Bool) (x : Int) (mb : Bool) (y : Int) (neg : Bool) (hx : (dg x).length ≤ 4096) (hy : (dg y).length ≤ 4096) :
    denP E 96 [I ma x, I mb y, .bool neg] = some (.ret (RI false (x + sg neg y.natAbs))) := by
  refine denP_eq E96 rfl (by simp [AV.pureL, AV.pure, pure_wd]) ?_
  have h1 := plus_spec ma (dg x) mb (dg y) (dg_inR x) (dg_inR y) (by omega) (by omega)
  have h2 := compare_spec ma (dg x) mb (dg y) (dg_norm x) (dg_norm y) (by omega) (by omega)
  have l1 := dig_add x.natAbs y.natAbs
  have l1' : (dig (x.natAbs + y.natAbs)).length < 2 ^ 40 := by unfold dg at hx hy; omega
  have h3 := made_dig neg false (x.natAbs + y.natAbs) (by simp) l1'
  rw [val_dg, val_dg] at h1 h2
  by_cases hs : ng x = neg
  · have e : sg neg (x.natAbs + y.natAbs) = x + sg neg y.natAbs := by
      rw [← hs]; unfold sg ng; by_cases h : x < 0 <;> simp [h] <;> omega
    rw [e] at h3
    simp (maxSteps := 4000000) (disch := omega) only [go_sem, ↓reduceIte, Nat.reduceAdd, Nat.reduceSub, Nat.reduceMul, Nat.reduceEqDiff, reduceCtorEq, Int.reduceAdd, Int.reduceLT, Int.reduceLE, Int.reduceToNat, Int.reduceNeg, Int.reduceSub, ← List.map_take, ← List.map_drop, wrap64, wrapu64, wrapu32, Try.f96, h1, h3, hs]
  · by_cases hc : x.natAbs < y.natAbs
    · have h4 := minus_spec mb (dg y) ma (dg x) (dg_inR y) (dg_inR x) (by omega) (dig_mono (by omega)) (by rw [val_dg, val_dg]; omega)
      rw [val_dg, val_dg] at h4
      have l2 := dig_mono (a := y.natAbs - x.natAbs) (b := y.natAbs) (by omega)
      have h5 := made_dig neg false (y.natAbs - x.natAbs) (by simp) (by unfold dg at hy; omega)
      have e : sg neg (y.natAbs - x.natAbs) = x + sg neg y.natAbs := by
        have : neg = !(ng x) := by cases neg <;> cases h : ng x <;> simp_all
        rw [this]; unfold sg ng; by_cases h : x < 0 <;> simp [h] <;> omega
      rw [e] at h5
      have hc' : cmpN x.natAbs y.natAbs = -1 := if_pos hc
      rw [hc'] at h2
      have hs' : (ng x == neg) = false := by simpa using hs
      simp (maxSteps := 4000000) (disch := omega) only [go_sem, ↓reduceIte, Nat.reduceAdd, Nat.reduceSub, Nat.reduceMul, Nat.reduceEqDiff, reduceCtorEq, Int.reduceAdd, Int.reduceLT, Int.reduceLE, Int.reduceToNat, Int.reduceNeg, Int.reduceSub, ← List.map_take, ← List.map_drop, wrap64, wrapu64, wrapu32, Try.f96, h2, h4, h5, hs']
    · have h4 := minus_spec ma (dg x) mb (dg y) (dg_inR x) (dg_inR y) (by omega) (dig_mono (by omega)) (by rw [val_dg, val_dg]; omega)
      rw [val_dg, val_dg] at h4
      have l2 := dig_mono (a := x.natAbs - y.natAbs) (b := x.natAbs) (by omega)
      have h5 := made_dig (ng x) false (x.natAbs - y.natAbs) (by simp) (by unfold dg at hx; omega)
      have e : sg (ng x) (x.natAbs - y.natAbs) = x + sg neg y.natAbs := by
        have : neg = !(ng x) := by cases neg <;> cases h : ng x <;> simp_all
        rw [this]; unfold sg ng; by_cases h : x < 0 <;> simp [h] <;> omega
      rw [e] at h5
      have hc' : ¬ cmpN x.natAbs y.natAbs < 0 := by unfold cmpN; rw [if_neg hc]; split <;> decide
      have hs' : (ng x == neg) = false := by simpa using hs
      simp (maxSteps := 4000000) (disch := omega) only [go_sem, ↓reduceIte, Nat.reduceAdd, Nat.reduceSub, Nat.reduceMul, Nat.reduceEqDiff, reduceCtorEq, Int.reduceAdd, Int.reduceLT, Int.reduceLE, Int.reduceToNat, Int.reduceNeg, Int.reduceSub, ← List.map_take, ← List.map_drop, wrap64, wrapu64, wrapu32, Try.f96, h2, hs', hc']
      refine W_drawn ?_
      simp (maxSteps := 4000000) (disch := omega) only [go_sem, ↓reduceIte, Nat.reduceAdd, Nat.reduceSub, Nat.reduceMul, Nat.reduceEqDiff, reduceCtorEq, Int.reduceAdd, Int.reduceLT, Int.reduceLE, Int.reduceToNat, Int.reduceNeg, Int.reduceSub, ← List.map_take, ← List.map_drop, wrap64, wrapu64, wrapu32, h4, h5]
      rfl
theorem add_spec (ma : Bool) (x : Int) (mb : Bool) (y : Int) (hx : (dg x).length ≤ 4096) (hy : (dg y).length ≤ 4096) : denP E 83 [I ma x, I mb y] = some (.ret (RI false (x + y))) := by
  refine denP_eq E83 rfl (by simp [AV.pureL, AV.pure, pure_wd]) ?_
  have h1 := valid2_I ma x mb y hx hy
  have h2 := sum_spec ma x mb y (ng y) hx hy
  rw [sg_ng] at h2
  simp (maxSteps := 4000000) (disch := omega) only [go_sem, ↓reduceIte, Nat.reduceAdd, Nat.reduceSub, Nat.reduceMul, Nat.reduceEqDiff, reduceCtorEq, Int.reduceAdd, Int.reduceLT, Int.reduceLE, Int.reduceToNat, Int.reduceNeg, Int.reduceSub, ← List.map_take, ← List.map_drop, wrap64, wrapu64, wrapu32, Try.f83, h1, h2, fillAll, reps, refP, elems]
theorem sub_spec (ma : Bool) (x : Int) (mb : Bool) (y : Int) (hx : (dg x).length ≤ 4096) (hy : (dg y).length ≤ 4096) : denP E 85 [I ma x, I mb y] = some (.ret (RI false (x - y))) := by
  refine denP_eq E85 rfl (by simp [AV.pureL, AV.pure, pure_wd]) ?_
  have h1 := valid2_I ma x mb y hx hy
  have h2 := sum_spec ma x mb y (!(ng y)) hx hy
  rw [sg_not, ← Int.sub_eq_add_neg] at h2
  simp (maxSteps := 4000000) (disch := omega) only [go_sem, ↓reduceIte, Nat.reduceAdd, Nat.reduceSub, Nat.reduceMul, Nat.reduceEqDiff, reduceCtorEq, Int.reduceAdd, Int.reduceLT, Int.reduceLE, Int.reduceToNat, Int.reduceNeg, Int.reduceSub, ← List.map_take, ← List.map_drop, wrap64, wrapu64, wrapu32, Try.f85, h1, h2, fillAll, reps, refP, elems]
theorem mul_spec (ma : Bool) (x : Int) (mb : Bool) (y : Int) (hx : (dg x).length ≤ 4096) (hy : (dg y).length ≤ 4096) : denP E 84 [I ma x, I mb y] = some (.ret (RI (mz x y) (x * y))) := by
  refine denP_eq E84 rfl (by simp [AV.pureL, AV.pure, pure_wd]) ?_
  have h1 := valid2_I ma x mb y hx hy
  have h2 := times_spec ma (dg x) mb (dg y) (dg_inR x) (dg_inR y) (by omega) (by omega)
  rw [val_dg, val_dg] at h2
  have e : decide ((dg x).length = 0 ∨ (dg y).length = 0) = mz x y := by unfold mz; simp only [dg_len0]
  rw [e] at h2
  have l1 := dig_mul x.natAbs y.natAbs
  have h3 := made_dig (ng x != ng y) (mz x y) (x.natAbs * y.natAbs) (fun h => by
    unfold mz at h; rw [decide_eq_true_eq] at h; rcases h with rfl | rfl <;> simp) (by unfold dg at hx hy; omega)
  rw [sg_mul] at h3
  have hb : (!(ng x == ng y)) = (ng x != ng y) := rfl
  by_cases h0 : x = 0
  · have hl : (dg x).length = 0 := dg_len0.2 h0
    simp (maxSteps := 4000000) (disch := omega) only [go_sem, ↓reduceIte, Nat.reduceAdd, Nat.reduceSub, Nat.reduceMul, Nat.reduceEqDiff, reduceCtorEq, Int.reduceAdd, Int.reduceLT, Int.reduceLE, Int.reduceToNat, Int.reduceNeg, Int.reduceSub, ← List.map_take, ← List.map_drop, wrap64, wrapu64, wrapu32, Try.f84, h1, hl, fillAll, reps, refP, elems]
    refine W_drawn ?_
    simp (maxSteps := 4000000) (disch := omega) only [go_sem, ↓reduceIte, Nat.reduceAdd, Nat.reduceSub, Nat.reduceMul, Nat.reduceEqDiff, reduceCtorEq, Int.reduceAdd, Int.reduceLT, Int.reduceLE, Int.reduceToNat, Int.reduceNeg, Int.reduceSub, ← List.map_take, ← List.map_drop, wrap64, wrapu64, wrapu32, h2, h3, hb]
    rfl
  · have hl : 0 < (dg x).length := dg_pos.2 h0
    by_cases h0' : y = 0
    · have hl' : (dg y).length = 0 := dg_len0.2 h0'
      simp (maxSteps := 4000000) (disch := omega) only [go_sem, ↓reduceIte, Nat.reduceAdd, Nat.reduceSub, Nat.reduceMul, Nat.reduceEqDiff, reduceCtorEq, Int.reduceAdd, Int.reduceLT, Int.reduceLE, Int.reduceToNat, Int.reduceNeg, Int.reduceSub, ← List.map_take, ← List.map_drop, wrap64, wrapu64, wrapu32, Try.f84, h1, hl', fillAll, reps, refP, elems]
      refine W_drawn ?_
      simp (maxSteps := 4000000) (disch := omega) only [go_sem, ↓reduceIte, Nat.reduceAdd, Nat.reduceSub, Nat.reduceMul, Nat.reduceEqDiff, reduceCtorEq, Int.reduceAdd, Int.reduceLT, Int.reduceLE, Int.reduceToNat, Int.reduceNeg, Int.reduceSub, ← List.map_take, ← List.map_drop, wrap64, wrapu64, wrapu32, h2, h3, hb]
      rfl
    · have hl' : 0 < (dg y).length := dg_pos.2 h0'
      by_cases hs : (dg x).length + (dg y).length ≤ 4097
      · simp (maxSteps := 4000000) (disch := omega) only [go_sem, ↓reduceIte, Nat.reduceAdd, Nat.reduceSub, Nat.reduceMul, Nat.reduceEqDiff, reduceCtorEq, Int.reduceAdd, Int.reduceLT, Int.reduceLE, Int.reduceToNat, Int.reduceNeg, Int.reduceSub, ← List.map_take, ← List.map_drop, wrap64, wrapu64, wrapu32, Try.f84, h1, fillAll, reps, refP, elems]
        refine W_drawn ?_
        simp (maxSteps := 4000000) (disch := omega) only [go_sem, ↓reduceIte, Nat.reduceAdd, Nat.reduceSub, Nat.reduceMul, Nat.reduceEqDiff, reduceCtorEq, Int.reduceAdd, Int.reduceLT, Int.reduceLE, Int.reduceToNat, Int.reduceNeg, Int.reduceSub, ← List.map_take, ← List.map_drop, wrap64, wrapu64, wrapu32, h2, h3, hb]
        rfl
      · have := dg_mul_ge h0 h0'
        have h4 : ¬ (dg (x * y)).length ≤ 4096 := by omega
        simp (maxSteps := 4000000) (disch := omega) only [go_sem, ↓reduceIte, Nat.reduceAdd, Nat.reduceSub, Nat.reduceMul, Nat.reduceEqDiff, reduceCtorEq, Int.reduceAdd, Int.reduceLT, Int.reduceLE, Int.reduceToNat, Int.reduceNeg, Int.reduceSub, ← List.map_take, ← List.map_drop, wrap64, wrapu64, wrapu32, Try.f84, h1, fillAll, reps, refP, elems, places, RI, I, fit_no h4, er_no h4, fm_no h4, ng_zero, dg_zero]
theorem cmp_spec (ma : Bool) (x : Int) (mb : Bool) (y : Int) (hx : (dg x).length ≤ 4096) (hy : (dg y).length ≤ 4096) : denP E 78 [I ma x, I mb y] = some (.ret (.tup [.int .i64 (cmpI x y), .int .i64 0])) := by
  refine denP_eq E78 rfl (by simp [AV.pureL, AV.pure, pure_wd]) ?_
  have h1 := valid2_I ma x mb y hx hy
  have h2 := compare_spec ma (dg x) mb (dg y) (dg_norm x) (dg_norm y) (by omega) (by omega)
  have h3 := compare_spec mb (dg y) ma (dg x) (dg_norm y) (dg_norm x) (by omega) (by omega)
  rw [val_dg, val_dg] at h2 h3
  cases ha : ng x with
  | true =>
    have ha' := ng_true.1 ha
    cases hb : ng y with
    | true =>
      have hb' := ng_true.1 hb
      have e : cmpN y.natAbs x.natAbs = cmpI x y := by
        unfold cmpN cmpI
        by_cases h1 : x < y
        · rw [if_pos h1, if_pos (by omega)]
        · rw [if_neg h1, if_neg (by omega)]
          by_cases h2 : y < x
          · rw [if_pos h2, if_pos (by omega)]
          · rw [if_neg h2, if_neg (by omega)]
      rw [e] at h3
      simp only [I, ha, hb] at h1
      simp (maxSteps := 4000000) (disch := omega) only [go_sem, ↓reduceIte, Nat.reduceAdd, Nat.reduceSub, Nat.reduceMul, Nat.reduceEqDiff, reduceCtorEq, Int.reduceAdd, Int.reduceLT, Int.reduceLE, Int.reduceToNat, Int.reduceNeg, Int.reduceSub, ← List.map_take, ← List.map_drop, wrap64, wrapu64, wrapu32, Try.f78, ha, hb, h1, h3, fillAll, reps, refP, elems]
    | false =>
      have hb' := ng_false.1 hb
      have e : cmpI x y = -1 := by unfold cmpI; rw [if_pos (by omega)]
      simp only [I, ha, hb] at h1
      simp (maxSteps := 4000000) (disch := omega) only [go_sem, ↓reduceIte, Nat.reduceAdd, Nat.reduceSub, Nat.reduceMul, Nat.reduceEqDiff, reduceCtorEq, Int.reduceAdd, Int.reduceLT, Int.reduceLE, Int.reduceToNat, Int.reduceNeg, Int.reduceSub, ← List.map_take, ← List.map_drop, wrap64, wrapu64, wrapu32, Try.f78, ha, hb, h1, e, fillAll, reps, refP, elems]
  | false =>
    have ha' := ng_false.1 ha
    cases hb : ng y with
    | true =>
      have hb' := ng_true.1 hb
      have e : cmpI x y = 1 := by unfold cmpI; rw [if_neg (by omega), if_pos (by omega)]
      simp only [I, ha, hb] at h1
      simp (maxSteps := 4000000) (disch := omega) only [go_sem, ↓reduceIte, Nat.reduceAdd, Nat.reduceSub, Nat.reduceMul, Nat.reduceEqDiff, reduceCtorEq, Int.reduceAdd, Int.reduceLT, Int.reduceLE, Int.reduceToNat, Int.reduceNeg, Int.reduceSub, ← List.map_take, ← List.map_drop, wrap64, wrapu64, wrapu32, Try.f78, ha, hb, h1, e, fillAll, reps, refP, elems]
    | false =>
      have hb' := ng_false.1 hb
      have e : cmpN x.natAbs y.natAbs = cmpI x y := by
        unfold cmpN cmpI
        by_cases h1 : x < y
        · rw [if_pos h1, if_pos (by omega)]
        · rw [if_neg h1, if_neg (by omega)]
          by_cases h2 : y < x
          · rw [if_pos h2, if_pos (by omega)]
          · rw [if_neg h2, if_neg (by omega)]
      rw [e] at h2
      simp only [I, ha, hb] at h1
      simp (maxSteps := 4000000) (disch := omega) only [go_sem, ↓reduceIte, Nat.reduceAdd, Nat.reduceSub, Nat.reduceMul, Nat.reduceEqDiff, reduceCtorEq, Int.reduceAdd, Int.reduceLT, Int.reduceLE, Int.reduceToNat, Int.reduceNeg, Int.reduceSub, ← List.map_take, ← List.map_drop, wrap64, wrapu64, wrapu32, Try.f78, ha, hb, h1, h2, fillAll, reps, refP, elems]
end Go.Proofs.Ytmgmcnoobgljpaa

/- Walks of the reference of chapter 1: comparing, making. (Own work of this repo.) -/
namespace Go.Proofs.Ytmgmcnoobgljpaa
open Vm
set_option maxRecDepth 10000

theorem rZero_spec (m : Bool) (x : Int) : denP E 37 [I m x] = some (.ret (.bool (decide (x = 0)))) := by
  refine denP_eq E37 rfl (by simp [AV.pureL, AV.pure, pure_wd]) ?_
  have e : decide (((dg x).length : Int) = 0) = decide (x = 0) := by
    rw [decide_eq_decide, ← dg_len0 (z := x)]; omega
  simp (maxSteps := 4000000) (disch := omega) only [go_sem, ↓reduceIte, Nat.reduceAdd, Nat.reduceSub, Nat.reduceMul, Nat.reduceEqDiff, reduceCtorEq, Int.reduceAdd, Int.reduceLT, Int.reduceLE, Int.reduceToNat, Int.reduceNeg, Int.reduceSub, ← List.map_take, ← List.map_drop, wrap64, wrapu64, wrapu32, Try.f37, e]
theorem rSameWords_walk (ma : Bool) (a : List Nat) (mb : Bool) (b : List Nat) (la : a.length < 2 ^ 60) (lb : b.length < 2 ^ 60) :
    denP E 55 [.lst ma (a.map wd), .lst mb (b.map wd)] = some (.ret (.bool (decide (a = b)))) := by
  refine denP_eq E55 rfl (by simp [AV.pureL, AV.pure, pure_wd]) ?_
  by_cases h : a.length = b.length
  · simp (maxSteps := 4000000) (disch := omega) only [go_sem, ↓reduceIte, Nat.reduceAdd, Nat.reduceSub, Nat.reduceMul, Nat.reduceEqDiff, reduceCtorEq, Int.reduceAdd, Int.reduceLT, Int.reduceLE, Int.reduceToNat, Int.reduceNeg, Int.reduceSub, ← List.map_take, ← List.map_drop, wrap64, wrapu64, wrapu32, ← Int.natCast_add, ← Int.natCast_mul, cast_succ, wrapu32_nat, shr32, reps_wd, map_set_wd, List.length_set, zs_len, Try.f55]
    refine W_loopS (fun k sl h nx => ∃ i : Nat, (∃ g : Nat → AV, sl = [.lst ma (a.map wd), .lst mb (b.map wd), g 2, g 3, g 4, .int .i64 i, g 6, g 7, g 8, g 9, g 10, g 11, g 12, g 13, g 14, g 15, g 16, g 17, g 18, g 19, g 20, g 21, g 22, g 23, g 24, g 25]) ∧ h = Heap.empty ∧ nx = 0 ∧
      i + k = a.length ∧ ∀ j, j < i → a.getD j 0 = b.getD j 0) a.length ⟨0, garb rfl, rfl, rfl, by omega, by omega⟩ ?_
    rintro k _ _ _ ⟨i, ⟨g, rfl⟩, rfl, rfl, hk, hall⟩
    by_cases hk0 : k = 0
    · have hv : a = b := by
        refine List.ext_getElem h fun j h1 h2 => ?_
        have := hall j (by omega)
        rw [List.getD_eq_getElem?_getD, List.getD_eq_getElem?_getD, List.getElem?_eq_getElem h1, List.getElem?_eq_getElem h2] at this
        exact this
      have hc : decide (a = b) = true := decide_eq_true hv
      simp (maxSteps := 4000000) (disch := omega) only [go_sem, ↓reduceIte, Nat.reduceAdd, Nat.reduceSub, Nat.reduceMul, Nat.reduceEqDiff, reduceCtorEq, Int.reduceAdd, Int.reduceLT, Int.reduceLE, Int.reduceToNat, Int.reduceNeg, Int.reduceSub, ← List.map_take, ← List.map_drop, wrap64, wrapu64, wrapu32, ← Int.natCast_add, ← Int.natCast_mul, cast_succ, wrapu32_nat, shr32, reps_wd, map_set_wd, List.length_set, zs_len, hc]
    · simp (maxSteps := 4000000) (disch := omega) only [go_sem, ↓reduceIte, Nat.reduceAdd, Nat.reduceSub, Nat.reduceMul, Nat.reduceEqDiff, reduceCtorEq, Int.reduceAdd, Int.reduceLT, Int.reduceLE, Int.reduceToNat, Int.reduceNeg, Int.reduceSub, ← List.map_take, ← List.map_drop, wrap64, wrapu64, wrapu32, ← Int.natCast_add, ← Int.natCast_mul, cast_succ, wrapu32_nat, shr32, reps_wd, map_set_wd, List.length_set, zs_len]
      refine W_drawn ?_
      by_cases h1 : a.getD i 0 = b.getD i 0
      · simp (maxSteps := 4000000) (disch := omega) only [go_sem, ↓reduceIte, Nat.reduceAdd, Nat.reduceSub, Nat.reduceMul, Nat.reduceEqDiff, reduceCtorEq, Int.reduceAdd, Int.reduceLT, Int.reduceLE, Int.reduceToNat, Int.reduceNeg, Int.reduceSub, ← List.map_take, ← List.map_drop, wrap64, wrapu64, wrapu32, ← Int.natCast_add, ← Int.natCast_mul, cast_succ, wrapu32_nat, shr32, reps_wd, map_set_wd, List.length_set, zs_len, h1]
        refine ⟨by rfl, ?_⟩
        refine ⟨k - 1, by omega, i + 1, garb rfl, by omega, fun j hj => ?_⟩
        by_cases hji : j = i
        · subst hji; exact h1
        · exact hall j (by omega)
      · have hv : decide (a = b) = false := decide_eq_false (fun e => h1 (by rw [e]))
        simp (maxSteps := 4000000) (disch := omega) only [go_sem, ↓reduceIte, Nat.reduceAdd, Nat.reduceSub, Nat.reduceMul, Nat.reduceEqDiff, reduceCtorEq, Int.reduceAdd, Int.reduceLT, Int.reduceLE, Int.reduceToNat, Int.reduceNeg, Int.reduceSub, ← List.map_take, ← List.map_drop, wrap64, wrapu64, wrapu32, ← Int.natCast_add, ← Int.natCast_mul, cast_succ, wrapu32_nat, shr32, reps_wd, map_set_wd, List.length_set, zs_len, hv]
        rfl
  · have hv : decide (a = b) = false := decide_eq_false (fun e => h (by rw [e]))
    simp (maxSteps := 4000000) (disch := omega) only [go_sem, ↓reduceIte, Nat.reduceAdd, Nat.reduceSub, Nat.reduceMul, Nat.reduceEqDiff, reduceCtorEq, Int.reduceAdd, Int.reduceLT, Int.reduceLE, Int.reduceToNat, Int.reduceNeg, Int.reduceSub, ← List.map_take, ← List.map_drop, wrap64, wrapu64, wrapu32, ← Int.natCast_add, ← Int.natCast_mul, cast_succ, wrapu32_nat, shr32, reps_wd, map_set_wd, List.length_set, zs_len, Try.f55, hv]
theorem rSameB_spec (na ma : Bool) (a : List Nat) (nb mb : Bool) (b : List Nat) (la : a.length < 2 ^ 60) (lb : b.length < 2 ^ 60) :
    denP E 31 [iv na ma a, iv nb mb b] = some (.ret (.bool (na == nb && decide (a = b)))) := by
  refine denP_eq E31 rfl (by simp [AV.pureL, AV.pure, pure_wd]) ?_
  have h := rSameWords_walk ma a mb b la lb
  cases hs : na == nb with
  | true => simp (maxSteps := 4000000) (disch := omega) only [go_sem, ↓reduceIte, Nat.reduceAdd, Nat.reduceSub, Nat.reduceMul, Nat.reduceEqDiff, reduceCtorEq, Int.reduceAdd, Int.reduceLT, Int.reduceLE, Int.reduceToNat, Int.reduceNeg, Int.reduceSub, ← List.map_take, ← List.map_drop, wrap64, wrapu64, wrapu32, Try.f31, hs, h]
  | false => simp (maxSteps := 4000000) (disch := omega) only [go_sem, ↓reduceIte, Nat.reduceAdd, Nat.reduceSub, Nat.reduceMul, Nat.reduceEqDiff, reduceCtorEq, Int.reduceAdd, Int.reduceLT, Int.reduceLE, Int.reduceToNat, Int.reduceNeg, Int.reduceSub, ← List.map_take, ← List.map_drop, wrap64, wrapu64, wrapu32, Try.f31, hs, h]
theorem rSame_spec (ma : Bool) (x : Int) (mb : Bool) (y : Int) (hx : (dg x).length < 2 ^ 60) (hy : (dg y).length < 2 ^ 60) :
    denP E 31 [I ma x, I mb y] = some (.ret (.bool (decide (x = y)))) := by
  have h := rSameB_spec (ng x) ma (dg x) (ng y) mb (dg y) hx hy
  rw [h]
  congr 3
  by_cases e : x = y
  · subst e; simp
  · rw [decide_eq_false e]
    rw [Bool.eq_false_iff]
    intro h
    rw [Bool.and_eq_true, beq_iff_eq, decide_eq_true_eq] at h
    exact e (int_ext h.1 h.2)
def rvalidW (neg : Bool) (l : List Nat) : Bool := if l.length = 0 then !neg else decide (l.length ≤ 4096) && decide (l.getD (l.length - 1) 0 ≠ 0)
theorem rValid_walk (neg nl : Bool) (l : List Nat) (hl : l.length < 2 ^ 60) : denP E 22 [iv neg nl l] = some (.ret (.bool (rvalidW neg l))) := by
  refine denP_eq E22 rfl (by simp [AV.pureL, AV.pure, pure_wd]) ?_
  unfold rvalidW
  by_cases h2 : l.length = 0
  · simp (maxSteps := 4000000) (disch := omega) only [go_sem, ↓reduceIte, Nat.reduceAdd, Nat.reduceSub, Nat.reduceMul, Nat.reduceEqDiff, reduceCtorEq, Int.reduceAdd, Int.reduceLT, Int.reduceLE, Int.reduceToNat, Int.reduceNeg, Int.reduceSub, ← List.map_take, ← List.map_drop, wrap64, wrapu64, wrapu32, Try.f22]
  · have e : (l.length : Int) - 1 = (l.length - 1 : Nat) := by omega
    by_cases h1 : l.length ≤ 4096
    · by_cases h3 : l.getD (l.length - 1) 0 = 0
      · simp (maxSteps := 4000000) (disch := omega) only [go_sem, ↓reduceIte, Nat.reduceAdd, Nat.reduceSub, Nat.reduceMul, Nat.reduceEqDiff, reduceCtorEq, Int.reduceAdd, Int.reduceLT, Int.reduceLE, Int.reduceToNat, Int.reduceNeg, Int.reduceSub, ← List.map_take, ← List.map_drop, wrap64, wrapu64, wrapu32, Try.f22, e, ne_eq]
      · simp (maxSteps := 4000000) (disch := omega) only [go_sem, ↓reduceIte, Nat.reduceAdd, Nat.reduceSub, Nat.reduceMul, Nat.reduceEqDiff, reduceCtorEq, Int.reduceAdd, Int.reduceLT, Int.reduceLE, Int.reduceToNat, Int.reduceNeg, Int.reduceSub, ← List.map_take, ← List.map_drop, wrap64, wrapu64, wrapu32, Try.f22, e, ne_eq]
    · simp (maxSteps := 4000000) (disch := omega) only [go_sem, ↓reduceIte, Nat.reduceAdd, Nat.reduceSub, Nat.reduceMul, Nat.reduceEqDiff, reduceCtorEq, Int.reduceAdd, Int.reduceLT, Int.reduceLE, Int.reduceToNat, Int.reduceNeg, Int.reduceSub, ← List.map_take, ← List.map_drop, wrap64, wrapu64, wrapu32, Try.f22]
/-- A valid number is one. -/
theorem rvalid_norm {neg : Bool} {l : List Nat} (hr : InR l) (h : rvalidW neg l = true) : l.length ≤ 4096 ∧ ∃ z : Int, ng z = neg ∧ dg z = l := by
  unfold rvalidW at h
  by_cases h0 : l.length = 0
  · rw [if_pos h0] at h
    have := List.length_eq_zero_iff.1 h0
    subst this
    refine ⟨by simp, 0, ?_, dg_zero⟩
    simp at h; rw [h]; rfl
  · rw [if_neg h0, Bool.and_eq_true, decide_eq_true_eq, decide_eq_true_eq] at h
    have hn : Norm l := ⟨hr, .inr h.2⟩
    have hp := norm_pos hn (fun e => h0 (by rw [e]; rfl))
    refine ⟨h.1, sg neg (val l), ?_, ?_⟩
    · rw [ng_sg, decide_eq_true (by omega), Bool.and_true]
    · rw [dg_sg, dig_val hn]
theorem rvalidW_I (z : Int) : rvalidW (ng z) (dg z) = decide ((dg z).length ≤ 4096) := by
  unfold rvalidW
  rcases (dg_norm z).2 with h | h
  · have : z = 0 := dg_nil.1 h
    subst this
    rw [h]; rfl
  · have h0 : (dg z).length ≠ 0 := fun e => by rw [List.length_eq_zero_iff.1 e] at h; simp at h
    rw [if_neg h0, decide_eq_true h, Bool.and_true]
theorem rValid_spec (m : Bool) (z : Int) (h : (dg z).length < 2 ^ 60) : denP E 22 [I m z] = some (.ret (.bool (decide ((dg z).length ≤ 4096)))) := by
  have := rValid_walk (ng z) m (dg z) h
  rwa [rvalidW_I] at this
theorem rFits_spec (m : Bool) (z : Int) : denP E 20 [I m z] = some (.ret (.bool (decide ((dg z).length ≤ 4096)))) := by
  refine denP_eq E20 rfl (by simp [AV.pureL, AV.pure, pure_wd]) ?_
  have e : decide (((dg z).length : Int) ≤ 4096) = decide ((dg z).length ≤ 4096) := by rw [decide_eq_decide]; omega
  simp (maxSteps := 4000000) (disch := omega) only [go_sem, ↓reduceIte, Nat.reduceAdd, Nat.reduceSub, Nat.reduceMul, Nat.reduceEqDiff, reduceCtorEq, Int.reduceAdd, Int.reduceLT, Int.reduceLE, Int.reduceToNat, Int.reduceNeg, Int.reduceSub, ← List.map_take, ← List.map_drop, wrap64, wrapu64, wrapu32, Try.f20, e]
theorem rMake_spec (neg nl : Bool) (w : List Nat) (hw : InR w) (lw : w.length < 2 ^ 40) :
    denP E 51 [.bool neg, .lst nl (w.map wd)] = some (.ret (I (decide (val w = 0)) (sg neg (val w)))) := by
  refine denP_eq E51 rfl (by simp [AV.pureL, AV.pure, pure_wd]) ?_
  simp (maxSteps := 4000000) (disch := omega) only [go_sem, ↓reduceIte, Nat.reduceAdd, Nat.reduceSub, Nat.reduceMul, Nat.reduceEqDiff, reduceCtorEq, Int.reduceAdd, Int.reduceLT, Int.reduceLE, Int.reduceToNat, Int.reduceNeg, Int.reduceSub, ← List.map_take, ← List.map_drop, wrap64, wrapu64, wrapu32, ← Int.natCast_add, ← Int.natCast_mul, cast_succ, wrapu32_nat, shr32, reps_wd, map_set_wd, List.length_set, zs_len, Try.f51]
  refine W_loopS (fun k sl H nx => (∃ g : Nat → AV, sl = [.bool neg, .lst nl (w.map wd), g 2, g 3, .ptr 0 0, .int .i64 k, g 6, g 7, g 8, g 9, g 10, g 11, g 12, g 13, g 14, g 15, g 16, g 17, g 18, g 19, g 20, g 21, g 22, g 23, g 24, g 25, g 26, g 27, g 28, g 29, g 30, g 31, g 32, g 33, g 34]) ∧ nx = 1 ∧
    H 0 = some ⟨[.bool false, .lst true []], true, 2, false⟩ ∧ k ≤ w.length ∧ tz w k = tz w w.length) w.length ⟨garb rfl, rfl, rfl, by omega, rfl⟩ ?_
  rintro k _ H _ ⟨⟨g, rfl⟩, rfl, hH, hk, ht⟩
  have hd := take_tz hw
  have hln := ng_sg neg (val w)
  rw [dg_sg, hln]
  by_cases hk0 : k = 0
  · subst hk0
    have hv : val w = 0 := by
      rw [← ht] at hd
      have : dig (val w) = [] := by rw [← hd]; rfl
      exact dig_nil.1 this
    have e1 : decide (val w = 0) = true := decide_eq_true hv
    have e2 : decide (val w ≠ 0) = false := decide_eq_false (by simp [hv])
    rw [e1, e2, hv, dig_zero]
    cases neg with
    | true =>
      simp (maxSteps := 4000000) (disch := omega) only [go_sem, ↓reduceIte, Nat.reduceAdd, Nat.reduceSub, Nat.reduceMul, Nat.reduceEqDiff, reduceCtorEq, Int.reduceAdd, Int.reduceLT, Int.reduceLE, Int.reduceToNat, Int.reduceNeg, Int.reduceSub, ← List.map_take, ← List.map_drop, wrap64, wrapu64, wrapu32, ← Int.natCast_add, ← Int.natCast_mul, cast_succ, wrapu32_nat, shr32, reps_wd, map_set_wd, List.length_set, zs_len, fillAll, places, hH, appendEff, srcCells, cutBounds, flat]
      refine W_drawn ?_
      simp (maxSteps := 4000000) (disch := omega) only [go_sem, ↓reduceIte, Nat.reduceAdd, Nat.reduceSub, Nat.reduceMul, Nat.reduceEqDiff, reduceCtorEq, Int.reduceAdd, Int.reduceLT, Int.reduceLE, Int.reduceToNat, Int.reduceNeg, Int.reduceSub, ← List.map_take, ← List.map_drop, wrap64, wrapu64, wrapu32, ← Int.natCast_add, ← Int.natCast_mul, cast_succ, wrapu32_nat, shr32, reps_wd, map_set_wd, List.length_set, zs_len, fillAll, places, hH, appendEff, srcCells, cutBounds, flat]
      rfl
    | false =>
      simp (maxSteps := 4000000) (disch := omega) only [go_sem, ↓reduceIte, Nat.reduceAdd, Nat.reduceSub, Nat.reduceMul, Nat.reduceEqDiff, reduceCtorEq, Int.reduceAdd, Int.reduceLT, Int.reduceLE, Int.reduceToNat, Int.reduceNeg, Int.reduceSub, ← List.map_take, ← List.map_drop, wrap64, wrapu64, wrapu32, ← Int.natCast_add, ← Int.natCast_mul, cast_succ, wrapu32_nat, shr32, reps_wd, map_set_wd, List.length_set, zs_len, fillAll, places, hH, appendEff, srcCells, cutBounds, flat]
      refine W_drawn ?_
      simp (maxSteps := 4000000) (disch := omega) only [go_sem, ↓reduceIte, Nat.reduceAdd, Nat.reduceSub, Nat.reduceMul, Nat.reduceEqDiff, reduceCtorEq, Int.reduceAdd, Int.reduceLT, Int.reduceLE, Int.reduceToNat, Int.reduceNeg, Int.reduceSub, ← List.map_take, ← List.map_drop, wrap64, wrapu64, wrapu32, ← Int.natCast_add, ← Int.natCast_mul, cast_succ, wrapu32_nat, shr32, reps_wd, map_set_wd, List.length_set, zs_len, fillAll, places, hH, appendEff, srcCells, cutBounds, flat]
      rfl
  · have e : (k : Int) - 1 = ((k - 1 : Nat) : Int) := by omega
    by_cases h0 : w.getD (k - 1) 0 = 0
    · simp (maxSteps := 4000000) (disch := omega) only [go_sem, ↓reduceIte, Nat.reduceAdd, Nat.reduceSub, Nat.reduceMul, Nat.reduceEqDiff, reduceCtorEq, Int.reduceAdd, Int.reduceLT, Int.reduceLE, Int.reduceToNat, Int.reduceNeg, Int.reduceSub, ← List.map_take, ← List.map_drop, wrap64, wrapu64, wrapu32, ← Int.natCast_add, ← Int.natCast_mul, cast_succ, wrapu32_nat, shr32, reps_wd, map_set_wd, List.length_set, zs_len, e, h0]
      refine ⟨k - 1, by omega, garb rfl, hH, by omega, ?_⟩
      rw [← ht]
      obtain ⟨j, rfl⟩ : ∃ j, k = j + 1 := ⟨k - 1, by omega⟩
      simp only [Nat.add_sub_cancel] at h0 ⊢
      simp only [tz, if_pos h0]
    · have htk : tz w w.length = k := by
        rw [← ht]
        obtain ⟨j, rfl⟩ : ∃ j, k = j + 1 := ⟨k - 1, by omega⟩
        simp only [Nat.add_sub_cancel] at h0
        simp only [tz, if_neg h0]
      rw [htk] at hd
      have hv : val w ≠ 0 := by
        intro h
        rw [h, dig_zero] at hd
        have := congrArg List.length hd
        rw [List.length_take, Nat.min_eq_left hk] at this
        simp at this; omega
      have e1 : decide (val w = 0) = false := decide_eq_false hv
      have e2 : decide (val w ≠ 0) = true := decide_eq_true hv
      rw [e1, e2, ← hd]
      have hlen : (w.take k).length = k := by rw [List.length_take]; omega
      cases neg with
      | true =>
        simp (maxSteps := 4000000) (disch := omega) only [go_sem, ↓reduceIte, Nat.reduceAdd, Nat.reduceSub, Nat.reduceMul, Nat.reduceEqDiff, reduceCtorEq, Int.reduceAdd, Int.reduceLT, Int.reduceLE, Int.reduceToNat, Int.reduceNeg, Int.reduceSub, ← List.map_take, ← List.map_drop, wrap64, wrapu64, wrapu32, ← Int.natCast_add, ← Int.natCast_mul, cast_succ, wrapu32_nat, shr32, reps_wd, map_set_wd, List.length_set, zs_len, e, h0, fillAll, places, hH, appendEff, srcCells, cutBounds, hlen, List.take_take, Nat.min_self]
        refine W_drawn ?_
        simp (maxSteps := 4000000) (disch := omega) only [go_sem, ↓reduceIte, Nat.reduceAdd, Nat.reduceSub, Nat.reduceMul, Nat.reduceEqDiff, reduceCtorEq, Int.reduceAdd, Int.reduceLT, Int.reduceLE, Int.reduceToNat, Int.reduceNeg, Int.reduceSub, ← List.map_take, ← List.map_drop, wrap64, wrapu64, wrapu32, ← Int.natCast_add, ← Int.natCast_mul, cast_succ, wrapu32_nat, shr32, reps_wd, map_set_wd, List.length_set, zs_len, e, h0, fillAll, places, hH, appendEff, srcCells, cutBounds, hlen, List.take_take, Nat.min_self]
        rfl
      | false =>
        simp (maxSteps := 4000000) (disch := omega) only [go_sem, ↓reduceIte, Nat.reduceAdd, Nat.reduceSub, Nat.reduceMul, Nat.reduceEqDiff, reduceCtorEq, Int.reduceAdd, Int.reduceLT, Int.reduceLE, Int.reduceToNat, Int.reduceNeg, Int.reduceSub, ← List.map_take, ← List.map_drop, wrap64, wrapu64, wrapu32, ← Int.natCast_add, ← Int.natCast_mul, cast_succ, wrapu32_nat, shr32, reps_wd, map_set_wd, List.length_set, zs_len, e, h0, fillAll, places, hH, appendEff, srcCells, cutBounds, hlen, List.take_take, Nat.min_self]
        refine W_drawn ?_
        simp (maxSteps := 4000000) (disch := omega) only [go_sem, ↓reduceIte, Nat.reduceAdd, Nat.reduceSub, Nat.reduceMul, Nat.reduceEqDiff, reduceCtorEq, Int.reduceAdd, Int.reduceLT, Int.reduceLE, Int.reduceToNat, Int.reduceNeg, Int.reduceSub, ← List.map_take, ← List.map_drop, wrap64, wrapu64, wrapu32, ← Int.natCast_add, ← Int.natCast_mul, cast_succ, wrapu32_nat, shr32, reps_wd, map_set_wd, List.length_set, zs_len, e, h0, fillAll, places, hH, appendEff, srcCells, cutBounds, hlen, List.take_take, Nat.min_self]
        rfl
end Go.Proofs.Ytmgmcnoobgljpaa

/- Walks of the reference of chapter 1: order, sums, products. (Own work of this repo.) -/
namespace Go.Proofs.Ytmgmcnoobgljpaa
open Vm
set_option maxRecDepth 10000

theorem rorder_walk (ma : Bool) (a : List Nat) (mb : Bool) (b : List Nat) (ha : Norm a) (hb : Norm b) (la : a.length < 2 ^ 40) (lb : b.length < 2 ^ 40) :
    denP E 50 [.lst ma (a.map wd), .lst mb (b.map wd)] = some (.ret (.int .i64 (cmpN (val a) (val b)))) := by
  refine denP_eq E50 rfl (by simp [AV.pureL, AV.pure, pure_wd]) ?_
  by_cases h : a.length = b.length
  · simp (maxSteps := 4000000) (disch := omega) only [go_sem, ↓reduceIte, Nat.reduceAdd, Nat.reduceSub, Nat.reduceMul, Nat.reduceEqDiff, reduceCtorEq, Int.reduceAdd, Int.reduceLT, Int.reduceLE, Int.reduceToNat, Int.reduceNeg, Int.reduceSub, ← List.map_take, ← List.map_drop, wrap64, wrapu64, wrapu32, ← Int.natCast_add, ← Int.natCast_mul, cast_succ, wrapu32_nat, shr32, reps_wd, map_set_wd, List.length_set, zs_len, Try.f50]
    refine W_loopS (fun k sl h nx => (∃ g : Nat → AV, sl = [.lst ma (a.map wd), .lst mb (b.map wd), g 2, g 3, .int .i64 0, .int .i64 ((k : Int) - 1), g 6, g 7, g 8, g 9, g 10, g 11, g 12, g 13, g 14, g 15, g 16, g 17, g 18, g 19, g 20, g 21, g 22, g 23, g 24, g 25, g 26, g 27, g 28, g 29, g 30, g 31, g 32, g 33, g 34, g 35, g 36, g 37, g 38, g 39, g 40]) ∧ h = Heap.empty ∧ nx = 0 ∧
      k ≤ a.length ∧ ∀ j, k ≤ j → j < a.length → a.getD j 0 = b.getD j 0) a.length ⟨garb rfl, rfl, rfl, Nat.le_refl _, by omega⟩ ?_
    rintro k _ _ _ ⟨⟨g, rfl⟩, rfl, rfl, hk, hall⟩
    by_cases hk0 : k = 0
    · subst hk0
      have hv : val a = val b := by
        rw [val, val, ← h]; exact vp_congr _ (fun i hi => hall i (by omega) hi)
      have hc : cmpN (val a) (val b) = 0 := by unfold cmpN; rw [if_neg (by omega), if_neg (by omega)]
      simp (maxSteps := 4000000) (disch := omega) only [go_sem, ↓reduceIte, Nat.reduceAdd, Nat.reduceSub, Nat.reduceMul, Nat.reduceEqDiff, reduceCtorEq, Int.reduceAdd, Int.reduceLT, Int.reduceLE, Int.reduceToNat, Int.reduceNeg, Int.reduceSub, ← List.map_take, ← List.map_drop, wrap64, wrapu64, wrapu32, ← Int.natCast_add, ← Int.natCast_mul, cast_succ, wrapu32_nat, shr32, reps_wd, map_set_wd, List.length_set, zs_len, hc]
    · have e : (k : Int) - 1 = ((k - 1 : Nat) : Int) := by omega
      simp (maxSteps := 4000000) (disch := omega) only [go_sem, ↓reduceIte, Nat.reduceAdd, Nat.reduceSub, Nat.reduceMul, Nat.reduceEqDiff, reduceCtorEq, Int.reduceAdd, Int.reduceLT, Int.reduceLE, Int.reduceToNat, Int.reduceNeg, Int.reduceSub, ← List.map_take, ← List.map_drop, wrap64, wrapu64, wrapu32, ← Int.natCast_add, ← Int.natCast_mul, cast_succ, wrapu32_nat, shr32, reps_wd, map_set_wd, List.length_set, zs_len, e]
      refine W_drawn ?_
      by_cases h1 : a.getD (k - 1) 0 < b.getD (k - 1) 0
      · have hv : val a < val b := by
          rw [val, val, ← h]; exact vp_less ha.1 (by omega) (fun j h1 h2 => hall j (by omega) h2) h1
        have hc : cmpN (val a) (val b) = -1 := by unfold cmpN; rw [if_pos hv]
        simp (maxSteps := 4000000) (disch := omega) only [go_sem, ↓reduceIte, Nat.reduceAdd, Nat.reduceSub, Nat.reduceMul, Nat.reduceEqDiff, reduceCtorEq, Int.reduceAdd, Int.reduceLT, Int.reduceLE, Int.reduceToNat, Int.reduceNeg, Int.reduceSub, ← List.map_take, ← List.map_drop, wrap64, wrapu64, wrapu32, ← Int.natCast_add, ← Int.natCast_mul, cast_succ, wrapu32_nat, shr32, reps_wd, map_set_wd, List.length_set, zs_len, hc]
        rfl
      · simp (maxSteps := 4000000) (disch := omega) only [go_sem, ↓reduceIte, Nat.reduceAdd, Nat.reduceSub, Nat.reduceMul, Nat.reduceEqDiff, reduceCtorEq, Int.reduceAdd, Int.reduceLT, Int.reduceLE, Int.reduceToNat, Int.reduceNeg, Int.reduceSub, ← List.map_take, ← List.map_drop, wrap64, wrapu64, wrapu32, ← Int.natCast_add, ← Int.natCast_mul, cast_succ, wrapu32_nat, shr32, reps_wd, map_set_wd, List.length_set, zs_len]
        refine ⟨by rfl, ?_⟩
        refine W_drawn ?_
        by_cases h2 : b.getD (k - 1) 0 < a.getD (k - 1) 0
        · have hv : val b < val a := by
            rw [val, val, ← h]; exact vp_less hb.1 (by omega) (fun j h1 h2 => (hall j (by omega) h2).symm) h2
          have hc : cmpN (val a) (val b) = 1 := by unfold cmpN; rw [if_neg (by omega), if_pos hv]
          simp (maxSteps := 4000000) (disch := omega) only [go_sem, ↓reduceIte, Nat.reduceAdd, Nat.reduceSub, Nat.reduceMul, Nat.reduceEqDiff, reduceCtorEq, Int.reduceAdd, Int.reduceLT, Int.reduceLE, Int.reduceToNat, Int.reduceNeg, Int.reduceSub, ← List.map_take, ← List.map_drop, wrap64, wrapu64, wrapu32, ← Int.natCast_add, ← Int.natCast_mul, cast_succ, wrapu32_nat, shr32, reps_wd, map_set_wd, List.length_set, zs_len, hc]
          rfl
        · simp (maxSteps := 4000000) (disch := omega) only [go_sem, ↓reduceIte, Nat.reduceAdd, Nat.reduceSub, Nat.reduceMul, Nat.reduceEqDiff, reduceCtorEq, Int.reduceAdd, Int.reduceLT, Int.reduceLE, Int.reduceToNat, Int.reduceNeg, Int.reduceSub, ← List.map_take, ← List.map_drop, wrap64, wrapu64, wrapu32, ← Int.natCast_add, ← Int.natCast_mul, cast_succ, wrapu32_nat, shr32, reps_wd, map_set_wd, List.length_set, zs_len]
          refine ⟨by rfl, ?_⟩
          exact ⟨k - 1, by omega, garb rfl, by omega, fun j h3 h4 => by
            by_cases hj : j = k - 1
            · subst hj; omega
            · exact hall j (by omega) h4⟩
  · by_cases hl : a.length < b.length
    · have hv := val_less_len ha.1 hb hl
      have hc : cmpN (val a) (val b) = -1 := by unfold cmpN; rw [if_pos hv]
      simp (maxSteps := 4000000) (disch := omega) only [go_sem, ↓reduceIte, Nat.reduceAdd, Nat.reduceSub, Nat.reduceMul, Nat.reduceEqDiff, reduceCtorEq, Int.reduceAdd, Int.reduceLT, Int.reduceLE, Int.reduceToNat, Int.reduceNeg, Int.reduceSub, ← List.map_take, ← List.map_drop, wrap64, wrapu64, wrapu32, ← Int.natCast_add, ← Int.natCast_mul, cast_succ, wrapu32_nat, shr32, reps_wd, map_set_wd, List.length_set, zs_len, Try.f50, hc]
    · have hv := val_less_len hb.1 ha (by omega)
      have hc : cmpN (val a) (val b) = 1 := by unfold cmpN; rw [if_neg (by omega), if_pos hv]
      simp (maxSteps := 4000000) (disch := omega) only [go_sem, ↓reduceIte, Nat.reduceAdd, Nat.reduceSub, Nat.reduceMul, Nat.reduceEqDiff, reduceCtorEq, Int.reduceAdd, Int.reduceLT, Int.reduceLE, Int.reduceToNat, Int.reduceNeg, Int.reduceSub, ← List.map_take, ← List.map_drop, wrap64, wrapu64, wrapu32, ← Int.natCast_add, ← Int.natCast_mul, cast_succ, wrapu32_nat, shr32, reps_wd, map_set_wd, List.length_set, zs_len, Try.f50, hc]
theorem rorder_spec (ma : Bool) (x : Int) (mb : Bool) (y : Int) (hx : (dg x).length < 2 ^ 40) (hy : (dg y).length < 2 ^ 40) :
    denP E 50 [.lst ma ((dg x).map wd), .lst mb ((dg y).map wd)] = some (.ret (.int .i64 (cmpN x.natAbs y.natAbs))) := by
  rw [rorder_walk ma (dg x) mb (dg y) (dg_norm x) (dg_norm y) hx hy, val_dg, val_dg]
theorem rCmp_spec (ma : Bool) (x : Int) (mb : Bool) (y : Int) (hx : (dg x).length < 2 ^ 40) (hy : (dg y).length < 2 ^ 40) : denP E 23 [I ma x, I mb y] = some (.ret (.int .i64 (cmpI x y))) := by
  refine denP_eq E23 rfl (by simp [AV.pureL, AV.pure, pure_wd]) ?_
  have h2 := rorder_spec ma x mb y hx hy
  have h3 := rorder_spec mb y ma x hy hx
  cases ha : ng x with
  | true =>
    have ha' := ng_true.1 ha
    cases hb : ng y with
    | true =>
      have hb' := ng_true.1 hb
      have e : cmpN y.natAbs x.natAbs = cmpI x y := by
        unfold cmpN cmpI
        by_cases h1 : x < y
        · rw [if_pos h1, if_pos (by omega)]
        · rw [if_neg h1, if_neg (by omega)]
          by_cases h2 : y < x
          · rw [if_pos h2, if_pos (by omega)]
          · rw [if_neg h2, if_neg (by omega)]
      rw [e] at h3
      simp (maxSteps := 4000000) (disch := omega) only [go_sem, ↓reduceIte, Nat.reduceAdd, Nat.reduceSub, Nat.reduceMul, Nat.reduceEqDiff, reduceCtorEq, Int.reduceAdd, Int.reduceLT, Int.reduceLE, Int.reduceToNat, Int.reduceNeg, Int.reduceSub, ← List.map_take, ← List.map_drop, wrap64, wrapu64, wrapu32, Try.f23, ha, hb, h3]
    | false =>
      have hb' := ng_false.1 hb
      have e : cmpI x y = -1 := by unfold cmpI; rw [if_pos (by omega)]
      simp (maxSteps := 4000000) (disch := omega) only [go_sem, ↓reduceIte, Nat.reduceAdd, Nat.reduceSub, Nat.reduceMul, Nat.reduceEqDiff, reduceCtorEq, Int.reduceAdd, Int.reduceLT, Int.reduceLE, Int.reduceToNat, Int.reduceNeg, Int.reduceSub, ← List.map_take, ← List.map_drop, wrap64, wrapu64, wrapu32, Try.f23, ha, hb, e]
  | false =>
    have ha' := ng_false.1 ha
    cases hb : ng y with
    | true =>
      have hb' := ng_true.1 hb
      have e : cmpI x y = 1 := by unfold cmpI; rw [if_neg (by omega), if_pos (by omega)]
      simp (maxSteps := 4000000) (disch := omega) only [go_sem, ↓reduceIte, Nat.reduceAdd, Nat.reduceSub, Nat.reduceMul, Nat.reduceEqDiff, reduceCtorEq, Int.reduceAdd, Int.reduceLT, Int.reduceLE, Int.reduceToNat, Int.reduceNeg, Int.reduceSub, ← List.map_take, ← List.map_drop, wrap64, wrapu64, wrapu32, Try.f23, ha, hb, e]
    | false =>
      have hb' := ng_false.1 hb
      have e : cmpN x.natAbs y.natAbs = cmpI x y := by
        unfold cmpN cmpI
        by_cases h1 : x < y
        · rw [if_pos h1, if_pos (by omega)]
        · rw [if_neg h1, if_neg (by omega)]
          by_cases h2 : y < x
          · rw [if_pos h2, if_pos (by omega)]
          · rw [if_neg h2, if_neg (by omega)]
      rw [e] at h2
      simp (maxSteps := 4000000) (disch := omega) only [go_sem, ↓reduceIte, Nat.reduceAdd, Nat.reduceSub, Nat.reduceMul, Nat.reduceEqDiff, reduceCtorEq, Int.reduceAdd, Int.reduceLT, Int.reduceLE, Int.reduceToNat, Int.reduceNeg, Int.reduceSub, ← List.map_take, ← List.map_drop, wrap64, wrapu64, wrapu32, Try.f23, ha, hb, h2]
theorem rplus_walk (ma : Bool) (a : List Nat) (mb : Bool) (b : List Nat) (ha : InR a) (hb : InR b) (la : a.length < 2 ^ 40) (lb : b.length < 2 ^ 40) :
    ∃ o : List Nat, denP E 56 [.lst ma (a.map wd), .lst mb (b.map wd)] = some (.ret (.lst false (o.map wd))) ∧ InR o ∧ o.length = max a.length b.length + 1 ∧ val o = val a + val b := by
  refine denP_ex E56 rfl (by simp [AV.pureL, AV.pure, pure_wd]) ?_
  obtain ⟨n, hn⟩ : ∃ n : Nat, n = max a.length b.length + 1 := ⟨_, rfl⟩
  have e1 : (if (a.length : Int) < (b.length : Int) then (b.length : Int) else (a.length : Int)) + 1 = (n : Int) := by split <;> omega
  simp (maxSteps := 4000000) (disch := omega) only [go_sem, ↓reduceIte, Nat.reduceAdd, Nat.reduceSub, Nat.reduceMul, Nat.reduceEqDiff, reduceCtorEq, Int.reduceAdd, Int.reduceLT, Int.reduceLE, Int.reduceToNat, Int.reduceNeg, Int.reduceSub, ← List.map_take, ← List.map_drop, wrap64, wrapu64, wrapu32, ← Int.natCast_add, ← Int.natCast_mul, cast_succ, wrapu32_nat, shr32, reps_wd, map_set_wd, List.length_set, zs_len, Try.f56, e1]
  refine W_loopS (fun k sl H nx => ∃ (i c : Nat) (o : List Nat), (∃ g : Nat → AV, sl = [.lst ma (a.map wd), .lst mb (b.map wd), g 2, g 3, g 4, .int .i64 n, .ref 0 0 n, .int .u64 c, .int .i64 i, g 9, g 10, g 11, g 12, g 13, g 14, g 15, g 16, g 17, g 18, g 19, g 20, g 21, g 22, g 23, g 24, g 25, g 26, g 27, g 28, g 29, g 30, g 31, g 32, g 33, g 34, g 35, g 36, g 37, g 38, g 39, g 40, g 41, g 42, g 43, g 44, g 45, g 46, g 47, g 48, g 49, g 50, g 51, g 52]) ∧ nx = 1 ∧
    H 0 = some ⟨o.map wd, false, 1, false⟩ ∧ o.length = n ∧ InR o ∧ c ≤ 1 ∧ i + k = n ∧ Hd (vp o i + c * BB ^ i = vp a i + vp b i)) n ⟨0, 0, _, garb rfl, rfl, rfl, zs_len _, zs_inR _, by omega, by omega, ⟨by simp [vp]⟩⟩ ?_
  rintro k _ H _ ⟨i, c, o, ⟨g, rfl⟩, rfl, hH, ho, hr, hc, hi, hv⟩
  have hx := ha.get i
  have hy := hb.get i
  by_cases hk : k = 0
  · obtain rfl : i = n := by omega
    have hval : val o = val a + val b := by
      have h1 := hv.out
      have h2 := vp_ge a i (by omega)
      have h3 := vp_ge b i (by omega)
      rw [h2, h3, show vp o i = val o by rw [val, ho]] at h1
      have h4 := val_lt ha
      have h5 := val_lt hb
      have h6 := pow_max a.length b.length
      rcases Nat.eq_zero_or_pos c with h | h
      · subst h; omega
      · have : c = 1 := by omega
        subst this
        rw [hn] at h1
        omega
    clear hv
    simp (maxSteps := 4000000) (disch := omega) only [go_sem, ↓reduceIte, Nat.reduceAdd, Nat.reduceSub, Nat.reduceMul, Nat.reduceEqDiff, reduceCtorEq, Int.reduceAdd, Int.reduceLT, Int.reduceLE, Int.reduceToNat, Int.reduceNeg, Int.reduceSub, ← List.map_take, ← List.map_drop, wrap64, wrapu64, wrapu32, ← Int.natCast_add, ← Int.natCast_mul, cast_succ, wrapu32_nat, shr32, reps_wd, map_set_wd, List.length_set, zs_len, hH, ho, List.take_of_length_le]
    exact ⟨o, rfl, hr, by omega, hval⟩
  · by_cases hia : i < a.length
    · by_cases hib : i < b.length
      · simp (maxSteps := 4000000) (disch := omega) only [go_sem, ↓reduceIte, Nat.reduceAdd, Nat.reduceSub, Nat.reduceMul, Nat.reduceEqDiff, reduceCtorEq, Int.reduceAdd, Int.reduceLT, Int.reduceLE, Int.reduceToNat, Int.reduceNeg, Int.reduceSub, ← List.map_take, ← List.map_drop, wrap64, wrapu64, wrapu32, ← Int.natCast_add, ← Int.natCast_mul, cast_succ, wrapu32_nat, shr32, reps_wd, map_set_wd, List.length_set, zs_len, hH, ho, and_low]
        refine ⟨k - 1, by omega, i + 1, (c + a.getD i 0 + b.getD i 0) / 4294967296, o.set i ((c + a.getD i 0 + b.getD i 0) % 4294967296), garb rfl, rfl, by rw [List.length_set, ho], hr.set (Nat.mod_lt _ (by decide)), by omega, by omega, ⟨plus_step (by omega) hv.out rfl⟩⟩
      · have h0 := getD_ge (l := b) (i := i) (by omega)
        simp (maxSteps := 4000000) (disch := omega) only [go_sem, ↓reduceIte, Nat.reduceAdd, Nat.reduceSub, Nat.reduceMul, Nat.reduceEqDiff, reduceCtorEq, Int.reduceAdd, Int.reduceLT, Int.reduceLE, Int.reduceToNat, Int.reduceNeg, Int.reduceSub, ← List.map_take, ← List.map_drop, wrap64, wrapu64, wrapu32, ← Int.natCast_add, ← Int.natCast_mul, cast_succ, wrapu32_nat, shr32, reps_wd, map_set_wd, List.length_set, zs_len, hH, ho, and_low]
        refine ⟨k - 1, by omega, i + 1, (c + a.getD i 0) / 4294967296, o.set i ((c + a.getD i 0) % 4294967296), garb rfl, rfl, by rw [List.length_set, ho], hr.set (Nat.mod_lt _ (by decide)), by omega, by omega, ⟨plus_step (by omega) hv.out (by rw [h0]; rfl)⟩⟩
    · have h0 := getD_ge (l := a) (i := i) (by omega)
      by_cases hib : i < b.length
      · simp (maxSteps := 4000000) (disch := omega) only [go_sem, ↓reduceIte, Nat.reduceAdd, Nat.reduceSub, Nat.reduceMul, Nat.reduceEqDiff, reduceCtorEq, Int.reduceAdd, Int.reduceLT, Int.reduceLE, Int.reduceToNat, Int.reduceNeg, Int.reduceSub, ← List.map_take, ← List.map_drop, wrap64, wrapu64, wrapu32, ← Int.natCast_add, ← Int.natCast_mul, cast_succ, wrapu32_nat, shr32, reps_wd, map_set_wd, List.length_set, zs_len, hH, ho, and_low]
        refine ⟨k - 1, by omega, i + 1, (c + b.getD i 0) / 4294967296, o.set i ((c + b.getD i 0) % 4294967296), garb rfl, rfl, by rw [List.length_set, ho], hr.set (Nat.mod_lt _ (by decide)), by omega, by omega, ⟨plus_step (by omega) hv.out (by rw [h0]; rfl)⟩⟩
      · have h1 := getD_ge (l := b) (i := i) (by omega)
        simp (maxSteps := 4000000) (disch := omega) only [go_sem, ↓reduceIte, Nat.reduceAdd, Nat.reduceSub, Nat.reduceMul, Nat.reduceEqDiff, reduceCtorEq, Int.reduceAdd, Int.reduceLT, Int.reduceLE, Int.reduceToNat, Int.reduceNeg, Int.reduceSub, ← List.map_take, ← List.map_drop, wrap64, wrapu64, wrapu32, ← Int.natCast_add, ← Int.natCast_mul, cast_succ, wrapu32_nat, shr32, reps_wd, map_set_wd, List.length_set, zs_len, hH, ho, and_low]
        refine ⟨k - 1, by omega, i + 1, c / 4294967296, o.set i (c % 4294967296), garb rfl, rfl, by rw [List.length_set, ho], hr.set (Nat.mod_lt _ (by decide)), by omega, by omega, ⟨plus_step (by omega) hv.out (by rw [h0, h1]; rfl)⟩⟩
theorem minus_step2 {o a b : List Nat} {i c w c' : Nat} (ho : i < o.length) (hv : vp a i + c * BB ^ i = vp o i + vp b i) (hs : a.getD i 0 + c' * 4294967296 = w + b.getD i 0 + c) :
    vp a (i + 1) + c' * BB ^ (i + 1) = vp (o.set i w) (i + 1) + vp b (i + 1) := by
  rw [vp, vp, vp, vp_set o i _ i (Nat.le_refl _), lget_set_self ho, Nat.pow_succ]
  have h3 : (a.getD i 0 + c' * 4294967296) * BB ^ i = (w + b.getD i 0 + c) * BB ^ i := by rw [hs]
  rw [Nat.add_mul, Nat.add_mul, Nat.add_mul] at h3
  have h4 : c' * (BB ^ i * BB) = c' * 4294967296 * BB ^ i := by rw [Nat.mul_comm (BB ^ i) BB, ← Nat.mul_assoc]
  rw [h4]
  omega
theorem rminus_walk (ma : Bool) (a : List Nat) (mb : Bool) (b : List Nat) (ha : InR a) (hb : InR b) (la : a.length < 2 ^ 40) (lb : b.length ≤ a.length) (hle : val b ≤ val a) :
    ∃ o : List Nat, denP E 57 [.lst ma (a.map wd), .lst mb (b.map wd)] = some (.ret (.lst false (o.map wd))) ∧ InR o ∧ o.length = a.length ∧ val o = val a - val b := by
  refine denP_ex E57 rfl (by simp [AV.pureL, AV.pure, pure_wd]) ?_
  simp (maxSteps := 4000000) (disch := omega) only [go_sem, ↓reduceIte, Nat.reduceAdd, Nat.reduceSub, Nat.reduceMul, Nat.reduceEqDiff, reduceCtorEq, Int.reduceAdd, Int.reduceLT, Int.reduceLE, Int.reduceToNat, Int.reduceNeg, Int.reduceSub, ← List.map_take, ← List.map_drop, wrap64, wrapu64, wrapu32, ← Int.natCast_add, ← Int.natCast_mul, cast_succ, wrapu32_nat, shr32, reps_wd, map_set_wd, List.length_set, zs_len, Try.f57]
  refine W_loopS (fun k sl H nx => ∃ (i c : Nat) (o : List Nat), (∃ g : Nat → AV, sl = [.lst ma (a.map wd), .lst mb (b.map wd), g 2, g 3, g 4, .ref 0 0 a.length, .int .u64 c, .int .i64 i, g 8, g 9, g 10, g 11, g 12, g 13, g 14, g 15, g 16, g 17, g 18, g 19, g 20, g 21, g 22, g 23, g 24, g 25, g 26, g 27, g 28, g 29, g 30, g 31, g 32, g 33, g 34, g 35, g 36, g 37, g 38, g 39, g 40, g 41, g 42, g 43, g 44, g 45, g 46]) ∧ nx = 1 ∧
    H 0 = some ⟨o.map wd, false, 1, false⟩ ∧ o.length = a.length ∧ InR o ∧ c ≤ 1 ∧ i + k = a.length ∧ Hd (vp a i + c * BB ^ i = vp o i + vp b i)) a.length ⟨0, 0, _, garb rfl, rfl, rfl, zs_len _, zs_inR _, by omega, by omega, ⟨by simp [vp]⟩⟩ ?_
  rintro k _ H _ ⟨i, c, o, ⟨g, rfl⟩, rfl, hH, ho, hr, hc, hi, hv⟩
  have hx := ha.get i
  have hy := hb.get i
  by_cases hk : k = 0
  · obtain rfl : i = a.length := by omega
    have hval : val o = val a - val b := by
      have h1 := hv.out
      rw [vp_ge b _ lb, show vp a a.length = val a from rfl, ← ho, show vp o o.length = val o from rfl, ho] at h1
      have h2 := val_lt hr
      rw [ho] at h2
      rcases Nat.eq_zero_or_pos c with h | h
      · subst h; omega
      · have : c = 1 := by omega
        subst this; omega
    clear hv
    simp (maxSteps := 4000000) (disch := omega) only [go_sem, ↓reduceIte, Nat.reduceAdd, Nat.reduceSub, Nat.reduceMul, Nat.reduceEqDiff, reduceCtorEq, Int.reduceAdd, Int.reduceLT, Int.reduceLE, Int.reduceToNat, Int.reduceNeg, Int.reduceSub, ← List.map_take, ← List.map_drop, wrap64, wrapu64, wrapu32, ← Int.natCast_add, ← Int.natCast_mul, cast_succ, wrapu32_nat, shr32, reps_wd, map_set_wd, List.length_set, zs_len, hH, ho, List.take_of_length_le]
    exact ⟨o, rfl, hr, ho, hval⟩
  · by_cases hib : i < b.length
    · obtain ⟨X, hX⟩ : ∃ X : Nat, X = a.getD i 0 + 4294967296 - c - b.getD i 0 := ⟨_, rfl⟩
      have e1 : (((a.getD i 0 : Nat) : Int) + 4294967296 - (c : Int)) - ((b.getD i 0 : Nat) : Int) = (X : Int) := by omega
      have hX2 : X < 8589934592 := by omega
      have e2 : (1 : Int) - ((X / 4294967296 : Nat) : Int) = ((1 - X / 4294967296 : Nat) : Int) := by omega
      have hw : a.getD i 0 + (1 - X / 4294967296) * 4294967296 = X % 4294967296 + b.getD i 0 + c := by omega
      have hst := minus_step2 (o := o) (by omega) hv.out hw
      simp (maxSteps := 4000000) (disch := omega) only [go_sem, ↓reduceIte, Nat.reduceAdd, Nat.reduceSub, Nat.reduceMul, Nat.reduceEqDiff, reduceCtorEq, Int.reduceAdd, Int.reduceLT, Int.reduceLE, Int.reduceToNat, Int.reduceNeg, Int.reduceSub, ← List.map_take, ← List.map_drop, wrap64, wrapu64, wrapu32, ← Int.natCast_add, ← Int.natCast_mul, cast_succ, wrapu32_nat, shr32, reps_wd, map_set_wd, List.length_set, zs_len, hH, ho, e1, and_low, e2]
      refine ⟨k - 1, by omega, i + 1, 1 - X / 4294967296, o.set i (X % 4294967296), garb rfl, rfl, by rw [List.length_set, ho], hr.set (Nat.mod_lt _ (by decide)), by omega, by omega, ⟨hst⟩⟩
    · have h0 := getD_ge (l := b) (i := i) (by omega)
      obtain ⟨X, hX⟩ : ∃ X : Nat, X = a.getD i 0 + 4294967296 - c := ⟨_, rfl⟩
      have e1 : ((a.getD i 0 : Nat) : Int) + 4294967296 - (c : Int) = (X : Int) := by omega
      have hX2 : X < 8589934592 := by omega
      have e2 : (1 : Int) - ((X / 4294967296 : Nat) : Int) = ((1 - X / 4294967296 : Nat) : Int) := by omega
      have hw : a.getD i 0 + (1 - X / 4294967296) * 4294967296 = X % 4294967296 + b.getD i 0 + c := by omega
      have hst := minus_step2 (o := o) (by omega) hv.out hw
      simp (maxSteps := 4000000) (disch := omega) only [go_sem, ↓reduceIte, Nat.reduceAdd, Nat.reduceSub, Nat.reduceMul, Nat.reduceEqDiff, reduceCtorEq, Int.reduceAdd, Int.reduceLT, Int.reduceLE, Int.reduceToNat, Int.reduceNeg, Int.reduceSub, ← List.map_take, ← List.map_drop, wrap64, wrapu64, wrapu32, ← Int.natCast_add, ← Int.natCast_mul, cast_succ, wrapu32_nat, shr32, reps_wd, map_set_wd, List.length_set, zs_len, hH, ho, e1, and_low, e2]
      refine ⟨k - 1, by omega, i + 1, 1 - X / 4294967296, o.set i (X % 4294967296), garb rfl, rfl, by rw [List.length_set, ho], hr.set (Nat.mod_lt _ (by decide)), by omega, by omega, ⟨hst⟩⟩
end Go.Proofs.Ytmgmcnoobgljpaa

/- Walks of the reference of chapter 1: sums and products of numbers with signs. (Own work of this repo.) -/
namespace Go.Proofs.Ytmgmcnoobgljpaa
open Vm
set_option maxRecDepth 10000

theorem rMake_z {neg nl : Bool} {w : List Nat} {z : Int} (hw : InR w) (lw : w.length < 2 ^ 40) (h : sg neg (val w) = z) : denP E 51 [.bool neg, .lst nl (w.map wd)] = some (.ret (RM z)) := by
  have e : decide (val w = 0) = decide (z = 0) := by
    rw [← h, decide_eq_decide]; unfold sg; split <;> omega
  rw [rMake_spec neg nl w hw lw, h, e]
theorem rNeg_spec (m : Bool) (x : Int) (hx : (dg x).length < 2 ^ 38) : denP E 54 [I m x] = some (.ret (RM (-x))) := by
  refine denP_eq E54 rfl (by simp [AV.pureL, AV.pure, pure_wd]) ?_
  have h := rMake_z (neg := !(ng x)) (nl := m) (w := dg x) (z := -x) (dg_inR x) (by omega) (by rw [val_dg, sg_not])
  simp (maxSteps := 4000000) (disch := omega) only [go_sem, ↓reduceIte, Nat.reduceAdd, Nat.reduceSub, Nat.reduceMul, Nat.reduceEqDiff, reduceCtorEq, Int.reduceAdd, Int.reduceLT, Int.reduceLE, Int.reduceToNat, Int.reduceNeg, Int.reduceSub, ← List.map_take, ← List.map_drop, wrap64, wrapu64, wrapu32, Try.f54, h]
theorem rAbs_spec (m : Bool) (x : Int) (hx : (dg x).length < 2 ^ 38) : denP E 53 [I m x] = some (.ret (RM (x.natAbs : Int))) := by
  refine denP_eq E53 rfl (by simp [AV.pureL, AV.pure, pure_wd]) ?_
  have h := rMake_z (neg := false) (nl := m) (w := dg x) (z := (x.natAbs : Int)) (dg_inR x) (by omega) (by rw [val_dg]; rfl)
  simp (maxSteps := 4000000) (disch := omega) only [go_sem, ↓reduceIte, Nat.reduceAdd, Nat.reduceSub, Nat.reduceMul, Nat.reduceEqDiff, reduceCtorEq, Int.reduceAdd, Int.reduceLT, Int.reduceLE, Int.reduceToNat, Int.reduceNeg, Int.reduceSub, ← List.map_take, ← List.map_drop, wrap64, wrapu64, wrapu32, Try.f53, h]
theorem rAdd_spec (ma : Bool) (x : Int) (mb : Bool) (y : Int) (hx : (dg x).length < 2 ^ 38) (hy : (dg y).length < 2 ^ 38) : denP E 32 [I ma x, I mb y] = some (.ret (RM (x + y))) := by
  refine denP_eq E32 rfl (by simp [AV.pureL, AV.pure, pure_wd]) ?_
  have h2 := rorder_spec ma x mb y (by omega) (by omega)
  cases hs : ng x == ng y with
  | true =>
    obtain ⟨o, h1, hr, ho, hv⟩ := rplus_walk ma (dg x) mb (dg y) (dg_inR x) (dg_inR y) (by omega) (by omega)
    rw [val_dg, val_dg] at hv
    have h3 := rMake_z (neg := ng x) (nl := false) (w := o) (z := x + y) hr (by omega) (by
      rw [hv]; rw [beq_iff_eq] at hs; revert hs; unfold sg ng; by_cases h : x < 0 <;> by_cases h' : y < 0 <;> simp [h, h'] <;> omega)
    simp (maxSteps := 4000000) (disch := omega) only [go_sem, ↓reduceIte, Nat.reduceAdd, Nat.reduceSub, Nat.reduceMul, Nat.reduceEqDiff, reduceCtorEq, Int.reduceAdd, Int.reduceLT, Int.reduceLE, Int.reduceToNat, Int.reduceNeg, Int.reduceSub, ← List.map_take, ← List.map_drop, wrap64, wrapu64, wrapu32, Try.f32, hs]
    refine W_drawn ?_
    simp (maxSteps := 4000000) (disch := omega) only [go_sem, ↓reduceIte, Nat.reduceAdd, Nat.reduceSub, Nat.reduceMul, Nat.reduceEqDiff, reduceCtorEq, Int.reduceAdd, Int.reduceLT, Int.reduceLE, Int.reduceToNat, Int.reduceNeg, Int.reduceSub, ← List.map_take, ← List.map_drop, wrap64, wrapu64, wrapu32, h1, h3]
    rfl
  | false =>
    by_cases hc : x.natAbs < y.natAbs
    · obtain ⟨o, h1, hr, ho, hv⟩ := rminus_walk mb (dg y) ma (dg x) (dg_inR y) (dg_inR x) (by omega) (dig_mono (by omega)) (by rw [val_dg, val_dg]; omega)
      rw [val_dg, val_dg] at hv
      have h3 := rMake_z (neg := ng y) (nl := false) (w := o) (z := x + y) hr (by omega) (by
        rw [hv]; rw [beq_eq_false_iff_ne] at hs; revert hs; unfold sg ng; by_cases h : x < 0 <;> by_cases h' : y < 0 <;> simp [h, h'] <;> omega)
      have hc' : cmpN x.natAbs y.natAbs = -1 := if_pos hc
      simp (maxSteps := 4000000) (disch := omega) only [go_sem, ↓reduceIte, Nat.reduceAdd, Nat.reduceSub, Nat.reduceMul, Nat.reduceEqDiff, reduceCtorEq, Int.reduceAdd, Int.reduceLT, Int.reduceLE, Int.reduceToNat, Int.reduceNeg, Int.reduceSub, ← List.map_take, ← List.map_drop, wrap64, wrapu64, wrapu32, Try.f32, hs, h2, hc']
      refine W_drawn ?_
      simp (maxSteps := 4000000) (disch := omega) only [go_sem, ↓reduceIte, Nat.reduceAdd, Nat.reduceSub, Nat.reduceMul, Nat.reduceEqDiff, reduceCtorEq, Int.reduceAdd, Int.reduceLT, Int.reduceLE, Int.reduceToNat, Int.reduceNeg, Int.reduceSub, ← List.map_take, ← List.map_drop, wrap64, wrapu64, wrapu32, h1, h3]
      rfl
    · obtain ⟨o, h1, hr, ho, hv⟩ := rminus_walk ma (dg x) mb (dg y) (dg_inR x) (dg_inR y) (by omega) (dig_mono (by omega)) (by rw [val_dg, val_dg]; omega)
      rw [val_dg, val_dg] at hv
      have h3 := rMake_z (neg := ng x) (nl := false) (w := o) (z := x + y) hr (by omega) (by
        rw [hv]; rw [beq_eq_false_iff_ne] at hs; revert hs; unfold sg ng; by_cases h : x < 0 <;> by_cases h' : y < 0 <;> simp [h, h'] <;> omega)
      have hc' : 0 ≤ cmpN x.natAbs y.natAbs := by unfold cmpN; rw [if_neg hc]; split <;> decide
      simp (maxSteps := 4000000) (disch := omega) only [go_sem, ↓reduceIte, Nat.reduceAdd, Nat.reduceSub, Nat.reduceMul, Nat.reduceEqDiff, reduceCtorEq, Int.reduceAdd, Int.reduceLT, Int.reduceLE, Int.reduceToNat, Int.reduceNeg, Int.reduceSub, ← List.map_take, ← List.map_drop, wrap64, wrapu64, wrapu32, Try.f32, hs, h2, hc']
      refine W_drawn ?_
      simp (maxSteps := 4000000) (disch := omega) only [go_sem, ↓reduceIte, Nat.reduceAdd, Nat.reduceSub, Nat.reduceMul, Nat.reduceEqDiff, reduceCtorEq, Int.reduceAdd, Int.reduceLT, Int.reduceLE, Int.reduceToNat, Int.reduceNeg, Int.reduceSub, ← List.map_take, ← List.map_drop, wrap64, wrapu64, wrapu32, h1, h3]
      rfl
theorem rSub_spec (ma : Bool) (x : Int) (mb : Bool) (y : Int) (hx : (dg x).length < 2 ^ 38) (hy : (dg y).length < 2 ^ 38) : denP E 29 [I ma x, I mb y] = some (.ret (RM (x - y))) := by
  refine denP_eq E29 rfl (by simp [AV.pureL, AV.pure, pure_wd]) ?_
  have h1 := rNeg_spec mb y hy
  have h2 := rAdd_spec ma x (decide (-y = 0)) (-y) hx (by rw [dg_neg]; exact hy)
  rw [← Int.sub_eq_add_neg] at h2
  simp (maxSteps := 4000000) (disch := omega) only [go_sem, ↓reduceIte, Nat.reduceAdd, Nat.reduceSub, Nat.reduceMul, Nat.reduceEqDiff, reduceCtorEq, Int.reduceAdd, Int.reduceLT, Int.reduceLE, Int.reduceToNat, Int.reduceNeg, Int.reduceSub, ← List.map_take, ← List.map_drop, wrap64, wrapu64, wrapu32, Try.f29]
  refine W_drawn ?_
  simp (maxSteps := 4000000) (disch := omega) only [go_sem, ↓reduceIte, Nat.reduceAdd, Nat.reduceSub, Nat.reduceMul, Nat.reduceEqDiff, reduceCtorEq, Int.reduceAdd, Int.reduceLT, Int.reduceLE, Int.reduceToNat, Int.reduceNeg, Int.reduceSub, ← List.map_take, ← List.map_drop, wrap64, wrapu64, wrapu32, h1, h2]
  rfl
theorem rMul_spec (ma : Bool) (x : Int) (mb : Bool) (y : Int) (hx : (dg x).length < 2 ^ 38) (hy : (dg y).length < 2 ^ 38) : denP E 30 [I ma x, I mb y] = some (.ret (RM (x * y))) := by
  have key : ∀ (na nb : Bool) (a b : List Nat), InR a → InR b → a.length < 2 ^ 38 → b.length < 2 ^ 38 → denP E 30 [iv na ma a, iv nb mb b] = some (.ret (RM (sg (na != nb) (val a * val b)))) := by
    intro na nb a b ha hb la lb
    refine denP_eq E30 rfl (by simp [AV.pureL, AV.pure, pure_wd]) ?_
    simp (maxSteps := 4000000) (disch := omega) only [go_sem, ↓reduceIte, Nat.reduceAdd, Nat.reduceSub, Nat.reduceMul, Nat.reduceEqDiff, reduceCtorEq, Int.reduceAdd, Int.reduceLT, Int.reduceLE, Int.reduceToNat, Int.reduceNeg, Int.reduceSub, ← List.map_take, ← List.map_drop, wrap64, wrapu64, wrapu32, ← Int.natCast_add, ← Int.natCast_mul, cast_succ, wrapu32_nat, shr32, reps_wd, map_set_wd, List.length_set, zs_len, Try.f30]
    refine W_loopS (fun k sl H nx => ∃ (i : Nat) (o : List Nat), (∃ g : Nat → AV, sl = [g 0, g 1, .ptr 0 0, .ptr 1 0, .ptr 2 0, .ref 3 0 (a.length + b.length), .int .i64 i, g 7, g 8, g 9, g 10, g 11, g 12, g 13, g 14, g 15, g 16, g 17, g 18, g 19, g 20, g 21, g 22, g 23, g 24, g 25, g 26, g 27, g 28, g 29, g 30, g 31, g 32, g 33, g 34, g 35, g 36, g 37, g 38, g 39, g 40, g 41, g 42, g 43, g 44, g 45, g 46, g 47, g 48, g 49, g 50, g 51, g 52, g 53, g 54, g 55, g 56, g 57, g 58, g 59, g 60, g 61, g 62, g 63, g 64, g 65, g 66, g 67, g 68, g 69, g 70, g 71, g 72, g 73, g 74, g 75, g 76, g 77, g 78, g 79]) ∧ nx = 4 ∧
      H 0 = some ⟨[.bool na, .lst ma (a.map wd)], true, 2, false⟩ ∧ H 1 = some ⟨[.bool nb, .lst mb (b.map wd)], true, 2, false⟩ ∧ H 2 = some ⟨[.bool false, .lst true []], true, 2, false⟩ ∧
      H 3 = some ⟨o.map wd, false, 1, false⟩ ∧ o.length = a.length + b.length ∧ InR o ∧ i + k = a.length ∧ Hd (vp o (i + b.length) = vp a i * val b) ∧ ∀ t, i + b.length ≤ t → o.getD t 0 = 0) a.length
      ⟨0, _, garb rfl, rfl, rfl, rfl, rfl, rfl, zs_len _, zs_inR _, by omega, ⟨by simp [vp, zs_vp]⟩, fun t _ => zs_get _ t⟩ ?_
    rintro k _ H _ ⟨i, o, ⟨g, rfl⟩, rfl, hH0, hH1, hH2, hH, ho, hr, hi, hv, hz⟩
    by_cases hk : k = 0
    · obtain rfl : i = a.length := by omega
      have hval : val o = val a * val b := by rw [val, ho]; exact hv.out
      have h3 := rMake_z (neg := na != nb) (nl := false) (w := o) (z := sg (na != nb) (val a * val b)) hr (by omega) (by rw [hval])
      have hb2 : (!(na == nb)) = (na != nb) := rfl
      clear hv
      simp (maxSteps := 4000000) (disch := omega) only [go_sem, ↓reduceIte, Nat.reduceAdd, Nat.reduceSub, Nat.reduceMul, Nat.reduceEqDiff, reduceCtorEq, Int.reduceAdd, Int.reduceLT, Int.reduceLE, Int.reduceToNat, Int.reduceNeg, Int.reduceSub, ← List.map_take, ← List.map_drop, wrap64, wrapu64, wrapu32, ← Int.natCast_add, ← Int.natCast_mul, cast_succ, wrapu32_nat, shr32, reps_wd, map_set_wd, List.length_set, zs_len, hH, hH0, hH1, hH2, ho, List.take_of_length_le, hb2, h3]
    · have hx := ha.get i
      simp (maxSteps := 4000000) (disch := omega) only [go_sem, ↓reduceIte, Nat.reduceAdd, Nat.reduceSub, Nat.reduceMul, Nat.reduceEqDiff, reduceCtorEq, Int.reduceAdd, Int.reduceLT, Int.reduceLE, Int.reduceToNat, Int.reduceNeg, Int.reduceSub, ← List.map_take, ← List.map_drop, wrap64, wrapu64, wrapu32, ← Int.natCast_add, ← Int.natCast_mul, cast_succ, wrapu32_nat, shr32, reps_wd, map_set_wd, List.length_set, zs_len, hH, hH0, hH1, hH2, ho]
      refine W_loopS (fun k sl H nx => ∃ (j c : Nat) (p : List Nat), (∃ g : Nat → AV, sl = [g 0, g 1, .ptr 0 0, .ptr 1 0, .ptr 2 0, .ref 3 0 (a.length + b.length), .int .i64 i, .int .u64 c, .int .i64 j, g 9, g 10, g 11, g 12, g 13, g 14, g 15, g 16, g 17, g 18, g 19, g 20, g 21, g 22, g 23, g 24, g 25, g 26, g 27, g 28, g 29, g 30, g 31, g 32, g 33, g 34, g 35, g 36, g 37, g 38, g 39, g 40, g 41, g 42, g 43, g 44, g 45, g 46, g 47, g 48, g 49, g 50, g 51, g 52, g 53, g 54, g 55, g 56, g 57, g 58, g 59, g 60, g 61, g 62, g 63, g 64, g 65, g 66, g 67, g 68, g 69, g 70, g 71, g 72, g 73, g 74, g 75, g 76, g 77, g 78, g 79]) ∧ nx = 4 ∧
        H 0 = some ⟨[.bool na, .lst ma (a.map wd)], true, 2, false⟩ ∧ H 1 = some ⟨[.bool nb, .lst mb (b.map wd)], true, 2, false⟩ ∧ H 2 = some ⟨[.bool false, .lst true []], true, 2, false⟩ ∧
        H 3 = some ⟨p.map wd, false, 1, false⟩ ∧ p.length = a.length + b.length ∧ InR p ∧ c < 4294967296 ∧ j + k = b.length ∧ Hd (vp p (i + j) + c * BB ^ (i + j) = vp o (i + j) + a.getD i 0 * vp b j * BB ^ i) ∧ ∀ t, i + j ≤ t → p.getD t 0 = o.getD t 0) b.length
        ⟨0, 0, _, garb rfl, rfl, hH0, hH1, hH2, hH, ho, hr, by omega, by omega, ⟨by simp [vp]⟩, fun t _ => rfl⟩ ?_
      rintro k' _ H' _ ⟨j, c, p, ⟨g, rfl⟩, rfl, hH0', hH1', hH2', hH', hp, hr', hc, hj, hv', hz'⟩
      by_cases hk' : k' = 0
      · obtain rfl : j = b.length := by omega
        simp (maxSteps := 4000000) (disch := omega) only [go_sem, ↓reduceIte, Nat.reduceAdd, Nat.reduceSub, Nat.reduceMul, Nat.reduceEqDiff, reduceCtorEq, Int.reduceAdd, Int.reduceLT, Int.reduceLE, Int.reduceToNat, Int.reduceNeg, Int.reduceSub, ← List.map_take, ← List.map_drop, wrap64, wrapu64, wrapu32, ← Int.natCast_add, ← Int.natCast_mul, cast_succ, wrapu32_nat, shr32, reps_wd, map_set_wd, List.length_set, zs_len, hH', hH0', hH1', hH2', hp]
        refine ⟨k - 1, by omega, i + 1, p.set (i + b.length) c, garb rfl, rfl, by rw [List.length_set, hp], hr'.set hc, by omega, ⟨?_⟩, fun t ht => ?_⟩
        · rw [show i + 1 + b.length = i + b.length + 1 by omega, vp, vp_set p _ _ _ (Nat.le_refl _), lget_set_self (by omega), hv'.out, hv.out, vp, Nat.add_mul]
          rw [show vp b b.length = val b from rfl]
          congr 1
          rw [Nat.mul_assoc, Nat.mul_assoc, Nat.mul_comm (val b)]
        · rw [lget_set_ne (by omega), hz' t (by omega), hz t (by omega)]
      · have hy := hb.get j
        have hw := hr.get (i + j)
        have hm := mul_word hx hy
        have e := hz' (i + j) (Nat.le_refl _)
        simp (maxSteps := 4000000) (disch := omega) only [go_sem, ↓reduceIte, Nat.reduceAdd, Nat.reduceSub, Nat.reduceMul, Nat.reduceEqDiff, reduceCtorEq, Int.reduceAdd, Int.reduceLT, Int.reduceLE, Int.reduceToNat, Int.reduceNeg, Int.reduceSub, ← List.map_take, ← List.map_drop, wrap64, wrapu64, wrapu32, ← Int.natCast_add, ← Int.natCast_mul, cast_succ, wrapu32_nat, shr32, reps_wd, map_set_wd, List.length_set, zs_len, hH', hH0', hH1', hH2', hp, e]
        refine W_drawn ?_
        simp (maxSteps := 4000000) (disch := omega) only [go_sem, ↓reduceIte, Nat.reduceAdd, Nat.reduceSub, Nat.reduceMul, Nat.reduceEqDiff, reduceCtorEq, Int.reduceAdd, Int.reduceLT, Int.reduceLE, Int.reduceToNat, Int.reduceNeg, Int.reduceSub, ← List.map_take, ← List.map_drop, wrap64, wrapu64, wrapu32, ← Int.natCast_add, ← Int.natCast_mul, cast_succ, wrapu32_nat, shr32, reps_wd, map_set_wd, List.length_set, zs_len, hH', hH0', hH1', hH2', hp, e]
        refine ⟨by rfl, ?_⟩
        have hs : (c + (a.getD i 0 * b.getD j 0 + o.getD (i + j) 0)) / 4294967296 < 4294967296 := by omega
        simp (maxSteps := 4000000) (disch := omega) only [go_sem, ↓reduceIte, Nat.reduceAdd, Nat.reduceSub, Nat.reduceMul, Nat.reduceEqDiff, reduceCtorEq, Int.reduceAdd, Int.reduceLT, Int.reduceLE, Int.reduceToNat, Int.reduceNeg, Int.reduceSub, ← List.map_take, ← List.map_drop, wrap64, wrapu64, wrapu32, ← Int.natCast_add, ← Int.natCast_mul, cast_succ, wrapu32_nat, shr32, reps_wd, map_set_wd, List.length_set, zs_len, hH', hH0', hH1', hH2', hp, e, and_low]
        refine ⟨k' - 1, by omega, j + 1, (c + (a.getD i 0 * b.getD j 0 + o.getD (i + j) 0)) / 4294967296, p.set (i + j) ((c + (a.getD i 0 * b.getD j 0 + o.getD (i + j) 0)) % 4294967296), garb rfl, rfl, by rw [List.length_set, hp], hr'.set (Nat.mod_lt _ (by decide)), hs, by omega, ⟨times_step (by omega) hv'.out rfl⟩, fun t ht => ?_⟩
        rw [lget_set_ne (by omega)]
        exact hz' t (by omega)
  have := key (ng x) (ng y) (dg x) (dg y) (dg_inR x) (dg_inR y) hx hy
  rwa [val_dg, val_dg, show sg (ng x != ng y) (x.natAbs * y.natAbs) = x * y from sg_mul x y] at this
end Go.Proofs.Ytmgmcnoobgljpaa

/- Walks: an int as a number. (Own work of this repo.) -/
namespace Go.Proofs.Ytmgmcnoobgljpaa
open Vm
set_option maxRecDepth 10000

theorem val_two (m : Nat) : val [m % 4294967296, m / 4294967296] = m := by
  rw [val_cons, val_cons, val_nil, show BB = 4294967296 from rfl]; omega
theorem inR_two {m : Nat} (h : m < 18446744073709551616) : InR [m % 4294967296, m / 4294967296] := by
  intro x hx; simp at hx; rcases hx with rfl | rfl <;> (show _ < 4294967296; omega)
theorem dg_small {z : Int} (h : z.natAbs < 18446744073709551616) : (dg z).length ≤ 2 := by rw [dg_len]; exact h
theorem sg_abs_dec (n : Int) : sg (decide (n < 0)) n.natAbs = n := sg_ng n
theorem of_spec (n : Int) (h1 : -9223372036854775808 ≤ n) (h2 : n < 9223372036854775808) : denP E 67 [.int .i64 n] = some (.ret (I false n)) := by
  obtain ⟨m, hm⟩ : ∃ m : Nat, m = n.natAbs := ⟨_, rfl⟩
  have hd : (dg n).length ≤ 4096 := by have := dg_small (z := n) (by omega); omega
  have hmade := made_spec (decide (n < 0)) false [m % 4294967296, m / 4294967296] (inR_two (by omega)) (by simp) (by simp)
  rw [val_two, hm, sg_abs_dec, ← hm] at hmade
  simp only [RI, fm_of hd, fit_of hd, er_of hd, List.map_cons, List.map_nil, wd] at hmade
  refine denP_eq E67 rfl (by simp [AV.pureL, AV.pure]) ?_
  have e2 : IntKind.u32.wrap (((m : Nat) : Int).fdiv (2 ^ min 32 (kb .u64))) = ((m / 4294967296 : Nat) : Int) := by
    rw [shr32, wrapu32_nat]; omega
  by_cases hn : n < 0
  · have e0 : IntKind.u64.wrap (0 - IntKind.u64.wrap n) = (m : Int) := by rw [IntKind.wrap_u64, IntKind.wrap_u64]; omega
    rw [decide_eq_true hn] at hmade
    simp (maxSteps := 4000000) (disch := omega) only [go_sem, ↓reduceIte, Nat.reduceAdd, Nat.reduceSub, Nat.reduceMul, Nat.reduceEqDiff, reduceCtorEq, Int.reduceAdd, Int.reduceLT, Int.reduceLE, Int.reduceToNat, Int.reduceNeg, Int.reduceSub, ← List.map_take, ← List.map_drop, wrap64, wrapu64, wrapu32, Try.f67, reps, fillAll, refP, elems, List.headD, e0, e2, wrapu32_nat, hmade]
  · have e0 : IntKind.u64.wrap n = (m : Int) := by rw [IntKind.wrap_u64]; omega
    rw [decide_eq_false hn] at hmade
    simp (maxSteps := 4000000) (disch := omega) only [go_sem, ↓reduceIte, Nat.reduceAdd, Nat.reduceSub, Nat.reduceMul, Nat.reduceEqDiff, reduceCtorEq, Int.reduceAdd, Int.reduceLT, Int.reduceLE, Int.reduceToNat, Int.reduceNeg, Int.reduceSub, ← List.map_take, ← List.map_drop, wrap64, wrapu64, wrapu32, Try.f67, reps, fillAll, refP, elems, List.headD, e0, e2, wrapu32_nat, hmade]
theorem rOf_spec (n : Int) (h1 : -9223372036854775808 ≤ n) (h2 : n < 9223372036854775808) : denP E 24 [.int .i64 n] = some (.ret (RM n)) := by
  obtain ⟨m, hm⟩ : ∃ m : Nat, m = n.natAbs := ⟨_, rfl⟩
  have hmake := rMake_z (neg := decide (n < 0)) (nl := false) (w := [m % 4294967296, m / 4294967296]) (z := n) (inR_two (by omega)) (by simp) (by rw [val_two, hm, sg_abs_dec])
  simp only [List.map_cons, List.map_nil, wd] at hmake
  refine denP_eq E24 rfl (by simp [AV.pureL, AV.pure]) ?_
  have e2 : IntKind.u32.wrap (((m : Nat) : Int).fdiv (2 ^ min 32 (kb .u64))) = ((m / 4294967296 : Nat) : Int) := by
    rw [shr32, wrapu32_nat]; omega
  have e3 := and_low (n := m) (by omega)
  have e4 : IntKind.u32.wrap ((m % 4294967296 : Nat) : Int) = ((m % 4294967296 : Nat) : Int) := by rw [wrapu32_nat]; omega
  by_cases hn : n < 0
  · have e0 : (0 : Int) - (n + 1) + 1 = (m : Int) := by omega
    rw [decide_eq_true hn] at hmake
    simp (maxSteps := 4000000) (disch := omega) only [go_sem, ↓reduceIte, Nat.reduceAdd, Nat.reduceSub, Nat.reduceMul, Nat.reduceEqDiff, reduceCtorEq, Int.reduceAdd, Int.reduceLT, Int.reduceLE, Int.reduceToNat, Int.reduceNeg, Int.reduceSub, ← List.map_take, ← List.map_drop, wrap64, wrapu64, wrapu32, Try.f24, reps, fillAll, refP, elems, List.headD, e0, e2, e3, e4, hmake]
  · have e0 : IntKind.u64.wrap n = (m : Int) := by rw [IntKind.wrap_u64]; omega
    rw [decide_eq_false hn] at hmake
    simp (maxSteps := 4000000) (disch := omega) only [go_sem, ↓reduceIte, Nat.reduceAdd, Nat.reduceSub, Nat.reduceMul, Nat.reduceEqDiff, reduceCtorEq, Int.reduceAdd, Int.reduceLT, Int.reduceLE, Int.reduceToNat, Int.reduceNeg, Int.reduceSub, ← List.map_take, ← List.map_drop, wrap64, wrapu64, wrapu32, Try.f24, reps, fillAll, refP, elems, List.headD, e0, e2, e3, e4, hmake]
end Go.Proofs.Ytmgmcnoobgljpaa

/- Plain facts: numbers of binary digits, shifts of rows of words. (Own work of this repo.) -/
namespace Vm

/-- How many binary digits. -/
def bl (n : Nat) : Nat := if h : n = 0 then 0 else bl (n / 2) + 1
termination_by n
decreasing_by omega
theorem bl_zero : bl 0 = 0 := by rw [bl]; simp
theorem bl_pos {n : Nat} (h : n ≠ 0) : bl n = bl (n / 2) + 1 := by rw [bl, dif_neg h]
theorem bl_lt (n : Nat) : n < 2 ^ bl n := by
  induction n using Nat.strongRecOn with
  | _ n ih =>
    by_cases h : n = 0
    · subst h; rw [bl_zero]; decide
    · have := ih (n / 2) (by omega)
      rw [bl_pos h, Nat.pow_succ]; omega
theorem bl_ge {n : Nat} (h : n ≠ 0) : 2 ^ (bl n - 1) ≤ n := by
  induction n using Nat.strongRecOn with
  | _ n ih =>
    rw [bl_pos h, Nat.add_sub_cancel]
    by_cases h2 : n / 2 = 0
    · rw [h2, bl_zero]; simp; omega
    · have := ih (n / 2) (by omega) h2
      have h3 : bl (n / 2) = bl (n / 2) - 1 + 1 := by rw [bl_pos h2]; omega
      rw [h3, Nat.pow_succ]; omega
theorem bl_le {n k : Nat} : bl n ≤ k ↔ n < 2 ^ k := by
  constructor
  · intro h
    exact Nat.lt_of_lt_of_le (bl_lt n) (Nat.pow_le_pow_right (by decide) h)
  · intro h
    by_cases h0 : n = 0
    · subst h0; rw [bl_zero]; omega
    · have h1 := bl_ge h0
      have h2 : 2 ^ (bl n - 1) < 2 ^ k := by omega
      have := (Nat.pow_lt_pow_iff_right (by decide : 1 < 2)).1 h2
      omega
theorem bl_eq {n k : Nat} (h1 : n < 2 ^ k) (h2 : k = 0 ∨ 2 ^ (k - 1) ≤ n) : bl n = k := by
  have h3 := bl_le.2 h1
  rcases h2 with rfl | h2
  · omega
  · rcases Nat.lt_or_ge (bl n) k with h | h
    · have h4 : n < 2 ^ (k - 1) := bl_le.1 (by omega)
      omega
    · omega
theorem bl_mono {a b : Nat} (h : a ≤ b) : bl a ≤ bl b := bl_le.2 (Nat.lt_of_le_of_lt h (bl_lt b))
theorem bl_nz {n : Nat} (h : n ≠ 0) : 0 < bl n := by rw [bl_pos h]; omega
/-- A number's binary digits, from its words. -/
theorem bl_val {l : List Nat} (hr : InR l) (h : l.getD (l.length - 1) 0 ≠ 0) : bl (val l) = 32 * (l.length - 1) + bl (l.getD (l.length - 1) 0) := by
  have hl : l.length ≠ 0 := fun e => by rw [List.length_eq_zero_iff] at e; subst e; simp at h
  obtain ⟨k, hk⟩ : ∃ k, l.length = k + 1 := ⟨l.length - 1, by omega⟩
  rw [hk, Nat.add_sub_cancel] at h ⊢
  have e : val l = vp l k + l.getD k 0 * BB ^ k := by rw [val, hk, vp]
  have h1 := vp_lt hr k
  have hp : BB ^ k = 2 ^ (32 * k) := by rw [Nat.pow_mul]
  generalize l.getD k 0 = t at *
  have h2 := bl_lt t
  have h3 := bl_ge h
  have h4 := bl_nz h
  refine bl_eq ?_ (.inr ?_)
  · rw [e, Nat.pow_add, ← hp]
    have : (t + 1) * BB ^ k ≤ 2 ^ bl t * BB ^ k := Nat.mul_le_mul_right _ h2
    rw [Nat.add_mul] at this
    rw [Nat.mul_comm (BB ^ k)]
    omega
  · rw [e, show 32 * k + bl t - 1 = 32 * k + (bl t - 1) by omega, Nat.pow_add, ← hp, Nat.mul_comm]
    have : 2 ^ (bl t - 1) * BB ^ k ≤ t * BB ^ k := Nat.mul_le_mul_right _ h3
    omega
/-- The table of the library. -/
def lenTab (x : Nat) : Nat := bl x
theorem bl_shift16 {x : Nat} (h : 65536 ≤ x) : bl x = 16 + bl (x / 65536) := by
  refine bl_eq ?_ (.inr ?_)
  · have := bl_lt (x / 65536)
    rw [Nat.pow_add]
    have h2 : (x / 65536 + 1) * 65536 ≤ 2 ^ bl (x / 65536) * 65536 := Nat.mul_le_mul_right _ this
    omega
  · have h0 : x / 65536 ≠ 0 := by omega
    have := bl_ge h0
    have h4 := bl_nz h0
    rw [show 16 + bl (x / 65536) - 1 = 16 + (bl (x / 65536) - 1) by omega, Nat.pow_add]
    have h2 : 2 ^ (bl (x / 65536) - 1) * 65536 ≤ x / 65536 * 65536 := Nat.mul_le_mul_right _ this
    omega
theorem bl_shift8 {x : Nat} (h : 256 ≤ x) : bl x = 8 + bl (x / 256) := by
  refine bl_eq ?_ (.inr ?_)
  · have := bl_lt (x / 256)
    rw [Nat.pow_add]
    have h2 : (x / 256 + 1) * 256 ≤ 2 ^ bl (x / 256) * 256 := Nat.mul_le_mul_right _ this
    omega
  · have h0 : x / 256 ≠ 0 := by omega
    have := bl_ge h0
    have h4 := bl_nz h0
    rw [show 8 + bl (x / 256) - 1 = 8 + (bl (x / 256) - 1) by omega, Nat.pow_add]
    have h2 : 2 ^ (bl (x / 256) - 1) * 256 ≤ x / 256 * 256 := Nat.mul_le_mul_right _ this
    omega

/-! #### shifts -/
theorem pow_split {k : Nat} (h : k < 32) : 2 ^ k * 2 ^ (32 - k) = 4294967296 := by
  rw [← Nat.pow_add, show k + (32 - k) = 32 by omega]
theorem pow_lt32 {k : Nat} (h : k < 32) : 2 ^ k ≤ 2147483648 := by
  have : 2 ^ k ≤ 2 ^ 31 := Nat.pow_le_pow_right (by decide) (by omega)
  exact this
/-- A word moved to the left: what is carried, and what stays has zeros. -/
theorem left_word {x k : Nat} (hk : k < 32) (hx : x < 4294967296) : x * 2 ^ k / 4294967296 < 2 ^ k ∧ x * 2 ^ k % 4294967296 = (x % 2 ^ (32 - k)) * 2 ^ k := by
  have hp := pow_split hk
  have h0 : 0 < 2 ^ k := Nat.pow_pos (by decide)
  constructor
  · rw [Nat.div_lt_iff_lt_mul (by decide), Nat.mul_comm]
    exact Nat.mul_lt_mul_of_pos_left hx h0
  · rw [← hp, Nat.mul_comm (2 ^ k), Nat.mul_mod_mul_right]
theorem left_step {o a : List Nat} {q i k h : Nat} (hk : k < 32) (ha : a.getD i 0 < 4294967296) (ho : q + i + 1 < o.length) (hh : o.getD (q + i) 0 = h) (hv : vp o (q + i + 1) = vp a i * (2 ^ k * BB ^ q)) :
    vp ((o.set (q + i) (h + a.getD i 0 * 2 ^ k % 4294967296)).set (q + i + 1) (a.getD i 0 * 2 ^ k / 4294967296)) (q + (i + 1) + 1) = vp a (i + 1) * (2 ^ k * BB ^ q) := by
  rw [show q + (i + 1) + 1 = q + i + 1 + 1 by omega, vp, lget_set_self (by rw [List.length_set]; omega), vp_set _ _ _ _ (Nat.le_refl _), vp, lget_set_self (by omega), vp_set _ _ _ _ (Nat.le_refl _)]
  rw [vp, hh] at hv
  rw [vp, Nat.add_mul, Nat.add_mul, ← hv, show BB ^ (q + i + 1) = BB ^ (q + i) * BB from Nat.pow_succ _ _]
  have h1 : a.getD i 0 * 2 ^ k % 4294967296 * BB ^ (q + i) + a.getD i 0 * 2 ^ k / 4294967296 * (BB ^ (q + i) * BB) = a.getD i 0 * 2 ^ k * BB ^ (q + i) := split_mul (a.getD i 0 * 2 ^ k) (BB ^ (q + i))
  have h2 : a.getD i 0 * BB ^ i * (2 ^ k * BB ^ q) = a.getD i 0 * 2 ^ k * BB ^ (q + i) := by
    rw [Nat.pow_add]; generalize a.getD i 0 = x; generalize BB ^ i = y; generalize BB ^ q = z; generalize 2 ^ k = w; grind
  rw [h2]
  omega
/-- A row's words moved to the right, each with the low part of the next one. -/
theorem right_word {x y k : Nat} (hk : k < 32) (hx : x < 4294967296) : (x + y * 4294967296) / 2 ^ k % 4294967296 = x / 2 ^ k + (y % 2 ^ k) * 2 ^ (32 - k) := by
  have hp := pow_split hk
  have h0 : 0 < 2 ^ k := Nat.pow_pos (by decide)
  have h0' : 0 < 2 ^ (32 - k) := Nat.pow_pos (by decide)
  have h1 : (x + y * 4294967296) / 2 ^ k = x / 2 ^ k + y * 2 ^ (32 - k) := by
    rw [← hp, show y * (2 ^ k * 2 ^ (32 - k)) = 2 ^ k * (y * 2 ^ (32 - k)) by grind, Nat.add_mul_div_left _ _ h0]
  have hlt : x / 2 ^ k < 2 ^ (32 - k) := by rw [Nat.div_lt_iff_lt_mul h0, Nat.mul_comm, hp]; exact hx
  rw [h1]
  have h2 : y * 2 ^ (32 - k) = (y % 2 ^ k) * 2 ^ (32 - k) + 4294967296 * (y / 2 ^ k) := by
    have := Nat.mod_add_div y (2 ^ k)
    generalize y / 2 ^ k = d at *
    rw [← hp]
    generalize hm : y % 2 ^ k = m at *
    rw [← this]; grind
  rw [h2, ← Nat.add_assoc, Nat.add_mul_mod_self_left, Nat.mod_eq_of_lt]
  have h3 : y % 2 ^ k < 2 ^ k := Nat.mod_lt _ h0
  have h4 : (y % 2 ^ k + 1) * 2 ^ (32 - k) ≤ 2 ^ k * 2 ^ (32 - k) := Nat.mul_le_mul_right _ h3
  rw [Nat.add_mul, hp] at h4
  omega
theorem right_inv {o b : List Nat} {k : Nat} (hk : k < 32) (hb : InR b) (h : ∀ i, i < b.length → o.getD i 0 = (b.getD i 0 + b.getD (i + 1) 0 * 4294967296) / 2 ^ k % 4294967296) : ∀ i, i ≤ b.length →
    vp b (i + 1) = 2 ^ k * (vp o i + b.getD i 0 / 2 ^ k * BB ^ i) + b.getD 0 0 % 2 ^ k := by
  have hp := pow_split hk
  intro i
  induction i with
  | zero =>
    intro _
    have := Nat.div_add_mod (b.getD 0 0) (2 ^ k)
    simp only [vp, Nat.pow_zero, Nat.mul_one, Nat.zero_add]
    omega
  | succ i ih =>
    intro hi
    have h1 := ih (by omega)
    have h2 := h i (by omega)
    rw [right_word hk (hb.get i)] at h2
    rw [vp, h1, vp, h2]
    have h3 := Nat.div_add_mod (b.getD (i + 1) 0) (2 ^ k)
    generalize b.getD (i + 1) 0 = y at *
    generalize y / 2 ^ k = d at *
    generalize y % 2 ^ k = m at *
    generalize b.getD i 0 / 2 ^ k = e at *
    generalize b.getD 0 0 % 2 ^ k = r at *
    rw [← h3, Nat.pow_succ, show BB = 2 ^ k * 2 ^ (32 - k) from hp.symm]
    generalize (2 ^ k * 2 ^ (32 - k)) ^ i = z
    grind
theorem right_val {o b : List Nat} {k : Nat} (hk : k < 32) (hb : InR b) (hl : o.length = b.length) (h : ∀ i, i < b.length → o.getD i 0 = (b.getD i 0 + b.getD (i + 1) 0 * 4294967296) / 2 ^ k % 4294967296) :
    val b = 2 ^ k * val o + b.getD 0 0 % 2 ^ k := by
  have := right_inv hk hb h b.length (Nat.le_refl _)
  rw [vp_ge b _ (by omega), getD_ge (Nat.le_refl _), Nat.zero_div, Nat.zero_mul, Nat.add_zero] at this
  rw [this, val, hl]
/-- A row, cut in two. -/
theorem vp_split (a : List Nat) (q : Nat) : ∀ n, vp a (q + n) = vp a q + BB ^ q * vp (a.drop q) n := by
  intro n
  induction n with
  | zero => simp [vp]
  | succ n ih =>
    rw [← Nat.add_assoc, vp, ih, vp, getD_drop, Nat.pow_add]
    generalize BB ^ q = x; generalize BB ^ n = y; generalize a.getD (q + n) 0 = z; grind
theorem val_split {a : List Nat} {q : Nat} (h : q ≤ a.length) : val a = vp a q + BB ^ q * val (a.drop q) := by
  have := vp_split a q (a.length - q)
  rw [show q + (a.length - q) = a.length by omega] at this
  rw [val, val, List.length_drop, this]
theorem vp_take {a : List Nat} {q : Nat} (h : q ≤ a.length) : val (a.take q) = vp a q := by
  rw [val, List.length_take, Nat.min_eq_left h]
  exact vp_congr _ fun i hi => getD_take hi
theorem vp_nz {a : List Nat} : ∀ n, vp a n = 0 ↔ ∀ i, i < n → a.getD i 0 = 0
  | 0 => by simp [vp]
  | n + 1 => by
    have h0 : 0 < BB ^ n := Nat.pow_pos (by decide)
    rw [vp, Nat.add_eq_zero_iff, vp_nz n, Nat.mul_eq_zero]
    constructor
    · rintro ⟨h1, h2⟩ i hi
      by_cases e : i = n
      · subst e; rcases h2 with h2 | h2
        · exact h2
        · omega
      · exact h1 i (by omega)
    · intro h
      exact ⟨fun i hi => h i (by omega), .inl (h n (by omega))⟩
end Vm

/- Walks: numbers of binary digits. (Own work of this repo.) -/
namespace Go.Proofs.Ytmgmcnoobgljpaa
open Vm
set_option maxRecDepth 10000

def blF : Nat → Nat → Nat
  | 0, _ => 0
  | f + 1, n => if n = 0 then 0 else blF f (n / 2) + 1
theorem blF_eq : ∀ (f n : Nat), n < 2 ^ f → blF f n = bl n
  | 0, n, h => by
    have : n = 0 := by simpa using h
    subst this; rw [bl_zero]; rfl
  | f + 1, n, h => by
    by_cases h0 : n = 0
    · subst h0; rw [bl_zero]; rfl
    · rw [blF, if_neg h0, blF_eq f (n / 2) (by rw [Nat.pow_succ] at h; omega), bl_pos h0]
theorem tab_all : ∀ x : Fin 256, ((((0 :: 1 :: 2 :: 2 :: 3 :: 3 :: 3 :: 3 :: 4 :: 4 :: 4 :: 4 :: 4 :: 4 :: 4 :: 4 :: 5 :: 5 :: 5 :: 5 :: 5 :: 5 :: 5 :: 5 :: 5 :: 5 :: 5 :: 5 :: 5 :: 5 :: 5 :: 5 :: 6 :: 6 :: 6 :: 6 :: 6 :: 6 :: 6 :: 6 :: 6 :: 6 :: 6 :: 6 :: 6 :: 6 :: 6 :: 6 :: 6 :: 6 :: 6 :: 6 :: 6 :: 6 :: 6 :: 6 :: 6 :: 6 :: 6 :: 6 :: 6 :: 6 :: 6 :: 6 :: []) : List UInt8).append (7 :: 7 :: 7 :: 7 :: 7 :: 7 :: 7 :: 7 :: 7 :: 7 :: 7 :: 7 :: 7 :: 7 :: 7 :: 7 :: 7 :: 7 :: 7 :: 7 :: 7 :: 7 :: 7 :: 7 :: 7 :: 7 :: 7 :: 7 :: 7 :: 7 :: 7 :: 7 :: 7 :: 7 :: 7 :: 7 :: 7 :: 7 :: 7 :: 7 :: 7 :: 7 :: 7 :: 7 :: 7 :: 7 :: 7 :: 7 :: 7 :: 7 :: 7 :: 7 :: 7 :: 7 :: 7 :: 7 :: 7 :: 7 :: 7 :: 7 :: 7 :: 7 :: 7 :: 7 :: [])).append (((8 :: 8 :: 8 :: 8 :: 8 :: 8 :: 8 :: 8 :: 8 :: 8 :: 8 :: 8 :: 8 :: 8 :: 8 :: 8 :: 8 :: 8 :: 8 :: 8 :: 8 :: 8 :: 8 :: 8 :: 8 :: 8 :: 8 :: 8 :: 8 :: 8 :: 8 :: 8 :: 8 :: 8 :: 8 :: 8 :: 8 :: 8 :: 8 :: 8 :: 8 :: 8 :: 8 :: 8 :: 8 :: 8 :: 8 :: 8 :: 8 :: 8 :: 8 :: 8 :: 8 :: 8 :: 8 :: 8 :: 8 :: 8 :: 8 :: 8 :: 8 :: 8 :: 8 :: 8 :: []) : List UInt8).append (8 :: 8 :: 8 :: 8 :: 8 :: 8 :: 8 :: 8 :: 8 :: 8 :: 8 :: 8 :: 8 :: 8 :: 8 :: 8 :: 8 :: 8 :: 8 :: 8 :: 8 :: 8 :: 8 :: 8 :: 8 :: 8 :: 8 :: 8 :: 8 :: 8 :: 8 :: 8 :: 8 :: 8 :: 8 :: 8 :: 8 :: 8 :: 8 :: 8 :: 8 :: 8 :: 8 :: 8 :: 8 :: 8 :: 8 :: 8 :: 8 :: 8 :: 8 :: 8 :: 8 :: 8 :: 8 :: 8 :: 8 :: 8 :: 8 :: 8 :: 8 :: 8 :: 8 :: 8 :: [])))[x.val]? = some (UInt8.ofNat (blF 8 x.val)) := by decide +kernel
theorem tab_get {x : Nat} (h : x < 256) : ((((0 :: 1 :: 2 :: 2 :: 3 :: 3 :: 3 :: 3 :: 4 :: 4 :: 4 :: 4 :: 4 :: 4 :: 4 :: 4 :: 5 :: 5 :: 5 :: 5 :: 5 :: 5 :: 5 :: 5 :: 5 :: 5 :: 5 :: 5 :: 5 :: 5 :: 5 :: 5 :: 6 :: 6 :: 6 :: 6 :: 6 :: 6 :: 6 :: 6 :: 6 :: 6 :: 6 :: 6 :: 6 :: 6 :: 6 :: 6 :: 6 :: 6 :: 6 :: 6 :: 6 :: 6 :: 6 :: 6 :: 6 :: 6 :: 6 :: 6 :: 6 :: 6 :: 6 :: 6 :: []) : List UInt8).append (7 :: 7 :: 7 :: 7 :: 7 :: 7 :: 7 :: 7 :: 7 :: 7 :: 7 :: 7 :: 7 :: 7 :: 7 :: 7 :: 7 :: 7 :: 7 :: 7 :: 7 :: 7 :: 7 :: 7 :: 7 :: 7 :: 7 :: 7 :: 7 :: 7 :: 7 :: 7 :: 7 :: 7 :: 7 :: 7 :: 7 :: 7 :: 7 :: 7 :: 7 :: 7 :: 7 :: 7 :: 7 :: 7 :: 7 :: 7 :: 7 :: 7 :: 7 :: 7 :: 7 :: 7 :: 7 :: 7 :: 7 :: 7 :: 7 :: 7 :: 7 :: 7 :: 7 :: 7 :: [])).append (((8 :: 8 :: 8 :: 8 :: 8 :: 8 :: 8 :: 8 :: 8 :: 8 :: 8 :: 8 :: 8 :: 8 :: 8 :: 8 :: 8 :: 8 :: 8 :: 8 :: 8 :: 8 :: 8 :: 8 :: 8 :: 8 :: 8 :: 8 :: 8 :: 8 :: 8 :: 8 :: 8 :: 8 :: 8 :: 8 :: 8 :: 8 :: 8 :: 8 :: 8 :: 8 :: 8 :: 8 :: 8 :: 8 :: 8 :: 8 :: 8 :: 8 :: 8 :: 8 :: 8 :: 8 :: 8 :: 8 :: 8 :: 8 :: 8 :: 8 :: 8 :: 8 :: 8 :: 8 :: []) : List UInt8).append (8 :: 8 :: 8 :: 8 :: 8 :: 8 :: 8 :: 8 :: 8 :: 8 :: 8 :: 8 :: 8 :: 8 :: 8 :: 8 :: 8 :: 8 :: 8 :: 8 :: 8 :: 8 :: 8 :: 8 :: 8 :: 8 :: 8 :: 8 :: 8 :: 8 :: 8 :: 8 :: 8 :: 8 :: 8 :: 8 :: 8 :: 8 :: 8 :: 8 :: 8 :: 8 :: 8 :: 8 :: 8 :: 8 :: 8 :: 8 :: 8 :: 8 :: 8 :: 8 :: 8 :: 8 :: 8 :: 8 :: 8 :: 8 :: 8 :: 8 :: 8 :: 8 :: 8 :: 8 :: [])))[x]? = some (UInt8.ofNat (bl x)) := by
  rw [← blF_eq 8 x h]
  exact tab_all ⟨x, h⟩
theorem tab_nat {x : Nat} (h : x < 256) : (UInt8.ofNat (bl x)).toNat = bl x := by
  have : bl x ≤ 8 := bl_le.2 h
  rw [UInt8.toNat_ofNat', Nat.mod_eq_of_lt (by omega)]
theorem shr16u (n : Nat) : (n : Int).fdiv (2 ^ min 16 (kb .u32)) = ((n / 65536 : Nat) : Int) := by
  rw [show min 16 (kb .u32) = 16 from rfl, Int.fdiv_eq_ediv_of_nonneg _ (by decide)]; rfl
theorem shr8u (n : Nat) : (n : Int).fdiv (2 ^ min 8 (kb .u32)) = ((n / 256 : Nat) : Int) := by
  rw [show min 8 (kb .u32) = 8 from rfl, Int.fdiv_eq_ediv_of_nonneg _ (by decide)]; rfl
theorem wrapu8 {n : Nat} (h : n < 256) : IntKind.u8.wrap (n : Int) = (n : Int) := by rw [IntKind.wrap_u8']; omega
theorem len32_spec (x : Nat) (hx : x < 4294967296) : denP E 93 [.int .u32 x] = some (.ret (.int .i64 (bl x))) := by
  refine denP_eq E93 rfl (by simp [AV.pureL, AV.pure]) ?_
  by_cases h1 : 65536 ≤ x
  · have e1 := bl_shift16 h1
    by_cases h2 : 256 ≤ x / 65536
    · have e2 := bl_shift8 h2
      have h3 : x / 65536 / 256 < 256 := by omega
      have hb := bl_le.2 (show x / 65536 / 256 < 2 ^ 8 from h3)
      have hg := tab_get h3
      have hn := tab_nat h3
      have e3 : (24 : Int) + ((bl (x / 65536 / 256) : Nat) : Int) = ((bl x : Nat) : Int) := by omega
      have h1' : (65536 : Int) ≤ (x : Int) := by omega
      have h2' : (256 : Int) ≤ ((x / 65536 : Nat) : Int) := by omega
      simp (maxSteps := 4000000) (disch := omega) only [go_sem, ↓reduceIte, Nat.reduceAdd, Nat.reduceSub, Nat.reduceMul, Nat.reduceEqDiff, reduceCtorEq, Int.reduceAdd, Int.reduceLT, Int.reduceLE, Int.reduceToNat, Int.reduceNeg, Int.reduceSub, ← List.map_take, ← List.map_drop, wrap64, wrapu64, wrapu32, Int.zero_add, Try.f93, shr16u, shr8u, wrapu8, hg, hn, e3]
    · have h3 : x / 65536 < 256 := by omega
      have hb := bl_le.2 (show x / 65536 < 2 ^ 8 from h3)
      have hg := tab_get h3
      have hn := tab_nat h3
      have e3 : (16 : Int) + ((bl (x / 65536) : Nat) : Int) = ((bl x : Nat) : Int) := by omega
      simp (maxSteps := 4000000) (disch := omega) only [go_sem, ↓reduceIte, Nat.reduceAdd, Nat.reduceSub, Nat.reduceMul, Nat.reduceEqDiff, reduceCtorEq, Int.reduceAdd, Int.reduceLT, Int.reduceLE, Int.reduceToNat, Int.reduceNeg, Int.reduceSub, ← List.map_take, ← List.map_drop, wrap64, wrapu64, wrapu32, Int.zero_add, Try.f93, shr16u, shr8u, wrapu8, hg, hn, e3]
  · by_cases h2 : 256 ≤ x
    · have e2 := bl_shift8 h2
      have h3 : x / 256 < 256 := by omega
      have hb := bl_le.2 (show x / 256 < 2 ^ 8 from h3)
      have hg := tab_get h3
      have hn := tab_nat h3
      have e3 : (8 : Int) + ((bl (x / 256) : Nat) : Int) = ((bl x : Nat) : Int) := by omega
      simp (maxSteps := 4000000) (disch := omega) only [go_sem, ↓reduceIte, Nat.reduceAdd, Nat.reduceSub, Nat.reduceMul, Nat.reduceEqDiff, reduceCtorEq, Int.reduceAdd, Int.reduceLT, Int.reduceLE, Int.reduceToNat, Int.reduceNeg, Int.reduceSub, ← List.map_take, ← List.map_drop, wrap64, wrapu64, wrapu32, Int.zero_add, Try.f93, shr16u, shr8u, wrapu8, hg, hn, e3]
    · have h3 : x < 256 := by omega
      have hb := bl_le.2 (show x < 2 ^ 8 from h3)
      have hg := tab_get h3
      have hn := tab_nat h3
      simp (maxSteps := 4000000) (disch := omega) only [go_sem, ↓reduceIte, Nat.reduceAdd, Nat.reduceSub, Nat.reduceMul, Nat.reduceEqDiff, reduceCtorEq, Int.reduceAdd, Int.reduceLT, Int.reduceLE, Int.reduceToNat, Int.reduceNeg, Int.reduceSub, ← List.map_take, ← List.map_drop, wrap64, wrapu64, wrapu32, Int.zero_add, Try.f93, shr16u, shr8u, wrapu8, hg, hn]
theorem lz32_spec (x : Nat) (hx : x < 4294967296) : denP E 99 [.int .u32 x] = some (.ret (.int .i64 (32 - (bl x : Int)))) := by
  refine denP_eq E99 rfl (by simp [AV.pureL, AV.pure]) ?_
  have h := len32_spec x hx
  have hb := bl_le.2 (show x < 2 ^ 32 from hx)
  simp (maxSteps := 4000000) (disch := omega) only [go_sem, ↓reduceIte, Nat.reduceAdd, Nat.reduceSub, Nat.reduceMul, Nat.reduceEqDiff, reduceCtorEq, Int.reduceAdd, Int.reduceLT, Int.reduceLE, Int.reduceToNat, Int.reduceNeg, Int.reduceSub, ← List.map_take, ← List.map_drop, wrap64, wrapu64, wrapu32, Try.f99, h]
theorem dg_top {z : Int} (h : z ≠ 0) : (dg z).getD ((dg z).length - 1) 0 ≠ 0 := by
  rcases (dg_norm z).2 with h1 | h1
  · exact absurd (dg_nil.1 h1) h
  · exact h1
theorem bl_dg {z : Int} (h : z ≠ 0) : bl z.natAbs = 32 * ((dg z).length - 1) + bl ((dg z).getD ((dg z).length - 1) 0) := by
  have := bl_val (dg_inR z) (dg_top h)
  rwa [val_dg] at this
theorem size_spec (m : Bool) (z : Int) (hz : (dg z).length < 2 ^ 40) : denP E 80 [.lst m ((dg z).map wd)] = some (.ret (.int .i64 (bl z.natAbs))) := by
  refine denP_eq E80 rfl (by simp [AV.pureL, AV.pure, pure_wd]) ?_
  by_cases h0 : z = 0
  · subst h0
    have e : bl (Int.natAbs 0) = 0 := bl_zero
    have e2 : (dg 0).length = 0 := dg_len0.2 rfl
    rw [e]
    simp (maxSteps := 4000000) (disch := omega) only [go_sem, ↓reduceIte, Nat.reduceAdd, Nat.reduceSub, Nat.reduceMul, Nat.reduceEqDiff, reduceCtorEq, Int.reduceAdd, Int.reduceLT, Int.reduceLE, Int.reduceToNat, Int.reduceNeg, Int.reduceSub, ← List.map_take, ← List.map_drop, wrap64, wrapu64, wrapu32, Try.f80, e2]
  · have hl := dg_pos.2 h0
    have e1 : ((dg z).length : Int) - 1 = (((dg z).length - 1 : Nat) : Int) := by omega
    have hx := (dg_inR z).get ((dg z).length - 1)
    have h := len32_spec _ hx
    have hb := bl_le.2 (show (dg z).getD ((dg z).length - 1) 0 < 2 ^ 32 from hx)
    have e2 : 32 * (((dg z).length - 1 : Nat) : Int) + ((bl ((dg z).getD ((dg z).length - 1) 0) : Nat) : Int) = ((bl z.natAbs : Nat) : Int) := by
      have := bl_dg h0; omega
    simp (maxSteps := 4000000) (disch := omega) only [go_sem, ↓reduceIte, Nat.reduceAdd, Nat.reduceSub, Nat.reduceMul, Nat.reduceEqDiff, reduceCtorEq, Int.reduceAdd, Int.reduceLT, Int.reduceLE, Int.reduceToNat, Int.reduceNeg, Int.reduceSub, ← List.map_take, ← List.map_drop, wrap64, wrapu64, wrapu32, Try.f80, e1, h, e2]
theorem bits_spec (m : Bool) (z : Int) (hz : (dg z).length ≤ 4096) : denP E 65 [I m z] = some (.ret (.int .i64 (bl z.natAbs))) := by
  refine denP_eq E65 rfl (by simp [AV.pureL, AV.pure, pure_wd]) ?_
  have h1 := valid_I m z hz
  have h2 := size_spec m z (by omega)
  simp (maxSteps := 4000000) (disch := omega) only [go_sem, ↓reduceIte, Nat.reduceAdd, Nat.reduceSub, Nat.reduceMul, Nat.reduceEqDiff, reduceCtorEq, Int.reduceAdd, Int.reduceLT, Int.reduceLE, Int.reduceToNat, Int.reduceNeg, Int.reduceSub, ← List.map_take, ← List.map_drop, wrap64, wrapu64, wrapu32, Try.f65, h1, h2]
theorem rBits_spec (m : Bool) (z : Int) (hz : (dg z).length < 2 ^ 40) : denP E 25 [I m z] = some (.ret (.int .i64 (bl z.natAbs))) := by
  refine denP_eq E25 rfl (by simp [AV.pureL, AV.pure, pure_wd]) ?_
  by_cases h0 : z = 0
  · subst h0
    have e : bl (Int.natAbs 0) = 0 := bl_zero
    have e2 : (dg 0).length = 0 := dg_len0.2 rfl
    rw [e]
    simp (maxSteps := 4000000) (disch := omega) only [go_sem, ↓reduceIte, Nat.reduceAdd, Nat.reduceSub, Nat.reduceMul, Nat.reduceEqDiff, reduceCtorEq, Int.reduceAdd, Int.reduceLT, Int.reduceLE, Int.reduceToNat, Int.reduceNeg, Int.reduceSub, ← List.map_take, ← List.map_drop, wrap64, wrapu64, wrapu32, Try.f25, e2]
  · have hl := dg_pos.2 h0
    have e1 : ((dg z).length : Int) - 1 = (((dg z).length - 1 : Nat) : Int) := by omega
    have hx := (dg_inR z).get ((dg z).length - 1)
    have hd := bl_dg h0
    simp (maxSteps := 4000000) (disch := omega) only [go_sem, ↓reduceIte, Nat.reduceAdd, Nat.reduceSub, Nat.reduceMul, Nat.reduceEqDiff, reduceCtorEq, Int.reduceAdd, Int.reduceLT, Int.reduceLE, Int.reduceToNat, Int.reduceNeg, Int.reduceSub, ← List.map_take, ← List.map_drop, wrap64, wrapu64, wrapu32, Try.f25, e1]
    generalize (dg z).getD ((dg z).length - 1) 0 = top at *
    have hb := bl_le.2 (show top < 2 ^ 32 from hx)
    refine W_loopS (fun k sl H nx => ∃ (c : Nat), (∃ g : Nat → AV, sl = [g 0, g 1, g 2, .int .i64 (dg z).length, .int .i64 c, .int .u32 k, g 6, g 7, g 8, g 9, g 10, g 11, g 12, g 13, g 14, g 15, g 16, g 17, g 18, g 19, g 20, g 21, g 22, g 23, g 24, g 25, g 26, g 27]) ∧ k < 4294967296 ∧ c + bl k = bl top) top ⟨0, garb rfl, hx, by omega⟩ ?_
    rintro k _ H nx ⟨c, ⟨g, rfl⟩, hk, hc⟩
    by_cases hk0 : k = 0
    · subst hk0
      rw [bl_zero] at hc
      have e2 : 32 * (((dg z).length - 1 : Nat) : Int) + (c : Int) = ((bl z.natAbs : Nat) : Int) := by omega
      simp (maxSteps := 4000000) (disch := omega) only [go_sem, ↓reduceIte, Nat.reduceAdd, Nat.reduceSub, Nat.reduceMul, Nat.reduceEqDiff, reduceCtorEq, Int.reduceAdd, Int.reduceLT, Int.reduceLE, Int.reduceToNat, Int.reduceNeg, Int.reduceSub, ← List.map_take, ← List.map_drop, wrap64, wrapu64, wrapu32, e1, e2]
    · have e2 : IntKind.u32.wrap ((k : Int).tdiv 2) = ((k / 2 : Nat) : Int) := by
        rw [IntKind.wrap_u32', Int.tdiv_eq_ediv_of_nonneg (by omega)]; omega
      rw [bl_pos hk0] at hc
      simp (maxSteps := 4000000) (disch := omega) only [go_sem, ↓reduceIte, Nat.reduceAdd, Nat.reduceSub, Nat.reduceMul, Nat.reduceEqDiff, reduceCtorEq, Int.reduceAdd, Int.reduceLT, Int.reduceLE, Int.reduceToNat, Int.reduceNeg, Int.reduceSub, ← List.map_take, ← List.map_drop, wrap64, wrapu64, wrapu32, e1, e2, cast_succ]
      exact ⟨k / 2, by omega, c + 1, garb rfl, by omega, by omega⟩
end Go.Proofs.Ytmgmcnoobgljpaa

/- The machine over pure values and the rows: what the arguments of a row are as values of the machine. (Own work of this repo.) -/
namespace Vm
open Go Go.RowKit

def FitS (E : Env) (F : TypeId → List AV → Prop) : List (Nat × TypeId) → List AV → Prop
  | [], avs => avs = []
  | (_, u) :: fs, avs => ∃ x y, avs = x ++ y ∧ F u x ∧ FitS E F fs y
/-- A row's element. -/
def elm (ti : TI) (cs : List AV) : AV := if ti.agg then .agg cs else cs.headD undef
def FitD (E : Env) (F : TypeId → List AV → Prop) (avs : List AV) : TD → Prop
  | .int k => ∃ i, avs = [.int k i] ∧ (Lit.int k i).wf = true
  | .bool => ∃ b, avs = [.bool b]
  | .str => ∃ s, avs = [.str s] ∧ s.size ≤ maxLen
  | .slice e => match E.T e with
    | none => False
    | some te => avs = [.lst true []] ∨ ∃ xs, avs = [.lst false xs] ∧ xs.length ≤ maxLen ∧ ∀ x ∈ xs, ∃ cs, x = elm te cs ∧ cs.length = te.size ∧ F e cs
  | .struct fs => FitS E F fs avs
  | .array n e => ∃ xs : List (List AV), xs.length = n ∧ avs = xs.flatten ∧ ∀ x ∈ xs, F e x
  | _ => False
/-- What cells of a type are. -/
def Fit (E : Env) : Nat → TypeId → List AV → Prop
  | 0 => fun _ _ => False
  | m + 1 => fun t avs => match E.T t with
    | none => False
    | some ti => avs.length = ti.size ∧ FitD E (Fit E m) avs ti.desc
def FitArgs (E : Env) : List TypeId → List AV → Prop
  | [], avs => avs = []
  | t :: ts, avs => ∃ cs x ys, avs = x :: ys ∧ (match E.T t with | none => False | some ti => x = elm ti cs ∧ Fit E 6 t cs) ∧ FitArgs E ts ys

/-- Do the fields lie one behind the other? -/
def tiles (E : Env) (S : TypeId → Bool) : List (Nat × TypeId) → Nat → Nat → Bool
  | [], o, size => o == size
  | (o', u) :: fs, o, size => o' == o && S u && (match E.T u with | some tu => tiles E S fs (o + tu.size) size | none => false)
def Sup (E : Env) : Nat → TypeId → Bool
  | 0, _ => false
  | m + 1, t => match E.T t with
    | none => false
    | some ti => (match ti.desc with
      | .int _ | .bool | .str => ti.size == 1 && !ti.agg
      | .slice e => ti.size == 1 && !ti.agg && Sup E m e && (match E.T e with | some te => te.size != 0 | none => false)
      | .struct fs => ti.agg && tiles E (Sup E m) fs 0 ti.size
      | .array n e => ti.agg && Sup E m e && (match E.T e with | some te => ti.size == n * te.size | none => false)
      | _ => false)

section
variable {P : Program} {E : Env} {H : Type} {enc : TypeId × Value → H} {w : World} {base : Nat} {sp : Nat → Bool} {held : Bool}

theorem cells_of (hE : EOk P E) {t : TypeId} {ti : TI} (h : E.T t = some ti) : P.cellsOf t = ti.size := by
  obtain ⟨i, d, z, F⟩ := tiOf_facts (hE.ty _ _ h)
  rw [Program.cellsOf, F.info]
  exact F.size

/-- The cells stand for values of the machine, one for one. -/
def Cel (w : World) (cs : List Value) (avs : List AV) : Prop := avs.length = cs.length ∧ ∀ (j : Nat) (v : Value) (a : AV), cs[j]? = some v → avs[j]? = some a → Rep (C0 w) v a ∧ v.oneCell' = true ∧ a.scal = true ∧ a.pure = true
theorem Cel.nil : Cel w [] [] := ⟨rfl, fun j v a h => by simp at h⟩
theorem Cel.one {v : Value} {a : AV} (h : Rep (C0 w) v a) (h1 : v.oneCell' = true) (h2 : a.scal = true) (h3 : a.pure = true) : Cel w [v] [a] := by
  refine ⟨rfl, fun j v' a' hv ha => ?_⟩
  match j with
  | 0 => simp at hv ha; subst hv; subst ha; exact ⟨h, h1, h2, h3⟩
  | j + 1 => simp at hv
theorem Cel.app {cs ds : List Value} {avs bs : List AV} (h : Cel w cs avs) (g : Cel w ds bs) : Cel w (cs ++ ds) (avs ++ bs) := by
  refine ⟨by rw [List.length_append, List.length_append, h.1, g.1], fun j v a hv ha => ?_⟩
  by_cases hj : j < cs.length
  · rw [List.getElem?_append_left hj] at hv
    rw [List.getElem?_append_left (by rw [h.1]; exact hj)] at ha
    exact h.2 j v a hv ha
  · rw [List.getElem?_append_right (by omega)] at hv
    rw [List.getElem?_append_right (by rw [h.1]; omega), h.1] at ha
    exact g.2 _ v a hv ha
theorem pureL_ofm {avs : List AV} : (∀ a ∈ avs, a.pure = true) → AV.pureL avs = true := by
  induction avs with
  | nil => intro _; rfl
  | cons x xs ih => intro h; simp only [AV.pureL, Bool.and_eq_true]; exact ⟨h x (by simp), ih fun a ha => h a (by simp [ha])⟩
theorem Cel.pureL {cs : List Value} {avs : List AV} (h : Cel w cs avs) : AV.pureL avs = true := pureL_ofm fun a ha => by
  obtain ⟨j, hj, rfl⟩ := List.getElem_of_mem ha
  have hj' : j < cs.length := by rw [← h.1]; exact hj
  exact (h.2 j _ _ (List.getElem?_eq_getElem hj') (List.getElem?_eq_getElem hj)).2.2.2

theorem add_at {a : Addr} {x y : Nat} {v : Value} (h : w.cell? ((a.add x).add y) = some v) : w.cell? ⟨a.block, a.off + (x + y), none⟩ = some v ∧ a.block < w.heap.size ∧ (x + y = 0 → a.spot = none) := by
  have hb : ((a.add x).add y).block = a.block := by unfold Addr.add; split <;> split <;> rfl
  have h1 := World.block_lt_of_cell? w _ h
  rw [hb] at h1
  by_cases h0 : x + y = 0
  · obtain rfl : x = 0 := by omega
    obtain rfl : y = 0 := by omega
    have e : (a.add 0).add 0 = a := by simp [Addr.add]
    rw [e] at h
    have hs : a.spot = none := by
      cases hsp : a.spot with
      | none => rfl
      | some k =>
        simp only [World.cell?, hsp] at h
        split at h <;> simp at h
    refine ⟨?_, h1, fun _ => hs⟩
    have e2 : a = ⟨a.block, a.off + (0 + 0), none⟩ := by cases a; simp_all
    rw [e2] at h; exact h
  · refine ⟨?_, h1, fun h => absurd h h0⟩
    have e : (a.add x).add y = ⟨a.block, a.off + (x + y), none⟩ := by
      unfold Addr.add
      by_cases hx : x = 0
      · subst hx; simp only [if_true]; rw [if_neg (by omega)]; simp
      · rw [if_neg hx]
        by_cases hy : y = 0
        · subst hy; simp
        · rw [if_neg hy]; simp [Nat.add_assoc]
    rw [e] at h; exact h

theorem elm_cells {ti : TI} {cs : List AV} (hl : cs.length = ti.size) (h : ti.agg = false → ti.size = 1) (hs : ∀ a ∈ cs, a.scal = true) : (elm ti cs).cells = cs := by
  unfold elm
  cases ha : ti.agg with
  | true => rfl
  | false =>
    have := h ha
    match cs, hl with
    | [], hl => simp at hl; omega
    | [c], _ =>
      have := hs c (by simp)
      cases c <;> simp_all [AV.scal, AV.cells]
    | _ :: _ :: _, hl => simp at hl; omega
theorem sup_one {m : Nat} {t : TypeId} {ti : TI} (h : Sup E m t = true) (ht : E.T t = some ti) (ha : ti.agg = false) : ti.size = 1 := by
  cases m with
  | zero => simp [Sup] at h
  | succ m =>
    simp only [Sup, ht] at h
    split at h <;> simp_all

theorem open_cells (hE : EOk P E) : ∀ (m : Nat) (t : TypeId), Sup E m t = true → ∀ (n : Nat) (cs : List Value) (x : DataW H × List MemPlace), DataW.trod enc P w base sp held n t cs = some x → ∃ avs, Cel w cs avs ∧ Fit E m t avs
  | 0, t, hs, _, _, _, _ => by simp [Sup] at hs
  | m + 1, t, hs, n, cs, x, h => by
    have ih := open_cells hE m
    simp only [Sup] at hs
    split at hs
    · cases hs
    · rename_i ti ht
      obtain ⟨i, d, z, F⟩ := tiOf_facts (hE.ty _ _ ht)
      have hsz := cells_of hE ht
      have had := F.ad
      have hund := F.und
      simp only [Fit, ht]
      split at hs
      · -- int
        rename_i k hd
        rw [hd] at had ⊢
        simp only [Bool.and_eq_true, beq_iff_eq] at hs
        obtain rfl : d = .int k := by cases d <;> simp_all [dOf]
        obtain ⟨q, rfl, _, hw⟩ := DataW.trod_int hund h
        exact ⟨[.int k q], Cel.one (.int _ _) rfl rfl rfl, by simp [hs.1], q, rfl, hw⟩
      · rename_i hd
        rw [hd] at had ⊢
        simp only [Bool.and_eq_true, beq_iff_eq] at hs
        obtain rfl : d = .bool := by cases d <;> simp_all [dOf]
        obtain ⟨q, rfl, _⟩ := DataW.trod_bool hund h
        exact ⟨[.bool q], Cel.one (.bool _) rfl rfl rfl, by simp [hs.1], q, rfl⟩
      · rename_i hd
        rw [hd] at had ⊢
        simp only [Bool.and_eq_true, beq_iff_eq] at hs
        obtain rfl : d = .string := by cases d <;> simp_all [dOf]
        obtain ⟨q, rfl, _, hw⟩ := DataW.trod_string hund h
        exact ⟨[.str q], Cel.one (.str _) rfl rfl rfl, by simp [hs.1], q, rfl, hw⟩
      · -- slice
        rename_i e hd
        rw [hd] at had ⊢
        simp only [Bool.and_eq_true, beq_iff_eq] at hs
        obtain ⟨⟨⟨hs1, _⟩, hse⟩, hsz0⟩ := hs
        obtain rfl : d = .slice e := by cases d <;> simp_all [dOf]
        split at hsz0
        · rename_i te hte
          have hesz := cells_of hE hte
          have hpos : te.size ≠ 0 := by simpa using hsz0
          simp only [FitD, hte]
          rcases Go.Deep.open_slice hund h with ⟨rfl, _⟩ | ⟨a, len, cap, mm, n', D, Pl, rfl, _, hl, hm, hmm, _, hx⟩
          · exact ⟨[.lst true []], Cel.one .lnil rfl rfl rfl, by simp [hs1], .inl rfl⟩
          · have hmm' : len ≤ mm := by rw [hmm]; split <;> omega
            have each : ∀ i, i < len → ∃ (cs' : List Value) (avs : List AV), w.cells? base (a.add (i * P.cellsOf e)) (P.cellsOf e) = some cs' ∧ Cel w cs' avs ∧ Fit E m e avs := fun i hi => by
              obtain ⟨cs', h1, h2⟩ := hx i (by omega)
              obtain ⟨avs, h3, h4⟩ := ih e hse n' cs' _ h2
              exact ⟨cs', avs, h1, h3, h4⟩
            let U : Nat → List Value := fun i => if hi : i < len then (each i hi).choose else []
            let A : Nat → List AV := fun i => if hi : i < len then (each i hi).choose_spec.choose else []
            have hUA : ∀ i, i < len → w.cells? base (a.add (i * P.cellsOf e)) (P.cellsOf e) = some (U i) ∧ Cel w (U i) (A i) ∧ Fit E m e (A i) := fun i hi => by
              simp only [U, A, dif_pos hi]
              exact (each i hi).choose_spec.choose_spec
            have hUl : ∀ i, i < len → (U i).length = te.size := fun i hi => by rw [(World.cells?_some (hUA i hi).1).2.1, hesz]
            have hAl : ∀ i, i < len → (A i).length = te.size := fun i hi => by rw [(hUA i hi).2.1.1, hUl i hi]
            have hsc : ∀ i, i < len → ∀ c ∈ A i, c.scal = true ∧ c.pure = true := fun i hi c hc => by
              obtain ⟨j, hj, rfl⟩ := List.getElem_of_mem hc
              have hj' : j < (U i).length := by rw [← (hUA i hi).2.1.1]; exact hj
              exact ((hUA i hi).2.1.2 j _ _ (List.getElem?_eq_getElem hj') (List.getElem?_eq_getElem hj)).2.2
            have hec : ∀ i, i < len → (elm te (A i)).cells = A i := fun i hi => elm_cells (hAl i hi) (fun ha => sup_one hse hte ha) fun a ha => (hsc i hi a ha).1
            have hep : ∀ i, i < len → (elm te (A i)).pure = true := fun i hi => by
              unfold elm
              split
              · simp only [AV.pure]; exact pureL_ofm fun a ha => (hsc i hi a ha).2
              · have := hAl i hi
                cases hA : A i with
                | nil => rfl
                | cons c cs => exact (hsc i hi c (by rw [hA]; simp)).2
            have hel : ∀ i v, ((List.range len).map fun i => elm te (A i))[i]? = some v → i < len ∧ v = elm te (A i) := fun i v h => by
              rw [List.getElem?_map] at h
              by_cases hi : i < len
              · rw [List.getElem?_range hi] at h; simp at h; exact ⟨hi, h.symm⟩
              · rw [List.getElem?_eq_none (by simpa using hi)] at h; simp at h
            have hat : ∀ i j c, i < len → (A i)[j]? = some c → ∃ v, (U i)[j]? = some v ∧ w.cell? ((a.add (i * te.size)).add j) = some v := fun i j c hi hc => by
              have hj : j < te.size := by rw [← hAl i hi]; exact (List.getElem?_eq_some_iff.1 hc).1
              have := (World.cells?_some (hUA i hi).1).2.2 j (by rw [hesz]; exact hj)
              rw [hesz] at this
              have hv : (U i)[j]? = some ((U i)[j]'(by rw [hUl i hi]; exact hj)) := List.getElem?_eq_getElem _
              exact ⟨_, hv, by rw [this, hv]⟩
            refine ⟨[.lst false ((List.range len).map fun i => elm te (A i))], ?_, by simp [hs1], .inr ⟨_, rfl, by simp; omega, fun x hx => ?_⟩⟩
            · have hlen : ((List.range len).map fun i => elm te (A i)).length = len := by simp
              have hrep : Rep (C0 w) (.slice (some a) ((List.range len).map fun i => elm te (A i)).length cap) (.lst false ((List.range len).map fun i => elm te (A i))) := by
                refine .lst a cap te.size _ (fun i j => ((U i)[j]?).getD (.bool true)) (by rw [hlen]; exact hl) (fun x hx => ?_) (fun hne => ?_) (fun i x hx j c hc => ?_) (fun i x hx j c hc => ?_) (fun i x hx j c hc => ?_)
                · obtain ⟨i, hi, rfl⟩ := List.mem_map.1 hx
                  have hi := List.mem_range.1 hi
                  rw [hec i hi, hAl i hi]
                · have h0 : 0 < len := by
                    rcases Nat.eq_zero_or_pos len with h | h
                    · subst h; exact absurd rfl hne
                    · exact h
                  obtain ⟨c, hc⟩ : ∃ c, (A 0)[0]? = some c := ⟨(A 0)[0]'(by rw [hAl 0 h0]; omega), List.getElem?_eq_getElem _⟩
                  obtain ⟨v, _, hv⟩ := hat 0 0 c h0 hc
                  have := add_at hv
                  exact ⟨this.2.2 (by simp), this.2.1, C0_wr w _⟩
                · obtain ⟨hi, rfl⟩ := hel i x hx
                  rw [hec i hi] at hc
                  obtain ⟨v, hv, hcell⟩ := hat i j c hi hc
                  rw [hv]
                  exact (add_at hcell).1
                · obtain ⟨hi, rfl⟩ := hel i x hx
                  rw [hec i hi] at hc
                  obtain ⟨v, hv, hcell⟩ := hat i j c hi hc
                  rw [hv]
                  exact ((hUA i hi).2.1.2 j v c hv hc).2.1
                · obtain ⟨hi, rfl⟩ := hel i x hx
                  rw [hec i hi] at hc
                  obtain ⟨v, hv, hcell⟩ := hat i j c hi hc
                  rw [hv]
                  exact ((hUA i hi).2.1.2 j v c hv hc).1
              rw [hlen] at hrep
              refine Cel.one hrep rfl rfl ?_
              simp only [AV.pure]
              exact pureL_ofm fun x hx => by
                obtain ⟨i, hi, rfl⟩ := List.mem_map.1 hx
                exact hep i (List.mem_range.1 hi)
            · obtain ⟨i, hi, rfl⟩ := List.mem_map.1 hx
              have hi := List.mem_range.1 hi
              exact ⟨A i, rfl, hAl i hi, (hUA i hi).2.2⟩
        · cases hsz0
      · -- struct
        rename_i fs hd
        rw [hd] at had ⊢
        simp only [Bool.and_eq_true] at hs
        obtain ⟨_, hs⟩ := hs
        obtain ⟨gs, rfl⟩ : ∃ gs, d = .struct gs := by cases d <;> simp_all [dOf]
        simp only [dOf, Option.some.injEq, TD.struct.injEq] at had
        obtain ⟨xs, n', _, _, hl, _, hf⟩ := DataW.trod_struct hund h
        have key : ∀ (l : List Field) (o : Nat) (cs : List Value), (∀ f ∈ l, ∃ y, DataW.trod enc P w base sp held n' f.type ((cs.drop (f.offset - o)).take (P.cellsOf f.type)) = some y) → tiles E (Sup E m) (l.map fun f => (f.offset, f.type)) o ti.size = true → cs.length + o = ti.size →
            ∃ avs, Cel w cs avs ∧ FitS E (Fit E m) (l.map fun f => (f.offset, f.type)) avs := by
          intro l
          induction l with
          | nil =>
            intro o cs _ ht' hcl
            simp only [List.map_nil, tiles, beq_iff_eq] at ht'
            have : cs = [] := List.length_eq_zero_iff.1 (by omega)
            subst this
            exact ⟨[], Cel.nil, rfl⟩
          | cons f l ihl =>
            intro o cs hall ht' hcl
            simp only [List.map_cons, tiles, Bool.and_eq_true, beq_iff_eq] at ht'
            obtain ⟨⟨ho, hsu⟩, hrest⟩ := ht'
            split at hrest
            · rename_i tu htu
              have hu := cells_of hE htu
              obtain ⟨y, hy⟩ := hall f (by simp)
              rw [ho, Nat.sub_self, List.drop_zero, hu] at hy
              obtain ⟨as1, h1, h2⟩ := ih f.type hsu n' _ _ hy
              have hlen1 : as1.length = tu.size := by
                cases m with
                | zero => simp [Sup] at hsu
                | succ m => simp only [Fit, htu] at h2; exact h2.1
              have hcs : tu.size ≤ cs.length := by
                have := h1.1
                rw [hlen1, List.length_take] at this
                omega
              have hle : ∀ (l' : List (Nat × TypeId)) (o' : Nat), tiles E (Sup E m) l' o' ti.size = true → ∀ q ∈ l', o' ≤ q.1 := by
                intro l'
                induction l' with
                | nil => intro _ _ q hq; cases hq
                | cons p l' ihp =>
                  intro o' hp q hq
                  obtain ⟨p1, p2⟩ := p
                  simp only [tiles, Bool.and_eq_true, beq_iff_eq] at hp
                  obtain ⟨⟨hp1, _⟩, hp3⟩ := hp
                  split at hp3
                  · rcases List.mem_cons.1 hq with rfl | hq
                    · exact Nat.le_of_eq hp1.symm
                    · have := ihp _ hp3 q hq; omega
                  · cases hp3
              obtain ⟨as2, h3, h4⟩ := ihl (o + tu.size) (cs.drop tu.size) (fun g hg => by
                obtain ⟨y, hy⟩ := hall g (by simp [hg])
                refine ⟨y, ?_⟩
                have hge := hle _ _ hrest (g.offset, g.type) (List.mem_map.2 ⟨g, hg, rfl⟩)
                have hge' : o + tu.size ≤ g.offset := hge
                rw [List.drop_drop, show tu.size + (g.offset - (o + tu.size)) = g.offset - o by omega]
                exact hy) hrest (by rw [List.length_drop]; omega)
              refine ⟨as1 ++ as2, ?_, as1, as2, rfl, h2, h4⟩
              have := h1.app h3
              rwa [List.take_append_drop] at this
            · cases hrest
        rw [← had] at hs
        obtain ⟨avs, h1, h2⟩ := key gs.toList 0 cs (fun f hf' => by
          obtain ⟨i, hi, rfl⟩ := List.getElem_of_mem hf'
          have hi' : i < gs.size := by simpa using hi
          have := hf i gs[i] (Array.getElem?_eq_getElem hi')
          have hx : i < xs.length := by omega
          rw [List.getElem?_eq_getElem hx] at this
          simp only [Nat.sub_zero, Array.getElem_toList]
          exact ⟨_, this⟩) hs (by omega)
        refine ⟨avs, h1, by rw [h1.1, hl, hsz], ?_⟩
        simp only [FitD]
        rw [← had]
        exact h2
      · -- array
        rename_i k e hd
        rw [hd] at had ⊢
        simp only [Bool.and_eq_true] at hs
        obtain ⟨⟨_, hse⟩, hs⟩ := hs
        obtain rfl : d = .array k e := by cases d <;> simp_all [dOf]
        split at hs
        · rename_i te hte
          have hesz := cells_of hE hte
          simp only [beq_iff_eq] at hs
          obtain ⟨xs, n', _, _, hl, hxl, hf⟩ := DataW.trod_array hund h
          have key : ∀ (q : Nat) (cs : List Value), (∀ i, i < q → ∃ y, DataW.trod enc P w base sp held n' e ((cs.drop (i * te.size)).take te.size) = some y) → cs.length = q * te.size → ∃ ys : List (List AV), ys.length = q ∧ Cel w cs ys.flatten ∧ ∀ y ∈ ys, Fit E m e y := by
            intro q
            induction q with
            | zero =>
              intro cs _ hcl
              have : cs = [] := List.length_eq_zero_iff.1 (by omega)
              subst this
              exact ⟨[], rfl, Cel.nil, fun y hy => by cases hy⟩
            | succ q ihq =>
              intro cs hall hcl
              rw [Nat.add_mul, Nat.one_mul] at hcl
              obtain ⟨y, hy⟩ := hall 0 (by omega)
              rw [Nat.zero_mul, List.drop_zero] at hy
              obtain ⟨as1, h1, h2⟩ := ih e hse n' _ _ hy
              obtain ⟨ys, h3, h4, h5⟩ := ihq (cs.drop te.size) (fun i hi => by
                obtain ⟨y, hy⟩ := hall (i + 1) (by omega)
                refine ⟨y, ?_⟩
                rw [List.drop_drop, show te.size + i * te.size = (i + 1) * te.size by rw [Nat.add_mul]; omega]
                exact hy) (by rw [List.length_drop]; omega)
              refine ⟨as1 :: ys, by simp [h3], ?_, fun y hy => ?_⟩
              · have := h1.app h4
                rwa [List.take_append_drop] at this
              · rcases List.mem_cons.1 hy with rfl | hy
                · exact h2
                · exact h5 y hy
          obtain ⟨ys, h1, h2, h3⟩ := key k cs (fun i hi => by
            have := hf i hi
            have hx : i < xs.length := by omega
            rw [List.getElem?_eq_getElem hx, hesz] at this
            exact ⟨_, this⟩) (by rw [hl, hsz, hs])
          exact ⟨ys.flatten, h2, by rw [h2.1, hl, hsz], ys, h1, rfl, h3⟩
        · cases hs
      · cases hs

theorem okWide_form (hE : EOk P E) {m : Nat} {t : TypeId} {ti : TI} {r : Reach} {b : Nat} {v : Value} (ht : E.T t = some ti) (hs : Sup E m t = true) (h : Value.okWide P w r b t v) : (ti.agg = true ∧ ∃ vs : Array Value, v = .agg vs) ∨ (ti.agg = false ∧ v.oneCell' = true) := by
  obtain ⟨i, d, z, F⟩ := tiOf_facts (hE.ty _ _ ht)
  have had := F.ad
  have hag := F.agg
  cases m with
  | zero => simp [Sup] at hs
  | succ m =>
    simp only [Sup, ht] at hs
    unfold Value.okWide at h
    rw [F.und] at h
    cases d with
    | struct gs => left; refine ⟨by rw [hag]; rfl, ?_⟩; obtain ⟨cs, rfl, _⟩ := h; exact ⟨cs, rfl⟩
    | array n e => left; refine ⟨by rw [hag]; rfl, ?_⟩; obtain ⟨cs, rfl, _⟩ := h; exact ⟨cs, rfl⟩
    | int k => right; refine ⟨by rw [hag]; rfl, ?_⟩; cases v <;> first | rfl | (simp [Cell.okWide, Cell.ok, F.und] at h)
    | bool => right; refine ⟨by rw [hag]; rfl, ?_⟩; cases v <;> first | rfl | (simp [Cell.okWide, Cell.ok, F.und] at h)
    | string => right; refine ⟨by rw [hag]; rfl, ?_⟩; cases v <;> first | rfl | (simp [Cell.okWide, Cell.ok, F.und] at h)
    | slice e => right; refine ⟨by rw [hag]; rfl, ?_⟩; cases v <;> first | rfl | (simp [Cell.okWide, Cell.ok, F.und] at h)
    | _ =>
      have hd : ∀ x, dOf _ = some x → x = ti.desc := fun x hx => by rw [had] at hx; cases hx; rfl
      simp only [dOf] at had
      first
        | (cases had; done)
        | (simp only [Option.some.injEq] at had; rw [← had] at hs; simp at hs)

/-- The arguments of a row: what they are to the machine; and that they read the same wherever nothing old has turned. -/
theorem open_args (hE : EOk P E) (hl : laidOutB P = true) : ∀ (ts : List TypeId) (vs : List Value) (ds : List (DataW H)) (ps : List MemPlace), ts.all (fun t => Sup E 6 t && P.readableRec t && decide (t < P.types.size)) = true → DataW.TrodAll enc P w 0 (fun _ => true) true ts vs ds ps →
    (∀ (j : Nat) (t : TypeId) (v : Value), ts[j]? = some t → vs[j]? = some v → ∃ r b, Value.okWide P w r b t v) →
    ∃ avs, FitArgs E ts avs ∧ RepL (C0 w) vs avs ∧ AV.pureL avs = true ∧ ∀ w', Below w.heap.size w w' → DataW.TrodAll enc P w' 0 (fun b => decide (b < w.heap.size)) true ts vs ds ps
  | [], vs, ds, ps, _, h, _ => by
    obtain ⟨rfl, rfl, rfl⟩ := ChangeShapes.trodAll_nil h
    exact ⟨[], rfl, trivial, rfl, fun w' _ => rfl⟩
  | t :: ts, vs, ds, ps, hs, h, hv => by
    obtain ⟨v, vs, d, ds, p, q, rfl, rfl, rfl, h0, h1⟩ := ChangeShapes.trodAll_cons h
    simp only [List.all_cons, Bool.and_eq_true, decide_eq_true_eq] at hs
    obtain ⟨⟨⟨hs0, hr⟩, hlt⟩, hs1⟩ := hs
    obtain ⟨avs, g1, g2, g3, g4⟩ := open_args hE hl ts vs ds q (by simpa using hs1) h1 fun j t v ht hv' => hv (j + 1) t v (by simpa using ht) (by simpa using hv')
    obtain ⟨fuel, h0'⟩ := h0
    obtain ⟨cs, k1, k2⟩ := open_cells hE 6 t hs0 fuel _ _ h0'
    obtain ⟨ti, hti⟩ : ∃ ti, E.T t = some ti := by
      cases hh : E.T t with
      | none => simp [Fit, hh] at k2
      | some ti => exact ⟨ti, rfl⟩
    have hcl : cs.length = ti.size := by simp only [Fit, hti] at k2; exact k2.1
    obtain ⟨r, b, hok⟩ := hv 0 t v rfl rfl
    have hrep : Rep (C0 w) v (elm ti cs) ∧ (elm ti cs).pure = true := by
      have hp := k1.pureL
      rcases okWide_form hE hti hs0 hok with ⟨ha, us, rfl⟩ | ⟨ha, h1c⟩
      · unfold elm
        rw [if_pos ha]
        refine ⟨.agg us cs ?_ fun j v x hv hx => ?_, by simpa [AV.pure] using hp⟩
        · have := k1.1; simpa [Value.cells] using this.symm
        · exact (k1.2 j v x (by simpa [Value.cells] using hv) hx).1
      · have h1 := sup_one hs0 hti ha
        have hc : v.cells.toList = [v] := by cases v <;> first | rfl | (simp [Value.oneCell'] at h1c)
        rw [hc] at k1
        obtain ⟨a, rfl⟩ : ∃ a, cs = [a] := List.length_eq_one_iff.1 (by rw [hcl, h1])
        unfold elm
        simp only [ha, Bool.false_eq_true, if_false, List.headD_cons]
        have := k1.2 0 v a rfl rfl
        exact ⟨this.1, this.2.2.2⟩
    refine ⟨elm ti cs :: avs, ⟨cs, _, avs, rfl, by rw [hti]; exact ⟨rfl, k2⟩, g1⟩, ⟨hrep.1, g2⟩, by simp only [AV.pureL, hrep.2, g3]; rfl, fun w' hb => ?_⟩
    refine ⟨p, q, ?_, g4 w' hb, rfl⟩
    refine Below.trod hl hr hlt ⟨fuel, h0'⟩ hb fun x hx => ?_
    exact DataW.trod_lt _ _ _ _ h0' x hx
theorem trodAll_len : ∀ {ts : List TypeId} {vs : List Value} {ds : List (DataW H)} {ps : List MemPlace}, DataW.TrodAll enc P w base sp held ts vs ds ps → ds.length = ts.length
  | [], vs, ds, ps, h => by obtain ⟨rfl, rfl, rfl⟩ := ChangeShapes.trodAll_nil h; rfl
  | t :: ts, vs, ds, ps, h => by
    obtain ⟨v, vs, d, ds, p, q, rfl, rfl, rfl, h0, h1⟩ := ChangeShapes.trodAll_cons h
    simp [trodAll_len h1]
end
end Vm

/- Walks of the laws of chapter 1: their helpers. (Own work of this repo.) -/
namespace Go.Proofs.Ytmgmcnoobgljpaa
open Vm
set_option maxRecDepth 10000

/-- Numbers as they come: sign, words. -/
abbrev Raw := Bool × Bool × List Nat
abbrev ivr (q : Raw) : AV := iv q.1 q.2.1 q.2.2
def lightW (most : Nat) (q : Raw) : Bool := decide (q.2.2.length ≤ most) && rvalidW q.1 q.2.2
theorem get_ivr {L : List Raw} {i : Nat} (h : i < L.length) : (L.map ivr)[i]? = some (.agg [.bool (L.getD i default).1, .lst (L.getD i default).2.1 ((L.getD i default).2.2.map wd)]) := by
  simp [h]
theorem pure_ivr (L : List Raw) : AV.pureL (L.map ivr) = true := by
  induction L with
  | nil => rfl
  | cons q L ih => simp only [List.map_cons, AV.pureL, AV.pure, ih, pure_wd]; rfl
/-- Light numbers are numbers. -/
theorem light_norm {most : Nat} {q : Raw} (hr : InR q.2.2) (h : lightW most q = true) : q.2.2.length ≤ most ∧ q.2.2.length ≤ 4096 ∧ ∃ z : Int, ivr q = I q.2.1 z ∧ dg z = q.2.2 := by
  unfold lightW at h
  rw [Bool.and_eq_true, decide_eq_true_eq] at h
  obtain ⟨h1, z, h2, h3⟩ := rvalid_norm hr h.2
  exact ⟨h.1, h1, z, by rw [I, h2, h3], h3⟩
/-- What an argument of the numbers' type is. -/
theorem fit_raw {m : Nat} {cs : List AV} (h : Fit E (m + 3) 24 cs) : ∃ q : Raw, cs = [.bool q.1, .lst q.2.1 (q.2.2.map wd)] ∧ InR q.2.2 ∧ (q.2.1 = true → q.2.2 = []) ∧ q.2.2.length ≤ maxLen := by
  simp only [Fit, opn_eq, T1, T2, T3, T4, T5, T6, T7, T8, T9, T10, T11, T12, T13, T14, T15, T16, T17, T18, T19, T20, T21, T22, T23, T24, T25, T26, T27, T29, T30, T31, T33, T34, T35, T37, T38, T39, T40, T42, T43, T44, T45, T46, T47, T48, T50, T51, T53, T55, T56, T57, T58, T59, T60, T61, T62, T63, T64, T65, T66, T67, T68, T69, T70, T71, T72, T73, T74, T75, T76, T77, T78, T79, T80, T81, T82, T83, T84, T85, T86, T87, T88, T89, T90, T92, T94, T95, T96, T97, T98, T99, T100, T101, T102, T104, T105, T106, T107, T108, T109, T111, T112, T113, T115, T116, T117, T118, T119, T120, T121, T122, T123, T124, T125, T126, T127, T128, T129, T130, T131, T132, T133, FitD, FitS] at h
  obtain ⟨_, x, y, rfl, ⟨_, b, rfl⟩, x2, y2, rfl, ⟨_, h2⟩, rfl⟩ := h
  rcases h2 with rfl | ⟨xs, rfl, hl, hx⟩
  · exact ⟨(b, true, []), rfl, fun x hx => by (cases hx), fun _ => rfl, by simp⟩
  · have key : ∀ (xs : List AV), (∀ x ∈ xs, ∃ cs, x = elm ⟨1, 4, false, .int .u32 0, .int .u32⟩ cs ∧ cs.length = 1 ∧ cs.length = 1 ∧ ∃ i, cs = [.int .u32 i] ∧ (Lit.int .u32 i).wf = true) → ∃ l : List Nat, xs = l.map wd ∧ InR l := by
      intro xs
      induction xs with
      | nil => intro _; exact ⟨[], rfl, fun x hx => by (cases hx)⟩
      | cons x xs ih =>
        intro h
        obtain ⟨l, rfl, hl⟩ := ih fun y hy => h y (by simp [hy])
        obtain ⟨cs, rfl, _, _, i, rfl, hi⟩ := h x (by simp)
        have hi' : 0 ≤ i ∧ i < 4294967296 := by simp [Lit.wf, IntKind.max, IntKind.min, IntKind.bits, IntKind.signed] at hi; omega
        refine ⟨i.toNat :: l, ?_, fun y hy => ?_⟩
        · have : ((i.toNat : Nat) : Int) = i := by omega
          simp [elm, wd, this]
        · rcases List.mem_cons.1 hy with rfl | hy
          · show i.toNat < 4294967296; omega
          · exact hl y hy
    obtain ⟨l, rfl, hr⟩ := key xs hx
    exact ⟨(b, false, l), rfl, hr, fun h => by simp at h, by simpa using hl⟩
end Go.Proofs.Ytmgmcnoobgljpaa
