/- The machine over pure values: how one walks through a statement that leaves its order open. (Own work of this repo.) -/
import Derived.Test.YtpfcijgcjghgeaaVm23
set_option linter.unusedVariables false
set_option linter.unusedSimpArgs false
namespace Vm
open Go

def mk (rds ids : List Nat) : Rec := ⟨.ok, none, undef, rds, ids.map fun i => (i, none), none⟩
def summ (r : Rec) : Rec := mk r.rds r.ids
theorem mk_ids (rds ids : List Nat) : (mk rds ids).ids = ids := by unfold mk Rec.ids; simp [Function.comp_def]
theorem summ_ids (r : Rec) : (summ r).ids = r.ids := mk_ids _ _
theorem summ_free (r s : Rec) : (summ r).free (summ s) = r.free s := by unfold Rec.free; rw [summ_ids, summ_ids]; rfl
theorem summ_quiet (r : Rec) : (summ r).quiet = r.quiet := by unfold Rec.quiet summ mk Rec.ids; cases r.ups <;> rfl
theorem summ_one {all : List Oper} {i : Nat} {r : Rec} : ∀ (ss : List Rec) (j : Nat), dynOne all i (summ r) j (ss.map summ) = dynOne all i r j ss
  | [], _ => rfl
  | s :: ss, j => by simp only [List.map_cons, dynOne, summ_free, summ_one ss (j + 1)]
theorem summ_dyn {all : List Oper} : ∀ (rs : List Rec) (i : Nat), dynOk all i (rs.map summ) = dynOk all i rs
  | [], _ => rfl
  | r :: rs, i => by simp only [List.map_cons, dynOk, summ_one, summ_dyn rs (i + 1)]
/-- May the order be left open? -/
def okR (all : List Oper) (rs : List Rec) : Bool := match rs.all Rec.quiet with | true => true | false => dynOk all 0 rs
theorem summ_ok {all : List Oper} (rs : List Rec) : okR all (rs.map summ) = okR all rs := by
  unfold okR
  have : (rs.map summ).all Rec.quiet = rs.all Rec.quiet := by
    rw [List.all_map]; congr 1; funext r; exact summ_quiet r
  rw [this, summ_dyn]

section
variable {E : Env}
def reK (dst : Option Nat) (next : List Rec → St → Prop) (acc : List Rec) (σ : St) : Option Eff → Prop
  | some ⟨.val v, rds, ups, new⟩ => next (acc ++ [mk rds (ups.map (·.1))]) ⟨put σ.sl dst v, σ.h.upds ups, if new then σ.nx + 1 else σ.nx⟩
  | some ⟨.skip, rds, ups, new⟩ => next (acc ++ [mk rds (ups.map (·.1))]) ⟨put σ.sl dst undef, σ.h.upds ups, if new then σ.nx + 1 else σ.nx⟩
  | _ => False
def rcK (dst : Option Nat) (next : List Rec → St → Prop) (acc : List Rec) (σ : St) (ids : List Nat) : Option Res → Prop
  | some (.ret v) => next (acc ++ [mk ids ((freezes σ.h ids).map (·.1))]) ⟨put σ.sl dst v, σ.h.upds (freezes σ.h ids), σ.nx⟩
  | _ => False
def raK (E : Env) (dst : Option Nat) (next : List Rec → St → Prop) (acc : List Rec) (σ : St) (g : FuncId) : Option (List AV × List Nat) → Prop
  | some (l, ids) => rcK dst next acc σ ids (denP E g l)
  | none => False
def rtK (E : Env) (o : Oper) (next : List Rec → St → Prop) (acc : List Rec) (σ : St) : Option (FuncId × List AV) → Prop
  | some (g, l) => raK E o.dst next acc σ g (mapL (purify deep σ.h) l)
  | none => reK o.dst next acc σ (opEff E σ.h σ.nx σ.sl o.op)
def rwK (E : Env) (o : Oper) (next : List Rec → St → Prop) (acc : List Rec) (σ : St) : Option Bool → Prop
  | some true => rtK E o next acc σ (target σ.sl o.op)
  | some false => next (acc ++ [mk [] []]) ⟨put σ.sl o.dst undef, σ.h, σ.nx⟩
  | none => False
def Rc (E : Env) (all : List Oper) (Q : Ex → St → Prop) : List Oper → List Rec → St → Prop
  | [] => fun acc σ => okR all acc = true ∧ Q .norm σ
  | o :: os => fun acc σ => rwK E o (Rc E all Q os) acc σ (want all σ.sl o)

theorem Rc_sound {all : List Oper} {Q : Ex → St → Prop} : ∀ (os : List Oper) (i : Nat) (acc : List Rec) (σ : St), Rc E all Q os acc σ → ∃ rs σ', recs E (denP E) all os i none σ = some (rs, none, σ') ∧ okR all (acc ++ rs.map summ) = true ∧ Q .norm σ'
  | [], i, acc, σ, h => ⟨[], σ, rfl, by simpa using h.1, h.2⟩
  | o :: os, i, acc, σ, h => by
    have step : ∀ (r : Rec) (σ1 : St), Rc E all Q os (acc ++ [summ r]) σ1 → ∃ rs σ', recs E (denP E) all os (i + 1) none σ1 = some (rs, none, σ') ∧ okR all (acc ++ (r :: rs).map summ) = true ∧ Q .norm σ' := by
      intro r σ1 h
      obtain ⟨rs, σ', h1, h2, h3⟩ := Rc_sound os (i + 1) _ σ1 h
      exact ⟨rs, σ', h1, by simpa using h2, h3⟩
    simp only [Rc] at h
    simp only [recs]
    unfold rwK at h
    split at h
    · rename_i hw
      rw [hw]
      dsimp only
      unfold rtK at h
      split at h
      · rename_i g l ht
        unfold raK at h
        split at h
        · rename_i l' ids hl
          unfold rcK at h
          split at h
          · rename_i v hd
            obtain ⟨rs, σ', h1, h2, h3⟩ := step ⟨.ok, o.dst, v, ids, freezes σ.h ids, none⟩ _ h
            refine ⟨_, σ', ?_, h2, h3⟩
            have he : anyEff E (denP E) σ.h σ.nx σ.sl o.op = some ⟨.val v, ids, freezes σ.h ids, false⟩ := by
              unfold anyEff
              rw [ht]
              simp only [pcallEff, hl, hd]
            have h1' : recs E (denP E) all os (i + 1) none ((σ.eff ⟨.val v, ids, freezes σ.h ids, false⟩).put o.dst v) = some (rs, none, σ') := h1
            simp only [he, h1', Bool.false_eq_true, if_false]
          · exact h.elim
        · exact h.elim
      · rename_i ht
        have he : anyEff E (denP E) σ.h σ.nx σ.sl o.op = opEff E σ.h σ.nx σ.sl o.op := by unfold anyEff; rw [ht]
        unfold reK at h
        split at h
        · rename_i v rds ups new ho
          obtain ⟨rs, σ', h1, h2, h3⟩ := step ⟨.ok, o.dst, v, rds, ups, if new then some σ.nx else none⟩ _ h
          refine ⟨_, σ', ?_, h2, h3⟩
          have h1' : recs E (denP E) all os (i + 1) none ((σ.eff ⟨.val v, rds, ups, new⟩).put o.dst v) = some (rs, none, σ') := h1
          simp only [he, ho, h1']
        · rename_i rds ups new ho
          obtain ⟨rs, σ', h1, h2, h3⟩ := step ⟨.ok, o.dst, undef, rds, ups, if new then some σ.nx else none⟩ _ h
          refine ⟨_, σ', ?_, h2, h3⟩
          have h1' : recs E (denP E) all os (i + 1) none ((σ.eff ⟨.skip, rds, ups, new⟩).put o.dst undef) = some (rs, none, σ') := h1
          simp only [he, ho, h1']
        · exact h.elim
    · rename_i hw
      obtain ⟨rs, σ', h1, h2, h3⟩ := step ⟨.ok, o.dst, undef, [], [], none⟩ _ h
      refine ⟨_, σ', ?_, h2, h3⟩
      have h1' : recs E (denP E) all os (i + 1) none (σ.put o.dst undef) = some (rs, none, σ') := h1
      simp only [hw, h1']
    · exact h.elim

variable {Q : Ex → St → Prop} {σ : St}
theorem W_drawn {i : Nat} {ops : Array Oper} (h : Rc E ops.toList Q ops.toList [] σ) : W E (.region i ops true) σ Q := by
  obtain ⟨rs, σ', h1, h2, h3⟩ := Rc_sound ops.toList 0 [] σ h
  rw [List.nil_append, summ_ok] at h2
  have : runDraw E (cl E (den E)) ops.toList σ = some (.norm, σ') := by
    unfold runDraw
    have h1' : recs E (cl E (den E)).p ops.toList ops.toList 0 none σ = some (rs, none, σ') := h1
    rw [h1']
    unfold okR at h2
    dsimp only
    split
    · rfl
    · rename_i hf; cases hq : rs.all Rec.quiet <;> simp only [hq] at h2 hf <;> first | (cases hf; done) | (rw [h2] at hf; cases hf)
  rw [W_draw this]
  exact h3
theorem Rc_nil {all : List Oper} {acc : List Rec} : Rc E all Q [] acc σ = (okR all acc = true ∧ Q .norm σ) := rfl
theorem Rc_cons {all os : List Oper} {o : Oper} {acc : List Rec} : Rc E all Q (o :: os) acc σ = rwK E o (Rc E all Q os) acc σ (want all σ.sl o) := rfl
variable {dst : Option Nat} {next : List Rec → St → Prop} {acc : List Rec} {v : AV} {rds ids : List Nat} {ups : List (Nat × Option Blk)} {new : Bool} {g : FuncId} {l : List AV} {o : Oper}
theorem reK_val : reK dst next acc σ (some ⟨.val v, rds, ups, new⟩) = next (acc ++ [mk rds (ups.map (·.1))]) ⟨put σ.sl dst v, σ.h.upds ups, if new then σ.nx + 1 else σ.nx⟩ := rfl
theorem reK_skip : reK dst next acc σ (some ⟨.skip, rds, ups, new⟩) = next (acc ++ [mk rds (ups.map (·.1))]) ⟨put σ.sl dst undef, σ.h.upds ups, if new then σ.nx + 1 else σ.nx⟩ := rfl
theorem rcK_ret : rcK dst next acc σ ids (some (.ret v)) = next (acc ++ [mk ids ((freezes σ.h ids).map (·.1))]) ⟨put σ.sl dst v, σ.h.upds (freezes σ.h ids), σ.nx⟩ := rfl
theorem raK_some : raK E dst next acc σ g (some (l, ids)) = rcK dst next acc σ ids (denP E g l) := rfl
theorem rtK_some : rtK E o next acc σ (some (g, l)) = raK E o.dst next acc σ g (mapL (purify deep σ.h) l) := rfl
theorem rtK_none : rtK E o next acc σ none = reK o.dst next acc σ (opEff E σ.h σ.nx σ.sl o.op) := rfl
theorem rwK_t : rwK E o next acc σ (some true) = rtK E o next acc σ (target σ.sl o.op) := rfl
theorem rwK_f : rwK E o next acc σ (some false) = next (acc ++ [mk [] []]) ⟨put σ.sl o.dst undef, σ.h, σ.nx⟩ := rfl
end
end Vm
