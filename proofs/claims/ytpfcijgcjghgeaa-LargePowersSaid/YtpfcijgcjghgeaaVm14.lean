/- The machine over pure values and the model's world: one operation (IX): the builtins and all operations together. (Own work of this repo.) -/
import Derived.Test.YtpfcijgcjghgeaaVm13
set_option linter.unusedVariables false
set_option linter.unusedSimpArgs false
namespace Vm
open Go
section
variable {P : Program} {E : Env} {o : Oper} {a : Act} {C : Cx} {nid : Nat} {sl : List AV}

theorem copy_ok (hE : EOk P E) (h : C.Ok) {ts : TypeId} {us : Array TypeId} {ty : TypeId} {d x : AV} {v w : Value} (hr : Rep C v d) (hrx : Rep C w x) {e : Eff} (he : copyEff E C.H ts d x = some e) (hus : us[0]? = some ts) :
    BOk P C nid (Builtin.copy_ us ty #[v, w]) e := by
  unfold copyEff at he
  split at he <;> try cases he
  rename_i ti ht
  obtain ⟨i, dd, z, F⟩ := tiOf_facts (hE.ty _ _ ht)
  split at he <;> try cases he
  rename_i el hd
  obtain rfl := dOf_slice (hd ▸ F.ad)
  split at he <;> try cases he
  rename_i te cs n rd id off len hte hsrc
  obtain ⟨i3, d3, z3, F3⟩ := tiOf_facts (hE.ty _ _ hte)
  split at he <;> try cases he
  rename_i b hb
  split at he <;> cases he
  rename_i hcb
  obtain ⟨hf, hes, hsz, hcl, hlb⟩ := hcb
  obtain ⟨hlen, hfirst⟩ := src_run (P := P) h hrx hsrc hcl hsz
  obtain ⟨new, hnew, hnews, hnewr⟩ := hfirst (min n len) (Nat.min_le_left _ _)
  obtain ⟨cap, rfl, hcap, _⟩ := rep_ref hr hb
  have hml : min n len * te.size ≤ cs.length := by rw [hcl]; exact Nat.mul_le_mul_right _ (Nat.min_le_left _ _)
  have hmlen : min n len * te.size ≤ len * te.size := Nat.mul_le_mul_right _ (Nat.min_le_right _ _)
  have one : ∀ u ∈ new.toList, u.oneCell' = true := by
    intro u hu
    obtain ⟨j, hj⟩ := List.getElem?_of_mem hu
    have hjl : j < min n len * te.size := by have := (List.getElem?_eq_some_iff.1 hj).1; rw [← hnews]; simpa using this
    obtain ⟨u', hu', _, h1⟩ := hnewr j cs[j] (by rw [List.getElem?_take_of_lt hjl]; exact List.getElem?_eq_getElem (by omega))
    have : u = u' := by simp at hj; rw [hu'] at hj; cases hj; rfl
    rw [this]; exact h1
  obtain ⟨C', hrun, hA⟩ := write_ok (P := P) (nid := nid) (out := .val (.int .i64 ((min n len : Nat) : Int))) (rds := id :: rd) h hb hf (off := off) (vs := new.toList) (xs := cs.take (min n len * te.size)) (by simp [hnews]; omega) (fun j c hj => by obtain ⟨u, hu, r, _⟩ := hnewr j c hj; exact ⟨u, by simpa using hu, r⟩) one (by simp; omega)
  refine ⟨_, goInt ((min n len : Nat) : Int), C', rfl, ?_, hA, .int _ _⟩
  have e2 : (#[Value.slice (some ⟨C.at_ id, off, none⟩) len cap, w] : Array Value)[0]? = some (Value.slice (some ⟨C.at_ id, off, none⟩) len cap) := rfl
  have e3 : (#[Value.slice (some ⟨C.at_ id, off, none⟩) len cap, w] : Array Value)[1]? = some w := rfl
  have em : Nat.min n len = min n len := rfl
  simp only [Builtin.copy_, hus, e2, e3, Sem.run_bind, F.run_und, F3.run_size, Result.andThen_ok, hlen, em, hnew, hrun, Sem.run_pure]

theorem builtin_run {b : Builtin} {ats : Array TypeId} {ty : TypeId} {cons : Array Bool} {args : Array Value} {s : Sem Value} (hb : Go.builtin b ats ty cons args = (do Pure.pure (Next.value (← s)))) {e : Eff} (h : BOk P C nid s e)
    (hx : (execOp a.eval o).run P C.w = (Go.builtin b ats ty cons args).run P C.w) : OpOk P o a C e nid := by
  obtain ⟨x, v, C', hout, hrun, hA, hr⟩ := h
  unfold OpOk
  rw [hout]
  refine ⟨v, C', ?_, hA, hr⟩
  rw [hx, hb]
  simp only [Sem.run_bind, hrun, Result.andThen_ok, Sem.run_pure]

theorem call_ok (hE : EOk P E) (h : C.Ok) (hs : SRel C sl a.tmps) (hn : C.H nid = none) (hB : ¬ C.B nid) {c : Call} (hop : o.op = .call c) {e : Eff} (he : opEff E C.H nid sl o.op = some e) : OpOk P o a C e nid := by
  simp only [hop, opEff] at he
  split at he <;> try cases he
  rename_i b hc
  split at he <;> try cases he
  rename_i l hl
  have hr := evs_rep hs hl
  have hx : (execOp a.eval o).run P C.w = (Go.builtin b c.argTypes o.type (c.args.map fun | .const _ => true | _ => false) (c.args.map a.eval)).run P C.w := by
    simp only [execOp, hop, resolve, hc, Sem.run_bind, Sem.run_pure, Result.andThen_ok, invoke]
    rfl
  have hargs : (c.args.map a.eval).toList = c.args.toList.map a.eval := by simp
  rw [← hargs] at hr
  have arr1 : ∀ {y : AV}, l = [y] → ∃ v, c.args.map a.eval = #[v] ∧ Rep C v y := by
    intro y hy
    subst hy
    have hlen := hr.length
    match hq : c.args.map a.eval, hlen with
    | ⟨[v]⟩, _ => rw [hq] at hr; exact ⟨v, rfl, hr.1⟩
  have arr2 : ∀ {y z : AV}, l = [y, z] → ∃ v w, c.args.map a.eval = #[v, w] ∧ Rep C v y ∧ Rep C w z := by
    intro y z hy
    subst hy
    have hlen := hr.length
    match hq : c.args.map a.eval, hlen with
    | ⟨[v, w]⟩, _ => rw [hq] at hr; exact ⟨v, w, rfl, hr.1, hr.2.1⟩
  have types1 : ∀ {t : TypeId}, c.argTypes.toList = [t] → c.argTypes = #[t] := fun h => by cases hh : c.argTypes; rw [hh] at h; simp at h; rw [h]
  have types2 : ∀ {t u : TypeId}, c.argTypes.toList = [t, u] → c.argTypes = #[t, u] := fun h => by cases hh : c.argTypes; rw [hh] at h; simp at h; rw [h]
  generalize hts : c.argTypes.toList = ts at he
  have he0 := he
  unfold builtinEff at he
  split at he
  · rename_i t x
    obtain ⟨v, hv, hrv⟩ := arr1 rfl
    exact builtin_run (cons := (c.args.map fun | .const _ => true | _ => false)) rfl (len_ok (ty := o.type) hE h hrv he0) (by rw [hx, hv, types1 hts])
  · rename_i t u s x
    obtain ⟨v, w, hv, hrv, hrw⟩ := arr2 rfl
    exact builtin_run (cons := (c.args.map fun | .const _ => true | _ => false)) rfl (append_ok (ty := o.type) hE h hn hB hrv hrw he) (by rw [hx, hv, types2 hts])
  · rename_i t ts d x
    obtain ⟨v, w, hv, hrv, hrw⟩ := arr2 rfl
    exact builtin_run (cons := (c.args.map fun | .const _ => true | _ => false)) rfl (copy_ok (ty := o.type) (us := c.argTypes) hE h hrv hrw he (by rw [← Array.getElem?_toList, hts]; rfl)) (by rw [hx, hv])
  · rename_i k x k' y
    obtain ⟨v, w, hv, hrv, hrw⟩ := arr2 rfl
    obtain rfl := rep_int hrv
    obtain rfl := rep_int hrw
    cases he
    exact builtin_run (cons := (c.args.map fun | .const _ => true | _ => false)) rfl (BOk.pure (v := .int k (if y < x then y else x)) h rfl (.int _ _)) (by rw [hx, hv])
  · rename_i k x k' y
    obtain ⟨v, w, hv, hrv, hrw⟩ := arr2 rfl
    obtain rfl := rep_int hrv
    obtain rfl := rep_int hrw
    cases he
    exact builtin_run (cons := (c.args.map fun | .const _ => true | _ => false)) rfl (BOk.pure (v := .int k (if y > x then y else x)) h rfl (.int _ _)) (by rw [hx, hv])
  · cases he

/-- Every operation that calls no function of the program. -/
theorem op_ok (hE : EOk P E) (h : C.Ok) (hs : SRel C sl a.tmps) (hn : C.H nid = none) (hB : ¬ C.B nid) {e : Eff} (he : opEff E C.H nid sl o.op = some e) : OpOk P o a C e nid := by
  cases hop : o.op with
  | move x => exact move_ok h hs (.inl hop) he
  | assign x => exact move_ok h hs (.inr hop) he
  | pick c x y => exact pick_ok h hs hop he
  | alloc t => exact alloc_ok hE h hn hB hop he
  | box t x => exact box_ok hE h hs hn hB hop he
  | build t ps => exact build_ok hE h hs hop he
  | buildSlice t n ps => exact buildSlice_ok hE h hs hn hB hop he
  | load t x => exact load_ok hE h hs hop he
  | store t x y => exact store_ok hE h hs hop he
  | nilCheck x => exact nilCheck_ok h hs hop he
  | binOp op t x y t' => exact binOp_ok hE h hs hop he
  | unOp op t x => exact unOp_ok h hs hop he
  | convert s t x => exact convert_ok hE h hs hop he
  | makeInterface t x => exact makeInterface_ok hE h hs hop he
  | makeFunc f x y =>
    cases f with
    | func g => exact makeFunc_ok h hs hop he
    | _ => rw [hop] at he; simp [opEff] at he
  | makeSlice t x y => exact makeSlice_ok hE h hs hn hB hop he
  | slice t x lo hi mx => exact slice_ok hE h hs hop he
  | fieldAddr t x f => exact fieldAddr_ok hE h hs hop he
  | field t x f => exact field_ok hE h hs hop he
  | indexAddr t x y => exact indexAddr_ok hE h hs hop he
  | index t x y => exact index_ok hE h hs hop he
  | typeAssert x t u ok => exact typeAssert_ok hE h hs hop he
  | extract x i => exact extract_ok h hs hop he
  | call c => exact call_ok hE h hs hn hB hop he
  | panic x => exact panic_ok h hs hop he
  | _ => rw [hop] at he; simp [opEff] at he
end
end Vm
