/- The machine over pure values and the model's world: one operation (IV). (Own work of this repo.) -/
import Derived.Test.YtpfcijgcjghgeaaVm8
set_option linter.unusedVariables false
set_option linter.unusedSimpArgs false
namespace Vm
open Go
section
variable {P : Program} {E : Env} {o : Oper} {a : Act} {C : Cx} {nid : Nat} {sl : List AV}

theorem rep_imm {v : Value} {cs : List AV} (h : Rep C v (.imm cs)) : ∃ (ad : Addr) (u : Nat → Value), v = .pointer (some ad) ∧ (cs ≠ [] → ad.spot = none ∧ ad.block < C.w.heap.size ∧ ¬ C.wr ad.block) ∧
    (∀ (j : Nat) (c : AV), cs[j]? = some c → C.w.cell? ⟨ad.block, ad.off + j, none⟩ = some (u j)) ∧ (∀ (j : Nat) (c : AV), cs[j]? = some c → Rep C (u j) c) := by
  cases h with | imm ad _ u hm hu hr => exact ⟨ad, u, rfl, hm, hu, hr⟩
theorem rep_lst {v : Value} {xs : List AV} (h : Rep C v (.lst false xs)) : ∃ (ad : Addr) (cap esz : Nat) (u : Nat → Nat → Value), v = .slice (some ad) xs.length cap ∧ xs.length ≤ cap ∧ (∀ x ∈ xs, x.cells.length = esz) ∧
    (xs ≠ [] → ad.spot = none ∧ ad.block < C.w.heap.size ∧ ¬ C.wr ad.block) ∧ (∀ (i : Nat) (x : AV), xs[i]? = some x → ∀ (j : Nat) (c : AV), x.cells[j]? = some c → C.w.cell? ⟨ad.block, ad.off + (i * esz + j), none⟩ = some (u i j)) ∧
    (∀ (i : Nat) (x : AV), xs[i]? = some x → ∀ (j : Nat) (c : AV), x.cells[j]? = some c → Rep C (u i j) c) ∧
    (∀ (i : Nat) (x : AV), xs[i]? = some x → ∀ (j : Nat) (c : AV), x.cells[j]? = some c → (u i j).oneCell' = true) := by
  cases h with | lst ad cap esz _ u hc hz hm hu ho hr => exact ⟨ad, cap, esz, u, rfl, hc, hz, hm, hu, hr, ho⟩
theorem rep_lnil {v : Value} {xs : List AV} (h : Rep C v (.lst true xs)) : v = .slice none 0 0 ∧ xs = [] := by cases h; exact ⟨rfl, rfl⟩
theorem rep_ptrB {v : Value} {id off : Nat} (h : Rep C v (.ptr id off)) : C.B id := by cases h with | ptr _ _ _ _ hB _ => exact hB
theorem rep_refB {v : Value} {id off len : Nat} (h : Rep C v (.ref id off len)) : C.B id := by cases h with | ref _ _ _ _ _ hB _ => exact hB
theorem move_ok (h : C.Ok) (hs : SRel C sl a.tmps) {x : Operand} (hop : o.op = .move x ∨ o.op = .assign x) {e : Eff} (he : opEff E C.H nid sl o.op = some e) : OpOk P o a C e nid := by
  have he' : (ev sl x).map (fun v => (⟨.val v, [], [], false⟩ : Eff)) = some e := by rcases hop with hop | hop <;> simpa only [hop, opEff] using he
  cases hv : ev sl x with
  | none => rw [hv] at he'; cases he'
  | some v =>
    rw [hv] at he'; cases he'
    refine .pure h (v := a.eval x) ?_ (ev_rep hs hv)
    rcases hop with hop | hop <;> simp only [execOp, hop, Sem.run_pure]
theorem pick_ok (h : C.Ok) (hs : SRel C sl a.tmps) {c x y : Operand} (hop : o.op = .pick c x y) {e : Eff} (he : opEff E C.H nid sl o.op = some e) : OpOk P o a C e nid := by
  simp only [hop, opEff] at he
  split at he <;> try cases he
  rename_i t ht
  have hb := rep_bool (ev_rep hs ht)
  cases hv : ev sl (if t then x else y) with
  | none => rw [hv] at he; cases he
  | some v =>
    rw [hv] at he; cases he
    have hr := ev_rep hs hv
    refine .pure h (v := a.eval (if t then x else y)) ?_ hr
    simp only [execOp, hop, hb, asBool, Sem.run_bind, Sem.run_pure, Result.andThen_ok]
    cases t <;> rfl
theorem nilCheck_ok (h : C.Ok) (hs : SRel C sl a.tmps) {x : Operand} (hop : o.op = .nilCheck x) {e : Eff} (he : opEff E C.H nid sl o.op = some e) : OpOk P o a C e nid := by
  simp only [hop, opEff] at he
  split at he <;> try cases he
  · rename_i id off hv
    split at he <;> cases he
    rename_i b hb
    have hr := ev_rep hs hv
    have := rep_ptr hr hb
    refine .pure h (v := a.eval x) ?_ hr
    simp only [execOp, hop, this, Sem.run_pure]
  · rename_i cs hv
    have hr := ev_rep hs hv
    refine .pure h (v := a.eval x) ?_ hr
    cases hx : a.eval x <;> rw [hx] at hr <;> cases hr
    simp only [execOp, hop, hx, Sem.run_pure]
  · rename_i f l m hv
    have hr := ev_rep hs hv
    refine .pure h (v := a.eval x) ?_ hr
    cases hx : a.eval x <;> rw [hx] at hr <;> cases hr
    simp only [execOp, hop, hx, Sem.run_pure]
theorem extract_ok (h : C.Ok) (hs : SRel C sl a.tmps) {x : Operand} {i : Nat} (hop : o.op = .extract x i) {e : Eff} (he : opEff E C.H nid sl o.op = some e) : OpOk P o a C e nid := by
  simp only [hop, opEff] at he
  split at he <;> try cases he
  rename_i vs hv
  split at he <;> cases he
  rename_i v hi
  have hr := ev_rep hs hv
  cases hx : a.eval x <;> rw [hx] at hr <;> cases hr
  rename_i us hsz hrr
  have hil : i < vs.length := (List.getElem?_eq_some_iff.1 hi).1
  have hu : us[i]? = some us[i] := Array.getElem?_eq_getElem (by omega)
  refine .pure h (v := us[i]) ?_ (hrr i _ _ hu hi)
  simp only [execOp, hop, hx, Instr.extract, hu, Sem.run_bind, Sem.run_pure, Result.andThen_ok]
theorem makeInterface_ok (hE : EOk P E) (h : C.Ok) (hs : SRel C sl a.tmps) {t : TypeId} {x : Operand} (hop : o.op = .makeInterface t x) {e : Eff} (he : opEff E C.H nid sl o.op = some e) : OpOk P o a C e nid := by
  simp only [hop, opEff] at he
  split at he <;> try cases he
  rename_i ti v ht hv
  obtain ⟨i, d, z, F⟩ := tiOf_facts (hE.ty _ _ ht)
  split at he <;> try cases he
  rename_i h1 h2
  refine .pure h (v := .iface t (a.eval x)) ?_ (.iface t _ _ (ev_rep hs hv))
  have hd : ∀ ms, d ≠ .interface ms := fun ms e => h1 (by have := F.ad; rw [e] at this; simpa [dOf] using this.symm)
  simp only [execOp, hop, Instr.makeInterface, Sem.run_bind, F.run_und, Result.andThen_ok]
  cases d <;> first | rfl | exact absurd rfl (hd _)
theorem repL_arr {vs : Array Value} {xs : List AV} (h : RepL C vs.toList xs) : vs.size = xs.length ∧ ∀ (j : Nat) (v : Value) (x : AV), vs[j]? = some v → xs[j]? = some x → Rep C v x :=
  ⟨by simpa using h.length, fun j v x hv hx => h.get j v x (by simpa using hv) hx⟩
theorem makeFunc_ok (h : C.Ok) (hs : SRel C sl a.tmps) {f : FuncId} {l m : Array Operand} (hop : o.op = .makeFunc (.func f) l m) {e : Eff} (he : opEff E C.H nid sl o.op = some e) : OpOk P o a C e nid := by
  simp only [hop, opEff] at he
  split at he <;> try cases he
  rename_i x y hx hy
  obtain ⟨h1, r1⟩ := repL_arr (vs := l.map a.eval) (by simpa using evs_rep hs hx)
  obtain ⟨h2, r2⟩ := repL_arr (vs := m.map a.eval) (by simpa using evs_rep hs hy)
  refine .pure h (v := .func (.func f) (l.map a.eval) (m.map a.eval)) ?_ (.fn f _ _ x y h1 h2 r1 r2)
  simp only [execOp, hop, Instr.makeFunc, Sem.run_bind, Sem.run_pure, Result.andThen_ok]
theorem convert_ok (hE : EOk P E) (h : C.Ok) (hs : SRel C sl a.tmps) {s u : TypeId} {x : Operand} (hop : o.op = .convert s u x) {e : Eff} (he : opEff E C.H nid sl o.op = some e) : OpOk P o a C e nid := by
  simp only [hop, opEff] at he
  split at he <;> try cases he
  rename_i tj ti v hs' ht hv
  obtain ⟨i, d, z, F⟩ := tiOf_facts (hE.ty _ _ ht)
  obtain ⟨i', d', z', F'⟩ := tiOf_facts (hE.ty _ _ hs')
  split at he <;> cases he
  rename_i k k' n hd
  obtain rfl := dOf_int (hd ▸ F.ad)
  have hx := rep_int (ev_rep hs hv)
  refine .pure h (v := .int k (k.wrap n)) ?_ (.int _ _)
  simp only [execOp, hop, convert, Sem.run_bind, F.run_und, F'.run_und, Result.andThen_ok, hx, Conv.intToInt, Sem.run_pure]
theorem unOp_ok (h : C.Ok) (hs : SRel C sl a.tmps) {op : UnOp} {t : TypeId} {x : Operand} (hop : o.op = .unOp op t x) {e : Eff} (he : opEff E C.H nid sl o.op = some e) : OpOk P o a C e nid := by
  simp only [hop, opEff] at he
  split at he <;> try cases he
  · rename_i k n hv
    have hx := rep_int (ev_rep hs hv)
    refine .pure h (v := .int k (k.wrap (0 - n))) ?_ (.int _ _)
    simp only [execOp, hop, hx, Op.unary, Op.intArith, Sem.run_bind, Sem.run_pure, Result.andThen_ok]
  · rename_i b hv
    have hx := rep_bool (ev_rep hs hv)
    refine .pure h (v := .bool (!b)) ?_ (.bool _)
    simp only [execOp, hop, hx, Op.unary, Sem.run_bind, Sem.run_pure, Result.andThen_ok]
  · rename_i k n hv
    have hx := rep_int (ev_rep hs hv)
    refine .pure h (v := .int k (k.wrap (BitVec.ofInt k.bits (if k.signed then -1 else k.max) ^^^ BitVec.ofInt k.bits n).toNat)) ?_ (.int _ _)
    simp only [execOp, hop, hx, Op.unary, Op.intBits, Sem.run_bind, Sem.run_pure, Result.andThen_ok]

theorem part_ok (hE : EOk P E) {t : TypeId} {vs : Array Value} {cs : List AV} (hsz : vs.size = cs.length) (hr : ∀ (j : Nat) (v : Value) (x : AV), vs[j]? = some v → cs[j]? = some x → Rep C v x) {off : Nat} {e : Eff} (he : partOf E t cs off = some e) :
    ∃ u y, e = ⟨.val y, [], [], false⟩ ∧ (part t vs off).run P C.w = .ok u C.w ∧ Rep C u y := by
  unfold partOf at he
  split at he <;> try cases he
  rename_i ti ht
  obtain ⟨i, d, z, F⟩ := tiOf_facts (hE.ty _ _ ht)
  split at he
  · rename_i hag
    split at he <;> cases he
    rename_i hlen
    refine ⟨.agg (vs.extract off (off + ti.size)), _, rfl, ?_, .agg _ _ (by simp; omega) fun j v x hv hx => ?_⟩
    · simp only [part, Sem.run_bind, F.run_agg, Result.andThen_ok, hag, if_true, F.run_size, Sem.run_pure]
    · have hj : j < ti.size := by have := (List.getElem?_eq_some_iff.1 hx).1; simp at this; omega
      rw [List.getElem?_take_of_lt hj, List.getElem?_drop] at hx
      have hv' : vs[off + j]? = some v := by
        rw [Array.getElem?_extract] at hv
        split at hv
        · exact hv
        · cases hv
      exact hr _ _ _ hv' hx
  · rename_i hag
    have hag' : ti.agg = false := by simpa using hag
    split at he <;> cases he
    rename_i v hv
    have hl : off < cs.length := (List.getElem?_eq_some_iff.1 hv).1
    have hu : vs[off]? = some vs[off] := Array.getElem?_eq_getElem (by omega)
    refine ⟨vs[off], _, rfl, ?_, hr _ _ _ hu hv⟩
    simp only [part, Sem.run_bind, F.run_agg, Result.andThen_ok, hag', Bool.false_eq_true, if_false, hu, Sem.run_pure]
theorem field_ok (hE : EOk P E) (h : C.Ok) (hs : SRel C sl a.tmps) {t : TypeId} {x : Operand} {f : Nat} (hop : o.op = .field t x f) {e : Eff} (he : opEff E C.H nid sl o.op = some e) : OpOk P o a C e nid := by
  simp only [hop, opEff] at he
  split at he <;> try cases he
  rename_i ti cs ht hv
  obtain ⟨i, d, z, F⟩ := tiOf_facts (hE.ty _ _ ht)
  split at he <;> try cases he
  rename_i fs hd
  obtain ⟨fl, rfl, rfl⟩ := dOf_struct (hd ▸ F.ad)
  split at he <;> try cases he
  rename_i off u hf
  obtain ⟨vs, hx, hsz, hrr⟩ := rep_agg (ev_rep hs hv)
  obtain ⟨v, y, rfl, hrun, hr⟩ := part_ok hE hsz hrr he
  rw [List.getElem?_map] at hf
  cases hfl : fl.toList[f]? with
  | none => rw [hfl] at hf; cases hf
  | some fd =>
    rw [hfl] at hf
    simp only [Option.map_some, Option.some.injEq, Prod.mk.injEq] at hf
    obtain ⟨rfl, rfl⟩ := hf
    refine .pure h (v := v) ?_ hr
    have hfl' : fl[f]? = some fd := by simpa using hfl
    simp only [execOp, hop, Instr.field, Sem.run_bind, F.run_und, Result.andThen_ok, hfl', hx, asAgg, Sem.run_pure, hrun]
theorem fieldAddr_ok (hE : EOk P E) (h : C.Ok) (hs : SRel C sl a.tmps) {t : TypeId} {x : Operand} {f : Nat} (hop : o.op = .fieldAddr t x f) {e : Eff} (he : opEff E C.H nid sl o.op = some e) : OpOk P o a C e nid := by
  simp only [hop, opEff] at he
  split at he <;> try cases he
  rename_i ti v ht hv
  obtain ⟨i, d, z, F⟩ := tiOf_facts (hE.ty _ _ ht)
  split at he <;> try cases he
  rename_i fs hd
  obtain ⟨fl, rfl, rfl⟩ := dOf_struct (hd ▸ F.ad)
  split at he <;> try cases he
  rename_i off u hf
  have hr := ev_rep hs hv
  rw [List.getElem?_map] at hf
  cases hfl : fl.toList[f]? with
  | none => rw [hfl] at hf; cases hf
  | some fd =>
    rw [hfl] at hf
    simp only [Option.map_some, Option.some.injEq, Prod.mk.injEq] at hf
    obtain ⟨rfl, rfl⟩ := hf
    have hfl' : fl[f]? = some fd := by simpa using hfl
    split at he <;> try cases he
    · rename_i tu id o2 hu
      obtain ⟨i', d', z', F'⟩ := tiOf_facts (hE.ty _ _ hu)
      split at he <;> try cases he
      rename_i hz
      split at he <;> cases he
      rename_i b hb
      have hx := rep_ptr hr hb
      refine .pure h (v := .pointer (some ⟨C.at_ id, o2 + fd.offset, none⟩)) ?_ (.ptr _ _ _ rfl (rep_ptrB hr) fun _ _ => rfl)
      simp only [execOp, hop, Instr.fieldAt, Sem.run_bind, F.run_und, Result.andThen_ok, hfl', hx, Instr.sureAddr, Sem.run_pure, fieldPlace, F'.run_size]
      rw [if_neg hz]
      simp only [Sem.run_pure, Result.andThen_ok, addr_add]
    · rename_i tu cs hu
      obtain ⟨i', d', z', F'⟩ := tiOf_facts (hE.ty _ _ hu)
      split at he <;> try cases he
      rename_i hz
      obtain ⟨ad, u', hx, hm, hu', hrr⟩ := rep_imm hr
      have hrun : (execOp a.eval o).run P C.w = .ok (.value (.pointer (some (ad.add fd.offset)))) C.w := by
        simp only [execOp, hop, Instr.fieldAt, Sem.run_bind, F.run_und, Result.andThen_ok, hfl', hx, Instr.sureAddr, Sem.run_pure, fieldPlace, F'.run_size]
        rw [if_neg hz]
        simp only [Sem.run_pure, Result.andThen_ok]
      refine .pure h hrun (.imm (ad.add fd.offset) (cs.drop fd.offset) (fun j => u' (fd.offset + j)) (fun hne => ?_) (fun j c hc => ?_) fun j c hc => ?_)
      · have hne' : cs ≠ [] := by intro e; rw [e] at hne; simp at hne
        obtain ⟨p1, p2, p3⟩ := hm hne'
        unfold Addr.add
        split
        · exact ⟨p1, p2, p3⟩
        · exact ⟨rfl, p2, p3⟩
      · rw [List.getElem?_drop] at hc
        have := hu' _ c hc
        have e1 : (ad.add fd.offset).block = ad.block := by unfold Addr.add; split <;> rfl
        have e2 : (ad.add fd.offset).off = ad.off + fd.offset := by unfold Addr.add; split <;> simp_all
        rw [e1, e2, Nat.add_assoc]
        exact this
      · rw [List.getElem?_drop] at hc
        exact hrr _ c hc
end
end Vm
