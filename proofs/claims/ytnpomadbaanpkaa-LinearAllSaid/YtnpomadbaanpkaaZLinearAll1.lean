/- Part 1 of a proof about this seat: Vm14, Bor0, Vm15, Vm16, Vm17, Vm18, Vm19, VmR, VmD, Vm20. (Own work of this repo.) -/
import Derived.Test.YtnpomadbaanpkaaZLinearAll0
import Derived.Laws.BytesString
import Derived.RangeFuncSeq
import Derived.OrdersIn
import Derived.Orders
import Derived.RangeFuncNested
import Derived.RecoverIn
set_option linter.unusedVariables false
set_option linter.unusedSimpArgs false
/- The machine over pure values and the model's world: one operation (IX): the builtins and all operations together. (Own work of this repo.) -/
namespace Vm
open Go
section
variable {P : Program} {E : Env} {o : Oper} {a : Act} {C : Cx} {nid : Nat} {sl : List AV}

theorem copy_ok (hE : EOk P E) (h : C.Ok) {ts : TypeId} {us : Array TypeId} {ty : TypeId} {d x : AV} {v w : Value} (hr : Rep C v d) (hrx : Rep C w x) {e : Eff} (he : copyEff E C.H ts d x = some e) (hus : us[0]? = some ts) :
    BOk P C nid (Builtin.copy_ us ty #[v, w]) e := by
  unfold copyEff at he
  split at he <;> try cases he
  rename_i ti ht
  obtain ⟨i, dd, z, F⟩ := tiOf_facts (hE.ty _ _ ht)
  split at he <;> try cases he
  rename_i el hd
  obtain rfl := dOf_slice (hd ▸ F.ad)
  split at he <;> try cases he
  rename_i te cs n rd id off len hte hsrc
  obtain ⟨i3, d3, z3, F3⟩ := tiOf_facts (hE.ty _ _ hte)
  split at he <;> try cases he
  rename_i b hb
  split at he <;> cases he
  rename_i hcb
  obtain ⟨hf, hes, hsz, hcl, hlb⟩ := hcb
  obtain ⟨hlen, hfirst⟩ := src_run (P := P) h hrx hsrc hcl hsz
  obtain ⟨new, hnew, hnews, hnewr⟩ := hfirst (min n len) (Nat.min_le_left _ _)
  obtain ⟨cap, rfl, hcap, _⟩ := rep_ref hr hb
  have hml : min n len * te.size ≤ cs.length := by rw [hcl]; exact Nat.mul_le_mul_right _ (Nat.min_le_left _ _)
  have hmlen : min n len * te.size ≤ len * te.size := Nat.mul_le_mul_right _ (Nat.min_le_right _ _)
  have one : ∀ u ∈ new.toList, u.oneCell' = true := by
    intro u hu
    obtain ⟨j, hj⟩ := List.getElem?_of_mem hu
    have hjl : j < min n len * te.size := by have := (List.getElem?_eq_some_iff.1 hj).1; rw [← hnews]; simpa using this
    obtain ⟨u', hu', _, h1⟩ := hnewr j cs[j] (by rw [List.getElem?_take_of_lt hjl]; exact List.getElem?_eq_getElem (by omega))
    have : u = u' := by simp at hj; rw [hu'] at hj; cases hj; rfl
    rw [this]; exact h1
  obtain ⟨C', hrun, hA⟩ := write_ok (P := P) (nid := nid) (out := .val (.int .i64 ((min n len : Nat) : Int))) (rds := id :: rd) h hb (by rw [hes]; exact hsz) hf (off := off) (vs := new.toList) (xs := cs.take (min n len * te.size)) (by simp [hnews]; omega) (fun j c hj => by obtain ⟨u, hu, r, _⟩ := hnewr j c hj; exact ⟨u, by simpa using hu, r⟩) one (by simp; omega)
  refine ⟨_, goInt ((min n len : Nat) : Int), C', rfl, ?_, hA, .int _ _⟩
  have e2 : (#[Value.slice (some ⟨C.at_ id, off, none⟩) len cap, w] : Array Value)[0]? = some (Value.slice (some ⟨C.at_ id, off, none⟩) len cap) := rfl
  have e3 : (#[Value.slice (some ⟨C.at_ id, off, none⟩) len cap, w] : Array Value)[1]? = some w := rfl
  have em : Nat.min n len = min n len := rfl
  simp only [Builtin.copy_, hus, e2, e3, Sem.run_bind, F.run_und, F3.run_size, Result.andThen_ok, hlen, em, hnew, hrun, Sem.run_pure]

theorem builtin_run {b : Builtin} {ats : Array TypeId} {ty : TypeId} {cons : Array Bool} {args : Array Value} {s : Sem Value} (hb : Go.builtin b ats ty cons args = (do Pure.pure (Next.value (← s)))) {e : Eff} (h : BOk P C nid s e)
    (hx : (execOp a.eval o).run P C.w = (Go.builtin b ats ty cons args).run P C.w) : OpOk P o a C e nid := by
  obtain ⟨x, v, C', hout, hrun, hA, hr⟩ := h
  unfold OpOk
  rw [hout]
  refine ⟨v, C', ?_, hA, hr⟩
  rw [hx, hb]
  simp only [Sem.run_bind, hrun, Result.andThen_ok, Sem.run_pure]

theorem call_ok (hE : EOk P E) (h : C.Ok) (hs : SRel C sl a.tmps) (hn : C.H nid = none) (hB : ¬ C.B nid) {c : Call} (hop : o.op = .call c) {e : Eff} (he : opEff E C.H nid sl o.op = some e) : OpOk P o a C e nid := by
  simp only [hop, opEff] at he
  split at he <;> try cases he
  rename_i b hc
  split at he <;> try cases he
  rename_i l hl
  have hr := evs_rep hs hl
  have hx : (execOp a.eval o).run P C.w = (Go.builtin b c.argTypes o.type (c.args.map fun | .const _ => true | _ => false) (c.args.map a.eval)).run P C.w := by
    simp only [execOp, hop, resolve, hc, Sem.run_bind, Sem.run_pure, Result.andThen_ok, invoke]
    rfl
  have hargs : (c.args.map a.eval).toList = c.args.toList.map a.eval := by simp
  rw [← hargs] at hr
  have arr1 : ∀ {y : AV}, l = [y] → ∃ v, c.args.map a.eval = #[v] ∧ Rep C v y := by
    intro y hy
    subst hy
    have hlen := hr.length
    match hq : c.args.map a.eval, hlen with
    | ⟨[v]⟩, _ => rw [hq] at hr; exact ⟨v, rfl, hr.1⟩
  have arr2 : ∀ {y z : AV}, l = [y, z] → ∃ v w, c.args.map a.eval = #[v, w] ∧ Rep C v y ∧ Rep C w z := by
    intro y z hy
    subst hy
    have hlen := hr.length
    match hq : c.args.map a.eval, hlen with
    | ⟨[v, w]⟩, _ => rw [hq] at hr; exact ⟨v, w, rfl, hr.1, hr.2.1⟩
  have types1 : ∀ {t : TypeId}, c.argTypes.toList = [t] → c.argTypes = #[t] := fun h => by cases hh : c.argTypes; rw [hh] at h; simp at h; rw [h]
  have types2 : ∀ {t u : TypeId}, c.argTypes.toList = [t, u] → c.argTypes = #[t, u] := fun h => by cases hh : c.argTypes; rw [hh] at h; simp at h; rw [h]
  generalize hts : c.argTypes.toList = ts at he
  have he0 := he
  unfold builtinEff at he
  split at he
  · rename_i t x
    obtain ⟨v, hv, hrv⟩ := arr1 rfl
    exact builtin_run (cons := (c.args.map fun | .const _ => true | _ => false)) rfl (len_ok (ty := o.type) hE h hrv he0) (by rw [hx, hv, types1 hts])
  · rename_i t u s x
    obtain ⟨v, w, hv, hrv, hrw⟩ := arr2 rfl
    exact builtin_run (cons := (c.args.map fun | .const _ => true | _ => false)) rfl (append_ok (ty := o.type) hE h hn hB hrv hrw he) (by rw [hx, hv, types2 hts])
  · rename_i t ts d x
    obtain ⟨v, w, hv, hrv, hrw⟩ := arr2 rfl
    exact builtin_run (cons := (c.args.map fun | .const _ => true | _ => false)) rfl (copy_ok (ty := o.type) (us := c.argTypes) hE h hrv hrw he (by rw [← Array.getElem?_toList, hts]; rfl)) (by rw [hx, hv])
  · rename_i k x k' y
    obtain ⟨v, w, hv, hrv, hrw⟩ := arr2 rfl
    obtain rfl := rep_int hrv
    obtain rfl := rep_int hrw
    cases he
    exact builtin_run (cons := (c.args.map fun | .const _ => true | _ => false)) rfl (BOk.pure (v := .int k (if y < x then y else x)) h rfl (.int _ _)) (by rw [hx, hv])
  · rename_i k x k' y
    obtain ⟨v, w, hv, hrv, hrw⟩ := arr2 rfl
    obtain rfl := rep_int hrv
    obtain rfl := rep_int hrw
    cases he
    exact builtin_run (cons := (c.args.map fun | .const _ => true | _ => false)) rfl (BOk.pure (v := .int k (if y > x then y else x)) h rfl (.int _ _)) (by rw [hx, hv])
  · cases he

theorem bytes_vals : ∀ (cs : List AV) (bs : List UInt8) (vs : List Value), bytesOf cs = some bs → vs.length = cs.length → (∀ (j : Nat) (c : AV), cs[j]? = some c → ∃ u, vs[j]? = some u ∧ Rep C u c) →
    ∃ ns : List Int, vs = ns.map (Value.int .u8) ∧ bs = ns.map (fun n => UInt8.ofNat n.toNat)
  | [], bs, vs, hb, hl, _ => by
    cases hb
    exact ⟨[], List.length_eq_zero_iff.1 hl, rfl⟩
  | c :: cs, bs, vs, hb, hl, hr => by
    simp only [bytesOf] at hb
    split at hb <;> cases hb
    rename_i b bs' hb1 hb2
    cases vs with
    | nil => simp at hl
    | cons v vs =>
      obtain ⟨ns, h1, h2⟩ := bytes_vals cs bs' vs hb2 (by simpa using hl) (fun j c hc => by simpa using hr (j + 1) c (by simpa using hc))
      obtain ⟨u, hu, hru⟩ := hr 0 c rfl
      simp at hu
      subst hu
      unfold byteOf at hb1
      split at hb1 <;> cases hb1
      rename_i n
      obtain rfl := rep_int hru
      exact ⟨n :: ns, by rw [h1]; rfl, by rw [h2]; rfl⟩
theorem fold_push : ∀ (ns : List Int) (s : ByteArray), ns.foldl (fun r n => r.push (UInt8.ofNat n.toNat)) s = ⟨s.data ++ (ns.map (fun n => UInt8.ofNat n.toNat)).toArray⟩
  | [], s => by simp
  | n :: ns, s => by
    rw [List.foldl_cons, fold_push ns]
    simp [ByteArray.push]
theorem convert_ok (hE : EOk P E) (h : C.Ok) (hs : SRel C sl a.tmps) {s u : TypeId} {x : Operand} (hop : o.op = .convert s u x) {e : Eff} (he : opEff E C.H nid sl o.op = some e) : OpOk P o a C e nid := by
  simp only [hop, opEff] at he
  split at he <;> try cases he
  rename_i tj ti v hs' ht hv
  obtain ⟨i, d, z, F⟩ := tiOf_facts (hE.ty _ _ ht)
  obtain ⟨i', d', z', F'⟩ := tiOf_facts (hE.ty _ _ hs')
  split at he
  · cases he
    rename_i k k' n hd
    obtain rfl := dOf_int (hd ▸ F.ad)
    have hx := rep_int (ev_rep hs hv)
    refine .pure h (v := .int k (k.wrap n)) ?_ (.int _ _)
    simp only [execOp, hop, convert, Sem.run_bind, F.run_und, F'.run_und, Result.andThen_ok, hx, Conv.intToInt, Sem.run_pure]
  · rename_i hd
    obtain rfl := dOf_str (hd ▸ F.ad)
    unfold strEff at he
    split at he
    · cases he
    · rename_i el hd' hns
      obtain rfl := dOf_slice (hd' ▸ F'.ad)
      split at he <;> try cases he
      rename_i te hte
      obtain ⟨i3, d3, z3, F3⟩ := tiOf_facts (hE.ty _ _ hte)
      split at he <;> try cases he
      rename_i hd3
      obtain rfl := dOf_int (hd3 ▸ F3.ad)
      split at he <;> try cases he
      rename_i cs n rd hsrc
      unfold strOf at he
      split at he <;> try cases he
      rename_i hl
      split at he <;> cases he
      rename_i bs hbs
      have hr := ev_rep hs hv
      obtain ⟨hlen, hfirst⟩ := src_run (P := P) h hr hsrc (esz := 1) (by omega) (by decide)
      obtain ⟨vs, hrun, hvs, hrr⟩ := hfirst n (Nat.le_refl _)
      rw [Nat.mul_one] at hvs hrr
      rw [List.take_of_length_le (by omega)] at hrr
      obtain ⟨ns, hns1, hns2⟩ := bytes_vals (C := C) cs bs vs.toList hbs (by simpa [hl] using hvs) (fun j c hc => by
        obtain ⟨u, h1, h2, _⟩ := hrr j c hc
        exact ⟨u, by simpa using h1, h2⟩)
      have hvsn : vs = (ns.map (Value.int .u8)).toArray := by rw [← hns1]
      have hund : (Go.convert s u (a.eval x)).run P C.w = (Conv.bytesToString (a.eval x)).run P C.w := by
        simp only [convert, Sem.run_bind, F.run_und, F'.run_und, Result.andThen_ok]
        generalize hw : a.eval x = w at *
        have hsl : ∃ p l c, w = .slice p l c := by
          cases hr with
          | lnil => exact ⟨_, _, _, rfl⟩
          | lst => exact ⟨_, _, _, rfl⟩
          | ref w id off len h1 hB hh =>
            simp only [srcCells] at hsrc
            split at hsrc <;> try cases hsrc
            rename_i blk hblk
            obtain ⟨cap, h2, _⟩ := hh blk hblk
            exact ⟨_, _, _, h2⟩
          | str s => exact absurd rfl (hns s)
          | _ => simp [srcCells] at hsrc
        obtain ⟨p, l, c, rfl⟩ := hsl
        simp only [Sem.run_bind, F3.run_und, Result.andThen_ok]
      have hsem : (Conv.bytesToString (a.eval x)).run P C.w = .ok (.string ⟨bs.toArray⟩) C.w := by
        generalize hw : a.eval x = w at *
        have key : ∀ (ad : Addr) (l c : Nat), w = .slice (some ad) l c → l = n → (Conv.bytesToString w).run P C.w = .ok (.string ⟨bs.toArray⟩) C.w := by
          rintro ad l c rfl rfl
          have hc : (loadCells ad l).run P C.w = .ok (ns.map (Value.int .u8)).toArray C.w := by
            rw [← hvsn, ← hrun]; simp [Builtin.firstCells]
          rw [run_bytesToString C.w ad l c ns hc, fold_push, hns2, show ByteArray.empty.data = #[] from rfl, Array.empty_append]
        cases hr with
        | lnil =>
          simp only [srcCells, Option.some.injEq, Prod.mk.injEq] at hsrc
          obtain ⟨rfl, rfl, rfl⟩ := hsrc
          cases hbs
          rfl
        | lst ad cap esz xs us hc hz hm hu ho hr' =>
          simp only [srcCells, Option.some.injEq, Prod.mk.injEq] at hsrc
          exact key ad _ _ rfl hsrc.2.1
        | ref w id off len h1 hB hh =>
          simp only [srcCells] at hsrc
          split at hsrc <;> try cases hsrc
          rename_i blk hblk
          split at hsrc <;> cases hsrc
          obtain ⟨cap, h2, _⟩ := hh blk hblk
          exact key _ _ _ h2 rfl
        | str s => exact absurd rfl (hns s)
        | _ => simp [srcCells] at hsrc
      refine .pure h (v := .string ⟨bs.toArray⟩) ?_ (.str _)
      simp only [execOp, hop, Sem.run_bind]
      rw [hund, hsem]
      rfl
    · cases he
  · cases he

/-- Every operation that calls no function of the program. -/
theorem op_ok (hE : EOk P E) (h : C.Ok) (hs : SRel C sl a.tmps) (hn : C.H nid = none) (hB : ¬ C.B nid) {e : Eff} (he : opEff E C.H nid sl o.op = some e) : OpOk P o a C e nid := by
  cases hop : o.op with
  | move x => exact move_ok h hs (.inl hop) he
  | assign x => exact move_ok h hs (.inr hop) he
  | pick c x y => exact pick_ok h hs hop he
  | alloc t => exact alloc_ok hE h hn hB hop he
  | box t x => exact box_ok hE h hs hn hB hop he
  | build t ps => exact build_ok hE h hs hop he
  | buildSlice t n ps => exact buildSlice_ok hE h hs hn hB hop he
  | load t x => exact load_ok hE h hs hop he
  | store t x y => exact store_ok hE h hs hop he
  | nilCheck x => exact nilCheck_ok h hs hop he
  | binOp op t x y t' => exact binOp_ok hE h hs hop he
  | unOp op t x => exact unOp_ok h hs hop he
  | convert s t x => exact convert_ok hE h hs hop he
  | makeInterface t x => exact makeInterface_ok hE h hs hop he
  | makeFunc f x y =>
    cases f with
    | func g => exact makeFunc_ok h hs hop he
    | _ => rw [hop] at he; simp [opEff] at he
  | makeSlice t x y => exact makeSlice_ok hE h hs hn hB hop he
  | slice t x lo hi mx => exact slice_ok hE h hs hop he
  | fieldAddr t x f => exact fieldAddr_ok hE h hs hop he
  | field t x f => exact field_ok hE h hs hop he
  | indexAddr t x y => exact indexAddr_ok hE h hs hop he
  | index t x y => exact index_ok hE h hs hop he
  | typeAssert x t u ok => exact typeAssert_ok hE h hs hop he
  | extract x i => exact extract_ok h hs hop he
  | call c => exact call_ok hE h hs hn hB hop he
  | panic x => exact panic_ok h hs hop he
  | _ => rw [hop] at he; simp [opEff] at he
end
end Vm

/- The machine over pure values: values whose addresses lie in a list of rows; a call that is lent a part of the heap (I). (Own work of this repo.) -/
namespace Vm
open Go

theorem withinL_mem {R : List Nat} : ∀ {l : List AV}, AV.withinL R l = true → ∀ x ∈ l, x.within R = true
  | [], _, _, h => by cases h
  | y :: ys, h, x, hx => by
    simp only [AV.withinL, Bool.and_eq_true] at h
    rcases List.mem_cons.1 hx with rfl | hx
    · exact h.1
    · exact withinL_mem h.2 x hx
mutual
theorem pure_within {R : List Nat} : ∀ (x : AV), x.pure = true → x.within R = true
  | .ref _ _ _, h => by simp [AV.pure] at h
  | .ptr _ _, h => by simp [AV.pure] at h
  | .fn _ a b, h => by simp only [AV.pure, Bool.and_eq_true] at h; simp only [AV.within, Bool.and_eq_true]; exact ⟨pure_withinL a h.1, pure_withinL b h.2⟩
  | .iface _ v, h => by simp only [AV.pure] at h; simp only [AV.within]; exact pure_within v h
  | .agg xs, h => by simp only [AV.pure] at h; simp only [AV.within]; exact pure_withinL xs h
  | .tup xs, h => by simp only [AV.pure] at h; simp only [AV.within]; exact pure_withinL xs h
  | .lst _ xs, h => by simpa [AV.pure, AV.within] using h
  | .imm xs, h => by simpa [AV.pure, AV.within] using h
  | .int _ _, _ => rfl
  | .bool _, _ => rfl
  | .str _, _ => rfl
  | .nilp, _ => rfl
  | .nilf, _ => rfl
  | .nili, _ => rfl
  | .code _ _ _, h => by simp [AV.pure] at h
theorem pure_withinL {R : List Nat} : ∀ (l : List AV), AV.pureL l = true → AV.withinL R l = true
  | [], _ => rfl
  | x :: xs, h => by
    simp only [AV.pureL, Bool.and_eq_true] at h
    simp only [AV.withinL, Bool.and_eq_true]
    exact ⟨pure_within x h.1, pure_withinL xs h.2⟩
end

/-- From one heap to another one, for values whose addresses lie in a list of rows. -/
theorem Rep.inRows {C C' : Cx} (mem : ∀ b, b < C.w.heap.size → ¬ C.wr b → C'.w.heap[b]? = C.w.heap[b]?) (hwr : ∀ b, b < C.w.heap.size → C'.wr b → C.wr b) (size : C.w.heap.size ≤ C'.w.heap.size)
    (R : List Nat) (live : ∀ i ∈ R, ∀ blk', C'.H i = some blk' → ∃ blk, C.H i = some blk ∧ blk.esz = blk'.esz ∧ C'.at_ i = C.at_ i) (born : ∀ i ∈ R, C'.B i)
    (shape : ∀ (b : Nat) (cs : Array Value) (t : TypeId) (fz : Nat × Nat), C.w.heap[b]? = some (Obj.cells cs t fz) → ∃ cs' : Array Value, C'.w.heap[b]? = some (Obj.cells cs' t fz) ∧ cs'.size = cs.size)
    {v : Value} {x : AV} (h : Rep C v x) (hp : x.within R = true) : Rep C' v x := by
  have down : ∀ {v : Value} {x : AV}, Rep C v x → x.pure = true → Rep C' v x := fun h hp => Rep.pureOn mem hwr size h hp
  have pl : ∀ (l : List AV), AV.pureL l = true → ∀ x ∈ l, x.pure = true := by
    intro l
    induction l with
    | nil => intro _ x hx; cases hx
    | cons y ys ih =>
      intro h x hx
      simp only [AV.pureL, Bool.and_eq_true] at h
      rcases List.mem_cons.1 hx with rfl | hx
      · exact h.1
      · exact ih h.2 x hx
  induction h with
  | int k n => exact .int k n
  | bool b => exact .bool b
  | str s => exact .str s
  | lnil => exact .lnil
  | lst a cap esz xs u hc hz hm hu ho hr ih =>
    simp only [AV.within] at hp
    exact down (.lst a cap esz xs u hc hz hm hu ho hr) (by simpa [AV.pure] using hp)
  | ref v id off len h1 hB h =>
    simp only [AV.within, List.contains_eq_mem, decide_eq_true_eq] at hp
    refine .ref v id off len h1 (born _ hp) fun blk' hb' => ?_
    obtain ⟨blk, hb, he, ha⟩ := live id hp blk' hb'
    obtain ⟨cap, hv, hl, cs, t, fz, hh, hs⟩ := h blk hb
    obtain ⟨cs', hh', hs'⟩ := shape _ cs t fz hh
    exact ⟨cap, by rw [ha]; exact hv, hl, cs', t, fz, by rw [ha]; exact hh', by rw [hs', ← he]; exact hs⟩
  | ptr v id off h1 hB h =>
    simp only [AV.within, List.contains_eq_mem, decide_eq_true_eq] at hp
    refine .ptr v id off h1 (born _ hp) fun blk' hb' => ?_
    obtain ⟨blk, hb, he, ha⟩ := live id hp blk' hb'
    rw [ha, ← he]
    exact h blk hb
  | yld L id hB h =>
    simp only [AV.within, AV.withinL, Bool.true_and, Bool.and_true, List.contains_eq_mem, decide_eq_true_eq] at hp
    refine .yld L id (born _ hp) fun blk' hb' => ?_
    obtain ⟨blk, hb, he, ha⟩ := live id hp blk' hb'
    rw [ha, ← he]
    exact h blk hb
  | imm a cs u hm hu hr ih =>
    simp only [AV.within] at hp
    exact down (.imm a cs u hm hu hr) (by simpa [AV.pure] using hp)
  | nilp => exact .nilp
  | fn f fi ca l m hy h1 h2 r1 r2 ih1 ih2 =>
    simp only [AV.within, Bool.and_eq_true] at hp
    exact .fn f fi ca l m hy h1 h2 (fun j v x hv hx => ih1 j v x hv hx (withinL_mem hp.1 x (List.mem_of_getElem? hx))) (fun j v x hv hx => ih2 j v x hv hx (withinL_mem hp.2 x (List.mem_of_getElem? hx)))
  | nilf => exact .nilf
  | iface t v x h ih => exact .iface t v x (ih (by simpa [AV.within] using hp))
  | nili => exact .nili
  | agg vs cs h r ih => exact .agg vs cs h fun j v x hv hx => ih j v x hv hx (withinL_mem (by simpa [AV.within] using hp) x (List.mem_of_getElem? hx))
  | tup vs cs h r ih => exact .tup vs cs h fun j v x hv hx => ih j v x hv hx (withinL_mem (by simpa [AV.within] using hp) x (List.mem_of_getElem? hx))

/-- A part of the heap is lent: the other rows stand outside. -/
def Cx.lend (C : Cx) (R : List Nat) (N : Nat) : Cx := ⟨fun i => if i ∈ R then C.H i else none, C.at_, fun b => C.F b ∨ ∃ i blk, i ∉ R ∧ C.H i = some blk ∧ blk.fz = false ∧ C.at_ i = b, fun i => i < N, C.w⟩
theorem lend_wr {C : Cx} {R : List Nat} {N : Nat} (b : Nat) : (C.lend R N).wr b ↔ C.wr b := by
  constructor
  · rintro ((h | ⟨i, blk, h1, h2, h3, h4⟩) | ⟨i, blk, h1, h2, h3⟩)
    · exact .inl h
    · exact .inr ⟨i, blk, h2, h3, h4⟩
    · simp only [Cx.lend] at h1
      split at h1
      · exact .inr ⟨i, blk, h1, h2, h3⟩
      · cases h1
  · rintro (h | ⟨i, blk, h1, h2, h3⟩)
    · exact .inl (.inl h)
    · by_cases hi : i ∈ R
      · exact .inr ⟨i, blk, by simp only [Cx.lend]; rw [if_pos hi]; exact h1, h2, h3⟩
      · exact .inl (.inr ⟨i, blk, hi, h1, h2, h3⟩)
theorem lend_rep {C : Cx} {R : List Nat} {N : Nat} (hN : ∀ i, C.B i → i < N) {v : Value} {x : AV} (h : Rep C v x) : Rep (C.lend R N) v x := by
  refine Rep.on (C := C) (C' := C.lend R N) (fun _ _ _ => rfl) (fun b _ h => (lend_wr b).1 h) (Nat.le_refl _) True (fun _ i blk' _ hb => ?_) (fun _ i hB => hN i hB) (fun _ b cs t fz h => ⟨cs, h, rfl⟩) h (.inl trivial)
  simp only [Cx.lend] at hb
  split at hb
  · exact ⟨blk', hb, rfl, rfl⟩
  · cases hb
theorem lend_ok {C : Cx} (h : C.Ok) {R : List Nat} {N : Nat} (hN : ∀ i, C.B i → i < N) : (C.lend R N).Ok := by
  have hin : ∀ i b, (C.lend R N).H i = some b → C.H i = some b ∧ i ∈ R := by
    intro i b hb
    simp only [Cx.lend] at hb
    split at hb
    · rename_i hi; exact ⟨hb, hi⟩
    · cases hb
  refine ⟨fun i j bi bj h1 h2 h3 => h.inj i j bi bj (hin i bi h1).1 (hin j bj h2).1 h3, fun i b hb => ?_, fun i b hb => hN i (h.born i b (hin i b hb).1), fun i b hb hz => ?_, fun b hb => ?_, fun i b hb hz => ?_⟩
  · obtain ⟨h1, h2⟩ := hin i b hb
    rintro (hF | ⟨j, blk, g1, g2, _, g4⟩)
    · exact h.nF i b h1 hF
    · have := h.inj j i blk b g2 h1 g4
      subst this
      exact g1 h2
  · obtain ⟨cs, t, g1, g2, g3⟩ := h.blk i b (hin i b hb).1 hz
    refine ⟨cs, t, g1, g2, fun j c hc => ?_⟩
    obtain ⟨v, q1, q2, q3⟩ := g3 j c hc
    exact ⟨v, q1, lend_rep hN q2, q3⟩
  · rcases hb with hF | ⟨j, blk, _, g2, _, g4⟩
    · exact h.Fsz b hF
    · rw [← g4]; exact h.lt g2
  · obtain ⟨s, ps, asg, bd, sl, r, g1, g2, g3, g4, g5, g6, g7, g8, g9⟩ := h.lp i b (hin i b hb).1 hz
    exact ⟨s, ps, asg, bd, sl, r, g1, g2, g3, g4, g5, g6, g7, g8, fun j v x hv hx => lend_rep hN (g9 j v x hv hx)⟩
/-- What was lent comes back. -/
def Cx.back (C C' : Cx) (R : List Nat) : Cx := ⟨fun i => if i ∈ R then C'.H i else C.H i, C.at_, C.F, C.B, C'.w⟩
theorem lend_back {C C' : Cx} (h : C.Ok) {R : List Nat} {N : Nat} (hN : ∀ i, C.B i → i < N) (hR : ∀ i ∈ R, C.B i) (hok : C'.Ok) (hle : (C.lend R N).Le C') (hcl : ∀ i ∈ R, ∀ b, C'.H i = some b → AV.withinL R b.cells = true) :
    (C.back C' R).Ok ∧ C.Le (C.back C' R) ∧ ∀ v x, Rep C' v x → x.within R = true → Rep (C.back C' R) v x := by
  have ownL : ∀ b, (C.lend R N).own b → C.own b := by
    rintro b ⟨i, blk, h1, h2, h3⟩
    simp only [Cx.lend] at h1
    split at h1
    · exact ⟨i, blk, h1, h2, h3⟩
    · cases h1
  have inR : ∀ i ∈ R, ∀ blk', C'.H i = some blk' → ∃ blk, C.H i = some blk ∧ blk.esz = blk'.esz ∧ C'.at_ i = C.at_ i := by
    intro i hi blk' hb
    obtain ⟨blk, g1, g2, g3⟩ := hle.live i blk' (hN i (hR i hi)) hb
    simp only [Cx.lend] at g1 g3
    rw [if_pos hi] at g1
    exact ⟨blk, g1, g2, g3⟩
  have hH : ∀ i b, (C.back C' R).H i = some b → (i ∈ R ∧ C'.H i = some b) ∨ (i ∉ R ∧ C.H i = some b) := by
    intro i b hb
    simp only [Cx.back] at hb
    split at hb
    · rename_i hi; exact .inl ⟨hi, hb⟩
    · rename_i hi; exact .inr ⟨hi, hb⟩
  have some_ : ∀ i b, (C.back C' R).H i = some b → ∃ b', C.H i = some b' ∧ b'.esz = b.esz := by
    intro i b hb
    rcases hH i b hb with ⟨hi, hb⟩ | ⟨hi, hb⟩
    · obtain ⟨b', g1, g2, _⟩ := inR i hi b hb; exact ⟨b', g1, g2⟩
    · exact ⟨b, hb, rfl⟩
  have le : C.Le (C.back C' R) := by
    refine ⟨fun b hb ho => hle.mem b hb fun g => ho (ownL b g), ?_, rfl, ?_, fun i hB => hB, fun b cs t fz hc => hle.shape b cs t fz hc, hle.size, hle.env⟩
    · rintro b hb ⟨i, blk, h1, h2, h3⟩
      rcases hH i blk h1 with ⟨hi, h1⟩ | ⟨hi, h1⟩
      · obtain ⟨b', g1, _, g3⟩ := inR i hi blk h1
        exact ownL b (hle.owns b hb ⟨i, blk, h1, h2, by rw [g3]; exact h3⟩)
      · exact ⟨i, blk, h1, h2, h3⟩
    · intro i blk' _ hb
      obtain ⟨b', g1, g2⟩ := some_ i blk' hb
      exact ⟨b', g1, g2, rfl⟩
  have wr : ∀ b, b < C'.w.heap.size → (C.back C' R).wr b → C'.wr b := by
    rintro b _ (hF | ⟨i, blk, h1, h2, h3⟩)
    · left
      rw [hle.out]
      exact .inl hF
    · rcases hH i blk h1 with ⟨hi, h1⟩ | ⟨hi, h1⟩
      · obtain ⟨b', g1, _, g3⟩ := inR i hi blk h1
        exact .inr ⟨i, blk, h1, h2, by rw [g3]; exact h3⟩
      · left
        rw [hle.out]
        exact .inr ⟨i, blk, hi, h1, h2, h3⟩
  have reps : ∀ v x, Rep C' v x → x.within R = true → Rep (C.back C' R) v x := by
    intro v x hv hx
    refine Rep.inRows (C := C') (C' := C.back C' R) (fun _ _ _ => rfl) wr (Nat.le_refl _) R ?_ (fun i hi => hR i hi) (fun b cs t fz hc => ⟨cs, hc, rfl⟩) hv hx
    intro i hi blk' hb
    simp only [Cx.back] at hb
    rw [if_pos hi] at hb
    obtain ⟨_, _, _, g3⟩ := inR i hi blk' hb
    exact ⟨blk', hb, rfl, g3.symm⟩
  refine ⟨⟨?_, ?_, ?_, ?_, fun b hb => Nat.lt_of_lt_of_le (h.Fsz b hb) hle.size, ?_⟩, le, reps⟩
  · intro i j bi bj h1 h2 h3
    obtain ⟨b1, g1, _⟩ := some_ i bi h1
    obtain ⟨b2, g2, _⟩ := some_ j bj h2
    exact h.inj i j b1 b2 g1 g2 h3
  · intro i b hb
    obtain ⟨b1, g1, _⟩ := some_ i b hb
    exact h.nF i b1 g1
  · intro i b hb
    obtain ⟨b1, g1, _⟩ := some_ i b hb
    exact h.born i b1 g1
  · intro i b hb hz
    rcases hH i b hb with ⟨hi, hb⟩ | ⟨hi, hb⟩
    · obtain ⟨_, _, _, g3⟩ := inR i hi b hb
      obtain ⟨cs, t, q1, q2, q3⟩ := hok.blk i b hb hz
      refine ⟨cs, t, by rw [g3] at q1; exact q1, q2, fun j c hc => ?_⟩
      obtain ⟨v, p1, p2, p3⟩ := q3 j c hc
      exact ⟨v, p1, reps v c p2 (withinL_mem (hcl i hi b hb) c (List.mem_of_getElem? hc)), p3⟩
    · obtain ⟨cs, t, q1, q2, q3⟩ := h.blk i b hb hz
      have hno : ¬ (C.lend R N).own (C.at_ i) := by
        rintro ⟨j, blk, g1, _, g3⟩
        simp only [Cx.lend] at g1 g3
        split at g1
        · rename_i hj
          have := h.inj j i blk b g1 hb g3
          subst this
          exact hi hj
        · cases g1
      refine ⟨cs, t, ?_, q2, fun j c hc => ?_⟩
      · show C'.w.heap[C.at_ i]? = _
        rw [hle.mem _ (h.lt hb) hno]; exact q1
      · obtain ⟨v, p1, p2, p3⟩ := q3 j c hc
        exact ⟨v, p1, p2.le le, p3⟩
  · intro i b hb hz
    rcases hH i b hb with ⟨hi, hb⟩ | ⟨hi, hb⟩
    · exfalso
      obtain ⟨s, ps, asg, bd, sl, r, g1, _⟩ := hok.lp i b hb hz
      have := withinL_mem (hcl i hi b hb) (.code ps asg bd) (by rw [g1]; simp)
      simp [AV.within] at this
    · have hno : ¬ (C.lend R N).own (C.at_ i) := by
        rintro ⟨j, blk, g1, _, g3⟩
        simp only [Cx.lend] at g1 g3
        split at g1
        · rename_i hj
          have := h.inj j i blk b g1 hb g3
          subst this
          exact hi hj
        · cases g1
      exact (h.lp i b hb hz).le le (hle.mem _ (h.lt hb) hno)
end Vm

/- The machine over pure values and the model's world: calls, and a statement whose order is fixed. (Own work of this repo.) -/
namespace Vm
open Go

/-- One entry of a panic. -/
def entry (v : Value) : PanicEntry := { v, recovered := false }
def IsFn (P : Program) (g : FuncId) : Prop := ∃ fn, P.funcs[g]? = some fn ∧ fn.name ≠ "runtime.NumGoroutine" ∧ fn.body.isSome = true
/-- What a call over a heap comes to. -/
def BPost (C : Cx) (r : Res) (H' : Heap) (nx' : Nat) : Ending → World → Prop := fun e w' => ∃ C', C'.w = w' ∧ C'.H = H' ∧ (C'.B = fun i => i < nx') ∧ C'.Ok ∧ C.Le C' ∧ match r with
  | .ret x => ∃ v, e = .returned v ∧ Rep C' v x
  | .panic x => ∃ v, e = .panicked [entry v] ∧ Rep C' v x
/-- A call over a heap: what is asked of it; of a round of a loop over a function, too. -/
structure BodyOk (P : Program) (b : FuncId → List AV → Heap → Nat → Option (Res × Heap × Nat)) : Prop where
  fn : ∀ (f : FuncId) (l : List AV) (H : Heap) (nx : Nat) (r : Res) (H' : Heap) (nx' : Nat), f ≠ 1000003 → b f l H nx = some (r, H', nx') → ∀ (C : Cx) (vs : Array Value), C.H = H → (C.B = fun i => i < nx) → C.Ok → RepL C vs.toList l →
    IsFn P f ∧ Calls P f vs C.w (BPost C r H' nx')
  yl : ∀ (l : List AV) (id : Nat) (H : Heap) (nx : Nat) (r : Res) (H' : Heap) (nx' : Nat), b 1000003 (l ++ [.ref id 0 0]) H nx = some (r, H', nx') → ∀ (C : Cx) (vs : Array Value), C.H = H → (C.B = fun i => i < nx) → C.Ok → RepL C vs.toList l →
    (∃ blk, C.H id = some blk) ∧ YieldAt Fence.wide 0 P (C.at_ id) vs C.w (BPost C r H' nx')
/-- A call over a heap of its own. -/
def PureOk (P : Program) (dp : FuncId → List AV → Option Res) : Prop :=
  ∀ (f : FuncId) (l : List AV) (r : Res), dp f l = some r → ∀ (C : Cx) (vs : Array Value), C.Ok → RepL C vs.toList l → AV.pureL l = true →
    (∃ fn, P.funcs[f]? = some fn ∧ fn.name ≠ "runtime.NumGoroutine" ∧ fn.body.isSome = true) ∧
    Calls P f vs C.w fun e w' => C.Le { C with w := w' } ∧ ({ C with w := w' } : Cx).Ok ∧ match r with
      | .ret x => ∃ v, e = .returned v ∧ Rep { C with w := w' } v x ∧ x.pure = true
      | .panic x => ∃ v, e = .panicked [entry v] ∧ Rep { C with w := w' } v x ∧ x.pure = true

/-- No fence; in a round of a loop over a function ('some') or not. -/
def Fw (ro : Option Nat) : Fence := { fn := fun _ => True, depth := none, alive := false, round := ro }
theorem room_Fw {ro : Option Nat} (n : Nat) : (Fw ro).room n := fun _ h => by simp [Fw] at h
theorem callsFw {P : Program} {ro : Option Nat} {n : Nat} {f : FuncId} {args : Array Value} {w : World} {R : Ending → World → Prop} (h : Calls P f args w R) : CallsIn (Fw ro) n P f args w R := (callsIn_wide (n := n)).2 h
theorem ofCallsFw {P : Program} {ro : Option Nat} {n : Nat} {f : FuncId} {args : Array Value} {w : World} {R : Ending → World → Prop} (h : CallsIn (Fw ro) n P f args w R) : Calls P f args w R := (callsIn_wide (n := n)).1 h
/-- An operation that defers nothing does in a round what it does anywhere. -/
theorem op_in {P : Program} {o : Oper} {a : Act} {w : World} {K : Act → World → Prop} {Q : Exit → Act → World → Prop} (ro : Option Nat) (hd : ∀ c, o.op ≠ .defer c) (h : o.wp P a w K Q) : o.wpIn (Fw ro) 0 P a w K Q := by
  refine ⟨fun _ _ => trivial, ?_⟩
  rw [Oper.semAt_eq _ _ _ hd]
  unfold Oper.wp at h
  have dn : (Fw ro).depth.isSome = true → 1 ≤ 0 := fun h => by simp [Fw] at h
  generalize (execOp a.eval o).run P w = r at *
  cases r with
  | ok n w' =>
    cases n <;> simp only [Oper.upon] at h <;> simp only [Oper.uponIn] <;> first
      | exact ⟨dn, callsFw h⟩
      | exact ⟨dn, fun c cs _ => let ⟨v, w2, r, s⟩ := h c cs; ⟨v, w2, r, stepsIn_wide.2 s⟩⟩
      | exact h.elim
      | exact h
  | halt x w' => cases x <;> simp only [Oper.upon] at h <;> simp only [Oper.uponIn] <;> first | exact h | exact h.elim
theorem wpOpsIn_mono {P : Program} {F : Fence} {n : Nat} {ops : Array Oper} {Q Q' : Exit → Act → World → Prop} (hq : ∀ e a w, Q e a w → Q' e a w) : ∀ (l : List Nat) (a : Act) (w : World), wpOpsIn F n P ops Q l a w → wpOpsIn F n P ops Q' l a w
  | [], a, w, h => hq _ _ _ h
  | i :: rest, a, w, h => by
    simp only [wpOpsIn] at h ⊢
    have lo : LetsOut Q → LetsOut Q' := fun ⟨a', w', h'⟩ => ⟨a', w', hq _ _ _ h'⟩
    split
    · rename_i hn; simp only [hn] at h; exact wpOpsIn_mono hq rest a w h
    · rename_i o ho
      simp only [ho] at h
      split
      · rename_i hw
        rw [if_pos hw] at h
        obtain ⟨h1, h⟩ := h
        refine ⟨h1, ?_⟩
        generalize (o.semAt F.round a.eval).run P w = r at *
        cases r with
        | ok nx w' =>
          cases nx <;> simp only [Oper.uponIn] at h ⊢ <;> first
            | exact wpOpsIn_mono hq rest _ _ h
            | exact ⟨h.1, h.2.mono (fun _ _ he => wpOpsIn_mono hq rest _ _ he)⟩
            | exact ⟨h.1, h.2.mono (fun e w'' he => by
                cases e with
                | returned v => exact wpOpsIn_mono hq rest _ _ he
                | panicked c => exact hq _ _ _ he
                | outgrown => exact lo he)⟩
            | exact h
        | halt x w' => cases x <;> simp only [Oper.uponIn] at h ⊢ <;> first | exact hq _ _ _ h | exact h
      · rename_i hw
        rw [if_neg hw] at h
        exact ⟨h.1, wpOpsIn_mono hq rest _ _ h.2⟩

section
variable {P : Program} {E : Env} {o : Oper} {a : Act} {C : Cx} {nid : Nat} {sl : List AV}

/-- What a call's operation does in the model. -/
theorem target_run (hs : SRel C sl a.tmps) {g : FuncId} {l : List AV} (ht : target sl o.op = some (g, l)) :
    (g ≠ 1000003 ∧ ∃ vs : Array Value, RepL C vs.toList l ∧ (IsFn P g → (execOp a.eval o).run P C.w = .ok (.enter g vs) C.w)) ∨
    (g = 1000003 ∧ ∃ (l0 : List AV) (id L : Nat) (vs : Array Value), l = l0 ++ [.ref id 0 0] ∧ RepL C vs.toList l0 ∧ (∀ blk, C.H id = some blk → L = C.at_ id ∧ blk.esz = 0) ∧ (execOp a.eval o).run P C.w = (Instr.yield L vs).run P C.w) := by
  unfold target at ht
  split at ht <;> try cases ht
  rename_i c hop
  split at ht <;> try cases ht
  rename_i f hc
  split at ht <;> cases ht
  rename_i x y z hl hf'
  have hr := ev_rep hs hf'
  have hrl := evs_rep hs hl
  cases hx : a.eval f <;> rw [hx] at hr <;> cases hr
  · rename_i fi ca hy h1 r1 h2 r2
    refine .inl ⟨hy, fi ++ c.args.map a.eval ++ ca, ?_, ?_⟩
    · simp only [Array.toList_append, Array.toList_map]
      refine RepL.app (RepL.app (RepL.of_get (by simpa using h1) fun j v x hv hx => r1 j v x (by simpa using hv) hx) hrl) (RepL.of_get (by simpa using h2) fun j v x hv hx => r2 j v x (by simpa using hv) hx)
    · rintro ⟨fn, q1, q2, q3⟩
      have hn : fn.body.isNone = false := by cases hb : fn.body <;> simp_all
      have hq : (fn.name == "runtime.NumGoroutine") = false := by simpa using q2
      simp only [execOp, hop, resolve, hc, hx, Deferred.ofValue, Sem.run_bind, Sem.run_pure, Result.andThen_ok, invoke, callFunc, run_program, q1, hq, hn, Bool.false_eq_true, if_false]
  · rename_i L id hB h
    refine .inr ⟨rfl, z, id, L, c.args.map a.eval, by simp, by simpa using hrl, h, ?_⟩
    simp [execOp, hop, resolve, hc, hx, Deferred.ofValue, Sem.run_bind, Sem.run_pure, Result.andThen_ok, invoke]

/-- A call over a heap of its own, as an operation. -/
theorem pcall_ok {dp : FuncId → List AV → Option Res} (hp : PureOk P dp) (h : C.Ok) (hs : SRel C sl a.tmps) {g : FuncId} {l : List AV} (ht : target sl o.op = some (g, l)) {e : Eff} (he : pcallEff dp C.H g l = some e)
    {K : Act → World → Prop} {Q : Exit → Act → World → Prop}
    (hK : ∀ v x C', e.out = .val x → After C e nid C' → Rep C' v x → K (a.put o.dst v) C'.w) (hQ : ∀ v x C', e.out = .panic x → After C e nid C' → Rep C' v x → Q (.panic [entry v]) a C'.w) :
    o.wp P a C.w K Q := by
  unfold pcallEff at he
  split at he <;> try cases he
  rename_i l' ids hl
  rcases target_run (P := P) hs ht with ⟨_, vs, hrl, hrun⟩ | ⟨_, l0, id, L, vs, rfl, _, hblk, _⟩
  case inr =>
    exfalso
    obtain ⟨hlen, hg⟩ := mapL_get hl
    have hj : l0.length < l'.length := by rw [← hlen]; simp
    obtain ⟨is, h1, _⟩ := hg l0.length (.ref id 0 0) l'[l0.length] (by simp) (List.getElem?_eq_getElem hj)
    have : purify deep C.H (.ref id 0 0) = none := by
      simp only [deep, purify]
      cases hb : C.H id with
      | none => rfl
      | some blk => dsimp only; rw [if_neg (fun h => h.2.1 (hblk blk hb).2)]
    rw [this] at h1
    cases h1
  obtain ⟨r1, r2⟩ := purifyL_sound h hl hrl
  have hfr := h.freeze ids
  have key : ∀ r, dp g l' = some r → (execOp a.eval o).run P C.w = .ok (.enter g vs) C.w ∧ Calls P g vs C.w fun e w' => (C.fr ids).Le { C.fr ids with w := w' } ∧ ({ C.fr ids with w := w' } : Cx).Ok ∧ match r with
      | .ret x => ∃ v, e = .returned v ∧ Rep { C.fr ids with w := w' } v x ∧ x.pure = true
      | .panic x => ∃ v, e = .panicked [entry v] ∧ Rep { C.fr ids with w := w' } v x ∧ x.pure = true := fun r hr => by
    obtain ⟨q1, q2⟩ := hp g l' r hr (C.fr ids) vs hfr.2 r1 r2
    exact ⟨hrun q1, q2⟩
  split at he <;> cases he
  · rename_i x hd
    obtain ⟨hrun, hcall⟩ := key _ hd
    unfold Oper.wp
    rw [hrun]
    refine Calls.mono hcall ?_
    rintro e' w' ⟨le, ok, v, rfl, hr, _⟩
    exact hK v x { C.fr ids with w := w' } rfl ⟨rfl, by funext i; simp [Cx.fr], ok, hfr.1.trans le⟩ hr
  · rename_i x hd
    obtain ⟨hrun, hcall⟩ := key _ hd
    unfold Oper.wp
    rw [hrun]
    refine Calls.mono hcall ?_
    rintro e' w' ⟨le, ok, v, rfl, hr, _⟩
    exact hQ v x { C.fr ids with w := w' } rfl ⟨rfl, by funext i; simp [Cx.fr], ok, hfr.1.trans le⟩ hr

/-- Everything frozen. -/
def Cx.frA (C : Cx) : Cx := { C with H := fun i => (C.H i).map fun b => { b with fz := true } }
theorem Cx.Ok.freezeAll {C : Cx} (h : C.Ok) : C.Le C.frA ∧ C.frA.Ok := by
  have lv : ∀ i b', C.frA.H i = some b' → ∃ b, C.H i = some b ∧ b.esz = b'.esz ∧ b.cells = b'.cells ∧ (b'.fz = false → b.fz = false) := by
    intro i b' hi
    have hi : (C.H i).map (fun b => ({ b with fz := true } : Blk)) = some b' := hi
    cases hH : C.H i with
    | none => simp [hH] at hi
    | some b => simp [hH] at hi; subst hi; exact ⟨b, rfl, rfl, rfl, fun h => by simp at h⟩
  have l : C.Le C.frA := by
    refine ⟨fun _ _ _ => rfl, fun b hb hm => ?_, rfl, fun i b' _ hb => ?_, fun _ hB => hB, fun b cs t fz hb => ⟨cs, hb, rfl⟩, Nat.le_refl _, rfl, rfl, rfl⟩
    · obtain ⟨i, b', h1, h2, h3⟩ := hm
      obtain ⟨b0, h4, _, _, h5⟩ := lv i b' h1
      exact ⟨i, b0, h4, h5 h2, h3⟩
    · obtain ⟨b0, h4, h5, _⟩ := lv i b' hb
      exact ⟨b0, h4, h5, rfl⟩
  refine ⟨l, fun i j bi bj hi hj he => ?_, fun i b hi => ?_, fun i b hi => ?_, fun i b hi hbz => ?_, h.Fsz, fun i b hi hbz => ?_⟩
  · obtain ⟨b0, h4, _⟩ := lv i bi hi
    obtain ⟨b1, h5, _⟩ := lv j bj hj
    exact h.inj i j _ _ h4 h5 he
  · obtain ⟨b0, h4, _⟩ := lv i b hi
    exact h.nF i b0 h4
  · obtain ⟨b0, h4, _⟩ := lv i b hi
    exact h.born i b0 h4
  · obtain ⟨b0, h4, h6, h5, _⟩ := lv i b hi
    obtain ⟨cs, t, h1, h2, h3⟩ := h.blk i b0 h4 (by rw [h6]; exact hbz)
    rw [h5] at h2 h3
    exact ⟨cs, t, h1, h2, fun j c hc => let ⟨v, hv, hr, h1⟩ := h3 j c hc; ⟨v, hv, hr.le l, h1⟩⟩
  · obtain ⟨b0, h4, h6, h5, _⟩ := lv i b hi
    exact ((h.lp i b0 h4 (by rw [h6]; exact hbz)).le l rfl).cells h5.symm
theorem Cx.frA_own {C : Cx} (b : Nat) : ¬ C.frA.own b := by
  rintro ⟨i, blk, h1, h2, _⟩
  have h1 : (C.H i).map (fun b => ({ b with fz := true } : Blk)) = some blk := h1
  cases hH : C.H i with
  | none => simp [hH] at h1
  | some b0 => simp [hH] at h1; subst h1; simp at h2
theorem Cx.fr_frA {C : Cx} (h : C.Ok) (ids : List Nat) : (C.fr ids).Le C.frA := by
  refine ⟨fun _ _ _ => rfl, fun b _ hm => absurd hm (Cx.frA_own b), rfl, fun i b' _ hb => ?_, fun _ hB => hB, fun b cs t fz hb => ⟨cs, hb, rfl⟩, Nat.le_refl _, rfl, rfl, rfl⟩
  have hb : (C.H i).map (fun b => ({ b with fz := true } : Blk)) = some b' := hb
  cases hH : C.H i with
  | none => simp [hH] at hb
  | some b0 =>
    simp [hH] at hb
    subst hb
    have e : (C.fr ids).H i = C.H i ∨ (C.fr ids).H i = (C.H i).map fun b => { b with fz := true } := freezes_get C.H ids C.H i fun j => .inl rfl
    rw [hH] at e
    rcases e with e | e
    · exact ⟨_, e, rfl, rfl⟩
    · exact ⟨_, e, rfl, rfl⟩
/-- A call that panics with a plain value, in a statement that leaves its order open. -/
theorem pcall_mild {dp : FuncId → List AV → Option Res} (hp : PureOk P dp) (h : C.Ok) (hs : SRel C sl a.tmps) {g : FuncId} {l : List AV} (ht : target sl o.op = some (g, l)) {e : Eff} (he : (pcallEff dp C.H g l).map mild = some e)
    {K : Act → World → Prop} {Q : Exit → Act → World → Prop}
    (hK : ∀ v x C', e.out = .val x → After C e nid C' → Rep C' v x → K (a.put o.dst v) C'.w) (hQ : ∀ v x C', e.out = .panic x → After C e nid C' → Rep C' v x → Q (.panic [entry v]) a C'.w) :
    o.wp P a C.w K Q := by
  cases hpe : pcallEff dp C.H g l with
  | none => rw [hpe] at he; cases he
  | some e0 =>
    rw [hpe] at he
    obtain rfl : mild e0 = e := by simpa using he
    clear he
    cases ho : e0.out with
    | val x =>
      have hm : mild e0 = e0 := by unfold mild; rw [ho]
      rw [hm] at hK hQ
      exact pcall_ok (nid := nid) hp h hs ht hpe hK hQ
    | skip =>
      have hm : mild e0 = e0 := by unfold mild; rw [ho]
      rw [hm] at hK hQ
      exact pcall_ok (nid := nid) hp h hs ht hpe hK hQ
    | panic x =>
      cases hx : sameP x x with
      | false =>
        have hm : mild e0 = e0 := by obtain ⟨o0, rd, up, nw⟩ := e0; dsimp only at ho; subst ho; unfold mild; dsimp only; rw [hx]; rfl
        rw [hm] at hK hQ
        exact pcall_ok (nid := nid) hp h hs ht hpe hK hQ
      | true =>
        have hm : mild e0 = { e0 with ups := [] } := by unfold mild; rw [ho]; dsimp only; rw [if_pos hx]
        rw [hm] at hK hQ
        obtain ⟨t, k, n, rfl⟩ : ∃ t k n, x = .iface t (.int k n) := by
          unfold sameP at hx
          split at hx
          · exact ⟨_, _, _, rfl⟩
          · cases hx
        unfold pcallEff at hpe
        split at hpe <;> try cases hpe
        rename_i l' ids hl
        rcases target_run (P := P) hs ht with ⟨_, vs, hrl, hrun⟩ | ⟨_, l0, id, L, vs, rfl, _, hblk, _⟩
        case inr =>
          exfalso
          obtain ⟨hlen, hg⟩ := mapL_get hl
          have hj : l0.length < l'.length := by rw [← hlen]; simp
          obtain ⟨is, h1, _⟩ := hg l0.length (.ref id 0 0) l'[l0.length] (by simp) (List.getElem?_eq_getElem hj)
          have : purify deep C.H (.ref id 0 0) = none := by
            simp only [deep, purify]
            cases hb : C.H id with
            | none => rfl
            | some blk => dsimp only; rw [if_neg (fun h => h.2.1 (hblk blk hb).2)]
          rw [this] at h1
          cases h1
        obtain ⟨r1, r2⟩ := purifyL_sound h hl hrl
        have hfr := h.freezeAll
        have r1' : RepL C.frA vs.toList l' := RepL.of_get r1.length fun j v x hv hx => (r1.get j v x hv hx).le (Cx.fr_frA h ids)
        split at hpe <;> cases hpe
        · cases ho
        rename_i x hd
        simp only [Out.panic.injEq] at ho
        subst ho
        obtain ⟨q1, q2⟩ := hp g l' _ hd C.frA vs hfr.2 r1' r2
        unfold Oper.wp
        rw [hrun q1]
        refine Calls.mono q2 ?_
        rintro e' w' ⟨le, ok, v, rfl, hr, _⟩
        have hmem : ∀ b, b < C.w.heap.size → w'.heap[b]? = C.w.heap[b]? := fun b hb => le.mem b hb (Cx.frA_own b)
        have hle : C.Le { C with w := w' } := ⟨fun b hb _ => hmem b hb, fun _ _ h => h, rfl, fun i b _ hb => ⟨b, hb, rfl, rfl⟩, fun _ h => h, le.shape, le.size, le.env⟩
        have hok : ({ C with w := w' } : Cx).Ok := by
          refine ⟨h.inj, h.nF, h.born, fun i b hi hbz => ?_, fun b hb => Nat.lt_of_lt_of_le (h.Fsz b hb) le.size, fun i b hi hbz => ?_⟩
          · obtain ⟨cs, t, h1, h2, h3⟩ := h.blk i b hi hbz
            exact ⟨cs, t, (hmem _ (h.lt hi)).trans h1, h2, fun j c hc => let ⟨v, hv, hr, h1⟩ := h3 j c hc; ⟨v, hv, hr.le hle, h1⟩⟩
          · exact (h.lp i b hi hbz).le hle (hmem _ (h.lt hi))
        have hrep : Rep { C with w := w' } v (.iface t (.int k n)) := by
          cases hr with
          | iface _ v' _ h' => cases h' with
            | int _ _ => exact .iface _ _ _ (.int _ _)
        exact hQ v _ { C with w := w' } rfl ⟨rfl, by funext i; simp, hok, hle⟩ hrep

/-- What is asked of the effects of calls; rows from N on are free. -/
def CallOk (P : Program) (N : Nat) (ce : Heap → FuncId → List AV → Option Eff) : Prop :=
  ∀ {o : Oper} {a : Act} {C : Cx} {sl : List AV} {nid : Nat} {g : FuncId} {l : List AV} {e : Eff} {K : Act → World → Prop} {Q : Exit → Act → World → Prop}, C.Ok → SRel C sl a.tmps → (∀ i, C.B i → i < N) → target sl o.op = some (g, l) → ce C.H g l = some e →
    (∀ v x C', e.out = .val x → After C e nid C' → Rep C' v x → K (a.put o.dst v) C'.w) → (∀ v x C', e.out = .panic x → After C e nid C' → Rep C' v x → Q (.panic [entry v]) a C'.w) → o.wp P a C.w K Q
theorem lendUps_apply {H H' : Heap} {R : List Nat} : H.upds (lendUps H H' R) = fun i => if i ∈ R then H' i else H i := by
  have key : ∀ (u : List Nat) (G : Heap), G.upds (u.map fun i => (i, H' i)) = fun i => if i ∈ u then H' i else G i := by
    intro u
    induction u with
    | nil => intro G; funext i; simp [Heap.upds]
    | cons k u ih =>
      intro G
      simp only [List.map_cons, Heap.upds]
      rw [ih]
      funext i
      by_cases h1 : i ∈ u
      · rw [if_pos h1, if_pos (List.mem_cons_of_mem _ h1)]
      · rw [if_neg h1]
        by_cases h2 : i = k
        · subst h2; rw [Heap.upd_same, if_pos List.mem_cons_self]
        · rw [Heap.upd_ne _ _ h2, if_neg (by simp [h1, h2])]
  exact key R H
theorem lcall_ok {co : FuncId → List AV → Heap → Nat → Option (Res × Heap × Nat)} (hb : BodyOk P co) {N : Nat} {o : Oper} {a : Act} {C : Cx} {sl : List AV} {nid : Nat} {g : FuncId} {l : List AV} {e : Eff} {K : Act → World → Prop} {Q : Exit → Act → World → Prop}
    (h : C.Ok) (hs : SRel C sl a.tmps) (hN : ∀ i, C.B i → i < N) (ht : target sl o.op = some (g, l)) (hy : g ≠ 1000003) (he : lendEff co C.H N g l = some e)
    (hK : ∀ v x C', e.out = .val x → After C e nid C' → Rep C' v x → K (a.put o.dst v) C'.w) (hQ : ∀ v x C', e.out = .panic x → After C e nid C' → Rep C' v x → Q (.panic [entry v]) a C'.w) : o.wp P a C.w K Q := by
  obtain ⟨_, vs, hrl, hrun⟩ := (target_run (P := P) hs ht).resolve_right (fun h => hy h.1)
  simp only [lendEff] at he
  split at he <;> try cases he
  rename_i v H' n' hco
  split at he <;> cases he
  rename_i hcond
  simp only [Bool.and_eq_true, lendOk] at hcond
  obtain ⟨hpure, hback⟩ := hcond
  generalize reach C.H 3 l = R at *
  have hR : ∀ i ∈ R, C.B i := by
    intro i hi
    have := List.all_eq_true.1 hback i hi
    simp only [Bool.and_eq_true, Option.isSome_iff_exists] at this
    obtain ⟨⟨b, hb⟩, _⟩ := this
    exact h.born i b hb
  have hrl' : RepL (C.lend R N) vs.toList l := RepL.of_get hrl.length fun j v x hv hx => lend_rep hN (hrl.get j v x hv hx)
  obtain ⟨q1, q2⟩ := hb.fn g l _ _ _ _ _ hy hco (C.lend R N) vs rfl rfl (lend_ok h hN) hrl'
  unfold Oper.wp
  rw [hrun q1]
  refine Calls.mono q2 ?_
  rintro e' w' ⟨C', rfl, g1, g2, g3, g4, u, rfl, hu⟩
  have hcl : ∀ i ∈ R, ∀ b, C'.H i = some b → AV.withinL R b.cells = true := by
    intro i hi b hb'
    have := List.all_eq_true.1 hback i hi
    simp only [Bool.and_eq_true] at this
    rw [g1] at hb'
    have h2 := this.2
    rw [hb'] at h2
    exact h2
  obtain ⟨b1, b2, b3⟩ := lend_back h hN hR g3 g4 hcl
  refine hK u v (C.back C' R) rfl ⟨?_, by funext i; simp [Cx.back], b1, b2⟩ (b3 u v hu (pure_within v hpure))
  rw [lendUps_apply]
  simp only [Cx.back, g1]
theorem pure_eff {dp : FuncId → List AV → Option Res} (hp : PureOk P dp) {N : Nat} : CallOk P N (pcallEff dp) := by
  intro o a C sl nid g l e K Q h hs _ ht he hK hQ
  exact pcall_ok (nid := nid) hp h hs ht he hK hQ
theorem eff_ok {Cc : Cl} (hp : PureOk P Cc.p) (hb : BodyOk P Cc.o) {N : Nat} : CallOk P N (callEff E Cc N) := by
  intro o a C sl nid g l e K Q h hs hN ht he hK hQ
  unfold callEff at he
  split at he
  · rename_i hc
    simp only [Bool.and_eq_true, bne_iff_ne] at hc
    exact lcall_ok hb (nid := nid) h hs hN ht hc.2 he hK hQ
  · exact pcall_mild (nid := nid) hp h hs ht he hK hQ
/-- Any operation whose effect is told, in the model's own words. -/
theorem any_wp (hE : EOk P E) {N : Nat} {dp : Heap → FuncId → List AV → Option Eff} (hp : CallOk P N dp) (h : C.Ok) (hs : SRel C sl a.tmps) (hN : ∀ i, C.B i → i < N) (hn : C.H nid = none) (hB : ¬ C.B nid) {e : Eff} (he : anyEff E dp C.H nid sl o.op = some e)
    {K : Act → World → Prop} {Q : Exit → Act → World → Prop}
    (hK : ∀ v x C', (e.out = .val x ∨ (e.out = .skip ∧ v = Go.undef ∧ x = undef)) → After C e nid C' → Rep C' v x → K (a.put o.dst v) C'.w)
    (hQ : ∀ v x C', e.out = .panic x → After C e nid C' → Rep C' v x → Q (.panic [entry v]) a C'.w) : o.wp P a C.w K Q := by
  unfold anyEff at he
  split at he
  · rename_i g l ht
    exact hp (nid := nid) h hs hN ht he (fun v x C' ho => hK v x C' (.inl ho)) hQ
  · have := op_ok hE h hs hn hB he
    unfold OpOk at this
    unfold Oper.wp
    split at this
    · rename_i x hout
      obtain ⟨v, C', hrun, hA, hr⟩ := this
      rw [hrun]
      exact hK v x C' (.inl hout) hA hr
    · rename_i hout
      obtain ⟨C', hrun, hA⟩ := this
      rw [hrun]
      exact hK Go.undef undef C' (.inr ⟨hout, rfl, rfl⟩) hA (rep_undef _)
    · rename_i x hout
      obtain ⟨v, hrun, hr, hu, hnw⟩ := this
      rw [hrun]
      have hA : After C e nid C := by
        obtain ⟨out, rds, ups, new⟩ := e
        simp only at hu hnw
        subst hu hnw
        exact .same h
      exact hQ v x C hout hA hr

/-! #### regions in the order of the text -/
/-- What a piece of code comes to. -/
def ExRel (C : Cx) (a0 : Act) (r : Ex × St) : Exit → Act → World → Prop := fun e a w => ∃ C', C'.w = w ∧ C'.H = r.2.h ∧ (C'.B = fun i => i < r.2.nx) ∧ C'.Ok ∧ C.Le C' ∧ a.defers = a0.defers ∧
  match r.1 with
  | .norm => e = .normal ∧ SRel C' r.2.sl a.tmps
  | .exit i => e = .exit i ∧ SRel C' r.2.sl a.tmps
  | .ret => e = .ret ∧ SRel C' r.2.sl a.tmps
  | .panic x => ∃ v, e = .panic [entry v] ∧ Rep C' v x
theorem ExRel.le {C C1 : Cx} {a0 a1 : Act} (h : C.Le C1) (hd : a1.defers = a0.defers) {r : Ex × St} {e : Exit} {a : Act} {w : World} (g : ExRel C1 a1 r e a w) : ExRel C a0 r e a w := by
  obtain ⟨C', h1, h2, h3, h4, h5, h6, h7⟩ := g
  exact ⟨C', h1, h2, h3, h4, h.trans h5, h6.trans hd, h7⟩

/-- The same, where a panic keeps the slots. -/
def ExRelS (C : Cx) (a0 : Act) (r : Ex × St) : Exit → Act → World → Prop := fun e a w => ∃ C', C'.w = w ∧ C'.H = r.2.h ∧ (C'.B = fun i => i < r.2.nx) ∧ C'.Ok ∧ C.Le C' ∧ a.defers = a0.defers ∧
  match r.1 with
  | .norm => e = .normal ∧ SRel C' r.2.sl a.tmps
  | .exit i => e = .exit i ∧ SRel C' r.2.sl a.tmps
  | .ret => e = .ret ∧ SRel C' r.2.sl a.tmps
  | .panic x => ∃ v, e = .panic [entry v] ∧ Rep C' v x ∧ SRel C' r.2.sl a.tmps
theorem ExRelS.le {C C1 : Cx} {a0 a1 : Act} (h : C.Le C1) (hd : a1.defers = a0.defers) {r : Ex × St} {e : Exit} {a : Act} {w : World} (g : ExRelS C1 a1 r e a w) : ExRelS C a0 r e a w := by
  obtain ⟨C', h1, h2, h3, h4, h5, h6, h7⟩ := g
  exact ⟨C', h1, h2, h3, h4, h.trans h5, h6.trans hd, h7⟩
theorem ExRelS.weak {C : Cx} {a0 : Act} {r : Ex × St} {e : Exit} {a : Act} {w : World} (g : ExRelS C a0 r e a w) : ExRel C a0 r e a w := by
  obtain ⟨C', h1, h2, h3, h4, h5, h6, h7⟩ := g
  refine ⟨C', h1, h2, h3, h4, h5, h6, ?_⟩
  obtain ⟨ex, σ⟩ := r
  cases ex with
  | panic x => obtain ⟨v, h8, h9, _⟩ := h7; exact ⟨v, h8, h9⟩
  | norm => exact h7
  | exit i => exact h7
  | ret => exact h7

theorem want_ok {all : Array Oper} (hs : SRel C sl a.tmps) {b : Bool} (h : want all.toList sl o = some b) : Region.wanted o (yielded all a.tmps) = b := by
  unfold want at h
  unfold Region.wanted
  split at h
  · rename_i hg; rw [hg]; cases h; rfl
  · rename_i j w hg
    rw [hg]
    dsimp only
    unfold yielded
    rw [Array.getElem?_toList] at h
    split at h
    · rename_i hn
      cases h
      simp [hn]
    · rename_i q hq
      rw [hq]
      split at h
      · rename_i hd
        cases h
        simp [hd]
      · rename_i d hd
        simp only [Option.bind_some, hd]
        split at h
        · rename_i hn
          cases h
          have : a.tmps[d]? = none := by
            rw [Array.getElem?_eq_none_iff]
            have := List.getElem?_eq_none_iff.1 hn
            rw [← hs.1] at this
            exact this
          simp [this]
        · rename_i b' hb
          cases h
          have hlt : d < a.tmps.size := by rw [hs.1]; exact (List.getElem?_eq_some_iff.1 hb).1
          have hv : a.tmps[d]? = some a.tmps[d] := Array.getElem?_eq_getElem hlt
          have := rep_bool (hs.2 d _ _ hv hb)
          rw [hv, this]
          simp
        · rename_i cs hb
          cases h
          have hlt : d < a.tmps.size := by rw [hs.1]; exact (List.getElem?_eq_some_iff.1 hb).1
          have hv : a.tmps[d]? = some a.tmps[d] := Array.getElem?_eq_getElem hlt
          have hr := hs.2 d _ _ hv hb
          rw [hv]
          generalize a.tmps[d] = v at hr
          cases hr
          simp
        · cases h

theorem nx_fresh {H : Heap} {nx : Nat} (h : C.Ok) (hH : C.H = H) (hB : C.B = fun i => i < nx) : C.H nx = none ∧ ¬ C.B nx := by
  have h2 : ¬ C.B nx := by rw [hB]; exact Nat.lt_irrefl _
  refine ⟨?_, h2⟩
  cases hh : C.H nx with
  | none => rfl
  | some b => exact absurd (h.born _ _ hh) h2

theorem runOps_okS (hE : EOk P E) {cl : Cl} (hp : PureOk P cl.p) (ho : BodyOk P cl.o) (ro : Option Nat) (all : Array Oper) : ∀ (os : List Oper) (i : Nat) (σ : St) (r : Ex × St), (∀ j, os[j]? = all[i + j]?) → runOps E cl all.toList os σ = some r →
    ∀ (C : Cx) (a : Act), C.H = σ.h → (C.B = fun i => i < σ.nx) → C.Ok → SRel C σ.sl a.tmps → wpOpsIn (Fw ro) 0 P all (ExRelS C a r) (List.range' i os.length) a C.w
  | [], i, σ, r, _, hr, C, a, hH, hB, hok, hs => by
    simp only [runOps, Option.some.injEq] at hr
    subst hr
    exact ⟨C, rfl, hH, hB, hok, Cx.Le.refl C, rfl, rfl, hs⟩
  | o :: os, i, σ, r, hall, hr, C, a, hH, hB, hok, hs => by
    simp only [List.length_cons, List.range'_succ, wpOpsIn]
    have h0 : all[i]? = some o := by have := hall 0; simpa using this.symm
    rw [h0]
    dsimp only
    have hall' : ∀ j, os[j]? = all[i + 1 + j]? := fun j => by have := hall (j + 1); simp only [List.getElem?_cons_succ] at this; rw [this]; congr 1; omega
    have next : ∀ (C1 : Cx) (a1 : Act) (σ1 : St), C1.H = σ1.h → (C1.B = fun i => i < σ1.nx) → C1.Ok → SRel C1 σ1.sl a1.tmps → C.Le C1 → a1.defers = a.defers → runOps E cl all.toList os σ1 = some r →
        wpOpsIn (Fw ro) 0 P all (ExRelS C a r) (List.range' (i + 1) os.length) a1 C1.w := by
      intro C1 a1 σ1 g1 g2 g3 g4 g5 g6 g7
      have := runOps_okS hE hp ho ro all os (i + 1) σ1 r hall' g7 C1 a1 g1 g2 g3 g4
      exact wpOpsIn_mono (fun e a w => ExRelS.le g5 g6) _ _ _ this
    have hnx := nx_fresh hok hH hB
    have hput : ∀ (v : Value), (a.put o.dst v).defers = a.defers := fun v => by unfold Act.put; split <;> rfl
    simp only [runOps] at hr
    split at hr
    · rename_i hw
      rw [want_ok hs hw, if_pos rfl]
      split at hr
      · rename_i g l ht
        split at hr
        · -- over the caller's heap
          have hdef : ∀ c, o.op ≠ .defer c := fun c e => by rw [e] at ht; simp [target] at ht
          rcases target_run (P := P) hs ht with ⟨hy, vs, hrl, hrun⟩ | ⟨rfl, l0, id, L, vs, rfl, hrl, hblk, hrun⟩
          · refine op_in ro hdef ?_
            split at hr
            · rename_i v h n hc
              obtain ⟨q1, q2⟩ := ho.fn g l _ _ _ _ _ hy hc C vs hH hB hok hrl
              unfold Oper.wp
              rw [hrun q1]
              refine Calls.mono q2 ?_
              rintro e' w' ⟨C', rfl, p1, p2, p3, p4, u, rfl, hu⟩
              exact next C' _ _ p1 p2 p3 ((hs.le p4).put o.dst hu) p4 (hput u) hr
            · rename_i v h n hc
              obtain ⟨q1, q2⟩ := ho.fn g l _ _ _ _ _ hy hc C vs hH hB hok hrl
              cases hr
              unfold Oper.wp
              rw [hrun q1]
              refine Calls.mono q2 ?_
              rintro e' w' ⟨C', rfl, p1, p2, p3, p4, u, rfl, hu⟩
              exact ⟨C', rfl, p1, p2, p3, p4, rfl, u, rfl, hu, hs.le p4⟩
            · cases hr
          · refine ⟨fun _ _ => trivial, ?_⟩
            have dn : (Fw ro).depth.isSome = true → 1 ≤ 0 := fun h => by simp [Fw] at h
            rw [Oper.semAt_eq _ _ _ hdef, hrun]
            split at hr
            · rename_i v h n hc
              obtain ⟨⟨blk, hb⟩, fn, tmps, asg, bd, q1, q2⟩ := ho.yl l0 id _ _ _ _ _ hc C vs hH hB hok hrl
              obtain ⟨rfl, _⟩ := hblk blk hb
              rw [q1]
              refine ⟨dn, RoundIn.mono (F := Fw ro) q2 ?_⟩
              rintro e' w' ⟨C', rfl, p1, p2, p3, p4, u, rfl, hu⟩
              exact next C' _ _ p1 p2 p3 ((hs.le p4).put o.dst hu) p4 (hput u) hr
            · rename_i v h n hc
              obtain ⟨⟨blk, hb⟩, fn, tmps, asg, bd, q1, q2⟩ := ho.yl l0 id _ _ _ _ _ hc C vs hH hB hok hrl
              obtain ⟨rfl, _⟩ := hblk blk hb
              cases hr
              rw [q1]
              refine ⟨dn, RoundIn.mono (F := Fw ro) q2 ?_⟩
              rintro e' w' ⟨C', rfl, p1, p2, p3, p4, u, rfl, hu⟩
              exact ⟨C', rfl, p1, p2, p3, p4, rfl, u, rfl, hu, hs.le p4⟩
            · cases hr
        · split at hr
          · rename_i e he
            have hBn : ∀ C', After C e σ.nx C' → e.new = false → (C'.B = fun i => i < σ.nx) := fun C' hA hn => by rw [hA.B, hB]; funext i; simp [hn]
            have hnew : e.new = false := by
              unfold pcallEff at he
              split at he <;> try cases he
              split at he <;> cases he <;> rfl
            have hdef : ∀ c, o.op ≠ .defer c := fun c e => by rw [e] at ht; simp [target] at ht
            refine op_in ro hdef ?_
            refine pcall_ok (nid := σ.nx) hp hok hs ht (by rw [hH]; exact he) (fun v x C' hout hA hv => ?_) (fun v x C' hout hA hv => ?_)
            · rw [hout] at hr
              refine next C' _ _ ?_ ?_ hA.ok ((hs.le hA.le).put o.dst hv) hA.le (hput v) hr
              · rw [hA.H, hH]; rfl
              · rw [hBn C' hA hnew]; simp [St.put, St.eff, hnew]
            · rw [hout] at hr
              cases hr
              refine ⟨C', rfl, by rw [hA.H, hH]; rfl, ?_, hA.ok, hA.le, rfl, v, rfl, hv, hs.le hA.le⟩
              rw [hBn C' hA hnew]; simp [St.eff, hnew]
          · cases hr
      · rename_i ht
        split at hr
        · rename_i e he
          have hany : anyEff E (pcallEff cl.p) C.H σ.nx σ.sl o.op = some e := by unfold anyEff; rw [ht, hH]; exact he
          have hBn : ∀ C', After C e σ.nx C' → (C'.B = fun i => i < (σ.eff e).nx) := fun C' hA => by
            rw [hA.B, hB]
            funext i
            cases hn : e.new <;> simp [St.eff, hn]
            omega
          have hdef : ∀ c, o.op ≠ .defer c := fun c e' => by rw [e'] at he; simp [opEff] at he
          refine op_in ro hdef ?_
          refine any_wp (N := σ.nx) hE (pure_eff hp) hok hs (fun i hi => by rw [hB] at hi; exact hi) hnx.1 hnx.2 hany (fun v x C' hout hA hv => ?_) (fun v x C' hout hA hv => ?_)
          · rcases hout with hout | ⟨hout, rfl, rfl⟩
            · rw [hout] at hr
              exact next C' _ ((σ.eff e).put o.dst x) (by rw [hA.H, hH]; rfl) (hBn C' hA) hA.ok ((hs.le hA.le).put o.dst hv) hA.le (hput v) hr
            · rw [hout] at hr
              exact next C' _ ((σ.eff e).put o.dst undef) (by rw [hA.H, hH]; rfl) (hBn C' hA) hA.ok ((hs.le hA.le).put o.dst hv) hA.le (hput _) hr
          · rw [hout] at hr
            cases hr
            exact ⟨C', rfl, by rw [hA.H, hH]; rfl, hBn C' hA, hA.ok, hA.le, rfl, v, rfl, hv, hs.le hA.le⟩
        · cases hr
    · rename_i hw
      rw [want_ok hs hw, if_neg (by simp)]
      refine ⟨fun _ _ => trivial, ?_⟩
      exact next C _ (σ.put o.dst undef) hH hB hok (hs.put o.dst (rep_undef C)) (Cx.Le.refl C) (hput _) hr
    · cases hr
theorem runOps_ok (hE : EOk P E) {cl : Cl} (hp : PureOk P cl.p) (ho : BodyOk P cl.o) (ro : Option Nat) (all : Array Oper) (os : List Oper) (i : Nat) (σ : St) (r : Ex × St) (h1 : ∀ j, os[j]? = all[i + j]?) (h2 : runOps E cl all.toList os σ = some r)
    (C : Cx) (a : Act) (h3 : C.H = σ.h) (h4 : C.B = fun i => i < σ.nx) (h5 : C.Ok) (h6 : SRel C σ.sl a.tmps) : wpOpsIn (Fw ro) 0 P all (ExRel C a r) (List.range' i os.length) a C.w :=
  wpOpsIn_mono (fun _ _ _ => ExRelS.weak) _ _ _ (runOps_okS hE hp ho ro all os i σ r h1 h2 C a h3 h4 h5 h6)
end
end Vm

/- The machine over pure values: an operation's effect hangs on its operands and on the rows that it reads, and on nothing else. (Own work of this repo.) -/
namespace Vm
open Go

/-- Two rows of slots agree on a slot. -/
def agree (s s' : List AV) (t : Nat) : Prop := s[t]? = s'[t]?

section
variable {E : Env} {s s' : List AV}

theorem ev_congr {x : Operand} (h : ∀ t, x = .tmp t → agree s s' t) : ev s x = ev s' x := by
  cases x with
  | tmp t => simp only [ev, List.getD_eq_getElem?_getD]; rw [h t rfl]
  | _ => rfl
theorem evs_congr : ∀ {l : List Operand}, (∀ x ∈ l, ∀ t, x = .tmp t → agree s s' t) → evs s l = evs s' l
  | [], _ => rfl
  | x :: l, h => by
    simp only [evs]
    rw [ev_congr (h x (by simp)), evs_congr (l := l) fun y hy => h y (by simp [hy])]
theorem evps_congr : ∀ {l : List (Nat × Operand)}, (∀ x ∈ l.map (·.2), ∀ t, x = .tmp t → agree s s' t) → evps s l = evps s' l
  | [], _ => rfl
  | (i, x) :: l, h => by
    simp only [evps]
    rw [ev_congr (h x (by simp)), evps_congr (l := l) fun y hy => h y (by simp only [List.map_cons, List.mem_cons]; exact .inr hy)]
theorem evo_congr {x : Option Operand} (h : ∀ y, x = some y → ∀ t, y = .tmp t → agree s s' t) : evo s x = evo s' x := by
  cases x with
  | none => rfl
  | some y => simp only [evo]; rw [ev_congr (h y rfl)]

theorem mem_opTmps {op : Op} (h : ∀ t ∈ opTmps op, agree s s' t) : ∀ x ∈ op.operands.toList, ∀ t, x = .tmp t → agree s s' t := by
  intro x hx t ht
  refine h t ?_
  subst ht
  exact List.mem_filterMap.2 ⟨_, hx, rfl⟩

theorem opEff_congr {op : Op} (h : ∀ t ∈ opTmps op, agree s s' t) (H : Heap) (nid : Nat) : opEff E H nid s op = opEff E H nid s' op := by
  have hm := mem_opTmps h
  cases op
  case move x => simp only [opEff]; rw [ev_congr (hm x (by simp [Op.operands]))]
  case assign x => simp only [opEff]; rw [ev_congr (hm x (by simp [Op.operands]))]
  case pick c x y =>
    simp only [opEff]
    rw [ev_congr (hm c (by simp [Op.operands]))]
    split
    · rename_i t _
      rw [ev_congr (x := if t then x else y) (by cases t; · exact hm y (by simp [Op.operands])
                                                 · exact hm x (by simp [Op.operands]))]
    · rfl
  case alloc t => rfl
  case box t x => simp only [opEff]; rw [ev_congr (hm x (by simp [Op.operands]))]
  case build t ps => simp only [opEff]; rw [evps_congr (l := ps.toList) (fun x hx => hm x (by simpa [Op.operands] using hx))]
  case buildSlice t n ps => simp only [opEff]; rw [evps_congr (l := ps.toList) (fun x hx => hm x (by simpa [Op.operands] using hx))]
  case load t x => simp only [opEff]; rw [ev_congr (hm x (by simp [Op.operands]))]
  case store t x y => simp only [opEff]; rw [ev_congr (hm x (by simp [Op.operands])), ev_congr (hm y (by simp [Op.operands]))]
  case nilCheck x => simp only [opEff]; rw [ev_congr (hm x (by simp [Op.operands]))]
  case binOp op t x y t' => simp only [opEff]; rw [ev_congr (hm x (by simp [Op.operands])), ev_congr (hm y (by simp [Op.operands]))]
  case unOp op t x => simp only [opEff]; rw [ev_congr (hm x (by simp [Op.operands]))]
  case convert t u x => simp only [opEff]; rw [ev_congr (hm x (by simp [Op.operands]))]
  case makeInterface t x => simp only [opEff]; rw [ev_congr (hm x (by simp [Op.operands]))]
  case makeFunc f x y =>
    cases f with
    | func g => simp only [opEff]; rw [evs_congr (l := x.toList) (fun z hz => hm z (by simp only [Op.operands, Array.toList_append, List.mem_append]; exact .inl hz)), evs_congr (l := y.toList) (fun z hz => hm z (by simp only [Op.operands, Array.toList_append, List.mem_append]; exact .inr hz))]
    | _ => rfl
  case makeSlice t x y => simp only [opEff]; rw [ev_congr (hm x (by simp [Op.operands])), ev_congr (hm y (by simp [Op.operands]))]
  case slice t x lo hi mx =>
    simp only [opEff]
    rw [ev_congr (hm x (by simp [Op.operands])), evo_congr (x := lo) (fun y hy => hm y (by simp [Op.operands, hy])), evo_congr (x := hi) (fun y hy => hm y (by simp [Op.operands, hy])), evo_congr (x := mx) (fun y hy => hm y (by simp [Op.operands, hy]))]
  case fieldAddr t x f => simp only [opEff]; rw [ev_congr (hm x (by simp [Op.operands]))]
  case field t x f => simp only [opEff]; rw [ev_congr (hm x (by simp [Op.operands]))]
  case indexAddr t x y => simp only [opEff]; rw [ev_congr (hm x (by simp [Op.operands])), ev_congr (hm y (by simp [Op.operands]))]
  case index t x y => simp only [opEff]; rw [ev_congr (hm x (by simp [Op.operands])), ev_congr (hm y (by simp [Op.operands]))]
  case typeAssert x t u ok => simp only [opEff]; rw [ev_congr (hm x (by simp [Op.operands]))]
  case extract x i => simp only [opEff]; rw [ev_congr (hm x (by simp [Op.operands]))]
  case call c =>
    simp only [opEff]
    split
    · rw [evs_congr (l := c.args.toList) (fun z hz => hm z (by simp only [Op.operands, Call.operands, Array.toList_append, List.mem_append]; exact .inr hz))]
    · rfl
  case panic x => simp only [opEff]; rw [ev_congr (hm x (by simp [Op.operands]))]
  all_goals rfl
theorem target_congr {op : Op} (h : ∀ t ∈ opTmps op, agree s s' t) : target s op = target s' op := by
  have hm := mem_opTmps h
  cases op
  case call c =>
    simp only [target]
    split
    · rename_i f hc
      rw [ev_congr (hm f (by simp [Op.operands, Call.operands, hc])), evs_congr (l := c.args.toList) (fun z hz => hm z (by simp only [Op.operands, Call.operands, Array.toList_append, List.mem_append]; exact .inr hz))]
    · rfl
  all_goals rfl
end

section
variable {E : Env} {H H' : Heap} {nid : Nat} {s : List AV}

theorem src_local {x : AV} {cs : List AV} {n : Nat} {rd : List Nat} (h : srcCells H x = some (cs, n, rd)) (hr : ∀ i ∈ rd, H' i = H i) : srcCells H' x = some (cs, n, rd) := by
  cases x <;> simp only [srcCells] at h ⊢ <;> try exact h
  rename_i id off len
  split at h <;> try cases h
  rename_i b hb
  split at h <;> cases h
  rename_i hl
  rw [hr _ (by simp), hb]
  simp [hl]

/-- An effect hangs on the rows that it reads. -/
theorem opEff_local {op : Op} {e : Eff} (h : opEff E H nid s op = some e) (hr : ∀ i ∈ e.rds, H' i = H i) : opEff E H' nid s op = some e := by
  cases op
  case makeFunc f x y => cases f <;> exact h
  all_goals simp only [opEff] at h ⊢
  all_goals try exact h
  case load t x =>
    split at h <;> try cases h
    rename_i y hy
    unfold loadEff at h ⊢
    split at h
    · rename_i id off
      split at h <;> try cases h
      rename_i ti b ht hb
      have hid : H' id = H id := hr id (by split at h <;> (try split at h) <;> cases h <;> simp)
      simp only [ht, hid, hb]
      exact h
    · exact h
    · cases h
  case store t x y =>
    split at h <;> try cases h
    rename_i y v hy hv
    unfold storeEff at h ⊢
    split at h
    · rename_i id off
      split at h <;> try cases h
      rename_i ti b ht hb
      have hid : H' id = H id := hr id (by split at h <;> cases h; simp)
      simp only [ht, hid, hb]
      exact h
    · cases h
  case nilCheck x =>
    split at h
    · rename_i id off hv
      split at h <;> cases h
      rename_i b hb
      rw [hr id (by simp), hb]
    · exact h
    · exact h
    · cases h
  case slice t x lo hi mx =>
    split at h <;> try cases h
    rename_i ti v l hh m ht hv hl hhi hmx
    split at h
    · exact h
    · exact h
    · rename_i el id off len hd
      split at h <;> try cases h
      rename_i blk te p q hb hte hcut
      have hid : H' id = H id := hr id (by (repeat' split at h) <;> cases h <;> simp)
      simp only [hte, hid, hb, hcut]
      exact h
    · cases h
  case convert s u x =>
    split at h <;> try cases h
    rename_i tj ti v hs ht hv
    split at h
    · exact h
    · unfold strEff at h ⊢
      split at h
      · cases h
      · split at h <;> try cases h
        rename_i te hte
        split at h <;> try cases h
        rename_i hd3
        split at h <;> try cases h
        rename_i cs n rd hsrc
        have hrd : rd = e.rds := by
          unfold strOf at h
          split at h <;> try cases h
          split at h <;> cases h
          rfl
        simp only [hte, hd3, src_local hsrc (fun i hi => hr i (by rw [← hrd]; exact hi))]
        exact h
      · cases h
    · cases h
  case fieldAddr t x f =>
    split at h <;> try cases h
    rename_i ti v ht hv
    split at h <;> try cases h
    rename_i fs hd
    split at h <;> try cases h
    rename_i off u hf
    split at h
    · rename_i tu id o2 hu
      split at h <;> try cases h
      rename_i hz
      split at h <;> cases h
      rename_i b hb
      rw [if_neg hz, hr id (by simp), hb]
    · exact h
    · cases h
  case indexAddr t x y =>
    split at h <;> try cases h
    rename_i ti v k n ht hv hi
    split at h
    · rename_i el hd
      split at h
      · exact h
      · rename_i te id off len hte
        split at h <;> try cases h
        rename_i hn
        split at h <;> try cases h
        rename_i b hb
        have hid : H' id = H id := hr id (by split at h <;> cases h; simp)
        simp only [hid, hb, if_pos hn]
        exact h
      · cases h
    · rename_i len el hd
      split at h
      · rename_i te id off hte
        split at h <;> try cases h
        rename_i hn
        split at h <;> cases h
        rename_i b hb
        rw [if_pos hn, hr id (by simp), hb]
      · exact h
      · cases h
    · cases h
  case call c =>
    split at h <;> try cases h
    rename_i b hc
    split at h <;> try cases h
    rename_i l hl
    generalize c.argTypes.toList = ts at h ⊢
    unfold builtinEff at h ⊢
    split at h
    · rename_i t x
      split at h <;> try cases h
      split at h
      · exact h
      · rename_i el id off n hd
        split at h <;> cases h
        rename_i b hb
        rw [hr id (by simp), hb]
      · exact h
      · exact h
      · cases h
    · rename_i t u s x
      have facts : srcCells H' x = srcCells H x ∧ ∀ id off len, s = .ref id off len → H' id = H id := by
        unfold appendEff at h
        split at h <;> try cases h
        rename_i ti tj ht htj
        split at h <;> try cases h
        rename_i el hd hnint
        split at h <;> try cases h
        rename_i te cs n rd hte hsrc
        split at h <;> try cases h
        rename_i hcond
        have hsub : ∀ i ∈ rd, i ∈ e.rds := by
          intro i hi
          (repeat' split at h) <;> cases h <;> simp [hi]
        refine ⟨by rw [src_local hsrc (fun i hi => hr i (hsub i hi)), hsrc], ?_⟩
        intro id off len hs
        subst hs
        dsimp only at h
        refine hr id ?_
        (repeat' split at h) <;> cases h <;> simp
      rw [← h]
      unfold appendEff
      rw [facts.1]
      cases s
      case ref id off len => simp only [facts.2 id off len rfl]
      case lst nl xs => cases nl <;> rfl
      all_goals rfl
    · rename_i t ts d x
      unfold copyEff at h ⊢
      split at h <;> try cases h
      split at h <;> try cases h
      split at h <;> try cases h
      rename_i te cs n rd id off len hte hsrc
      split at h <;> try cases h
      rename_i b hb
      split at h <;> cases h
      rename_i hcb
      have hsrc' := src_local hsrc (fun i hi => hr i (by simp [hi]))
      simp only [hte, hsrc', hr id (by simp), hb, if_pos hcb]
    · exact h
    · exact h
    · cases h

/-- An effect that hangs on little in the one row that it reads. -/
theorem dep_local {op : Op} {e : Eff} {x : Nat} (h : opEff E H nid s op = some e) (hx : e.rds = [x]) (hd : (depOf s H op e).ok E (H' x)) : opEff E H' nid s op = some e := by
  unfold depOf at hd
  rw [hx] at hd
  dsimp only at hd
  split at hd
  · rename_i b hb
    cases op
    case load t a =>
      dsimp only at hd
      split at hd
      · rename_i id off v ha hout
        simp only [opEff, ha] at h ⊢
        unfold loadEff at h
        dsimp only at h
        split at h <;> try cases h
        rename_i ti blk ht hblk
        have hid : id = x ∧ e = ⟨.val v, [x], [], false⟩ := by
          split at h
          · split at h <;> cases h
            simp at hx hout
            exact ⟨hx, by rw [hx, hout]⟩
          · split at h <;> cases h
            simp at hx hout
            exact ⟨hx, by rw [hx, hout]⟩
        obtain ⟨rfl, rfl⟩ := hid
        cases hH : H' id with
        | none => rw [hH] at hd; exact hd.elim
        | some b' =>
          rw [hH] at hd
          simp only [Dep.ok, loadEff, ht, Heap.upd_same] at hd
          unfold loadEff
          simp only [ht, hH]
          split at hd
          · rename_i hag
            rw [if_pos hag]
            split at hd <;> cases hd
            rename_i hl
            rw [if_pos hl]
          · rename_i hag
            rw [if_neg hag]
            split at hd
            · rename_i hc
              cases hd
              first | rfl | rw [hc] | simp [hc]
            · cases hd
      · exact hd.elim
    case nilCheck a =>
      dsimp only at hd
      cases hH : H' x with
      | none => rw [hH] at hd; exact hd.elim
      | some b' =>
        simp only [opEff] at h ⊢
        split at h
        · rename_i id off hv
          split at h <;> cases h
          simp at hx; subst hx
          rw [hH]
        · exact h
        · exact h
        · cases h
    case fieldAddr t a f =>
      dsimp only at hd
      cases hH : H' x with
      | none => rw [hH] at hd; exact hd.elim
      | some b' =>
        simp only [opEff] at h ⊢
        split at h <;> try cases h
        rename_i ti v ht hv
        split at h <;> try cases h
        rename_i fs hdd
        split at h <;> try cases h
        rename_i off u hf
        split at h
        · rename_i tu id o2 hu
          split at h <;> try cases h
          rename_i hz
          split at h <;> cases h
          simp at hx; subst hx
          rw [if_neg hz, hH]
        · exact h
        · cases h
    case indexAddr t a y =>
      dsimp only at hd
      cases hH : H' x with
      | none => rw [hH] at hd; exact hd.elim
      | some b' =>
        rw [hH] at hd
        simp only [Dep.ok] at hd
        simp only [opEff] at h ⊢
        split at h <;> try cases h
        rename_i ti v k n ht hv hi
        split at h
        · rename_i el hdd
          split at h
          · exact h
          · rename_i te id off len hte
            split at h <;> try cases h
            rename_i hn
            split at h <;> try cases h
            rename_i blk hblk
            have hid : id = x := by split at h <;> cases h; simpa using hx
            subst hid
            rw [hb] at hblk
            cases hblk
            simp only [if_pos hn, hH, hd]
            exact h
          · cases h
        · rename_i len el hdd
          split at h
          · rename_i te id off hte
            split at h <;> try cases h
            rename_i hn
            split at h <;> cases h
            simp at hx; subst hx
            rw [if_pos hn, hH]
          · exact h
          · cases h
        · cases h
    case slice t a lo hi mx =>
      dsimp only at hd
      cases hH : H' x with
      | none => rw [hH] at hd; exact hd.elim
      | some b' =>
        rw [hH] at hd
        simp only [Dep.ok] at hd
        simp only [opEff] at h ⊢
        split at h <;> try cases h
        rename_i ti v l hh m ht hv hl hhi hmx
        split at h
        · exact h
        · exact h
        · rename_i el id off len hdd
          split at h <;> try cases h
          rename_i blk te p q hblk hte hcut
          have hid : id = x := by (repeat' split at h) <;> cases h <;> simpa using hx
          subst hid
          rw [hb] at hblk
          cases hblk
          simp only [hte, hH, hcut, hd]
          exact h
        · cases h
    case call c =>
      dsimp only at hd
      split at hd
      · rename_i hc
        cases hH : H' x with
        | none => rw [hH] at hd; exact hd.elim
        | some b' =>
          simp only [opEff, hc] at h ⊢
          split at h <;> try cases h
          rename_i l hl
          generalize c.argTypes.toList = ts at h ⊢
          unfold builtinEff at h ⊢
          split at h
          · split at h <;> try cases h
            split at h
            · exact h
            · rename_i el id off n hdd
              split at h <;> cases h
              simp at hx; subst hx
              rw [hH]
            · exact h
            · exact h
            · cases h
          · rename_i heq; cases heq
          · rename_i heq; cases heq
          · rename_i heq; cases heq
          · rename_i heq; cases heq
          · cases h
      · exact hd.elim
    all_goals exact hd.elim
  · exact hd.elim
theorem purify_local : ∀ (n : Nat) (v v' : AV) (ids : List Nat), purify n H v = some (v', ids) → (∀ i ∈ ids, H' i = H i) → purify n H' v = some (v', ids)
  | 0, v, v', ids, h, _ => by simp [purify] at h
  | n + 1, v, v', ids, h, hr => by
    have ml : ∀ (l m : List AV) (is : List Nat), mapL (purify n H) l = some (m, is) → (∀ i ∈ is, H' i = H i) → mapL (purify n H') l = some (m, is) := by
      intro l
      induction l with
      | nil => intro m is h _; exact h
      | cons x xs ih =>
        intro m is h hr
        simp only [mapL] at h ⊢
        split at h <;> cases h
        rename_i y i ys j hy hys
        rw [purify_local n x y i hy fun k hk => hr k (by simp [hk]), ih _ _ hys fun k hk => hr k (by simp [hk])]
    cases v
    case ref id off len =>
      simp only [purify] at h ⊢
      split at h <;> try cases h
      rename_i b hb
      split at h <;> try cases h
      rename_i hc
      split at h <;> cases h
      rename_i cs is hm
      simp only [hr id (by simp), hb, if_pos hc]
      rw [ml _ _ _ hm fun i hi => hr i (by simp [hi])]
    case agg cs =>
      simp only [purify] at h ⊢
      split at h <;> cases h
      rename_i ds is hm
      rw [ml _ _ _ hm hr]
    case tup cs =>
      simp only [purify] at h ⊢
      split at h <;> cases h
      rename_i ds is hm
      rw [ml _ _ _ hm hr]
    case fn f a b =>
      have cp : ∀ (x y : AV) (is : List Nat), capt (purify n H) H x = some (y, is) → (∀ i ∈ is, H' i = H i) → capt (purify n H') H' x = some (y, is) := by
        intro x y is hx hr
        by_cases hptr : ∃ id off, x = .ptr id off
        · obtain ⟨id, off, rfl⟩ := hptr
          simp only [capt] at hx ⊢
          split at hx <;> try cases hx
          rename_i blk hb
          split at hx <;> try cases hx
          rename_i hc
          split at hx <;> cases hx
          rename_i cs js hm
          simp only [hr id (by simp), hb, if_pos hc]
          rw [ml _ _ _ hm fun i hi => hr i (by simp [hi])]
        · have e : ∀ H, capt (purify n H) H x = purify n H x := by
            intro H
            cases x <;> first | rfl | exact absurd ⟨_, _, rfl⟩ hptr
          rw [e] at hx ⊢
          exact purify_local n x y is hx hr
      have mc : ∀ (l m : List AV) (is : List Nat), mapL (capt (purify n H) H) l = some (m, is) → (∀ i ∈ is, H' i = H i) → mapL (capt (purify n H') H') l = some (m, is) := by
        intro l
        induction l with
        | nil => intro m is h _; exact h
        | cons x xs ih =>
          intro m is h hr
          simp only [mapL] at h ⊢
          split at h <;> cases h
          rename_i y i ys j hy hys
          rw [cp x y i hy fun k hk => hr k (by simp [hk]), ih _ _ hys fun k hk => hr k (by simp [hk])]
      simp only [purify] at h ⊢
      split at h
      · rename_i hp; rw [if_pos hp]; exact h
      · rename_i hp
        rw [if_neg hp]
        split at h
        · cases h
        · rename_i hf
          rw [if_neg hf]
          split at h <;> cases h
          rename_i a' i b' j ha hb
          rw [mc _ _ _ ha fun k hk => hr k (by simp [hk]), mc _ _ _ hb fun k hk => hr k (by simp [hk])]
    all_goals exact h
theorem mapL_local {n : Nat} : ∀ (l m : List AV) (is : List Nat), mapL (purify n H) l = some (m, is) → (∀ i ∈ is, H' i = H i) → mapL (purify n H') l = some (m, is)
  | [], m, is, h, _ => h
  | x :: xs, m, is, h, hr => by
    simp only [mapL] at h ⊢
    split at h <;> cases h
    rename_i y i ys j hy hys
    rw [purify_local n x y i hy fun k hk => hr k (by simp [hk]), mapL_local _ _ _ hys fun k hk => hr k (by simp [hk])]
theorem freezes_local : ∀ (ids : List Nat), (∀ i ∈ ids, H' i = H i) → freezes H' ids = freezes H ids
  | [], _ => rfl
  | i :: is, h => by simp only [freezes]; rw [h i (by simp), freezes_local is fun j hj => h j (by simp [hj])]
/-- A call's effect hangs on the rows that it reads. -/
def CallLocal (dp : Heap → FuncId → List AV → Option Eff) : Prop := ∀ (H H' : Heap) (g : FuncId) (l : List AV) (e : Eff), dp H g l = some e → (∀ i ∈ e.rds, H' i = H i) → dp H' g l = some e
theorem pcallEff_local {cp : FuncId → List AV → Option Res} : CallLocal (pcallEff cp) := by
  intro H H' g l e h hr
  unfold pcallEff at h ⊢
  split at h <;> try cases h
  rename_i l' ids hl
  have hids : ∀ i ∈ ids, H' i = H i := fun i hi => hr i (by split at h <;> cases h <;> exact hi)
  simp only [mapL_local _ _ _ hl hids, freezes_local _ hids]
  exact h
theorem reach_local : ∀ (n : Nat) (l : List AV), (∀ i ∈ reach H n l, H' i = H i) → reach H' n l = reach H n l
  | 0, _, _ => rfl
  | n + 1, l, h => by
    have e : (AV.surfL l).flatMap (cellsAt H') = (AV.surfL l).flatMap (cellsAt H) := by
      simp only [List.flatMap_def]
      congr 1
      refine List.map_congr_left fun i hi => ?_
      unfold cellsAt
      rw [h i (by simp only [reach]; exact List.mem_append_left _ hi)]
    simp only [reach]
    rw [e, reach_local n _ fun i hi => h i (by simp only [reach]; exact List.mem_append_right _ hi)]
theorem lendEff_local {co : FuncId → List AV → Heap → Nat → Option (Res × Heap × Nat)} {N : Nat} : CallLocal (fun H g l => lendEff co H N g l) := by
  intro H H' g l e h hr
  have hrd : e.rds = reach H 3 l := by
    simp only [lendEff] at h
    split at h
    · split at h <;> cases h
      rfl
    · cases h
  rw [hrd] at hr
  have e1 := reach_local (H := H) (H' := H') 3 l hr
  have e2 : H'.only (reach H 3 l) = H.only (reach H 3 l) := by
    funext i
    unfold Heap.only
    by_cases hi : i ∈ reach H 3 l
    · rw [if_pos hi, if_pos hi, hr i hi]
    · rw [if_neg hi, if_neg hi]
  have e3 : ∀ H2, lendOk H' H2 (reach H 3 l) = lendOk H H2 (reach H 3 l) := by
    intro H2
    unfold lendOk
    rw [Bool.eq_iff_iff, List.all_eq_true, List.all_eq_true]
    exact ⟨fun h i hi => by rw [← hr i hi]; exact h i hi, fun h i hi => by rw [hr i hi]; exact h i hi⟩
  have e4 : ∀ H2, lendUps H' H2 (reach H 3 l) = lendUps H H2 (reach H 3 l) := fun _ => rfl
  simp only [lendEff, e1, e2, e3, e4] at h ⊢
  exact h
theorem callEff_local {E : Env} {C : Cl} {N : Nat} : CallLocal (callEff E C N) := by
  intro H H' g l e h hr
  unfold callEff at h ⊢
  split at h
  · rename_i hc; rw [if_pos hc]; exact lendEff_local H H' g l e h hr
  · rename_i hc; rw [if_neg hc]
    cases hp : pcallEff C.p H g l with
    | none => rw [hp] at h; cases h
    | some e0 =>
      rw [hp] at h
      obtain rfl : mild e0 = e := by simpa using h
      have hrd : (mild e0).rds = e0.rds := by unfold mild; split <;> rfl
      rw [pcallEff_local H H' g l e0 hp (by rw [← hrd]; exact hr)]
      rfl
theorem anyEff_local {dp : Heap → FuncId → List AV → Option Eff} (hd : CallLocal dp) {op : Op} {e : Eff} (h : anyEff E dp H nid s op = some e) (hr : ∀ i ∈ e.rds, H' i = H i) : anyEff E dp H' nid s op = some e := by
  unfold anyEff at h ⊢
  split at h
  · exact hd _ _ _ _ _ h hr
  · exact opEff_local h hr
theorem anyEff_dep {dp : Heap → FuncId → List AV → Option Eff} {op : Op} {e : Eff} {x : Nat} (h : anyEff E dp H nid s op = some e) (hx : e.rds = [x]) (hd : (depOf s H op e).ok E (H' x)) : anyEff E dp H' nid s op = some e := by
  unfold anyEff at h ⊢
  split at h
  · rename_i g l ht
    exfalso
    unfold depOf at hd
    rw [hx] at hd
    dsimp only at hd
    split at hd
    · cases op <;> simp only [target, reduceCtorEq] at ht
      rename_i c
      split at ht <;> try cases ht
      rename_i f hc
      simp only [hc] at hd
      exact hd.elim
    · exact hd.elim
  · exact dep_local h hx hd
theorem anyEff_congr {dp : Heap → FuncId → List AV → Option Eff} {op : Op} {s' : List AV} (h : ∀ t ∈ opTmps op, agree s s' t) : anyEff E dp H nid s op = anyEff E dp H nid s' op := by
  unfold anyEff
  rw [target_congr h, opEff_congr h]
end
end Vm

/- The machine over pure values: a statement that leaves its order open comes to the same in every order (I): what the records of its operations say. (Own work of this repo.) -/
namespace Vm
open Go

abbrev LS := List AV × Heap
def app (σ : LS) (r : Rec) : LS := (put σ.1 r.dst r.val, σ.2.upds r.ups)
def apps (σ : LS) : List Rec → LS
  | [] => σ
  | r :: rs => apps (app σ r) rs
/-- Some of the records carried out, in the text's order. -/
def rep (S : Nat → Bool) : List Rec → Nat → LS → LS
  | [], _, σ => σ
  | r :: rs, i, σ => rep S rs (i + 1) (if S i then app σ r else σ)

theorem put_length (sl : List AV) (d : Option Nat) (v : AV) : (put sl d v).length = sl.length := by cases d <;> simp [put]
theorem put_congr {s s' : List AV} {x : Nat} (h : s[x]? = s'[x]?) (d : Option Nat) (v : AV) : (put s d v)[x]? = (put s' d v)[x]? := by
  cases d with
  | none => exact h
  | some d =>
    simp only [put, List.getElem?_set]
    split
    · rename_i hd
      subst hd
      have : (d < s.length) = (d < s'.length) := by
        by_cases h1 : d < s.length
        · rw [List.getElem?_eq_getElem h1] at h
          have := (List.getElem?_eq_some_iff.1 h.symm).1
          simp [h1, this]
        · rw [List.getElem?_eq_none (Nat.le_of_not_lt h1)] at h
          have := List.getElem?_eq_none_iff.1 h.symm
          simp [h1, Nat.not_lt.2 this]
      simp [this]
    · exact h
theorem put_other {s : List AV} {x : Nat} {d : Option Nat} (h : d ≠ some x) (v : AV) : (put s d v)[x]? = s[x]? := by
  cases d with
  | none => rfl
  | some d => simp only [put]; rw [List.getElem?_set_ne (fun e => h (by rw [e]))]
theorem upds_congr : ∀ (u : List (Nat × Option Blk)) {H H' : Heap} {i : Nat}, H i = H' i → (H.upds u) i = (H'.upds u) i
  | [], _, _, _, h => h
  | (k, b) :: u, H, H', i, h => by
    simp only [Heap.upds]
    refine upds_congr u ?_
    by_cases e : i = k
    · subst e; rw [Heap.upd_same, Heap.upd_same]
    · rw [Heap.upd_ne _ _ e, Heap.upd_ne _ _ e]; exact h
theorem upds_other : ∀ (u : List (Nat × Option Blk)) {H : Heap} {i : Nat}, i ∉ u.map (·.1) → (H.upds u) i = H i
  | [], _, _, _ => rfl
  | (k, b) :: u, H, i, h => by
    simp only [List.map_cons, List.mem_cons, not_or] at h
    simp only [Heap.upds]
    rw [upds_other u h.2, Heap.upd_ne _ _ h.1]
theorem upds_in : ∀ (u : List (Nat × Option Blk)) {H H' : Heap} {i : Nat}, i ∈ u.map (·.1) → (H.upds u) i = (H'.upds u) i
  | [], _, _, _, h => by simp at h
  | (k, b) :: u, H, H', i, h => by
    simp only [Heap.upds]
    by_cases e : i = k
    · subst e; exact upds_congr u (by rw [Heap.upd_same, Heap.upd_same])
    · simp only [List.map_cons, List.mem_cons] at h
      exact upds_in u (h.resolve_left e)

theorem rep_slot {S S' : Nat → Bool} {x : Nat} : ∀ (rs : List Rec) (k : Nat) (σ σ' : LS), (∀ (j : Nat) (r : Rec), rs[j]? = some r → S (k + j) ≠ S' (k + j) → r.dst ≠ some x) → σ.1[x]? = σ'.1[x]? → (rep S rs k σ).1[x]? = (rep S' rs k σ').1[x]?
  | [], _, _, _, _, h => h
  | r :: rs, k, σ, σ', hd, h => by
    simp only [rep]
    refine rep_slot rs (k + 1) _ _ (fun j r' hr hne => hd (j + 1) r' (by simpa using hr) (by rw [show k + (j + 1) = k + 1 + j by omega]; exact hne)) ?_
    have h0 := hd 0 r rfl
    simp only [Nat.add_zero] at h0
    cases hS : S k <;> cases hS' : S' k <;> simp only [hS, hS', Bool.false_eq_true, if_false, if_true, ne_eq, not_false_eq_true, reduceCtorEq] at h0 ⊢
    · exact h
    · rw [app, put_other (h0 (by simp)) _]; exact h
    · rw [app, put_other (h0 (by simp)) _]; exact h
    · exact put_congr h _ _
theorem rep_heap {S S' : Nat → Bool} {x : Nat} : ∀ (rs : List Rec) (k : Nat) (σ σ' : LS), (∀ (j : Nat) (r : Rec), rs[j]? = some r → S (k + j) ≠ S' (k + j) → x ∉ r.ids) → σ.2 x = σ'.2 x → (rep S rs k σ).2 x = (rep S' rs k σ').2 x
  | [], _, _, _, _, h => h
  | r :: rs, k, σ, σ', hd, h => by
    simp only [rep]
    refine rep_heap rs (k + 1) _ _ (fun j r' hr hne => hd (j + 1) r' (by simpa using hr) (by rw [show k + (j + 1) = k + 1 + j by omega]; exact hne)) ?_
    have h0 := hd 0 r rfl
    simp only [Nat.add_zero] at h0
    cases hS : S k <;> cases hS' : S' k <;> simp only [hS, hS', Bool.false_eq_true, if_false, if_true, ne_eq, not_false_eq_true, reduceCtorEq] at h0 ⊢
    · exact h
    · show σ.2 x = (σ'.2.upds r.ups) x; rw [upds_other r.ups (h0 (by simp))]; exact h
    · show (σ.2.upds r.ups) x = σ'.2 x; rw [upds_other r.ups (h0 (by simp))]; exact h
    · exact upds_congr _ h
theorem rep_length (S : Nat → Bool) : ∀ (rs : List Rec) (k : Nat) (σ : LS), (rep S rs k σ).1.length = σ.1.length
  | [], _, _ => rfl
  | r :: rs, k, σ => by
    simp only [rep]
    rw [rep_length S rs]
    split
    · exact put_length _ _ _
    · rfl
theorem rep_congr {S S' : Nat → Bool} : ∀ (rs : List Rec) (k : Nat) (σ : LS), (∀ i, k ≤ i → i < k + rs.length → S i = S' i) → rep S rs k σ = rep S' rs k σ
  | [], _, _, _ => rfl
  | r :: rs, k, σ, h => by
    simp only [rep]
    rw [h k (Nat.le_refl _) (by simp), rep_congr rs (k + 1) _ fun i h1 h2 => h i (by omega) (by simp; omega)]
theorem rep_none {S : Nat → Bool} : ∀ (rs : List Rec) (k : Nat) (σ : LS), (∀ i, k ≤ i → S i = false) → rep S rs k σ = σ
  | [], _, _, _ => rfl
  | r :: rs, k, σ, h => by
    simp only [rep, h k (Nat.le_refl _), Bool.false_eq_true, if_false]
    exact rep_none rs (k + 1) σ fun i hi => h i (by omega)
theorem rep_all {S : Nat → Bool} : ∀ (rs : List Rec) (k : Nat) (σ : LS), (∀ i, k ≤ i → i < k + rs.length → S i = true) → rep S rs k σ = apps σ rs
  | [], _, _, _ => rfl
  | r :: rs, k, σ, h => by
    simp only [rep, h k (Nat.le_refl _) (by simp), if_true, apps]
    exact rep_all rs (k + 1) _ fun i h1 h2 => h i (by omega) (by simp; omega)
theorem rep_take : ∀ (rs : List Rec) (k j : Nat) (σ : LS), rep (fun i => decide (i < k + j)) rs k σ = apps σ (rs.take j)
  | [], _, _, _ => by simp [rep, apps]
  | r :: rs, k, 0, σ => by
    rw [rep_none]
    · simp [apps]
    · intro i hi; simp; omega
  | r :: rs, k, j + 1, σ => by
    simp only [rep, List.take_succ_cons, apps]
    rw [if_pos (by simp), ← rep_take rs (k + 1) j]
    refine rep_congr _ _ _ fun i _ _ => ?_
    congr 1
    rw [show k + (j + 1) = k + 1 + j by omega]

/-- Two records that may change places. -/
def Comm (r s : Rec) : Prop := (∀ d, r.dst = some d → s.dst ≠ some d) ∧ ∀ i, i ∈ r.ids → i ∉ s.ids
theorem app_comm {r s : Rec} (h : Comm r s) (σ : LS) : app (app σ r) s = app (app σ s) r := by
  obtain ⟨h1, h2⟩ := h
  unfold app
  refine Prod.ext ?_ ?_
  · dsimp only
    cases hr : r.dst with
    | none => rfl
    | some d =>
      cases hs : s.dst with
      | none => rfl
      | some d' =>
        simp only [put]
        exact List.set_comm _ _ (fun e => h1 d hr (by rw [hs, e]))
  · dsimp only
    funext i
    by_cases hi : i ∈ r.ids
    · rw [upds_other s.ups (h2 i hi)]
      exact upds_in r.ups hi
    · rw [upds_other r.ups (H := σ.2.upds s.ups) hi]
      exact upds_congr s.ups (upds_other r.ups hi)
theorem rep_push {S : Nat → Bool} {r : Rec} : ∀ (rs : List Rec) (k : Nat) (σ : LS), (∀ (i : Nat) (s : Rec), rs[i]? = some s → S (k + i) = true → Comm r s) → rep S rs k (app σ r) = app (rep S rs k σ) r
  | [], _, _, _ => rfl
  | s :: rs, k, σ, h => by
    simp only [rep]
    cases hS : S k with
    | false =>
      simp only [Bool.false_eq_true, if_false]
      exact rep_push rs (k + 1) σ fun i t ht hS => h (i + 1) t (by simpa using ht) (by rw [show k + (i + 1) = k + 1 + i by omega]; exact hS)
    | true =>
      simp only [if_true]
      rw [app_comm (h 0 s rfl (by simpa using hS))]
      exact rep_push rs (k + 1) _ fun i t ht hS => h (i + 1) t (by simpa using ht) (by rw [show k + (i + 1) = k + 1 + i by omega]; exact hS)
theorem rep_add {S : Nat → Bool} {r : Rec} : ∀ (rs : List Rec) (k j : Nat) (σ : LS), rs[j]? = some r → S (k + j) = false → (∀ (i : Nat) (s : Rec), rs[i]? = some s → S (k + i) = true → j < i → Comm r s) →
    rep (fun i => S i || i == k + j) rs k σ = app (rep S rs k σ) r
  | [], _, _, _, h, _, _ => by simp at h
  | s :: rs, k, 0, σ, h, hS, hc => by
    simp at h
    subst h
    simp only [Nat.add_zero] at hS
    simp only [rep, hS, Bool.false_or, Nat.add_zero, beq_self_eq_true, if_true, Bool.false_eq_true, if_false]
    rw [← rep_push rs (k + 1) σ fun i t ht hS => hc (i + 1) t (by simpa using ht) (by rw [show k + (i + 1) = k + 1 + i by omega]; exact hS) (by omega)]
    refine rep_congr _ _ _ fun i h1 _ => ?_
    have : (i == k) = false := by simp; omega
    simp [this]
  | s :: rs, k, j + 1, σ, h, hS, hc => by
    have hk : (k == k + (j + 1)) = false := by simp
    simp only [rep, hk, Bool.or_false]
    have := rep_add rs (k + 1) j (if S k then app σ s else σ) (by simpa using h) (by rw [show k + 1 + j = k + (j + 1) by omega]; exact hS) (fun i t ht hS' hlt => hc (i + 1) t (by simpa using ht) (by rw [show k + (i + 1) = k + 1 + i by omega]; exact hS') (by omega))
    rw [← this]
    refine rep_congr _ _ _ fun i _ _ => ?_
    rw [show k + 1 + j = k + (j + 1) by omega]

/-! #### what stands before what -/
theorem masks_length : ∀ (os : List Oper) (acc : List Nat), (masks os acc).length = acc.length + os.length
  | [], acc => by simp [masks]
  | o :: os, acc => by simp only [masks]; rw [masks_length os]; simp; omega
theorem masks_old : ∀ (os : List Oper) (acc : List Nat) (i : Nat), i < acc.length → (masks os acc)[i]? = acc[i]?
  | [], _, _, _ => rfl
  | o :: os, acc, i, h => by
    simp only [masks]
    rw [masks_old os _ i (by simp; omega), List.getElem?_append_left h]
theorem masks_get : ∀ (os : List Oper) (acc : List Nat) (j : Nat) (o : Oper), os[j]? = some o → (masks os acc)[acc.length + j]? = some (maskOf ((masks os acc).take (acc.length + j)) o.after.toList)
  | [], _, _, _, h => by simp at h
  | o :: os, acc, 0, o', h => by
    simp at h
    subst h
    simp only [masks, Nat.add_zero]
    rw [masks_old os _ acc.length (by simp)]
    have : (masks os (acc ++ [maskOf acc o.after.toList])).take acc.length = acc := by
      apply List.ext_getElem?
      intro i
      by_cases hi : i < acc.length
      · rw [List.getElem?_take_of_lt hi, masks_old os _ i (by simp; omega), List.getElem?_append_left hi]
      · rw [List.getElem?_eq_none (by simp; omega), List.getElem?_eq_none (by omega)]
    rw [this]
    simp
  | o :: os, acc, j + 1, o', h => by
    simp only [masks]
    have := masks_get os (acc ++ [maskOf acc o.after.toList]) j o' (by simpa using h)
    simp only [List.length_append, List.length_cons, List.length_nil, Nat.zero_add] at this
    rw [show acc.length + (j + 1) = acc.length + 1 + j by omega]
    exact this
theorem maskOf_bit (acc : List Nat) (i : Nat) : ∀ (es : List Edge), (maskOf acc es).testBit i = true → ∃ e ∈ es, Region.binds .any e = true ∧ (e.on = i ∨ (acc.getD e.on 0).testBit i = true)
  | [], h => by simp [maskOf] at h
  | e :: es, h => by
    simp only [maskOf] at h
    split at h
    · rename_i hb
      simp only [Nat.testBit_or, Bool.or_eq_true] at h
      rcases h with (h | h) | h
      · obtain ⟨e', h1, h2⟩ := maskOf_bit acc i es h
        exact ⟨e', List.mem_cons_of_mem _ h1, h2⟩
      · refine ⟨e, List.mem_cons_self, hb, .inl ?_⟩
        rw [Nat.testBit_two_pow] at h
        simpa using h
      · exact ⟨e, List.mem_cons_self, hb, .inr h⟩
    · obtain ⟨e', h1, h2⟩ := maskOf_bit acc i es h
      exact ⟨e', List.mem_cons_of_mem _ h1, h2⟩

/-- A set that holds with each operation what must stand before it. -/
def Down (ops : Array Oper) (S : Nat → Prop) : Prop := ∀ (j : Nat) (o : Oper), S j → ops[j]? = some o → ∀ e ∈ o.after, Region.binds .any e = true → S e.on
theorem before_in {ops : Array Oper} {S : Nat → Prop} (hd : Down ops S) : ∀ (j i : Nat) (o : Oper), ops[j]? = some o → befBit ops.toList j i = true → (∀ e ∈ o.after, Region.binds .any e = true → S e.on) → S i := by
  intro j
  induction j using Nat.strongRecOn with
  | _ j ih =>
    intro i o ho hb hS
    unfold befBit at hb
    have hm := masks_get ops.toList [] j o (by simpa using ho)
    simp only [List.length_nil, Nat.zero_add] at hm
    rw [List.getD_eq_getElem?_getD, hm] at hb
    simp only [Option.getD_some] at hb
    obtain ⟨e, he, hbe, hc⟩ := maskOf_bit _ i _ hb
    have he' : e ∈ o.after := by simpa using he
    have hSe := hS e he' hbe
    rcases hc with rfl | hc
    · exact hSe
    · by_cases hlt : e.on < j
      · have hl : e.on < ops.toList.length := by
          have := (Array.getElem?_eq_some_iff.1 ho).1
          simp; omega
        have ho2 : ops[e.on]? = some ops.toList[e.on] := by rw [← Array.getElem?_toList]; exact List.getElem?_eq_getElem hl
        refine ih e.on hlt i _ ho2 ?_ (hd e.on _ hSe ho2)
        rw [List.getD_eq_getElem?_getD, List.getElem?_take_of_lt hlt] at hc
        unfold befBit
        rw [List.getD_eq_getElem?_getD]
        exact hc
      · rw [List.getD_eq_getElem?_getD, List.getElem?_eq_none (by simp; omega)] at hc
        simp at hc

theorem statOne_spec {all : List Oper} {b : List Nat} {i : Nat} {x : Oper} : ∀ (ys : List Oper) (j : Nat), statOne all b i x j ys = true → ∀ (k : Nat) (y : Oper), ys[k]? = some y → slotFree all x y = true ∨ (b.getD (j + k) 0).testBit i = true
  | [], _, _, _, _, h => by simp at h
  | y :: ys, j, h, k, z, hz => by
    simp only [statOne, Bool.and_eq_true, Bool.or_eq_true] at h
    cases k with
    | zero => simp at hz; subst hz; exact h.1
    | succ k => have := statOne_spec ys (j + 1) h.2 k z (by simpa using hz); rwa [show j + 1 + k = j + (k + 1) by omega] at this
theorem statAll_spec {all : List Oper} {b : List Nat} : ∀ (xs : List Oper) (i : Nat), statAll all b i xs = true → ∀ (j k : Nat) (x y : Oper), xs[j]? = some x → xs[k]? = some y → j < k → slotFree all x y = true ∨ (b.getD (i + k) 0).testBit (i + j) = true
  | [], _, _, _, _, _, _, h, _, _ => by simp at h
  | z :: xs, i, h, j, k, x, y, hx, hy, hlt => by
    simp only [statAll, Bool.and_eq_true] at h
    cases k with
    | zero => omega
    | succ k =>
      cases j with
      | zero =>
        simp at hx
        subst hx
        have := statOne_spec xs (i + 1) h.1 k y (by simpa using hy)
        rwa [show i + 1 + k = i + (k + 1) by omega] at this
      | succ j =>
        have := statAll_spec xs (i + 1) h.2 j k x y (by simpa using hx) (by simpa using hy) (by omega)
        rwa [show i + 1 + k = i + (k + 1) by omega, show i + 1 + j = i + (j + 1) by omega] at this
theorem edgesOk_spec : ∀ (os : List Oper) (i : Nat), edgesOk i os = true → ∀ (j : Nat) (o : Oper), os[j]? = some o → ∀ e ∈ o.after, Region.binds .any e = true → e.on < i + j
  | [], _, _, _, _, h => by simp at h
  | o :: os, i, h, j, o', ho => by
    simp only [edgesOk, Bool.and_eq_true] at h
    cases j with
    | zero =>
      simp at ho
      subst ho
      intro e he hb
      have := List.all_eq_true.1 h.1 e (by simpa using he)
      simp [hb] at this
      omega
    | succ j => have := edgesOk_spec os (i + 1) h.2 j o' (by simpa using ho); rwa [show i + 1 + j = i + (j + 1) by omega] at this
theorem dynOne_spec {all : List Oper} {i : Nat} {r : Rec} : ∀ (ss : List Rec) (j : Nat), dynOne all i r j ss = true → ∀ (k : Nat) (s : Rec), ss[k]? = some s → r.free s = true ∨ befBit all (j + k) i = true
  | [], _, _, _, _, h => by simp at h
  | s :: ss, j, h, k, t, ht => by
    simp only [dynOne, Bool.and_eq_true] at h
    cases k with
    | zero =>
      simp at ht
      subst ht
      have h1 := h.1
      split at h1
      · rename_i hf; exact .inl hf
      · exact .inr h1
    | succ k => have := dynOne_spec ss (j + 1) h.2 k t (by simpa using ht); rwa [show j + 1 + k = j + (k + 1) by omega] at this
theorem dynOk_spec {all : List Oper} : ∀ (rs : List Rec) (i : Nat), dynOk all i rs = true → ∀ (j k : Nat) (r s : Rec), rs[j]? = some r → rs[k]? = some s → j < k → r.free s = true ∨ befBit all (i + k) (i + j) = true
  | [], _, _, _, _, _, _, h, _, _ => by simp at h
  | t :: rs, i, h, j, k, r, s, hr, hs, hlt => by
    simp only [dynOk, Bool.and_eq_true] at h
    cases k with
    | zero => omega
    | succ k =>
      cases j with
      | zero =>
        simp at hr
        subst hr
        have := dynOne_spec rs (i + 1) h.1 k s (by simpa using hs)
        rwa [show i + 1 + k = i + (k + 1) by omega] at this
      | succ j =>
        have := dynOk_spec rs (i + 1) h.2 j k r s (by simpa using hr) (by simpa using hs) (by omega)
        rwa [show i + 1 + k = i + (k + 1) by omega, show i + 1 + j = i + (j + 1) by omega] at this
end Vm

/- The machine over pure values: a statement that leaves its order open comes to the same in every order (II). (Own work of this repo.) -/
namespace Vm
open Go

/-- What a record says of its operation, at the state that the text's order gives. -/
inductive RecAt (E : Env) (dp : Heap → FuncId → List AV → Option Eff) (all : List Oper) (p : Option (List Nat × AV)) (j : Nat) (o : Oper) (r : Rec) (σ : LS) (nx : Nat) : Prop
  | skip (hw : want all σ.1 o = some false) (hr : r = ⟨.ok, o.dst, undef, [], [], none, .all⟩)
  | done (e : Eff) (x : AV) (hw : want all σ.1 o = some true) (he : anyEff E dp σ.2 nx σ.1 o.op = some e) (ho : e.out = .val x ∨ (e.out = .skip ∧ x = undef)) (hr : r = ⟨.ok, o.dst, x, e.rds, e.ups, if e.new then some nx else none, depOf σ.1 σ.2 o.op e⟩)
  | pan (e : Eff) (v : AV) (hw : want all σ.1 o = some true) (he : anyEff E dp σ.2 nx σ.1 o.op = some e) (ho : e.out = .panic v) (hu : e.ups = []) (hn : e.new = false) (hp : ∃ qs, p = some (qs, v) ∧ j ∈ qs) (hr : r = ⟨.pan, none, v, e.rds, [], none, .all⟩)
  | dead (q : Nat) (qs : List Nat) (v : AV) (hp : p = some (qs, v)) (hq : q ∈ qs) (hb : befBit all j q = true) (hr : r = ⟨.dead, none, undef, [], [], none, .all⟩)

structure Spec (E : Env) (dp : Heap → FuncId → List AV → Option Eff) (all : List Oper) (os : List Oper) (k : Nat) (p : Option (List Nat × AV)) (σ : St) (rs : List Rec) (p' : Option (List Nat × AV)) (σ' : St) : Prop where
  len : rs.length = os.length
  at_ : ∀ (j : Nat) (o : Oper), os[j]? = some o → ∃ r nx, rs[j]? = some r ∧ σ.nx ≤ nx ∧ RecAt E dp all p' (k + j) o r (apps (σ.sl, σ.h) (rs.take j)) nx
  fin : (σ'.sl, σ'.h) = apps (σ.sl, σ.h) rs
  mono : σ.nx ≤ σ'.nx
  top : σ'.nx ≤ σ.nx + os.length
  nid : ∀ (j : Nat) (r : Rec) (i : Nat), rs[j]? = some r → r.nid = some i → σ.nx ≤ i ∧ i < σ'.nx ∧ ∀ (j' : Nat) (r' : Rec), rs[j']? = some r' → r'.nid = some i → j' = j
  all_ : ∀ i, σ.nx ≤ i → i < σ'.nx → ∃ (j : Nat) (r : Rec), rs[j]? = some r ∧ r.nid = some i
  none_ : p' = none → p = none
  some_ : ∀ qs v, p = some (qs, v) → ∃ qs', p' = some (qs', v) ∧ ∀ q, q ∈ qs → q ∈ qs'
  new : ∀ qs' v, p' = some (qs', v) → ∀ q, q ∈ qs' → (∃ qs, p = some (qs, v) ∧ q ∈ qs) ∨ ∃ (j : Nat) (r : Rec), q = k + j ∧ rs[j]? = some r ∧ r.k = .pan
  ne : (∀ qs v, p = some (qs, v) → qs ≠ []) → ∀ qs v, p' = some (qs, v) → qs ≠ []
theorem sameP_eq : ∀ {a b : AV}, sameP a b = true → a = b := by
  intro a b h
  unfold sameP at h
  split at h
  · simp only [Bool.and_eq_true, beq_iff_eq] at h
    obtain ⟨⟨rfl, rfl⟩, rfl⟩ := h
    rfl
  · cases h

theorem spec_cons {E : Env} {dp : Heap → FuncId → List AV → Option Eff} {all os : List Oper} {o : Oper} {k : Nat} {p p1 p' : Option (List Nat × AV)} {σ σ1 σ' : St} {r : Rec} {rs : List Rec}
    (h : Spec E dp all os (k + 1) p1 σ1 rs p' σ') (happ : (σ1.sl, σ1.h) = app (σ.sl, σ.h) r) (hat : RecAt E dp all p' k o r (σ.sl, σ.h) σ.nx)
    (hnx : (r.nid = none ∧ σ1.nx = σ.nx) ∨ (r.nid = some σ.nx ∧ σ1.nx = σ.nx + 1))
    (hp1 : p1 = none → p = none) (hp2 : ∀ qs v, p = some (qs, v) → ∃ qs1, p1 = some (qs1, v) ∧ ∀ q, q ∈ qs → q ∈ qs1) (hp3 : ∀ qs1 v, p1 = some (qs1, v) → ∀ q, q ∈ qs1 → (∃ qs, p = some (qs, v) ∧ q ∈ qs) ∨ (q = k ∧ r.k = .pan)) (hp4 : (∀ qs v, p = some (qs, v) → qs ≠ []) → ∀ qs v, p1 = some (qs, v) → qs ≠ []) : Spec E dp all (o :: os) k p σ (r :: rs) p' σ' where
  len := by simp [h.len]
  at_ j o' ho := by
    cases j with
    | zero => simp at ho; subst ho; exact ⟨r, σ.nx, rfl, Nat.le_refl _, by simpa [apps] using hat⟩
    | succ j =>
      obtain ⟨r', nx, h1, h2, h3⟩ := h.at_ j o' (by simpa using ho)
      refine ⟨r', nx, by simpa using h1, by rcases hnx with h | h <;> omega, ?_⟩
      simp only [List.take_succ_cons, apps]
      rw [← happ, show k + (j + 1) = k + 1 + j by omega]
      exact h3
  fin := by simp only [apps]; rw [← happ]; exact h.fin
  mono := by have := h.mono; rcases hnx with h | h <;> omega
  top := by have := h.top; rw [List.length_cons]; rcases hnx with h | h <;> omega
  nid j r' i hr hi := by
    have hm := h.mono
    cases j with
    | zero =>
      simp at hr
      subst hr
      rcases hnx with ⟨h0, _⟩ | ⟨h0, h1⟩
      · rw [h0] at hi; cases hi
      · rw [h0] at hi
        cases hi
        refine ⟨Nat.le_refl _, by omega, fun j' r' hr' hi' => ?_⟩
        cases j' with
        | zero => rfl
        | succ j' =>
          have := (h.nid j' r' _ (by simpa using hr') hi').1
          omega
    | succ j =>
      obtain ⟨q1, q2, q3⟩ := h.nid j r' i (by simpa using hr) hi
      refine ⟨by rcases hnx with h | h <;> omega, q2, fun j' r'' hr' hi' => ?_⟩
      cases j' with
      | zero =>
        simp at hr'
        subst hr'
        rcases hnx with ⟨h0, _⟩ | ⟨h0, h1⟩
        · rw [h0] at hi'; cases hi'
        · rw [h0] at hi'; cases hi'; omega
      | succ j' => rw [q3 j' r'' (by simpa using hr') hi']
  all_ i h1 h2 := by
    rcases hnx with ⟨h0, h3⟩ | ⟨h0, h3⟩
    · obtain ⟨j, r', q1, q2⟩ := h.all_ i (by omega) h2
      exact ⟨j + 1, r', by simpa using q1, q2⟩
    · by_cases he : i = σ.nx
      · exact ⟨0, r, rfl, by rw [h0, he]⟩
      · obtain ⟨j, r', q1, q2⟩ := h.all_ i (by omega) h2
        exact ⟨j + 1, r', by simpa using q1, q2⟩
  none_ hn := hp1 (h.none_ hn)
  some_ qs v hq := by
    obtain ⟨qs1, h1, h2⟩ := hp2 qs v hq
    obtain ⟨qs', h3, h4⟩ := h.some_ qs1 v h1
    exact ⟨qs', h3, fun q hq => h4 q (h2 q hq)⟩
  new qs' v hq q hm := by
    rcases h.new qs' v hq q hm with ⟨qs1, h1, h2⟩ | ⟨j, r', q1, q2, q3⟩
    · rcases hp3 qs1 v h1 q h2 with h3 | ⟨e1, e2⟩
      · exact .inl h3
      · exact .inr ⟨0, r, by omega, rfl, e2⟩
    · exact .inr ⟨j + 1, r', by omega, by simpa using q2, q3⟩
  ne hn := h.ne (hp4 hn)

theorem recs_spec {E : Env} {dp : Heap → FuncId → List AV → Option Eff} {all : List Oper} : ∀ (os : List Oper) (k : Nat) (p : Option (List Nat × AV)) (σ : St) (rs : List Rec) (p' : Option (List Nat × AV)) (σ' : St),
    recs E dp all os k p σ = some (rs, p', σ') → Spec E dp all os k p σ rs p' σ'
  | [], k, p, σ, rs, p', σ', h => by
    simp only [recs, Option.some.injEq, Prod.mk.injEq] at h
    obtain ⟨rfl, rfl, rfl⟩ := h
    exact ⟨rfl, by simp, rfl, Nat.le_refl _, by simp, by simp, fun i h1 h2 => by omega, id, fun qs _ h => ⟨qs, h, fun _ h => h⟩, fun qs v h q hq => .inl ⟨qs, h, hq⟩, fun h => h⟩
  | o :: os, k, p, σ, rs, p', σ', h => by
    simp only [recs] at h
    split at h
    · rename_i hb
      split at h <;> cases h
      rename_i hrec
      have hs := recs_spec os (k + 1) _ _ _ _ _ hrec
      cases p with
      | none => simp at hb
      | some qv =>
        obtain ⟨qs, v⟩ := qv
        obtain ⟨q, hq, hb⟩ := List.any_eq_true.1 hb
        obtain ⟨qs', h1, h2⟩ := hs.some_ qs v rfl
        exact spec_cons hs rfl (.dead q qs' v h1 (h2 q hq) hb rfl) (.inl ⟨rfl, rfl⟩) id (fun qs _ h => ⟨qs, h, fun _ h => h⟩) (fun qs v h q hq => .inl ⟨qs, h, hq⟩) (fun h => h)
    · split at h
      · rename_i hw
        split at h
        · rename_i e he
          have hnx : ∀ (x : AV), ((⟨.ok, o.dst, x, e.rds, e.ups, if e.new then some σ.nx else none, depOf σ.sl σ.h o.op e⟩ : Rec).nid = none ∧ ((σ.eff e).put o.dst x).nx = σ.nx) ∨
              ((⟨.ok, o.dst, x, e.rds, e.ups, if e.new then some σ.nx else none, depOf σ.sl σ.h o.op e⟩ : Rec).nid = some σ.nx ∧ ((σ.eff e).put o.dst x).nx = σ.nx + 1) := by
            intro x; cases hn : e.new <;> simp [St.put, St.eff, hn]
          split at h
          · rename_i x hout
            split at h <;> cases h
            rename_i hrec
            have hs := recs_spec os (k + 1) _ _ _ _ _ hrec
            exact spec_cons hs rfl (.done e x hw he (.inl hout) rfl) (hnx x) id (fun qs _ h => ⟨qs, h, fun _ h => h⟩) (fun qs v h q hq => .inl ⟨qs, h, hq⟩) (fun h => h)
          · rename_i hout
            split at h <;> cases h
            rename_i hrec
            have hs := recs_spec os (k + 1) _ _ _ _ _ hrec
            exact spec_cons hs rfl (.done e undef hw he (.inr ⟨hout, rfl⟩) rfl) (hnx undef) id (fun qs _ h => ⟨qs, h, fun _ h => h⟩) (fun qs v h q hq => .inl ⟨qs, h, hq⟩) (fun h => h)
          · rename_i v hout
            split at h
            · rename_i qs w _
              split at h <;> try cases h
              rename_i hcond
              split at h <;> cases h
              rename_i hrec
              simp only [Bool.and_eq_true, Bool.not_eq_true', List.isEmpty_iff] at hcond
              obtain rfl := sameP_eq hcond.1
              have hs := recs_spec os (k + 1) _ _ _ _ _ hrec
              obtain ⟨qs', h1, h2⟩ := hs.some_ (k :: qs) w rfl
              refine spec_cons hs rfl (.pan e w hw he hout hcond.2.1 hcond.2.2 ⟨qs', h1, h2 k (by simp)⟩ rfl) (.inl ⟨rfl, rfl⟩) (fun h => by cases h) (fun qs0 w0 h => ?_) (fun qs1 w1 h q hq => ?_) (fun _ qs1 w1 h => ?_)
              · cases h; exact ⟨k :: qs, rfl, fun q hq => List.mem_cons_of_mem _ hq⟩
              · cases h
                rcases List.mem_cons.1 hq with rfl | hq
                · exact .inr ⟨rfl, rfl⟩
                · exact .inl ⟨qs, rfl, hq⟩
              · cases h; simp
            · split at h <;> try cases h
              rename_i hcond
              split at h <;> cases h
              rename_i hrec
              simp only [Bool.and_eq_true, Bool.not_eq_true', List.isEmpty_iff] at hcond
              have hs := recs_spec os (k + 1) _ _ _ _ _ hrec
              obtain ⟨qs', h1, h2⟩ := hs.some_ [k] v rfl
              refine spec_cons hs rfl (.pan e v hw he hout hcond.1 hcond.2 ⟨qs', h1, h2 k (by simp)⟩ rfl) (.inl ⟨rfl, rfl⟩) (fun h => by cases h) (fun _ _ h => by cases h) (fun qs1 w1 h q hq => ?_) (fun _ qs1 w1 h => ?_)
              · cases h
                exact .inr ⟨by simpa using hq, rfl⟩
              · cases h; simp
        · cases h
      · rename_i hw
        split at h <;> cases h
        rename_i hrec
        have hs := recs_spec os (k + 1) _ _ _ _ _ hrec
        exact spec_cons hs rfl (.skip hw rfl) (.inl ⟨rfl, rfl⟩) id (fun qs _ h => ⟨qs, h, fun _ h => h⟩) (fun qs v h q hq => .inl ⟨qs, h, hq⟩) (fun h => h)
      · cases h

theorem want_congr {all : List Oper} {s s' : List AV} {o : Oper} (h : ∀ t ∈ looks all o, agree s s' t) : want all s o = want all s' o := by
  unfold want
  split
  · rfl
  · rename_i j w hg
    split
    · rfl
    · rename_i q hq
      split
      · rfl
      · rename_i d hd
        have : s[d]? = s'[d]? := h d (by unfold looks; rw [hg]; dsimp only; rw [hq]; dsimp only; rw [hd]; simp)
        rw [this]

theorem disj_spec {a b : List Nat} (h : disj a b = true) : ∀ i, i ∈ a → i ∉ b := by
  intro i hi hb
  have := List.all_eq_true.1 h i hi
  simp at this
  exact this hb
theorem free_spec {r s : Rec} (h : r.free s = true) : (∀ i, i ∈ r.ids → i ∉ s.rds ∧ i ∉ s.ids) ∧ (∀ i, i ∈ s.ids → i ∉ r.rds) := by
  unfold Rec.free at h
  simp only [Bool.and_eq_true] at h
  refine ⟨fun i hi => ?_, disj_spec h.2⟩
  have := disj_spec h.1 i hi
  simp only [List.mem_append, not_or] at this
  exact this
theorem slotFree_spec {all : List Oper} {x y : Oper} (h : slotFree all x y = true) : (∀ d, x.dst = some d → d ∉ looks all y ∧ y.dst ≠ some d) ∧ (∀ d, y.dst = some d → d ∉ looks all x) := by
  unfold slotFree at h
  simp only [Bool.and_eq_true] at h
  refine ⟨fun d hd => ?_, fun d hd => ?_⟩
  · have := h.1
    rw [hd] at this
    simpa using this
  · have := h.2
    rw [hd] at this
    simpa using this
end Vm

/- The machine over pure values: a statement that leaves its order open comes to the same in every order (III). (Own work of this repo.) -/
namespace Vm
open Go

section
variable {E : Env} {H : Heap} {nid nid' : Nat} {s : List AV}
/-- An operation that makes no row does not look at the next number. -/
theorem opEff_nid {op : Op} {e : Eff} (h : opEff E H nid s op = some e) (hn : e.new = false) : opEff E H nid' s op = some e := by
  cases op
  case makeFunc f x y => cases f <;> exact h
  all_goals simp only [opEff] at h ⊢
  all_goals try exact h
  case alloc t => (repeat' split at h) <;> cases h <;> cases hn
  case box t x => (repeat' split at h) <;> cases h <;> cases hn
  case buildSlice t n ps => (repeat' split at h) <;> cases h <;> cases hn
  case makeSlice t x y => (repeat' split at h) <;> cases h <;> cases hn
  case call c =>
    split at h <;> try cases h
    rename_i b hc
    split at h <;> try cases h
    rename_i l hl
    generalize c.argTypes.toList = ts at h ⊢
    unfold builtinEff at h ⊢
    split at h
    · exact h
    · rename_i t u s x
      unfold appendEff at h ⊢
      split at h <;> try cases h
      rename_i ti tj ht htj
      split at h <;> try cases h
      rename_i el hd hnint
      split at h <;> try cases h
      rename_i te cs n rd hte hsrc
      split at h <;> try cases h
      rename_i hcond
      split at h
      · split at h
        · rename_i h0; simp only [if_neg hcond, if_pos h0]; exact h
        · split at h <;> cases h
          cases hn
      · split at h <;> try cases h
        rename_i b hb
        split at h <;> try cases h
        rename_i hq
        split at h
        · rename_i h0; simp only [hb, if_neg hcond, if_pos hq, if_pos h0]; exact h
        · split at h <;> cases h
          cases hn
      · cases h
    · exact h
    · exact h
    · exact h
    · cases h
theorem anyEff_nid {dp : Heap → FuncId → List AV → Option Eff} {op : Op} {e : Eff} (h : anyEff E dp H nid s op = some e) (hn : e.new = false) : anyEff E dp H nid' s op = some e := by
  unfold anyEff at h ⊢
  split at h
  · exact h
  · exact opEff_nid h hn
end

/-- What has been carried out, in whatever order, comes to the same as in the text's order. -/
structure Inv (E : Env) (ops : Array Oper) (rs : List Rec) (σ0 : St) (C0 : Cx) (a0 : Act) (S : Nat → Bool) (C : Cx) (a : Act) : Prop where
  down : Down ops fun j => S j = true
  ok_ : ∀ (j : Nat) (r : Rec), rs[j]? = some r → S j = true → r.k = .ok
  heap : C.H = (rep S rs 0 (σ0.sl, σ0.h)).2
  sl : SRel C (rep S rs 0 (σ0.sl, σ0.h)).1 a.tmps
  cx : C.Ok
  le : C0.Le C
  born : ∀ i, C.B i ↔ (i < σ0.nx ∨ ∃ (j : Nat) (r : Rec), rs[j]? = some r ∧ S j = true ∧ r.nid = some i)
  defers : a.defers = a0.defers

theorem RecAt.dst {E : Env} {dp : Heap → FuncId → List AV → Option Eff} {all : List Oper} {p : Option (List Nat × AV)} {j : Nat} {o : Oper} {r : Rec} {σ : LS} {nx : Nat} (h : RecAt E dp all p j o r σ nx) {d : Nat} (hd : r.dst = some d) : o.dst = some d := by
  cases h with
  | skip hw hr => subst hr; exact hd
  | done e x hw he ho hr => subst hr; exact hd
  | pan e v hw he ho hu hn hp hr => subst hr; cases hd
  | dead q qs v hp hq hb hr => subst hr; cases hd

theorem rep_vis {all : List Oper} {i x : Nat} {S : Nat → Bool} (h1 : ∀ k, k < i → befBit all i k = true → S k = true) (h2 : ∀ k, i < k → befBit all k i = true → S k = false) (h3 : S i = false) :
    ∀ (rs : List Rec) (k : Nat) (σ : LS) (acc : List (Option Blk)), σ.2 x ∈ acc → (rep S rs k σ).2 x ∈ vis all i x rs k acc
  | [], _, _, _, h => h
  | r :: rs, k, σ, acc, h => by
    simp only [rep, vis]
    refine rep_vis h1 h2 h3 rs (k + 1) _ _ ?_
    by_cases hx : x ∈ r.ids
    · have hv : (app σ r).2 x = (Heap.empty.upds r.ups) x := upds_in r.ups hx
      have hc : r.ids.contains x = true := by simpa using hx
      rcases Nat.lt_trichotomy k i with hlt | heq | hgt
      · have e1 : decide (k < i) = true := by simpa using hlt
        cases hb : befBit all i k with
        | true =>
          rw [h1 k hlt hb, if_pos rfl, hv]
          simp only [hc, e1]
          simp
        | false =>
          simp only [hc, e1]
          cases hS : S k with
          | true => rw [if_pos rfl, hv]; simp
          | false => simp [h]
      · subst heq
        rw [h3]
        simp [h]
      · have e1 : decide (k < i) = false := by simp; omega
        have e2 : decide (i < k) = true := by simpa using hgt
        cases hb : befBit all k i with
        | true =>
          rw [h2 k hgt hb]
          simp only [hc, e1, e2]
          simpa using h
        | false =>
          simp only [hc, e1, e2]
          cases hS : S k with
          | true => rw [if_pos rfl, hv]; simp
          | false => simp [h]
    · have hc : r.ids.contains x = false := by simpa using hx
      have hv : (if S k then app σ r else σ).2 x = σ.2 x := by
        split
        · exact upds_other r.ups hx
        · rfl
      rw [hv]
      simp only [hc]
      exact h

section
variable {P : Program} {E : Env} {dp : Heap → FuncId → List AV → Option Eff} {ops : Array Oper} {σ0 σ' : St} {rs : List Rec} {p' : Option (List Nat × AV)} {C0 : Cx} {a0 : Act}

/-- One operation more. -/
theorem inv_step (hE : EOk P E) (hp : CallOk P (σ0.nx + ops.toList.length) dp) (hd : CallLocal dp) (hreg : regOk ops.toList = true) (sp : Spec E dp ops.toList ops.toList 0 none σ0 rs p' σ')
    (hfree : DynP E ops.toList rs σ0.h)
    {S : Nat → Bool} {C : Cx} {a : Act} (inv : Inv E ops rs σ0 C0 a0 S C a) {i : Nat} {o : Oper} (ho : ops[i]? = some o) (hS : S i = false) (hedge : ∀ e ∈ o.after, Region.binds .any e = true → S e.on = true)
    {Q : Exit → Act → World → Prop} {K : Act → World → Prop}
    (hK : ∀ C' a', Inv E ops rs σ0 C0 a0 (fun j => S j || j == i) C' a' → K a' C'.w)
    (hQ : ∀ C' v x qs, p' = some (qs, x) → C.Le C' → C'.Ok → C'.H = C.H → (∀ j, C'.B j ↔ C.B j) → Rep C' v x → Q (.panic [entry v]) a C'.w) :
    wpOp P ops Q i K a C.w := by
  have hol : ops.toList[i]? = some o := by simpa using ho
  obtain ⟨r, nx, hr, hnx, hat⟩ := sp.at_ i o hol
  have hat0 := hat
  rw [Nat.zero_add] at hat hat0
  simp only [regOk, Bool.and_eq_true] at hreg
  have hlen : i < ops.toList.length := (List.getElem?_eq_some_iff.1 hol).1
  -- an operation before it that is not carried out yet, or one behind it that is, is free of it
  have far : ∀ (j : Nat) (s : Rec), rs[j]? = some s → S j ≠ decide (j < i) → j ≠ i → (∀ t ∈ looks ops.toList o, s.dst ≠ some t) ∧ (Stable E ops.toList rs σ0.h i r ∨ ∀ x ∈ r.rds, x ∉ s.ids) ∧ (j > i → Comm r s) := by
    intro j s hs hne hji
    have hjl : j < ops.toList.length := by rw [← sp.len]; exact (List.getElem?_eq_some_iff.1 hs).1
    have hoj : ops.toList[j]? = some ops.toList[j] := List.getElem?_eq_getElem hjl
    generalize ops.toList[j] = oj at hoj
    obtain ⟨s', nx', hs', _, hat'⟩ := sp.at_ j oj hoj
    rw [hs] at hs'
    cases hs'
    rcases Nat.lt_or_gt_of_ne hji with hlt | hgt
    · -- j < i, not carried out
      have hSj : S j = false := by simpa [hlt] using hne
      have hb : befBit ops.toList i j = false := by
        cases hb : befBit ops.toList i j with
        | false => rfl
        | true =>
          have := before_in inv.down i j o ho hb hedge
          rw [hSj] at this
          cases this
      have hst := statAll_spec _ 0 hreg.1 j i oj o hoj hol hlt
      simp only [Nat.zero_add] at hst
      unfold befBit at hb
      have hst := hst.resolve_right (by rw [hb]; simp)
      obtain ⟨f1, f2⟩ := slotFree_spec hst
      obtain ⟨_, g1, _⟩ := hfree j i s r hs hr hlt hb
      refine ⟨fun t ht hd => (f1 t (hat'.dst hd)).1 ht, g1.imp id fun g1 x hx hi => g1 x hi hx, fun hgt => by omega⟩
    · have hSj : S j = true := by
        cases hSj : S j with
        | true => rfl
        | false => exact absurd (by rw [hSj]; simp; omega) hne
      have hb : befBit ops.toList j i = false := by
        cases hb : befBit ops.toList j i with
        | false => rfl
        | true =>
          have := before_in inv.down j i oj (by simpa using hoj) hb (inv.down j oj hSj (by simpa using hoj))
          rw [hS] at this
          cases this
      have hst := statAll_spec _ 0 hreg.1 i j o oj hol hoj hgt
      simp only [Nat.zero_add] at hst
      unfold befBit at hb
      have hst := hst.resolve_right (by rw [hb]; simp)
      obtain ⟨f1, f2⟩ := slotFree_spec hst
      obtain ⟨g1, _, g2⟩ := hfree i j r s hr hs hgt hb
      refine ⟨fun t ht hd => f2 t (hat'.dst hd) ht, g2.imp id fun g2 x hx hi => g2 x hi hx, fun _ => ⟨fun d hd hd' => (f1 d (hat0.dst hd)).2 (hat'.dst hd'), g1⟩⟩
  have htk : apps (σ0.sl, σ0.h) (rs.take i) = rep (fun j => decide (j < i)) rs 0 (σ0.sl, σ0.h) := by
    have := rep_take rs 0 i (σ0.sl, σ0.h)
    simp only [Nat.zero_add] at this
    exact this.symm
  rw [htk] at hat
  have hsl : ∀ t ∈ looks ops.toList o, agree (rep S rs 0 (σ0.sl, σ0.h)).1 (rep (fun j => decide (j < i)) rs 0 (σ0.sl, σ0.h)).1 t := by
    intro t ht
    refine rep_slot rs 0 _ _ (fun j s hs hne => ?_) rfl
    simp only [Nat.zero_add] at hne
    by_cases hji : j = i
    · subst hji; simp [hS] at hne
    · exact (far j s hs hne hji).1 t ht
  have heff : ∀ (e : Eff), anyEff E dp (rep (fun j => decide (j < i)) rs 0 (σ0.sl, σ0.h)).2 nx (rep (fun j => decide (j < i)) rs 0 (σ0.sl, σ0.h)).1 o.op = some e → r.rds = e.rds →
      (r.dep = .all ∨ r.dep = depOf (rep (fun j => decide (j < i)) rs 0 (σ0.sl, σ0.h)).1 (rep (fun j => decide (j < i)) rs 0 (σ0.sl, σ0.h)).2 o.op e) →
      anyEff E dp C.H nx (rep S rs 0 (σ0.sl, σ0.h)).1 o.op = some e := by
    intro e he hrd hdep
    rw [anyEff_congr (s' := (rep (fun j => decide (j < i)) rs 0 (σ0.sl, σ0.h)).1) (fun t ht => hsl t (by unfold looks; exact List.mem_append_left _ ht)), inv.heap]
    by_cases hst : Stable E ops.toList rs σ0.h i r
    · obtain ⟨_, x, hx, hv⟩ := hst
      have hd := hv _ (rep_vis (S := S) (fun k _ hb => before_in inv.down i k o ho hb hedge) (fun k hgt hb => by
          cases hSk : S k with
          | false => rfl
          | true =>
            by_cases hkl : k < ops.toList.length
            · have hok' : ops[k]? = some ops.toList[k] := by rw [← Array.getElem?_toList]; exact List.getElem?_eq_getElem hkl
              have := before_in inv.down k i _ hok' hb (inv.down k _ hSk hok')
              rw [hS] at this
              cases this
            · exfalso
              unfold befBit at hb
              have hm := masks_length ops.toList []
              simp only [List.length_nil, Nat.zero_add] at hm
              rw [List.getD_eq_getElem?_getD, List.getElem?_eq_none (by omega)] at hb
              simp at hb) hS rs 0 (σ0.sl, σ0.h) [σ0.h x] (by simp))
      rcases hdep with hdep | hdep
      · rw [hdep] at hd; exact hd.elim
      · rw [hdep] at hd
        exact anyEff_dep he (by rw [← hrd]; exact hx) hd
    · refine anyEff_local hd he fun x hx => ?_
      refine rep_heap rs 0 _ _ (fun j s hs hne => ?_) rfl
      simp only [Nat.zero_add] at hne
      by_cases hji : j = i
      · subst hji; simp [hS] at hne
      · exact ((far j s hs hne hji).2.1.resolve_left hst) x (by rw [hrd]; exact hx)
  have hadd : rep (fun j => S j || j == i) rs 0 (σ0.sl, σ0.h) = app (rep S rs 0 (σ0.sl, σ0.h)) r := by
    have := rep_add (S := S) rs 0 i (σ0.sl, σ0.h) hr (by simpa using hS) (fun j s hs hSj hlt => (far j s hs (by simp only [Nat.zero_add] at hSj; rw [hSj]; simp; omega) (by omega)).2.2 hlt)
    simpa using this
  have hdown : Down ops fun j => (S j || j == i) = true := by
    intro j oj hj hoj e he hb
    simp only [Bool.or_eq_true, beq_iff_eq] at hj ⊢
    rcases hj with hj | rfl
    · exact .inl (inv.down j oj hj hoj e he hb)
    · rw [ho] at hoj
      cases hoj
      exact .inl (hedge e he hb)
  have hput : ∀ (v : Value), (a.put o.dst v).defers = a0.defers := fun v => by rw [← inv.defers]; unfold Act.put; split <;> rfl
  have hok : r.k = .ok → ∀ (j : Nat) (r' : Rec), rs[j]? = some r' → (S j || j == i) = true → r'.k = .ok := by
    intro hk j r' hr' hj
    simp only [Bool.or_eq_true, beq_iff_eq] at hj
    rcases hj with hj | rfl
    · exact inv.ok_ j r' hr' hj
    · rw [hr] at hr'; cases hr'; exact hk
  have hN : ∀ i, C.B i → i < σ0.nx + ops.toList.length := by
    intro i hi
    have h1 := sp.top
    rcases (inv.born i).1 hi with h | ⟨j, r', g1, _, g3⟩
    · omega
    · have := (sp.nid j r' i g1 g3).2.1; omega
  -- the number is fresh
  unfold wpOp
  rw [ho]
  dsimp only
  cases hat with
  | skip hw hrr =>
    have hw' : want ops.toList (rep S rs 0 (σ0.sl, σ0.h)).1 o = some false := by rw [want_congr hsl]; exact hw
    rw [want_ok inv.sl hw', if_neg (by simp)]
    refine hK C _ ⟨hdown, hok (by rw [hrr]), ?_, ?_, inv.cx, inv.le, ?_, hput _⟩
    · rw [hadd, inv.heap, hrr]; rfl
    · rw [hadd, hrr]; exact inv.sl.put o.dst (rep_undef C)
    · intro k
      rw [inv.born k]
      constructor
      · rintro (h | ⟨j, r', h1, h2, h3⟩)
        · exact .inl h
        · exact .inr ⟨j, r', h1, by simp [h2], h3⟩
      · rintro (h | ⟨j, r', h1, h2, h3⟩)
        · exact .inl h
        · simp only [Bool.or_eq_true, beq_iff_eq] at h2
          rcases h2 with h2 | rfl
          · exact .inr ⟨j, r', h1, h2, h3⟩
          · rw [hr] at h1; cases h1; rw [hrr] at h3; cases h3
  | done e x hw he hout hrr =>
    have hw' : want ops.toList (rep S rs 0 (σ0.sl, σ0.h)).1 o = some true := by rw [want_congr hsl]; exact hw
    rw [want_ok inv.sl hw', if_pos rfl]
    refine .inl ?_
    have he' := heff e he (by rw [hrr]) (.inr (by rw [hrr]))
    have fresh : ∃ n, ¬ C.B n ∧ anyEff E dp C.H n (rep S rs 0 (σ0.sl, σ0.h)).1 o.op = some e ∧ (e.new = true → n = nx) := by
      cases hn : e.new with
      | true =>
        refine ⟨nx, ?_, he', fun _ => rfl⟩
        rw [inv.born]
        rintro (h | ⟨j, r', h1, h2, h3⟩)
        · omega
        · have := (sp.nid i r nx hr (by rw [hrr]; simp [hn])).2.2 j r' h1 h3
          subst this
          rw [hS] at h2
          cases h2
      | false =>
        refine ⟨σ'.nx, ?_, anyEff_nid he' hn, fun h => by cases h⟩
        rw [inv.born]
        rintro (h | ⟨j, r', h1, h2, h3⟩)
        · have := sp.mono; omega
        · have := (sp.nid j r' _ h1 h3).2.1; omega
    obtain ⟨n, hB, hen, hnn⟩ := fresh
    have hHn : C.H n = none := by
      cases hh : C.H n with
      | none => rfl
      | some b => exact absurd (inv.cx.born _ _ hh) hB
    have next : ∀ v C', After C e n C' → Rep C' v x → K (a.put o.dst v) C'.w := by
      intro v C' hA hv
      refine hK C' _ ⟨hdown, hok (by rw [hrr]), ?_, ?_, hA.ok, inv.le.trans hA.le, ?_, hput _⟩
      · rw [hadd, hA.H, inv.heap, hrr]; rfl
      · rw [hadd, hrr]; exact (inv.sl.le hA.le).put o.dst hv
      · intro k
        rw [hA.B]
        dsimp only
        rw [inv.born k]
        constructor
        · rintro ((h | ⟨j, r', h1, h2, h3⟩) | ⟨h1, h2⟩)
          · exact .inl h
          · exact .inr ⟨j, r', h1, by simp [h2], h3⟩
          · exact .inr ⟨i, r, hr, by simp, by rw [hrr, h2, hnn h1]; simp [h1]⟩
        · rintro (h | ⟨j, r', h1, h2, h3⟩)
          · exact .inl (.inl h)
          · simp only [Bool.or_eq_true, beq_iff_eq] at h2
            rcases h2 with h2 | rfl
            · exact .inl (.inr ⟨j, r', h1, h2, h3⟩)
            · rw [hr] at h1
              cases h1
              rw [hrr] at h3
              dsimp only at h3
              split at h3
              · rename_i hnew; cases h3; exact .inr ⟨hnew, (hnn hnew).symm⟩
              · cases h3
    refine any_wp hE hp inv.cx inv.sl hN hHn hB hen (fun v y C' ho' hA hv => ?_) (fun v y C' ho' hA hv => ?_)
    · rcases hout with hout | ⟨hout, rfl⟩ <;> rcases ho' with ho' | ⟨ho', rfl, rfl⟩ <;> rw [hout] at ho' <;> cases ho'
      · exact next v C' hA hv
      · exact next _ C' hA hv
    · rcases hout with hout | ⟨hout, _⟩ <;> rw [hout] at ho' <;> cases ho'
  | pan e v hw he hout hu hn hp' hrr =>
    have hw' : want ops.toList (rep S rs 0 (σ0.sl, σ0.h)).1 o = some true := by rw [want_congr hsl]; exact hw
    rw [want_ok inv.sl hw', if_pos rfl]
    refine .inl ?_
    have he' := heff e he (by rw [hrr]) (.inl (by rw [hrr]))
    have hB : ¬ C.B σ'.nx := by
      rw [inv.born]
      rintro (h | ⟨j, r', h1, h2, h3⟩)
      · have := sp.mono; omega
      · have := (sp.nid j r' _ h1 h3).2.1; omega
    have hHn : C.H σ'.nx = none := by
      cases hh : C.H σ'.nx with
      | none => rfl
      | some b => exact absurd (inv.cx.born _ _ hh) hB
    refine any_wp hE hp inv.cx inv.sl hN hHn hB (anyEff_nid he' hn) (fun v' y C' ho' hA hv => ?_) (fun v' y C' ho' hA hv => ?_)
    · rcases ho' with ho' | ⟨ho', _⟩ <;> rw [hout] at ho' <;> cases ho'
    · rw [hout] at ho'
      cases ho'
      obtain ⟨qs, hp', -⟩ := hp'
      refine hQ C' v' _ qs hp' hA.le hA.ok (by rw [hA.H, hu]; rfl) (fun j => by rw [hA.B]; simp [hn]) hv
  | dead q qs v hp' hm hb hrr =>
    obtain ⟨qs0, h0, _⟩ | ⟨j, r', hq, hrj, hk⟩ := sp.new qs v hp' q hm
    · cases h0
    rw [Nat.zero_add] at hq
    subst hq
    have := inv.ok_ q r' hrj (before_in inv.down i q o ho hb hedge)
    rw [hk] at this
    cases this

theorem ready_iff {listed : Array Bool} {i : Nat} : i ∈ Region.ready .any ops listed ↔ ∃ o, ops[i]? = some o ∧ listed.getD i true = false ∧ ∀ e ∈ o.after, Region.binds .any e = true → listed.getD e.on false = true := by
  unfold Region.ready
  simp only [List.mem_filter, List.mem_range, Bool.and_eq_true, Bool.not_eq_true']
  constructor
  · rintro ⟨h1, h2, h3⟩
    have ho : ops[i]? = some ops[i] := Array.getElem?_eq_getElem h1
    refine ⟨_, ho, h2, fun e he hb => ?_⟩
    rw [ho] at h3
    simp only [Option.map_some, Option.getD_some] at h3
    have := Array.all_eq_true'.1 h3 e he
    simpa [hb] using this
  · rintro ⟨o, ho, h2, h3⟩
    refine ⟨(Array.getElem?_eq_some_iff.1 ho).1, h2, ?_⟩
    rw [ho]
    simp only [Option.map_some, Option.getD_some]
    refine Array.all_eq_true'.2 fun e he => ?_
    cases hb : Region.binds .any e with
    | false => rfl
    | true => simpa using h3 e he hb

theorem inv_run (hE : EOk P E) (hp : CallOk P (σ0.nx + ops.toList.length) dp) (hd : CallLocal dp) (hreg : regOk ops.toList = true) (sp : Spec E dp ops.toList ops.toList 0 none σ0 rs p' σ')
    (hfree : DynP E ops.toList rs σ0.h)
    {Q : Exit → Act → World → Prop}
    (hN : p' = none → ∀ C' a', Inv E ops rs σ0 C0 a0 (fun _ => true) C' a' → Q .normal a' C'.w)
    (hQ : ∀ C C' S a v qs x, p' = some (qs, x) → Inv E ops rs σ0 C0 a0 S C a → C.Le C' → C'.Ok → C'.H = C.H → (∀ j, C'.B j ↔ C.B j) → Rep C' v x → Q (.panic [entry v]) a C'.w) :
    ∀ (fuel : Nat) (listed : Array Bool) (C : Cx) (a : Act), listed.size = ops.size → listed.toList.countP (fun b => !b) ≤ fuel → Inv E ops rs σ0 C0 a0 (fun j => listed.getD j false) C a → wpAny P .any ops Q fuel listed a C.w := by
  have getT : ∀ (listed : Array Bool) (i : Nat), i < listed.size → listed.getD i true = listed.getD i false := fun l i h => by simp [h]
  have stuck : ∀ (listed : Array Bool) (C : Cx) (a : Act), listed.size = ops.size → Inv E ops rs σ0 C0 a0 (fun j => listed.getD j false) C a → Region.ready .any ops listed = [] → Q .normal a C.w := by
    intro listed C a hsz inv hnil
    simp only [regOk, Bool.and_eq_true] at hreg
    have hall : ∀ i, i < ops.size → listed.getD i false = true := by
      intro i
      induction i using Nat.strongRecOn with
      | _ i ih =>
        intro hi
        cases hl : listed.getD i false with
        | true => rfl
        | false =>
          have ho : ops[i]? = some ops[i] := Array.getElem?_eq_getElem hi
          have : i ∈ Region.ready .any ops listed := by
            refine ready_iff.2 ⟨_, ho, by rw [getT _ _ (by omega)]; exact hl, fun e he hb => ?_⟩
            have := edgesOk_spec _ 0 hreg.2 i _ (by simp) e he hb
            exact ih e.on (by omega) (by omega)
          rw [hnil] at this
          cases this
    have hrl : rs.length = ops.size := by rw [sp.len]; simp
    have inv' : Inv E ops rs σ0 C0 a0 (fun _ => true) C a := by
      have hrep : rep (fun j => listed.getD j false) rs 0 (σ0.sl, σ0.h) = rep (fun _ => true) rs 0 (σ0.sl, σ0.h) := rep_congr rs 0 _ fun i _ h2 => hall i (by omega)
      have hin : ∀ (j : Nat) (r : Rec), rs[j]? = some r → listed.getD j false = true := fun j r hr => hall j (by have := (List.getElem?_eq_some_iff.1 hr).1; omega)
      refine ⟨fun _ _ _ _ _ _ _ => rfl, fun j r hr _ => inv.ok_ j r hr (hin j r hr), by rw [← hrep]; exact inv.heap, by rw [← hrep]; exact inv.sl, inv.cx, inv.le, fun i => ?_, inv.defers⟩
      rw [inv.born i]
      constructor
      · rintro (h | ⟨j, r, h1, h2, h3⟩)
        · exact .inl h
        · exact .inr ⟨j, r, h1, rfl, h3⟩
      · rintro (h | ⟨j, r, h1, h2, h3⟩)
        · exact .inl h
        · exact .inr ⟨j, r, h1, hin j r h1, h3⟩
    cases hpp : p' with
    | none => exact hN hpp C a inv'
    | some qv =>
      obtain ⟨qs, v⟩ := qv
      obtain ⟨q, hm⟩ := List.exists_mem_of_ne_nil _ (sp.ne (fun _ _ h => by cases h) qs v hpp)
      obtain ⟨qs0, h0, _⟩ | ⟨j, r', hq, hrj, hk⟩ := sp.new qs v hpp q hm
      · cases h0
      have := inv'.ok_ j r' hrj rfl
      rw [hk] at this
      cases this
  intro fuel
  induction fuel with
  | zero =>
    intro listed C a hsz hc inv
    have hnil : Region.ready .any ops listed = [] := by
      refine List.eq_nil_iff_forall_not_mem.2 fun i hi => ?_
      obtain ⟨o, ho, hl, _⟩ := ready_iff.1 hi
      have hlt : i < listed.size := by have := (Array.getElem?_eq_some_iff.1 ho).1; omega
      have h0 : listed.toList.countP (fun b => !b) = 0 := by omega
      rw [List.countP_eq_zero] at h0
      have := h0 listed[i] (by simp)
      rw [getT _ _ hlt] at hl
      simp [hlt] at hl
      simp [hl] at this
    exact ⟨hnil, stuck listed C a hsz inv hnil⟩
  | succ fuel ih =>
    intro listed C a hsz hc inv
    refine ⟨stuck listed C a hsz inv, fun i hi => ?_⟩
    obtain ⟨o, ho, hl, he⟩ := ready_iff.1 hi
    have hlt : i < listed.size := by have := (Array.getElem?_eq_some_iff.1 ho).1; omega
    rw [getT _ _ hlt] at hl
    have hl' : listed[i] = false := by simpa [hlt] using hl
    refine inv_step hE hp hd hreg sp hfree inv ho hl he (fun C' a' inv' => ?_) (fun C' v x qs h1 h2 h3 h4 h5 h6 => hQ C C' _ a v qs x h1 inv h2 h3 h4 h5 h6)
    refine ih _ C' a' (by simpa using hsz) ?_ ?_
    · rw [Array.toList_setIfInBounds, List.countP_set (by simpa using hlt)]
      have hpos : 0 < listed.toList.countP (fun b => !b) := List.countP_pos_iff.2 ⟨listed[i], by simp, by simp [hl']⟩
      simp only [Array.getElem_toList, hl', Bool.not_false, if_true, Bool.not_true, Bool.false_eq_true, if_false]
      omega
    · have : (fun j => (listed.setIfInBounds i true).getD j false) = fun j => listed.getD j false || j == i := by
        funext j
        by_cases hj : j = i
        · subst hj; simp [hlt]
        · simp only [Array.getD_eq_getD_getElem?]
          rw [Array.getElem?_setIfInBounds_ne (fun e => hj e.symm)]
          simp [hj]
      rw [this]
      exact inv'

theorem draw_ok (hE : EOk P E) {cl : Cl} (hp : PureOk P cl.p) (ho : BodyOk P cl.o) (hreg : regOk ops.toList = true) {r : Ex × St} (hrun : runDraw E cl ops.toList σ0 = some r)
    (hH : C0.H = σ0.h) (hB : C0.B = fun i => i < σ0.nx) (hok : C0.Ok) (hs : SRel C0 σ0.sl a0.tmps) : wpAny P .any ops (ExRel C0 a0 r) ops.size (Array.replicate ops.size false) a0 C0.w := by
  unfold runDraw at hrun
  have hinv : ∀ rs, Inv E ops rs σ0 C0 a0 (fun j => (Array.replicate ops.size false).getD j false) C0 a0 := by
    intro rs
    have h0 : ∀ j, (Array.replicate ops.size false).getD j false = false := fun j => by
      simp only [Array.getD_eq_getD_getElem?, Array.getElem?_replicate]; split <;> rfl
    refine ⟨fun j o h => absurd ((h0 j).symm.trans h) (by simp), fun j r _ h => absurd ((h0 j).symm.trans h) (by simp), ?_, ?_, hok, Cx.Le.refl C0, fun i => ?_, rfl⟩
    · rw [rep_none rs 0 _ fun i _ => h0 i]; exact hH
    · rw [rep_none rs 0 _ fun i _ => h0 i]; exact hs
    · rw [hB]
      exact ⟨.inl, fun h => h.elim id fun ⟨j, r, _, h, _⟩ => absurd ((h0 j).symm.trans h) (by simp)⟩
  have hfree : ∀ rs : List Rec, (match rs.all Rec.quiet with | true => true | false => dynOk ops.toList 0 rs) = true → DynP E ops.toList rs σ0.h := by
    intro rs h j k r s hr hs' hlt hb
    split at h
    · rename_i hq
      have q : ∀ t ∈ rs, t.ids = [] := fun t ht => by
        have := List.all_eq_true.1 hq t ht
        unfold Rec.quiet at this
        unfold Rec.ids
        rw [List.isEmpty_iff.1 this]
        rfl
      unfold PairOk
      rw [q r (List.mem_of_getElem? hr), q s (List.mem_of_getElem? hs')]
      exact ⟨fun _ h => absurd h (by simp), .inr fun _ h => absurd h (by simp), .inr fun _ h => absurd h (by simp)⟩
    · have := dynOk_spec rs 0 h j k r s hr hs' hlt
      simp only [Nat.zero_add, hb, Bool.false_eq_true, or_false] at this
      obtain ⟨g1, g2⟩ := free_spec this
      exact ⟨fun i hi => (g1 i hi).2, .inr fun i hi => (g1 i hi).1, .inr g2⟩
  have hcount : (Array.replicate ops.size false).toList.countP (fun b => !b) ≤ ops.size := by
    have := List.countP_le_length (p := fun b => !b) (l := (Array.replicate ops.size false).toList)
    simpa using this
  split at hrun
  · rename_i rs σ' hrecs
    have sp := recs_spec _ _ _ _ _ _ _ hrecs
    have hdyn : DynP E ops.toList rs σ0.h ∧ r = (.norm, σ') := by
      split at hrun
      · rename_i hq; cases hrun; exact ⟨hfree rs hq, rfl⟩
      · split at hrun <;> cases hrun
        rename_i hq
        exact ⟨hq, rfl⟩
    obtain ⟨hdyn, rfl⟩ := hdyn
    refine inv_run hE (eff_ok hp ho) callEff_local hreg sp hdyn (fun _ C' a' inv => ?_) (fun C C' S a v qs x h => by cases h) ops.size _ C0 a0 (by simp) hcount (hinv rs)
    have hrep : rep (fun _ => true) rs 0 (σ0.sl, σ0.h) = (σ'.sl, σ'.h) := by rw [rep_all rs 0 _ fun _ _ _ => rfl, sp.fin]
    refine ⟨C', rfl, by rw [inv.heap, hrep], ?_, inv.cx, inv.le, inv.defers, rfl, ?_⟩
    · funext i
      refine propext ⟨fun h => ?_, fun h => ?_⟩
      · rcases (inv.born i).1 h with h | ⟨j, r, h1, _, h3⟩
        · have := sp.mono; dsimp only; omega
        · exact (sp.nid j r i h1 h3).2.1
      · refine (inv.born i).2 ?_
        by_cases hi : i < σ0.nx
        · exact .inl hi
        · obtain ⟨j, r, h1, h2⟩ := sp.all_ i (by omega) h
          exact .inr ⟨j, r, h1, rfl, h2⟩
    · have := inv.sl
      rw [hrep] at this
      exact this
  · rename_i rs q v0 σ' hrecs
    have sp := recs_spec _ _ _ _ _ _ _ hrecs
    split at hrun <;> cases hrun
    rename_i hq
    have hq1 : (match rs.all Rec.quiet with | true => true | false => dynOk ops.toList 0 rs) = true := by
      split at hq
      · rename_i hqq; rw [hqq]
      · rename_i hqq; rw [hqq]; simp only [Bool.and_eq_true] at hq; exact hq.1
    have hids : ∀ r ∈ rs, ∀ i ∈ r.ids, σ0.nx ≤ i := by
      split at hq
      · rename_i hqq
        intro t ht i hi
        have := List.all_eq_true.1 hqq t ht
        unfold Rec.quiet at this
        unfold Rec.ids at hi
        rw [List.isEmpty_iff.1 this] at hi
        cases hi
      · simp only [Bool.and_eq_true] at hq
        intro t ht i hi
        have := List.all_eq_true.1 (List.all_eq_true.1 hq.2 t ht) i hi
        simpa using this
    refine inv_run hE (eff_ok hp ho) callEff_local hreg sp (hfree rs hq1) (fun h => by cases h) (fun C C' S a v qs x hpx inv hle hok' hH' hB' hv => ?_) ops.size _ C0 a0 (by simp) hcount (hinv rs)
    cases hpx
    have hlow : ∀ i, i < σ0.nx → C'.H i = σ0.h i := by
      intro i hi
      rw [hH', inv.heap]
      have := rep_heap (S := S) (S' := fun _ => false) (x := i) rs 0 (σ0.sl, σ0.h) (σ0.sl, σ0.h) (fun j r hr _ hm => by have := hids r (List.mem_of_getElem? hr) i hm; omega) rfl
      rw [this, rep_none rs 0 _ fun _ _ => rfl]
    have hin : ∀ i b, σ0.h i = some b → C'.H i = some b ∧ i < σ0.nx := by
      intro i b hb
      have : C0.B i := hok.born i b (by rw [hH]; exact hb)
      rw [hB] at this
      exact ⟨by rw [hlow i this]; exact hb, this⟩
    have hBs : ∀ i, C'.B i → i < σ'.nx := by
      intro i hi
      rcases (inv.born i).1 ((hB' i).1 hi) with h | ⟨j, r, h1, _, h3⟩
      · have := sp.mono; omega
      · exact (sp.nid j r i h1 h3).2.1
    have hle3 : C'.Le { C' with H := σ0.h, B := fun i => i < σ'.nx } := by
      refine ⟨fun _ _ _ => rfl, ?_, rfl, ?_, fun i hi => hBs i hi, fun b cs t fz h => ⟨cs, h, rfl⟩, Nat.le_refl _, rfl, rfl, rfl⟩
      · rintro b _ ⟨i, blk, h1, h2, h3⟩
        exact ⟨i, blk, (hin i blk h1).1, h2, h3⟩
      · intro i blk hi hb
        exact ⟨blk, (hin i blk hb).1, rfl, rfl⟩
    refine ⟨{ C' with H := σ0.h, B := fun i => i < σ'.nx }, rfl, rfl, rfl, ?_, (inv.le.trans hle).trans hle3, inv.defers, v, rfl, hv.le hle3⟩
    refine ⟨fun i j bi bj h1 h2 h3 => hok'.inj i j bi bj (hin i bi h1).1 (hin j bj h2).1 h3, fun i b h => hok'.nF i b (hin i b h).1, fun i b h => ?_, fun i b h hz => ?_, hok'.Fsz, fun i b h hz => (hok'.lp i b (hin i b h).1 hz).le hle3 rfl⟩
    · have := (hin i b h).2; have := sp.mono; dsimp only; omega
    · obtain ⟨cs, t, h1, h2, h3⟩ := hok'.blk i b (hin i b h).1 hz
      refine ⟨cs, t, h1, h2, fun j c hc => ?_⟩
      obtain ⟨v, q1, q2, q3⟩ := h3 j c hc
      exact ⟨v, q1, q2.le hle3, q3⟩
  · cases hrun
end
end Vm

/- The machine over pure values and the model's world: loops over functions: their rows, their marks. (Own work of this repo.) -/
namespace Vm
open Go Go.RowKit

def mark (D : Nat) : Deferred := { target := .collected D, args := #[] }
/-- The marks that loops over functions have left among the deferred calls. -/
def Marks (base : Nat) (w : World) (ds : List Deferred) : Prop := ∃ Ds : List Nat, ds = Ds.map mark ∧ Ds.Nodup ∧ ∀ D ∈ Ds, base ≤ D ∧ w.heap[D]? = some (.deferred (some []))
/-- What a piece of code comes to. -/
def CoRel (C : Cx) (a0 : Act) (r : Ex × St) : Exit → Act → World → Prop := fun e a w => ∃ C', C'.w = w ∧ C'.H = r.2.h ∧ (C'.B = fun i => i < r.2.nx) ∧ C'.Ok ∧ C.Le C' ∧ (∃ ds, a.defers = ds ++ a0.defers ∧ Marks C.w.heap.size w ds) ∧
  match r.1 with
  | .norm => e = .normal ∧ SRel C' r.2.sl a.tmps
  | .exit i => e = .exit i ∧ SRel C' r.2.sl a.tmps
  | .ret => e = .ret ∧ SRel C' r.2.sl a.tmps
  | .panic x => ∃ v, e = .panic [entry v] ∧ Rep C' v x
theorem Marks.nil {b : Nat} {w : World} : Marks b w [] := ⟨[], rfl, List.nodup_nil, fun _ h => by cases h⟩
theorem ExRel.co {C : Cx} {a0 : Act} {r : Ex × St} {e : Exit} {a : Act} {w : World} (h : ExRel C a0 r e a w) : CoRel C a0 r e a w := by
  obtain ⟨C', h1, h2, h3, h4, h5, h6, h7⟩ := h
  exact ⟨C', h1, h2, h3, h4, h5, ⟨[], by simpa using h6, .nil⟩, h7⟩
theorem own_obj {C : Cx} (h : C.Ok) {b : Nat} (ho : C.own b) : (∃ cs t, C.w.heap[b]? = some (.cells cs t (0, 0))) ∨ ∃ r, C.w.heap[b]? = some (.loop r) := by
  obtain ⟨i, blk, h1, h2, rfl⟩ := ho
  by_cases hz : blk.esz = 0
  · obtain ⟨s, ps, asg, bd, sl, r, _, hr, _⟩ := h.lp i blk h1 hz
    exact .inr ⟨r, hr⟩
  · obtain ⟨cs, t, hc, _⟩ := h.blk i blk h1 hz
    exact .inl ⟨cs, t, hc⟩
theorem not_own {C : Cx} (h : C.Ok) {D : Nat} {x : Option (List Deferred)} (hd : C.w.heap[D]? = some (.deferred x)) : ¬ C.own D := by
  intro ho
  rcases own_obj h ho with ⟨cs, t, hc⟩ | ⟨r, hr⟩
  · rw [hd] at hc; cases hc
  · rw [hd] at hr; cases hr
theorem deferred_kept {C C' : Cx} (h : C.Le C') (ok : C.Ok) {D : Nat} {x : Option (List Deferred)} (hd : C.w.heap[D]? = some (.deferred x)) : C'.w.heap[D]? = some (.deferred x) := by
  rw [h.mem D (Array.getElem?_eq_some_iff.1 hd).1 (not_own ok hd)]; exact hd
theorem CoRel.trans {C C1 : Cx} (h : C.Le C1) (ok : C1.Ok) {a0 a1 : Act} (hm : ∃ ds, a1.defers = ds ++ a0.defers ∧ Marks C.w.heap.size C1.w ds) {r : Ex × St} {e : Exit} {a : Act} {w : World} (g : CoRel C1 a1 r e a w) : CoRel C a0 r e a w := by
  obtain ⟨C', rfl, h2, h3, h4, h5, ⟨ds2, e2, Ds2, rfl, n2, m2⟩, h7⟩ := g
  obtain ⟨ds1, e1, Ds1, rfl, n1, m1⟩ := hm
  refine ⟨C', rfl, h2, h3, h4, h.trans h5, ⟨Ds2.map mark ++ Ds1.map mark, by rw [e2, e1, List.append_assoc], Ds2 ++ Ds1, by simp, ?_, ?_⟩, h7⟩
  · refine List.nodup_append.2 ⟨n2, n1, fun x hx y hy e => ?_⟩
    have q1 := (m2 x hx).1
    have q2 := (Array.getElem?_eq_some_iff.1 (m1 y hy).2).1
    omega
  · intro D hD
    rcases List.mem_append.1 hD with hD | hD
    · exact ⟨Nat.le_trans h.size (m2 D hD).1, (m2 D hD).2⟩
    · exact ⟨(m1 D hD).1, deferred_kept h5 ok (m1 D hD).2⟩
theorem CoRel.le {C C1 : Cx} {a0 a1 : Act} (h : C.Le C1) (ok : C1.Ok) (hd : a1.defers = a0.defers) {r : Ex × St} {e : Exit} {a : Act} {w : World} (g : CoRel C1 a1 r e a w) : CoRel C a0 r e a w :=
  g.trans h ok ⟨[], by simpa using hd, .nil⟩

/-! #### rows of loops -/
theorem turn_some {s s' : Nat} {b : Option Blk} {b' : Blk} (h : turn s s' b = some b') : ∃ c t, b = some ⟨[.int .i64 s, c, t], true, 0, false⟩ ∧ b' = ⟨[.int .i64 s', c, t], true, 0, false⟩ := by
  unfold turn at h
  split at h
  · split at h <;> cases h
    rename_i x c t hx
    exact ⟨c, t, by rw [hx], rfl⟩
  · cases h
theorem heap_putObj (w : World) (r : Nat) (o : Obj) (b : Nat) (h : b ≠ r) : (w.putObj r o).heap[b]? = w.heap[b]? := World.putObj_heap_other h
/-- A loop's record goes on. -/
theorem Cx.Ok.loopTo {C : Cx} (h : C.Ok) {id : Nat} {s s' : Nat} {b' : Blk} (ht : turn s s' (C.H id) = some b') {r r' : Loop} (hl : C.w.heap[C.at_ id]? = some (.loop r)) (hst : LpSt s' r') (hs : r'.params = r.params ∧ r'.assign = r.assign ∧ r'.body = r.body ∧ r'.tmps = r.tmps) :
    C.Le ⟨C.H.upd id (some b'), C.at_, C.F, C.B, C.w.putObj (C.at_ id) (.loop r')⟩ ∧ (⟨C.H.upd id (some b'), C.at_, C.F, C.B, C.w.putObj (C.at_ id) (.loop r')⟩ : Cx).Ok := by
  obtain ⟨c, t, hb, rfl⟩ := turn_some ht
  have own : C.own (C.at_ id) := ⟨id, _, hb, rfl, rfl⟩
  have lv : ∀ i b', (C.H.upd id (some ⟨[.int .i64 s', c, t], true, 0, false⟩)) i = some b' → ∃ b, C.H i = some b ∧ b.esz = b'.esz ∧ b.fz = b'.fz := by
    intro i b' hi
    by_cases e : i = id
    · subst e; rw [Heap.upd_same] at hi; cases hi; exact ⟨_, hb, rfl, rfl⟩
    · rw [Heap.upd_ne _ _ e] at hi; exact ⟨b', hi, rfl, rfl⟩
  have ne : ∀ i b', C.H i = some b' → i ≠ id → C.at_ i ≠ C.at_ id := fun i b' hi e e' => e (h.inj _ _ _ _ hi hb e')
  have l : C.Le ⟨C.H.upd id (some ⟨[.int .i64 s', c, t], true, 0, false⟩), C.at_, C.F, C.B, C.w.putObj (C.at_ id) (.loop r')⟩ := by
    refine ⟨fun b hb' ho => ?_, fun b hb' hm => ?_, rfl, fun i b' _ hb' => ?_, fun i hi => hi, fun b c' t' fz hb' => ⟨c', ?_, rfl⟩, by simp, rfl, rfl, rfl⟩
    · exact heap_putObj _ _ _ _ (fun e => ho (e ▸ own))
    · obtain ⟨i, b', h1, h2, h3⟩ := hm
      obtain ⟨b0, h4, _, h5⟩ := lv i b' h1
      exact ⟨i, b0, h4, by rw [h5]; exact h2, h3⟩
    · obtain ⟨b0, h4, h5, _⟩ := lv i b' hb'
      exact ⟨b0, h4, h5, rfl⟩
    · dsimp only
      rw [heap_putObj _ _ _ _ (fun e => by rw [e, hl] at hb'; cases hb')]
      exact hb'
  refine ⟨l, fun i j bi bj hi hj he => ?_, fun i b hi hF => ?_, fun i b hi => ?_, fun i b hi hz => ?_, fun b hb' => by simpa using h.Fsz b hb', fun i b hi hz => ?_⟩
  · obtain ⟨b0, h4, _⟩ := lv i bi hi
    obtain ⟨b1, h5, _⟩ := lv j bj hj
    exact h.inj i j b0 b1 h4 h5 he
  · obtain ⟨b0, h4, _⟩ := lv i b hi
    exact h.nF i b0 h4 hF
  · obtain ⟨b0, h4, _⟩ := lv i b hi
    exact h.born i b0 h4
  · by_cases e : i = id
    · subst e
      dsimp only at hi
      rw [Heap.upd_same] at hi
      cases hi
      exact absurd rfl hz
    · dsimp only at hi ⊢
      rw [Heap.upd_ne _ _ e] at hi
      obtain ⟨cs, t0, h2, h3, h4⟩ := h.blk i b hi hz
      refine ⟨cs, t0, ?_, h3, fun j c hc => ?_⟩
      · rw [heap_putObj _ _ _ _ (ne i b hi e)]; exact h2
      · obtain ⟨v, hv, hrv, h5⟩ := h4 j c hc
        exact ⟨v, hv, hrv.le l, h5⟩
  · by_cases e : i = id
    · subst e
      dsimp only at hi
      rw [Heap.upd_same] at hi
      cases hi
      obtain ⟨s0, ps, asg, bd, sl, r0, g1, g2, g3, g4, g5, g6, g7, g8, g9⟩ := h.lp i _ hb rfl
      rw [hl] at g2
      cases g2
      obtain ⟨k1, k2, k3, k4⟩ := hs
      simp only [List.cons.injEq, and_true] at g1
      obtain ⟨_, rfl, rfl⟩ := g1
      exact ⟨s', ps, asg, bd, sl, r', rfl, World.putObj_heap_same (Array.getElem?_eq_some_iff.1 hl).1, by rw [k1]; exact g3, by rw [k2]; exact g4, by rw [k3]; exact g5, g6, hst, by rw [k4]; exact g8, fun j v x hv hx => (g9 j v x (by rw [← k4]; exact hv) hx).le l⟩
    · dsimp only at hi
      rw [Heap.upd_ne _ _ e] at hi
      exact (h.lp i b hi hz).le l (heap_putObj _ _ _ _ (ne i b hi e))
/-- A loop is over. -/
theorem Cx.Ok.loopOff {C : Cx} (h : C.Ok) {id : Nat} {b : Blk} (hb : C.H id = some b) (hf : b.fz = false) {r r' : Loop} (hl : C.w.heap[C.at_ id]? = some (.loop r)) :
    C.Le ⟨C.H.upd id none, C.at_, C.F, C.B, C.w.putObj (C.at_ id) (.loop r')⟩ ∧ (⟨C.H.upd id none, C.at_, C.F, C.B, C.w.putObj (C.at_ id) (.loop r')⟩ : Cx).Ok := by
  have own : C.own (C.at_ id) := ⟨id, _, hb, hf, rfl⟩
  have lv : ∀ i b', (C.H.upd id none) i = some b' → i ≠ id ∧ C.H i = some b' := by
    intro i b' hi
    by_cases e : i = id
    · subst e; rw [Heap.upd_same] at hi; cases hi
    · rw [Heap.upd_ne _ _ e] at hi; exact ⟨e, hi⟩
  have ne : ∀ i b', C.H i = some b' → i ≠ id → C.at_ i ≠ C.at_ id := fun i b' hi e e' => e (h.inj _ _ _ _ hi hb e')
  have l : C.Le ⟨C.H.upd id none, C.at_, C.F, C.B, C.w.putObj (C.at_ id) (.loop r')⟩ := by
    refine ⟨fun b hb' ho => ?_, fun b hb' hm => ?_, rfl, fun i b' _ hb' => ?_, fun i hi => hi, fun b c' t' fz hb' => ⟨c', ?_, rfl⟩, by simp, rfl, rfl, rfl⟩
    · exact heap_putObj _ _ _ _ (fun e => ho (e ▸ own))
    · obtain ⟨i, b', h1, h2, h3⟩ := hm
      exact ⟨i, b', (lv i b' h1).2, h2, h3⟩
    · exact ⟨b', (lv i b' hb').2, rfl, rfl⟩
    · dsimp only
      rw [heap_putObj _ _ _ _ (fun e => by rw [e, hl] at hb'; cases hb')]
      exact hb'
  refine ⟨l, fun i j bi bj hi hj he => h.inj i j bi bj (lv i bi hi).2 (lv j bj hj).2 he, fun i b hi hF => h.nF i b (lv i b hi).2 hF, fun i b hi => h.born i b (lv i b hi).2, fun i b hi hz => ?_, fun b hb' => by simpa using h.Fsz b hb', fun i b hi hz => ?_⟩
  · obtain ⟨e, hi'⟩ := lv i b hi
    obtain ⟨cs, t0, h2, h3, h4⟩ := h.blk i b hi' hz
    refine ⟨cs, t0, ?_, h3, fun j c hc => ?_⟩
    · dsimp only; rw [heap_putObj _ _ _ _ (ne i b hi' e)]; exact h2
    · obtain ⟨v, hv, hrv, h5⟩ := h4 j c hc
      exact ⟨v, hv, hrv.le l, h5⟩
  · obtain ⟨e, hi'⟩ := lv i b hi
    exact (h.lp i b hi' hz).le l (heap_putObj _ _ _ _ (ne i b hi' e))
/-- A loop begins: two blocks more. -/
theorem Cx.Ok.loopOn {C : Cx} (h : C.Ok) {nid : Nat} (hB : ¬ C.B nid) {w : World} {o : Obj} {r : Loop} (hw : w = (C.w.alloc o).alloc (.loop r)) {ps : Array Tmp} {asg bd : Code} {sl : List AV} (h1 : r.params = ps) (h2 : r.assign = asg) (h3 : r.body = bd)
    (hc : codeOk asg = true ∧ codeOk bd = true ∧ rOk asg = true ∧ rOk bd = true) (hst : LpSt 0 r) (hs : SRel C sl r.tmps) :
    C.Le ⟨C.H.upd nid (some (loopRow 0 ps asg bd sl)), fun i => if i = nid then C.w.heap.size + 1 else C.at_ i, C.F, fun i => C.B i ∨ i = nid, w⟩ ∧
    (⟨C.H.upd nid (some (loopRow 0 ps asg bd sl)), fun i => if i = nid then C.w.heap.size + 1 else C.at_ i, C.F, fun i => C.B i ∨ i = nid, w⟩ : Cx).Ok := by
  have hn : C.H nid = none := by
    cases hh : C.H nid with
    | none => rfl
    | some b => exact absurd (h.born _ _ hh) hB
  have hold : ∀ b, b < C.w.heap.size → w.heap[b]? = C.w.heap[b]? := fun b hb => by
    rw [hw]
    exact (Below.heap_alloc _ _ b (by simp; omega)).trans (Below.heap_alloc _ _ b hb)
  have hnew : w.heap[C.w.heap.size + 1]? = some (.loop r) := by
    rw [hw]; have := World.alloc_heap_new (C.w.alloc o) (.loop r); rwa [World.size_alloc] at this
  have hsz : w.heap.size = C.w.heap.size + 2 := by rw [hw]; simp
  have l : C.Le ⟨C.H.upd nid (some (loopRow 0 ps asg bd sl)), fun i => if i = nid then C.w.heap.size + 1 else C.at_ i, C.F, fun i => C.B i ∨ i = nid, w⟩ := by
    refine ⟨fun b hb _ => hold b hb, fun b hb hm => ?_, rfl, fun i b' hi hb' => ?_, fun i hi => .inl hi, fun b cs' t' fz hb => ⟨cs', ?_, rfl⟩, by dsimp only; omega, by rw [hw]; exact ⟨rfl, rfl, rfl⟩⟩
    · obtain ⟨i, b', g1, g2, g3⟩ := hm
      by_cases hi : i = nid
      · simp only [hi, if_true] at g3; omega
      · simp only [hi, if_false] at g3
        simp only [Heap.upd_ne _ _ hi] at g1
        exact ⟨i, b', g1, g2, g3⟩
    · have hne : i ≠ nid := fun e => hB (e ▸ hi)
      simp only [Heap.upd_ne _ _ hne] at hb'
      exact ⟨b', hb', rfl, by simp [hne]⟩
    · dsimp only
      rw [hold b (Array.getElem?_eq_some_iff.1 hb).1]
      exact hb
  refine ⟨l, ?_, ?_, ?_, ?_, ?_, ?_⟩
  · intro i j bi bj hi hj he
    dsimp only at hi hj he
    by_cases h1 : i = nid <;> by_cases h2 : j = nid
    · rw [h1, h2]
    · rw [Heap.upd_ne _ _ h2] at hj
      simp only [h1, h2, if_true, if_false] at he
      have := h.lt hj
      omega
    · rw [Heap.upd_ne _ _ h1] at hi
      simp only [h1, h2, if_true, if_false] at he
      have := h.lt hi
      omega
    · rw [Heap.upd_ne _ _ h1] at hi
      rw [Heap.upd_ne _ _ h2] at hj
      simp only [h1, h2, if_false] at he
      exact h.inj i j bi bj hi hj he
  · intro i b hi hF
    dsimp only at hi hF
    by_cases h1 : i = nid
    · simp only [h1, if_true] at hF
      have := h.Fsz _ hF
      omega
    · rw [Heap.upd_ne _ _ h1] at hi
      simp only [h1, if_false] at hF
      exact h.nF i b hi hF
  · intro i b hi
    dsimp only at hi
    by_cases h1 : i = nid
    · exact .inr h1
    · rw [Heap.upd_ne _ _ h1] at hi
      exact .inl (h.born i b hi)
  · intro i b hi hz
    dsimp only at hi
    by_cases h1 : i = nid
    · subst h1
      rw [Heap.upd_same] at hi
      cases hi
      exact absurd rfl hz
    · rw [Heap.upd_ne _ _ h1] at hi
      obtain ⟨cs', t', h2, h3, h4⟩ := h.blk i b hi hz
      refine ⟨cs', t', ?_, h3, fun j c hc => ?_⟩
      · simp only [h1, if_false]
        rw [hold _ (h.lt hi)]
        exact h2
      · obtain ⟨v, hv, hrv, h5⟩ := h4 j c hc
        exact ⟨v, hv, hrv.le l, h5⟩
  · intro b hb
    have := h.Fsz b hb
    dsimp only
    omega
  · intro i b hi hz
    dsimp only at hi
    by_cases e : i = nid
    · subst e
      rw [Heap.upd_same] at hi
      cases hi
      exact ⟨0, ps, asg, bd, sl, r, rfl, by dsimp only; rw [if_pos rfl]; exact hnew, h1, h2, h3, hc, hst, hs.1, fun j v x hv hx => (hs.2 j v x hv hx).le l⟩
    · rw [Heap.upd_ne _ _ e] at hi
      refine (h.lp i b hi hz).le l ?_
      dsimp only
      rw [if_neg e]
      exact hold _ (h.lt hi)
/-- The block of a loop's deferred calls is shut. -/
theorem Cx.Ok.shut {C : Cx} (h : C.Ok) {D : Nat} {x : Option (List Deferred)} (hd : C.w.heap[D]? = some (.deferred x)) :
    (⟨C.H, C.at_, C.F, C.B, C.w.putObj D (.deferred none)⟩ : Cx).Ok ∧ (∀ v y, Rep C v y → Rep ⟨C.H, C.at_, C.F, C.B, C.w.putObj D (.deferred none)⟩ v y) ∧
    ∀ C0 : Cx, C0.Le C → C0.w.heap.size ≤ D → C0.Le ⟨C.H, C.at_, C.F, C.B, C.w.putObj D (.deferred none)⟩ := by
  have reps : ∀ v y, Rep C v y → Rep ⟨C.H, C.at_, C.F, C.B, C.w.putObj D (.deferred none)⟩ v y := by
    intro v y hv
    refine Rep.onC (C := C) (C' := ⟨C.H, C.at_, C.F, C.B, C.w.putObj D (.deferred none)⟩) (fun b _ _ hc => ?_) (fun b _ hw => hw) (by simp) True (fun _ i b _ hb => ⟨b, hb, rfl, rfl⟩) (fun _ i hi => hi) (fun _ b cs t fz hc => ⟨cs, ?_, rfl⟩) hv (.inl trivial)
    · obtain ⟨cs, t, fz, hc⟩ := hc
      exact heap_putObj _ _ _ _ (fun e => by rw [e, hd] at hc; cases hc)
    · dsimp only
      rw [heap_putObj _ _ _ _ (fun e => by rw [e, hd] at hc; cases hc)]
      exact hc
  refine ⟨⟨h.inj, h.nF, h.born, fun i b hb hz => ?_, fun b hb => by simpa using h.Fsz b hb, fun i b hb hz => ?_⟩, reps, fun C0 l hD => ?_⟩
  · obtain ⟨cs, t, h1, h2, h3⟩ := h.blk i b hb hz
    refine ⟨cs, t, ?_, h2, fun j c hc => let ⟨v, hv, hr, h1⟩ := h3 j c hc; ⟨v, hv, reps v c hr, h1⟩⟩
    dsimp only
    rw [heap_putObj _ _ _ _ (fun e => by rw [e, hd] at h1; cases h1)]
    exact h1
  · obtain ⟨s, ps, asg, bd, sl, r, g1, g2, g3, g4, g5, g6, g7, g8, g9⟩ := h.lp i b hb hz
    refine ⟨s, ps, asg, bd, sl, r, g1, ?_, g3, g4, g5, g6, g7, g8, fun j v x hv hx => reps _ _ (g9 j v x hv hx)⟩
    dsimp only
    rw [heap_putObj _ _ _ _ (fun e => by rw [e, hd] at g2; cases g2)]
    exact g2
  · refine ⟨fun b hb ho => ?_, l.owns, l.out, l.live, l.born, fun b cs t fz hc => ?_, by simpa using l.size, l.env⟩
    · dsimp only
      rw [heap_putObj _ _ _ _ (by omega)]
      exact l.mem b hb ho
    · obtain ⟨cs', h1, h2⟩ := l.shape b cs t fz hc
      refine ⟨cs', ?_, h2⟩
      dsimp only
      rw [heap_putObj _ _ _ _ (fun e => by rw [e, hd] at h1; cases h1)]
      exact h1
theorem leaves_marks {P : Program} {fn : Func} {tmps : Array Value} {R : Ending → World → Prop} {u : FrameMode} (hu : u ≠ .run) (C0 : Cx) : ∀ (Ds : List Nat) (C : Cx), C.Ok → C0.Le C → Ds.Nodup → (∀ D ∈ Ds, C0.w.heap.size ≤ D ∧ C.w.heap[D]? = some (.deferred (some []))) →
    (∀ C' : Cx, C'.Ok → C0.Le C' → C'.H = C.H → C'.B = C.B → (∀ v y, Rep C v y → Rep C' v y) → LeavesIn (Fw none) 0 P fn tmps R [] u C'.w) → LeavesInM (Fw none) 0 P fn tmps R (Ds.map mark) u C.w
  | [], C, ok, le, _, _, h => h C ok le rfl rfl fun _ _ h => h
  | D :: Ds, C, ok, le, hn, hm, h => by
    obtain ⟨n1, n2⟩ := List.nodup_cons.1 hn
    obtain ⟨q1, q2⟩ := hm D (by simp)
    obtain ⟨s1, s2, s3⟩ := ok.shut q2
    refine ⟨hu, .inl ⟨D, _, rfl, run_takeDeferred q2, ?_⟩⟩
    refine leaves_marks hu C0 Ds ⟨C.H, C.at_, C.F, C.B, C.w.putObj D (.deferred none)⟩ s1 (s3 C0 le q1) n2 (fun D' hD' => ?_) fun C' k1 k2 k3 k4 k5 => h C' k1 k2 k3 k4 fun v y hv => k5 v y (s2 v y hv)
    obtain ⟨p1, p2⟩ := hm D' (by simp [hD'])
    refine ⟨p1, ?_⟩
    dsimp only
    rw [heap_putObj _ _ _ _ (fun e => n1 (by rw [← e]; exact hD'))]
    exact p2
end Vm

/- The machine over pure values and the model's world: functions that defer a closure which recovers. (Own work of this repo.) -/
namespace Vm
open Go

/-- What is asked of the environment and of the program. -/
structure POk (P : Program) (E : Env) : Prop extends EOk P E where
  fn : ∀ f fn, E.fn f = some fn → P.funcs[f]? = some fn ∧ fn.name ≠ "runtime.NumGoroutine" ∧ ∀ c, fn.body = some c → codeOk c = true
  df : ∀ f fn, E.df f = some fn → P.funcs[f]? = some fn ∧ fn.name ≠ "runtime.NumGoroutine" ∧ ∀ c, fn.body = some c → codeOk c = true
  mixed : P.follows .mixedOrders = true
  yf : E.fn 1000003 = none ∧ E.df 1000003 = none

section
variable {P : Program} {E : Env}

theorem mem_cells {C : Cx} {l : List AV} {sl : List AV} {id : Nat} {n : Nat} {vs : Array Value} (hr : RepL C vs.toList l) : SRel C (l ++ List.replicate (n - l.length) undef) (vs ++ Array.replicate (n - vs.size) Go.undef) := by
  have hlen : vs.size = l.length := by have := hr.length; simpa using this
  refine ⟨by simp [hlen], fun i v x hv hx => ?_⟩
  by_cases hi : i < l.length
  · rw [Array.getElem?_append_left (by omega)] at hv
    rw [List.getElem?_append_left hi] at hx
    exact hr.get i v x (by simpa using hv) hx
  · rw [Array.getElem?_append_right (by omega), Array.getElem?_replicate] at hv
    rw [List.getElem?_append_right (by omega), List.getElem?_replicate] at hx
    split at hv <;> cases hv
    split at hx <;> cases hx
    exact rep_undef C
/-- What plain operations leave. -/
structure PlRel (C : Cx) (a : Act) (σ : St) (C' : Cx) (a' : Act) : Prop where
  H : C'.H = σ.h
  B : C'.B = fun i => i < σ.nx
  ok : C'.Ok
  le : C.Le C'
  sl : SRel C' σ.sl a'.tmps
  df : a'.defers = a.defers
theorem PlRel.trans {C C1 C2 : Cx} {a a1 a2 : Act} {σ1 σ2 : St} (h : PlRel C a σ1 C1 a1) (g : PlRel C1 a1 σ2 C2 a2) : PlRel C a σ2 C2 a2 := ⟨g.H, g.B, g.ok, h.le.trans g.le, g.sl, g.df.trans h.df⟩
theorem PlRel.refl {C : Cx} {a : Act} {σ : St} (hH : C.H = σ.h) (hB : C.B = fun i => i < σ.nx) (hok : C.Ok) (hs : SRel C σ.sl a.tmps) : PlRel C a σ C a := ⟨hH, hB, hok, Cx.Le.refl C, hs, rfl⟩
theorem put_defers (a : Act) (d : Option Tmp) (v : Value) : (a.put d v).defers = a.defers := by unfold Act.put; split <;> rfl

/-- One plain operation. -/
theorem pl_op (hE : EOk P E) {o : Oper} {σ : St} {e : Eff} (he : opEff E σ.h σ.nx σ.sl o.op = some e) {C : Cx} {a : Act} (r0 : PlRel C a σ C a) :
    (∀ v, e.out = .val v → ∃ u C', (execOp a.eval o).run P C.w = .ok (.value u) C'.w ∧ PlRel C a ((σ.eff e).put o.dst v) C' (a.put o.dst u)) ∧
    (e.out = .skip → ∃ C', (execOp a.eval o).run P C.w = .ok .skip C'.w ∧ PlRel C a ((σ.eff e).put o.dst undef) C' (a.put o.dst Go.undef)) := by
  have hnx := nx_fresh r0.ok r0.H r0.B
  have hop := op_ok (o := o) hE r0.ok r0.sl hnx.1 hnx.2 (by rw [r0.H]; exact he)
  have hBn : ∀ C', After C e σ.nx C' → (C'.B = fun i => i < (σ.eff e).nx) := fun C' hA => by
    rw [hA.B, r0.B]
    funext i
    cases hn : e.new <;> simp [St.eff, hn]
    omega
  refine ⟨fun v hv => ?_, fun hv => ?_⟩
  · unfold OpOk at hop
    rw [hv] at hop
    obtain ⟨u, C', h1, hA, h3⟩ := hop
    exact ⟨u, C', h1, by rw [hA.H, r0.H]; rfl, hBn C' hA, hA.ok, hA.le, (r0.sl.le hA.le).put o.dst h3, put_defers _ _ _⟩
  · unfold OpOk at hop
    rw [hv] at hop
    obtain ⟨C', h1, hA⟩ := hop
    exact ⟨C', h1, by rw [hA.H, r0.H]; rfl, hBn C' hA, hA.ok, hA.le, (r0.sl.le hA.le).put o.dst (rep_undef _), put_defers _ _ _⟩
theorem pl_in (hE : EOk P E) (all : Array Oper) {Q : Exit → Act → World → Prop} (rest : List Nat) : ∀ (os : List Oper) (i : Nat) (σ σ' : St), (∀ j, j < os.length → os[j]? = all[i + j]?) → runPl E all.toList os σ = some σ' → ∀ (C : Cx) (a : Act), PlRel C a σ C a →
    (∀ C' a', PlRel C a σ' C' a' → wpOpsIn (Fw none) 0 P all Q rest a' C'.w) → wpOpsIn (Fw none) 0 P all Q (List.range' i os.length ++ rest) a C.w
  | [], i, σ, σ', _, hr, C, a, r0, hk => by
    simp only [runPl, Option.some.injEq] at hr
    subst hr
    simpa using hk C a r0
  | o :: os, i, σ, σ', hall, hr, C, a, r0, hk => by
    simp only [List.length_cons, List.range'_succ, List.cons_append, wpOpsIn]
    have h0 : all[i]? = some o := by have := hall 0 (by simp); simpa using this.symm
    rw [h0]
    dsimp only
    have hall' : ∀ j, j < os.length → os[j]? = all[i + 1 + j]? := fun j hj => by have := hall (j + 1) (by simpa using hj); simp only [List.getElem?_cons_succ] at this; rw [this]; congr 1; omega
    simp only [runPl] at hr
    split at hr
    · rename_i hw
      rw [want_ok r0.sl hw, if_pos rfl]
      split at hr <;> try cases hr
      rename_i e he
      have hdef : ∀ c, o.op ≠ .defer c := fun c e' => by rw [e'] at he; simp [opEff] at he
      obtain ⟨p1, p2⟩ := pl_op (P := P) hE he r0
      refine op_in none hdef ?_
      unfold Oper.wp
      split at hr
      · rename_i v hv
        obtain ⟨u, C', h1, h2⟩ := p1 v hv
        rw [h1]
        exact pl_in hE all rest os (i + 1) _ σ' hall' hr C' _ ⟨h2.H, h2.B, h2.ok, Cx.Le.refl _, h2.sl, rfl⟩ fun C2 a2 g => hk C2 a2 (h2.trans g)
      · rename_i hv
        obtain ⟨C', h1, h2⟩ := p2 hv
        rw [h1]
        exact pl_in hE all rest os (i + 1) _ σ' hall' hr C' _ ⟨h2.H, h2.B, h2.ok, Cx.Le.refl _, h2.sl, rfl⟩ fun C2 a2 g => hk C2 a2 (h2.trans g)
      · cases hr
    · rename_i hw
      rw [want_ok r0.sl hw, if_neg (by simp)]
      refine ⟨fun _ _ => trivial, ?_⟩
      have h2 : PlRel C a (σ.put o.dst undef) C (a.put o.dst Go.undef) := ⟨r0.H, r0.B, r0.ok, r0.le, r0.sl.put o.dst (rep_undef C), put_defers _ _ _⟩
      exact pl_in hE all rest os (i + 1) _ σ' hall' hr C _ ⟨h2.H, h2.B, h2.ok, Cx.Le.refl _, h2.sl, rfl⟩ fun C2 a2 g => hk C2 a2 (h2.trans g)
    · cases hr
theorem pl_s (hE : EOk P E) (all : Array Oper) {Q : Exit → Act → List Frame → World → Prop} (cs : List Frame) : ∀ (os : List Oper) (i : Nat) (σ σ' : St), (∀ j, j < os.length → os[j]? = all[i + j]?) → runPl E all.toList os σ = some σ' → ∀ (C : Cx) (a : Act), PlRel C a σ C a →
    (∀ C' a', PlRel C a σ' C' a' → Q .normal a' cs C'.w) → wpOpsSIn (Fw none) 0 P all Q (List.range' i os.length) a cs C.w
  | [], i, σ, σ', _, hr, C, a, r0, hk => by
    simp only [runPl, Option.some.injEq] at hr
    subst hr
    exact hk C a r0
  | o :: os, i, σ, σ', hall, hr, C, a, r0, hk => by
    simp only [List.length_cons, List.range'_succ, wpOpsSIn]
    have h0 : all[i]? = some o := by have := hall 0 (by simp); simpa using this.symm
    rw [h0]
    dsimp only
    refine ⟨fun _ _ => trivial, ?_⟩
    have hall' : ∀ j, j < os.length → os[j]? = all[i + 1 + j]? := fun j hj => by have := hall (j + 1) (by simpa using hj); simp only [List.getElem?_cons_succ] at this; rw [this]; congr 1; omega
    simp only [runPl] at hr
    split at hr
    · rename_i hw
      rw [want_ok r0.sl hw, if_pos rfl]
      split at hr <;> try cases hr
      rename_i e he
      obtain ⟨p1, p2⟩ := pl_op (P := P) hE he r0
      split at hr
      · rename_i v hv
        obtain ⟨u, C', h1, h2⟩ := p1 v hv
        rw [h1]
        exact pl_s hE all cs os (i + 1) _ σ' hall' hr C' _ ⟨h2.H, h2.B, h2.ok, Cx.Le.refl _, h2.sl, rfl⟩ fun C2 a2 g => hk C2 a2 (h2.trans g)
      · rename_i hv
        obtain ⟨C', h1, h2⟩ := p2 hv
        rw [h1]
        exact pl_s hE all cs os (i + 1) _ σ' hall' hr C' _ ⟨h2.H, h2.B, h2.ok, Cx.Le.refl _, h2.sl, rfl⟩ fun C2 a2 g => hk C2 a2 (h2.trans g)
      · cases hr
    · rename_i hw
      rw [want_ok r0.sl hw, if_neg (by simp)]
      have h2 : PlRel C a (σ.put o.dst undef) C (a.put o.dst Go.undef) := ⟨r0.H, r0.B, r0.ok, r0.le, r0.sl.put o.dst (rep_undef C), put_defers _ _ _⟩
      exact pl_s hE all cs os (i + 1) _ σ' hall' hr C _ ⟨h2.H, h2.B, h2.ok, Cx.Le.refl _, h2.sl, rfl⟩ fun C2 a2 g => hk C2 a2 (h2.trans g)
    · cases hr
/-- A plain piece of code. -/
theorem runS_ok (hE : EOk P E) : ∀ (c : Code) (σ : St) (b : Bool) (σ' : St), runS E c σ = some (b, σ') → ∀ (C : Cx) (a : Act), PlRel C a σ C a →
    c.wpIn (Fw none) 0 P (fun e a' w' => ∃ C', C'.w = w' ∧ PlRel C a σ' C' a' ∧ e = if b then Exit.ret else .normal) a C.w := by
  intro c
  induction c with
  | skip =>
    intro σ b σ' h C a r0
    simp only [runS, Option.some.injEq, Prod.mk.injEq] at h
    obtain ⟨rfl, rfl⟩ := h
    exact wpIn_skip ⟨C, rfl, r0, rfl⟩
  | region id ops draw =>
    intro σ b σ' h C a r0
    simp only [runS] at h
    split at h <;> try cases h
    rename_i hd
    have hd' : draw = false := by simpa using hd
    subst hd'
    split at h <;> cases h
    rename_i hr
    refine wpIn_region ?_
    rw [List.range_eq_range']
    have := pl_in (P := P) hE ops (Q := fun e a' w' => ∃ C', C'.w = w' ∧ PlRel C a σ' C' a' ∧ e = if false then Exit.ret else .normal) [] ops.toList 0 σ σ' (fun j _ => by simp) hr C a r0 fun C' a' g => ⟨C', rfl, g, rfl⟩
    simpa using this
  | seq x y ihx ihy =>
    intro σ b σ' h C a r0
    simp only [runS] at h
    refine wpIn_seq ?_
    split at h
    · rename_i σ1 hr
      refine wpIn_mono (ihx σ _ _ hr C a r0) fun e a1 w1 hq => ?_
      obtain ⟨C1, rfl, g1, rfl⟩ := hq
      exact wpIn_mono (ihy σ1 b σ' h C1 a1 ⟨g1.H, g1.B, g1.ok, Cx.Le.refl _, g1.sl, rfl⟩) fun e a2 w2 hq2 => by
        obtain ⟨C2, rfl, g2, rfl⟩ := hq2
        exact ⟨C2, rfl, g1.trans g2, rfl⟩
    · rename_i σ1 hr
      cases h
      refine wpIn_mono (ihx σ _ _ hr C a r0) fun e a1 w1 hq => ?_
      obtain ⟨C1, rfl, g1, rfl⟩ := hq
      exact ⟨C1, rfl, g1, rfl⟩
    · cases h
  | cond c x y ihx ihy =>
    intro σ b σ' h C a r0
    simp only [runS] at h
    split at h
    · rename_i he
      exact wpIn_cond_true (rep_bool (ev_rep r0.sl he)) (ihx σ b σ' h C a r0)
    · rename_i he
      exact wpIn_cond_false (rep_bool (ev_rep r0.sl he)) (ihy σ b σ' h C a r0)
    · cases h
  | ret =>
    intro σ b σ' h C a r0
    simp only [runS, Option.some.injEq, Prod.mk.injEq] at h
    obtain ⟨rfl, rfl⟩ := h
    exact wpIn_ret ⟨C, rfl, r0, rfl⟩
  | _ => intro σ b σ' h; simp [runS] at h

/-- The mode of the frame below a deferred closure, as the closure leaves it. -/
def seen : FrameMode → FrameMode
  | .panicking (e :: es) => .panicking ({ e with recovered := true } :: es)
  | m => m
def ModeOk (C : Cx) : Option AV → FrameMode → Prop
  | none, u => u = .returning
  | some v, u => ∃ x, u = .panicking [entry x] ∧ Rep C x v
theorem splitR_some {c : Code} {o : Oper} {os : List Oper} {ops : Array Oper} {rest : Code} (h : splitR c = some (o, os, ops, rest)) : ∃ id, c = .seq (.region id ops false) rest ∧ ops.toList = o :: os ∧ isRec o = true := by
  unfold splitR at h
  split at h <;> try cases h
  rename_i id ops' draw rest'
  split at h <;> try cases h
  rename_i hd
  have hd' : draw = false := by simpa using hd
  subst hd'
  split at h <;> try cases h
  rename_i o' os' ho
  split at h <;> cases h
  rename_i hr
  exact ⟨_, rfl, ho, hr⟩
theorem isRec_run {o : Oper} (h : isRec o = true) : o.guard = none ∧ ∀ (a : Act) (w : World), (execOp a.eval o).run P w = .ok .recover w := by
  unfold isRec at h
  rw [Bool.and_eq_true] at h
  obtain ⟨h1, h2⟩ := h
  refine ⟨by simpa using h1, fun a w => ?_⟩
  split at h2 <;> try cases h2
  rename_i c hc
  split at h2 <;> try cases h2
  rename_i hb
  simp only [execOp, hc, resolve, hb, Sem.run_bind, Sem.run_pure, Result.andThen_ok, invoke]
  rfl
theorem callD_ok (hE : POk P E) {g : FuncId} {l : List AV} {m : Option AV} {h h' : Heap} {nx n' : Nat} (hc : callD E g l m h nx = some (h', n')) {C : Cx} {vs : Array Value} (hH : C.H = h) (hB : C.B = fun i => i < nx) (hok : C.Ok) (hr : RepL C vs.toList l) {u : FrameMode} (hu : ModeOk C m u) :
    (∃ fn, P.funcs[g]? = some fn ∧ fn.name ≠ "runtime.NumGoroutine" ∧ fn.body.isSome = true) ∧
    CallsDIn (Fw none) 0 P g vs u C.w (fun e u' w' => (∃ v, e = .returned v) ∧ u' = seen u ∧ ∃ C', C'.w = w' ∧ C'.H = h' ∧ (C'.B = fun i => i < n') ∧ C'.Ok ∧ C.Le C') := by
  unfold callD at hc
  split at hc <;> try cases hc
  rename_i fn hfn
  obtain ⟨q1, q2, _⟩ := hE.fn g fn hfn
  split at hc <;> try cases hc
  rename_i c hb hres
  split at hc <;> try cases hc
  rename_i o os ops rest hsp
  obtain ⟨id, rfl, hops, hrec⟩ := splitR_some hsp
  split at hc <;> try cases hc
  rename_i σ1 hpl
  split at hc <;> cases hc
  rename_i bb σ2 hrs
  refine ⟨⟨fn, q1, q2, by rw [hb]; rfl⟩, ?_⟩
  refine callsDIn_of_wpSIn q1 hb trivial fun c₀ cs hc0 => ?_
  have hs : SRel C (l ++ List.replicate (fn.ntmps - l.length) undef) (vs ++ Array.replicate (fn.ntmps - vs.size) Go.undef) := mem_cells (sl := []) (id := 0) hr
  refine wpSIn_seq (wpSIn_region ?_)
  rw [List.range_eq_range']
  have hsz : ops.size = os.length + 1 := by rw [← Array.length_toList, hops]; rfl
  rw [hsz, List.range'_succ]
  have h0 : ops[0]? = some o := by rw [← Array.getElem?_toList, hops]; rfl
  obtain ⟨hg, hrun⟩ := isRec_run (P := P) hrec
  simp only [wpOpsSIn, h0]
  refine ⟨fun _ _ => trivial, ?_⟩
  have hw : Region.wanted o (yielded ops (vs ++ Array.replicate (fn.ntmps - vs.size) Go.undef)) = true := by unfold Region.wanted; rw [hg]
  rw [if_pos hw, hrun]
  dsimp only
  have key : ∀ (cs' : List Frame) (x : Value), (∃ u', cs' = { c₀ with mode := u' } :: cs ∧ u' = seen u) → Rep C x (m.getD .nili) →
      wpOpsSIn (Fw none) 0 P ops (Exit.thenS (rest.wpSIn (Fw none) 0 P (bodyPostS P fn c₀ cs (fun e u' w' => (∃ v, e = .returned v) ∧ u' = seen u ∧ ∃ C', C'.w = w' ∧ C'.H = σ2.h ∧ (C'.B = fun i => i < σ2.nx) ∧ C'.Ok ∧ C.Le C'))) (bodyPostS P fn c₀ cs (fun e u' w' => (∃ v, e = .returned v) ∧ u' = seen u ∧ ∃ C', C'.w = w' ∧ C'.H = σ2.h ∧ (C'.B = fun i => i < σ2.nx) ∧ C'.Ok ∧ C.Le C')))
        (List.range' 1 os.length) (Act.put { tmps := vs ++ Array.replicate (fn.ntmps - vs.size) Go.undef, defers := [] } o.dst x) cs' C.w := by
    rintro cs' x ⟨u', rfl, rfl⟩ hx
    refine pl_s hE.toEOk ops _ os 1 _ σ1 (fun j _ => ?_) hpl C _ (PlRel.refl (by rw [hH]; cases o.dst <;> rfl) (by rw [hB]; cases o.dst <;> rfl) hok (hs.put (a := ⟨_, []⟩) o.dst hx)) fun C1 a1 g1 => ?_
    · rw [← Array.getElem?_toList, hops, Nat.add_comm 1 j, List.getElem?_cons_succ]
    · refine wpSIn_of_wpIn rfl (wpIn_mono (runS_ok (P := P) hE.toEOk rest σ1 bb σ2 hrs C1 a1 ⟨g1.H, g1.B, g1.ok, Cx.Le.refl _, g1.sl, rfl⟩) fun e a2 w2 hq => ?_)
      obtain ⟨C2, rfl, g2, rfl⟩ := hq
      have hd : a2.defers = [] := by rw [g2.df, g1.df, put_defers]
      have hres' : (results fn a2.tmps).run P C2.w = .ok (.tuple #[]) C2.w := by
        have : fn.results = #[] := by simpa using hres
        simp [results, this]
      have fin : bodyPostS P fn c₀ cs (fun e u' w' => (∃ v, e = .returned v) ∧ u' = seen u ∧ ∃ C', C'.w = w' ∧ C'.H = σ2.h ∧ (C'.B = fun i => i < σ2.nx) ∧ C'.Ok ∧ C.Le C') .ret a2 ({ c₀ with mode := seen u } :: cs) C2.w :=
        ⟨hd, _, rfl, _, hres', ⟨_, rfl⟩, rfl, C2, rfl, g2.H, g2.B, g2.ok, g1.le.trans g2.le⟩
      cases bb with
      | true => exact fin
      | false => exact fin
  cases m with
  | none =>
    have hu' : u = .returning := hu
    have : recoverD (c₀ :: cs) = none := by simp only [recoverD, hc0, hu']
    rw [this]
    refine key _ _ ⟨u, ?_, ?_⟩ .nili
    · subst hc0; rfl
    · rw [hu']; rfl
  | some v =>
    obtain ⟨x, hx, hrx⟩ := hu
    have : recoverD (c₀ :: cs) = some (x, { c₀ with mode := seen u } :: cs) := by
      simp only [recoverD, hc0, hx, entry, seen]
    rw [this]
    exact key _ _ ⟨_, rfl, rfl⟩ hrx
/-! #### what a function hands back -/
def oneV : List Value → Value
  | [v] => v
  | vs => .tuple vs.toArray
theorem results_eq (fn : Func) (tmps : Array Value) : results fn tmps = (do
    let vs ← fn.results.toList.mapM fun
      | .tmp t => pure (tmps.getD t Go.undef)
      | .cell a t => do loadVar t (← asAddr (tmps.getD a Go.undef))
    pure (oneV vs)) := by
  unfold results
  rw [Array.mapM_eq_mapM_toList]
  simp only [map_eq_pure_bind, bind_assoc, pure_bind]
  congr 1
  funext vs
  congr 1
  match vs with
  | [] => rfl
  | [v] => rfl
  | v :: u :: vs => simp [oneV]
theorem rep_get {C : Cx} {sl : List AV} {tm : Array Value} (h : SRel C sl tm) (t : Nat) : Rep C (tm.getD t Go.undef) (sl.getD t undef) := by
  have := ev_rep (a := ⟨tm, []⟩) h (o := .tmp t) rfl
  simpa [Act.eval] using this
theorem resOf_run (hE : EOk P E) {C : Cx} (h : C.Ok) {sl : List AV} {tm : Array Value} (hs : SRel C sl tm) : ∀ (rs : List ResultVar) (xs : List AV), resOf E C.H sl rs = some xs →
    ∃ vs, (rs.mapM (m := Sem) fun
      | .tmp t => pure (tm.getD t Go.undef)
      | .cell a t => do loadVar t (← asAddr (tm.getD a Go.undef))).run P C.w = .ok vs C.w ∧ RepL C vs xs
  | [], xs, hx => by
    simp only [resOf, Option.some.injEq] at hx
    subst hx
    exact ⟨[], by simp, trivial⟩
  | .tmp t :: rs, xs, hx => by
    simp only [resOf] at hx
    split at hx <;> cases hx
    rename_i ys hys
    obtain ⟨vs, h1, h2⟩ := resOf_run hE h hs rs ys hys
    refine ⟨tm.getD t Go.undef :: vs, ?_, rep_get hs t, h2⟩
    simp only [List.mapM_cons, Sem.run_bind, Sem.run_pure, Result.andThen_ok, h1]
  | .cell b t :: rs, xs, hx => by
    simp only [resOf] at hx
    split at hx <;> cases hx
    rename_i x rds ups new ys hx hys
    obtain ⟨vs, h1, h2⟩ := resOf_run hE h hs rs ys hys
    obtain ⟨u, y, rds', he, _, hr, ad, hv, hl⟩ := load_run hE h (rep_get hs b) hx
    cases he
    refine ⟨u :: vs, ?_, hr, h2⟩
    have ha : asAddr (tm.getD b Go.undef) = pure ad := by rw [hv]; rfl
    simp only [List.mapM_cons, Sem.run_bind, ha, Sem.run_pure, Result.andThen_ok, hl, h1]


/-! #### leaving -/
theorem leaves_tail {fn : Func} {tmps : Array Value} {R : Ending → World → Prop} {u : FrameMode} (hu : u ≠ .run) (tl : List Deferred) (C0 : Cx) : ∀ (Ds : List Nat) (C : Cx), C.Ok → C0.Le C → Ds.Nodup → (∀ D ∈ Ds, C0.w.heap.size ≤ D ∧ C.w.heap[D]? = some (.deferred (some []))) →
    (∀ C' : Cx, C'.Ok → C0.Le C' → C'.H = C.H → C'.B = C.B → (∀ v y, Rep C v y → Rep C' v y) → LeavesInM (Fw none) 0 P fn tmps R tl u C'.w) → LeavesInM (Fw none) 0 P fn tmps R (Ds.map mark ++ tl) u C.w
  | [], C, ok, le, _, _, h => h C ok le rfl rfl fun _ _ h => h
  | D :: Ds, C, ok, le, hn, hm, h => by
    obtain ⟨n1, n2⟩ := List.nodup_cons.1 hn
    obtain ⟨q1, q2⟩ := hm D (by simp)
    obtain ⟨s1, s2, s3⟩ := ok.shut q2
    refine ⟨hu, .inl ⟨D, _, rfl, run_takeDeferred q2, ?_⟩⟩
    refine leaves_tail hu tl C0 Ds ⟨C.H, C.at_, C.F, C.B, C.w.putObj D (.deferred none)⟩ s1 (s3 C0 le q1) n2 (fun D' hD' => ?_) fun C' k1 k2 k3 k4 k5 => h C' k1 k2 k3 k4 fun v y hv => k5 v y (s2 v y hv)
    obtain ⟨p1, p2⟩ := hm D' (by simp [hD'])
    refine ⟨p1, ?_⟩
    dsimp only
    rw [heap_putObj _ _ _ _ (fun e => n1 (by rw [← e]; exact hD'))]
    exact p2
theorem SRel.reps {C C' : Cx} {sl : List AV} {tm : Array Value} (h : SRel C sl tm) (hr : ∀ v y, Rep C v y → Rep C' v y) : SRel C' sl tm := ⟨h.1, fun i v x hv hx => hr v x (h.2 i v x hv hx)⟩
theorem RepL.reps {C C' : Cx} {vs : List Value} {l : List AV} (h : RepL C vs l) (hr : ∀ v y, Rep C v y → Rep C' v y) : RepL C' vs l := RepL.of_get h.length fun j v x hv hx => hr v x (h.get j v x hv hx)
/-- The way out through a deferred closure. -/
theorem leaveD_ok (hE : POk P E) {fn : Func} {g : FuncId} {x : List AV} {m : Option AV} {σ : St} {r : Res} {H' : Heap} {nx' : Nat} (hl : leaveD E fn g x m σ = some (r, H', nx')) {C0 C : Cx} (h1 : C.H = σ.h) (h2 : C.B = fun i => i < σ.nx) (ok : C.Ok) (le : C0.Le C) {tmps : Array Value} (hs : SRel C σ.sl tmps)
    {fi ca : Array Value} (hr : RepL C (fi ++ ca).toList x) {Ds : List Nat} (hn : Ds.Nodup) (hm : ∀ D ∈ Ds, C0.w.heap.size ≤ D ∧ C.w.heap[D]? = some (.deferred (some []))) {u : FrameMode} (hu : ModeOk C m u) :
    LeavesInM (Fw none) 0 P fn tmps (BPost C0 r H' nx') (Ds.map mark ++ [{ target := .fn (.func g) ca, args := fi }]) u C.w := by
  unfold leaveD at hl
  split at hl <;> try cases hl
  rename_i h3 n3 hc
  split at hl <;> cases hl
  rename_i xs hxs
  have hu0 : u ≠ .run := by
    cases m with
    | none => rw [show u = .returning from hu]; simp
    | some v => obtain ⟨y, hy, _⟩ := hu; rw [hy]; simp
  refine leaves_tail hu0 _ C0 Ds C ok le hn hm fun C1 k1 k2 k3 k4 k5 => ?_
  have hu1 : ModeOk C1 m u := by
    cases m with
    | none => exact hu
    | some v => obtain ⟨y, hy, hy2⟩ := hu; exact ⟨y, hy, k5 _ _ hy2⟩
  obtain ⟨⟨fg, q1, q2, q3⟩, hcall⟩ := callD_ok hE hc (C := C1) (vs := fi ++ ca) (k3.trans h1) (k4.trans h2) k1 (hr.reps k5) hu1
  have hnb : fg.body.isNone = false := by cases hb : fg.body <;> simp_all
  have hq : (fg.name == "runtime.NumGoroutine") = false := by simpa using q2
  refine ⟨hu0, .inr ⟨fun h => by simp [Fw] at h, _, _, g, fi ++ ca, rfl, ?_, fun _ _ => trivial, hcall.mono ?_⟩⟩
  · simp only [invoke, callFunc, Sem.run_bind, run_program, Result.andThen_ok, q1, hq, hnb, Bool.false_eq_true, if_false, Sem.run_pure]
  rintro e u' w' ⟨⟨v, rfl⟩, rfl, C2, rfl, p1, p2, p3, p4⟩
  have hset : settle (seen u) = .returning := by
    cases m with
    | none => rw [show u = .returning from hu]; rfl
    | some v => obtain ⟨y, hy, _⟩ := hu; rw [hy]; rfl
  show LeavesInM (Fw none) 0 P fn tmps _ [] (settle (seen u)) C2.w
  rw [hset]
  have hs2 : SRel C2 σ.sl tmps := (hs.reps k5).le p4
  obtain ⟨us, g1, g2⟩ := resOf_run hE.toEOk p3 hs2 fn.results.toList xs (by rw [p1]; exact hxs)
  have hone : Rep C2 (oneV us) (one xs) := by
    clear g1 hxs
    match us, xs, g2 with
    | [], [], _ => exact .tup #[] [] rfl (by simp)
    | [v], [x], g => exact g.1
    | v :: v' :: us, x :: x' :: xs, g =>
      exact .tup _ _ (by have := g.length; simpa using this) (fun j v x hv hx => g.get j v x (by simpa using hv) hx)
  refine ⟨_, ?_, C2, rfl, p1, p2, p3, k2.trans p4, _, rfl, hone⟩
  rw [results_eq]
  simp only [Sem.run_bind, g1, Result.andThen_ok, Sem.run_pure]
/-! #### up to the statement that defers -/
theorem deferSlot_some {ops : Array Oper} {k : Nat} (h : deferSlot ops = some k) : ∃ o c, ops.toList = ops.toList.dropLast ++ [o] ∧ o.guard = none ∧ o.dst = none ∧ o.op = .defer c ∧ c.callee = .value (.tmp k) ∧ c.args = #[] := by
  unfold deferSlot at h
  split at h <;> try cases h
  rename_i o ho
  split at h <;> try cases h
  rename_i hg
  rw [Bool.and_eq_true] at hg
  split at h <;> try cases h
  rename_i c hc
  split at h <;> cases h
  rename_i h1 h2
  refine ⟨o, c, ?_, by simpa using hg.1, by simpa using hg.2, hc, h2, by simpa using h1⟩
  obtain ⟨hne, hl⟩ := List.getLast?_eq_some_iff.1 ho |> fun ⟨ys, h⟩ => (⟨by rw [h]; simp, by rw [h]; simp⟩ : ops.toList ≠ [] ∧ ops.toList.dropLast ++ [o] = ops.toList)
  exact hl.symm
theorem clOf_rep {C : Cx} {sl : List AV} {tm : Array Value} (hs : SRel C sl tm) {k : Nat} {g : FuncId} {x : List AV} (h : clOf sl[k]? = some (g, x)) : ∃ fi ca, tm.getD k Go.undef = .func (.func g) fi ca ∧ RepL C (fi ++ ca).toList x := by
  unfold clOf at h
  split at h <;> try cases h
  rename_i g' a b hk
  split at h <;> cases h
  rename_i hg
  have hr : Rep C (tm.getD k Go.undef) (.fn g a b) := by
    have := rep_get hs k
    rwa [List.getD_eq_getElem?_getD, hk] at this
  generalize tm.getD k Go.undef = v at hr
  cases hr with
  | yld L id hB h => exact absurd rfl hg
  | fn f fi ca l m hy h1 h2 r1 r2 =>
    refine ⟨fi, ca, rfl, ?_⟩
    rw [Array.toList_append]
    exact RepL.app (RepL.of_get (by simpa using h1) fun j v z hv hz => r1 j v z (by simpa using hv) hz) (RepL.of_get (by simpa using h2) fun j v z hv hz => r2 j v z (by simpa using hv) hz)
theorem splitD_wp (hE : EOk P E) {Q : Exit → Act → World → Prop} {ops : Array Oper} {k : Nat} {c1 c2 : Code} {g : FuncId} {x : List AV} : ∀ (c : Code) (pre : List (Array Oper)), splitD c = some (pre, ops, k, c1, c2) → ∀ (σ σ0 σ1 : St), runPre E pre σ = some σ0 → runPl E ops.toList ops.toList.dropLast σ0 = some σ1 → clOf σ1.sl[k]? = some (g, x) →
    ∀ (C : Cx) (a : Act), PlRel C a σ C a →
    (∀ C' a' fi ca, C'.H = σ1.h → (C'.B = fun i => i < σ1.nx) → C'.Ok → C.Le C' → SRel C' σ1.sl a'.tmps → a'.defers = { target := .fn (.func g) ca, args := fi } :: a.defers → RepL C' (fi ++ ca).toList x → (c1.seq c2).wpIn (Fw none) 0 P Q a' C'.w) → c.wpIn (Fw none) 0 P Q a C.w := by
  intro c
  induction c with
  | seq y b ihy ihb =>
    intro pre h σ σ0 σ1 hp hpl hcl C a r0 hk
    cases y <;> simp only [splitD, reduceCtorEq] at h
    rename_i id ops' draw
    split at h <;> try cases h
    rename_i hd
    have hd' : draw = false := by simpa using hd
    subst hd'
    refine wpIn_seq (wpIn_region ?_)
    split at h
    · rename_i k' hds
      split at h <;> cases h
      simp only [runPre, Option.some.injEq] at hp
      subst hp
      obtain ⟨o, cc, h1, h2, h3, h4, h5, h6⟩ := deferSlot_some hds
      have hlen : ops.size = ops.toList.dropLast.length + 1 := by
        rw [← Array.length_toList, h1]; simp
      have hlast : ops[ops.toList.dropLast.length]? = some o := by
        rw [← Array.getElem?_toList, h1, List.dropLast_concat, List.getElem?_append_right (Nat.le_refl _), Nat.sub_self]; rfl
      rw [List.range_eq_range', hlen, List.range'_1_concat, Nat.zero_add]
      refine pl_in hE ops _ _ 0 σ σ1 (fun j hj => ?_) hpl C a r0 fun C1 a1 g1 => ?_
      · rw [← Array.getElem?_toList, Nat.zero_add]
        conv => rhs; rw [h1]
        rw [List.getElem?_append_left hj]
      · obtain ⟨fi, ca, e1, e2⟩ := clOf_rep g1.sl hcl
        simp only [wpOpsIn, hlast]
        have hw : Region.wanted o (yielded ops a1.tmps) = true := by unfold Region.wanted; rw [h2]
        rw [if_pos hw]
        refine ⟨fun _ _ => trivial, ?_⟩
        have hrun : (o.semAt (Fw none).round a1.eval).run P C1.w = .ok (.defer { target := .fn (.func g) ca, args := fi }) C1.w := by
          show (execOp a1.eval o).run P C1.w = _
          have e3 : a1.eval (.tmp k) = .func (.func g) fi ca := e1
          simp only [execOp, h4, resolve, h5, h6, e3, Deferred.ofValue, Sem.run_bind, Sem.run_pure, Result.andThen_ok]
          simp
        rw [hrun, Oper.uponIn_defer, h3]
        exact hk C1 _ fi ca g1.H g1.B g1.ok g1.le g1.sl (by show _ :: a1.defers = _; rw [g1.df]) e2
    · split at h <;> cases h
      rename_i pre' r' hsp
      simp only [runPre] at hp
      split at hp <;> try cases hp
      rename_i σ2 hp2
      rw [List.range_eq_range']
      have := pl_in (P := P) hE ops' (Q := Exit.then (b.wpIn (Fw none) 0 P Q) Q) [] ops'.toList 0 σ σ2 (fun j _ => by simp) hp2 C a r0 fun C1 a1 g1 => ?_
      · simpa using this
      · exact ihb _ (by assumption) σ2 σ0 σ1 hp hpl hcl C1 a1 ⟨g1.H, g1.B, g1.ok, Cx.Le.refl _, g1.sl, rfl⟩ fun C' a' fi ca e1 e2 e3 e4 e5 e6 e7 => hk C' a' fi ca e1 e2 e3 (g1.le.trans e4) e5 (by rw [e6, g1.df]) e7
  | _ => intro pre h; simp [splitD] at h
end
end Vm

/- The machine over pure values and the model's world: code, bodies, calls. (Own work of this repo.) -/
namespace Vm
open Go

def CodeOk (P : Program) (again : Code → St → Option (Ex × St)) : Prop :=
  ∀ (ro : Option Nat) (c : Code), codeOk c = true → (ro ≠ none → rOk c = true) → ∀ (σ : St) (r : Ex × St), again c σ = some r → ∀ (C : Cx) (a : Act), C.H = σ.h → (C.B = fun i => i < σ.nx) → C.Ok → SRel C σ.sl a.tmps → c.wpIn (Fw ro) 0 P (CoRel C a r) a C.w
def LoopOk (P : Program) (again : Code → St → Option (Ex × St)) : Prop :=
  ∀ (ro : Option Nat) (c : Code), codeOk c = true → (ro ≠ none → rOk c = true) → ∀ (σ : St) (r : Ex × St), again (.loop c) σ = some r → ∀ (C : Cx) (a : Act), C.H = σ.h → (C.B = fun i => i < σ.nx) → C.Ok → SRel C σ.sl a.tmps →
    ∀ (b : Frame) (k : List Item) (cs : List Frame), b.roundOf = ro → ∃ e a' w', CoRel C a r e a' w' ∧ ArrivesIn (Machine.fenced P (Fw ro)) P (lone (b.atR a (.code c :: .inLoop c :: k)) cs C.w) b k cs e a' w'

/-- A statement in the order of the text: a panic keeps the slots. -/
def RegOk (P : Program) (again : Code → St → Option (Ex × St)) : Prop :=
  ∀ (id : Nat) (ops : Array Oper) (σ : St) (r : Ex × St), again (.region id ops false) σ = some r → ∀ (C : Cx) (a : Act), C.H = σ.h → (C.B = fun i => i < σ.nx) → C.Ok → SRel C σ.sl a.tmps → (Code.region id ops false).wpIn (Fw none) 0 P (ExRelS C a r) a C.w

section
variable {P : Program} {E : Env}

theorem no_out {C : Cx} {a : Act} {r : Ex × St} : ¬ LetsOut (ExRel C a r) := by
  rintro ⟨a', w', C', _, _, _, _, _, _, h⟩
  split at h
  · exact absurd h.1 (by simp)
  · exact absurd h.1 (by simp)
  · exact absurd h.1 (by simp)
  · obtain ⟨v, h, _⟩ := h; exact absurd h (by simp)
/-- A statement without an order, in a round. -/
theorem any_in {md : Region.Mode} {ops : Array Oper} {Q Q' : Exit → Act → World → Prop} (ro : Option Nat) (hd : ∀ (i : Nat) (o : Oper), ops[i]? = some o → ∀ c, o.op ≠ .defer c) (hq : ∀ e a w, Q e a w → Q' e a w) (hout : ¬ LetsOut Q) : ∀ (n : Nat) (ls : Array Bool) (a : Act) (w : World), wpAny P md ops Q n ls a w → wpAnyIn (Fw ro) 0 P md ops Q' n ls a w
  | 0, ls, a, w, h => ⟨h.1, hq _ _ _ h.2⟩
  | n + 1, ls, a, w, h => by
    refine ⟨fun h0 => hq _ _ _ (h.1 h0), fun i hi => ?_⟩
    have h2 := h.2 i hi
    unfold wpOp at h2
    unfold wpOpIn
    split at h2
    · rename_i hn; rw [hn]; exact any_in ro hd hq hout n _ a w h2
    · rename_i o ho
      rw [ho]
      dsimp only
      split at h2
      · rename_i hw
        rw [if_pos hw]
        refine op_in ro (hd i o ho) ?_
        rcases h2 with h3 | ⟨_, h3⟩
        · unfold Oper.wp at h3 ⊢
          generalize (execOp a.eval o).run P w = rr at *
          cases rr with
          | ok nx w'' =>
            cases nx <;> simp only [Oper.upon] at h3 ⊢ <;> first
              | exact any_in ro hd hq hout n _ _ _ h3
              | exact h3.mono (fun _ _ he => any_in ro hd hq hout n _ _ _ he)
              | exact Calls.mono h3 (fun e w'' he => by
                  cases e with
                  | returned v => exact any_in ro hd hq hout n _ _ _ he
                  | panicked c => exact hq _ _ _ he
                  | outgrown => exact (hout he).elim)
          | halt x w'' => cases x <;> simp only [Oper.upon] at h3 ⊢ <;> first | exact hq _ _ _ h3 | exact h3
        · exact (hout h3).elim
      · rename_i hw
        rw [if_neg hw]
        exact ⟨fun _ _ => trivial, any_in ro hd hq hout n _ _ _ h2⟩
theorem any_wide {md : Region.Mode} {ops : Array Oper} {Q Q' : Exit → Act → World → Prop} (hq : ∀ e a w, Q e a w → Q' e a w) : ∀ (n : Nat) (ls : Array Bool) (a : Act) (w : World), wpAny P md ops Q n ls a w → wpAny P md ops Q' n ls a w
  | 0, ls, a, w, h => ⟨h.1, hq _ _ _ h.2⟩
  | n + 1, ls, a, w, h => by
    refine ⟨fun h0 => hq _ _ _ (h.1 h0), fun i hi => ?_⟩
    have h2 := h.2 i hi
    unfold wpOp at h2 ⊢
    split at h2
    · rename_i hn; exact any_wide hq n _ a w h2
    · rename_i o ho
      split at h2
      · rename_i hw
        rw [if_pos hw]
        rcases h2 with h3 | ⟨g1, a2, w2, g2⟩
        · left
          unfold Oper.wp at h3 ⊢
          generalize (execOp a.eval o).run P w = rr at *
          cases rr with
          | ok nx w'' =>
            cases nx <;> simp only [Oper.upon] at h3 ⊢ <;> first
              | exact any_wide hq n _ _ _ h3
              | exact h3.mono (fun _ _ he => any_wide hq n _ _ _ he)
              | exact Calls.mono h3 (fun e w'' he => by
                  cases e with
                  | returned v => exact any_wide hq n _ _ _ he
                  | panicked c => exact hq _ _ _ he
                  | outgrown => obtain ⟨a3, w3, h'⟩ := he; exact ⟨a3, w3, hq _ _ _ h'⟩)
          | halt x w'' => cases x <;> simp only [Oper.upon] at h3 ⊢ <;> first | exact hq _ _ _ h3 | exact h3
        · exact .inr ⟨g1, a2, w2, hq _ _ _ g2⟩
      · rename_i hw
        rw [if_neg hw]
        exact any_wide hq n _ _ _ h2

theorem loop_next {again : Code → St → Option (Ex × St)} (hag : CodeOk P again) (hlo : LoopOk P again) {ro : Option Nat} {c : Code} (hc : codeOk c = true) (hro : ro ≠ none → rOk c = true) {σ : St} {r : Ex × St}
    (h : (match again c σ with
      | some (.norm, σ') => again (.loop c) σ'
      | some (.exit i, σ') => some (.exit i, σ')
      | some (.ret, σ') => some (.ret, σ')
      | some (.panic v, σ') => some (.panic v, σ')
      | none => none) = some r) (C : Cx) (a : Act) (hH : C.H = σ.h) (hB : C.B = fun i => i < σ.nx) (hok : C.Ok) (hs : SRel C σ.sl a.tmps) :
    ∀ (b : Frame) (k : List Item) (cs : List Frame), b.roundOf = ro → ∃ e a' w', CoRel C a r e a' w' ∧ ArrivesIn (Machine.fenced P (Fw ro)) P (lone (b.atR a (.code c :: .inLoop c :: k)) cs C.w) b k cs e a' w' := by
  intro b k cs hb
  split at h
  · rename_i σ' hr
    obtain ⟨e, a1, w1, hq, harr⟩ := hag ro c hc hro σ _ hr C a hH hB hok hs b (.inLoop c :: k) cs hb trivial (room_Fw _)
    obtain ⟨C', rfl, h2, h3, h4, h5, h6, h7, h8⟩ := hq
    dsimp only at h7 h8
    subst h7
    obtain ⟨e2, a2, w2, hq2, harr2⟩ := hlo ro c hc hro σ' r h C' a1 h2 h3 h4 h8 b k cs hb
    exact ⟨e2, a2, w2, hq2.trans h5 h4 h6, .of_steps (StepsIn.trans harr (.one (fenced_calm (n := 0) trivial (room_Fw _) rfl) stepR_inLoop)) harr2⟩
  · rename_i i σ' hr
    cases h
    obtain ⟨e, a1, w1, hq, harr⟩ := hag ro c hc hro σ _ hr C a hH hB hok hs b (.inLoop c :: k) cs hb trivial (room_Fw _)
    have he : e = .exit i := by obtain ⟨_, _, _, _, _, _, _, h7, _⟩ := hq; exact h7
    subst he
    exact ⟨_, a1, w1, hq, .pass (x := .inLoop c) rfl (fun _ _ => .inl (by simp)) harr⟩
  · rename_i σ' hr
    cases h
    obtain ⟨e, a1, w1, hq, harr⟩ := hag ro c hc hro σ _ hr C a hH hB hok hs b (.inLoop c :: k) cs hb trivial (room_Fw _)
    have he : e = .ret := by obtain ⟨_, _, _, _, _, _, _, h7, _⟩ := hq; exact h7
    subst he
    exact ⟨_, a1, w1, hq, .pass (x := .inLoop c) rfl (fun _ _ => .inl (by simp)) harr⟩
  · rename_i v σ' hr
    cases h
    obtain ⟨e, a1, w1, hq, harr⟩ := hag ro c hc hro σ _ hr C a hH hB hok hs b (.inLoop c :: k) cs hb trivial (room_Fw _)
    obtain ⟨u, he⟩ : ∃ u, e = .panic [entry u] := by obtain ⟨_, _, _, _, _, _, _, u, h7, _⟩ := hq; exact ⟨u, h7⟩
    subst he
    exact ⟨_, a1, w1, hq, .pass (x := .inLoop c) rfl (fun _ _ => .inl (by simp)) harr⟩
  · cases h

/-- A loop over a function. -/
theorem rangeFunc_ok (hE : POk P E) {cl : Cl} (ho : BodyOk P cl.o) {fo : Operand} {ps : Array Tmp} {asg bd : Code} (hc : codeOk asg = true ∧ codeOk bd = true ∧ rOk asg = true ∧ rOk bd = true) {again : Code → St → Option (Ex × St)} {σ : St} {r : Ex × St}
    (h : step E cl again (.rangeFunc fo ps asg bd) σ = some r) (C : Cx) (a : Act) (hH : C.H = σ.h) (hB : C.B = fun i => i < σ.nx) (hok : C.Ok) (hs : SRel C σ.sl a.tmps) : (Code.rangeFunc fo ps asg bd).wpIn (Fw none) 0 P (CoRel C a r) a C.w := by
  simp only [step] at h
  split at h <;> try cases h
  rename_i g x y hf
  split at h <;> try cases h
  rename_i hg
  split at h <;> try cases h
  rename_i u H' nx' hco
  split at h <;> try cases h
  rename_i s hst
  split at h <;> try cases h
  rename_i ex hex
  have hr := ev_rep hs hf
  cases hv : a.eval fo <;> rw [hv] at hr <;> cases hr
  case func.yld => exact absurd rfl hg
  rename_i fi ca hy e1 r1 e2 r2
  refine wpIn_rangeFunc fun fn _ => ?_
  obtain ⟨rec, hrec⟩ : ∃ rec : Loop, rec = { state := .ready, pending := none, fn, tmps := a.tmps, params := ps, assign := asg, body := bd, defers := C.w.heap.size } := ⟨_, rfl⟩
  obtain ⟨W1, hW1⟩ : ∃ W1, (C.w.alloc (.deferred (some []))).alloc (.loop rec) = W1 := ⟨_, rfl⟩
  have hnB : ¬ C.B σ.nx := by rw [hB]; exact Nat.lt_irrefl _
  obtain ⟨le1, ok1⟩ := hok.loopOn (nid := σ.nx) hnB (w := W1) (o := .deferred (some [])) (r := rec) hW1.symm (ps := ps) (asg := asg) (bd := bd) (sl := σ.sl) (by rw [hrec]) (by rw [hrec]) (by rw [hrec]) hc (by rw [hrec]; exact ⟨rfl, rfl⟩) (by rw [hrec]; exact hs)
  generalize hC1 : (⟨C.H.upd σ.nx (some (loopRow 0 ps asg bd σ.sl)), fun i => if i = σ.nx then C.w.heap.size + 1 else C.at_ i, C.F, fun i => C.B i ∨ i = σ.nx, W1⟩ : Cx) = C1 at le1 ok1
  have c1w : C1.w = W1 := by rw [← hC1]
  have c1H : C1.H = σ.h.upd σ.nx (some (loopRow 0 ps asg bd σ.sl)) := by rw [← hC1, ← hH]
  have c1B : C1.B = fun i => i < σ.nx + 1 := by
    rw [← hC1]; funext i; simp only [hB]; exact propext ⟨fun h => by omega, fun h => by omega⟩
  have c1at : C1.at_ σ.nx = C.w.heap.size + 1 := by rw [← hC1]; simp
  have hK1 : W1.heap[C.w.heap.size]? = some (.deferred (some [])) := by
    rw [← hW1]; exact (RowKit.Below.heap_alloc _ _ _ (by simp)).trans (World.alloc_heap_new C.w _)
  have hargs : RepL C1 (fi ++ #[Value.func (.yield (C.w.heap.size + 1)) #[] #[]] ++ ca).toList (x ++ [.fn 1000003 [] [.ref σ.nx 0 0]] ++ y) := by
    simp only [Array.toList_append]
    refine RepL.app (RepL.app (RepL.of_get (by simpa using e1) fun j v z hv hz => (r1 j v z (by simpa using hv) hz).le le1) ?_) (RepL.of_get (by simpa using e2) fun j v z hv hz => (r2 j v z (by simpa using hv) hz).le le1)
    refine ⟨.yld _ _ (by rw [c1B]; exact Nat.lt_succ_self _) fun blk hb => ⟨c1at.symm, ?_⟩, trivial⟩
    rw [c1H, Heap.upd_same] at hb
    cases hb; rfl
  obtain ⟨⟨fg, f1, f2, f3⟩, hcalls⟩ := ho.fn g _ _ _ _ _ _ hg hco C1 _ c1H c1B ok1 hargs
  have hn : fg.body.isNone = false := by cases hb : fg.body <;> simp_all
  have hq : (fg.name == "runtime.NumGoroutine") = false := by simpa using f2
  have dn : (Fw none).depth.isSome = true → 1 ≤ 0 := fun h => by simp [Fw] at h
  refine ⟨C.w.heap.size + 1, [mark C.w.heap.size], W1, { target := .fn (.func g) ca, args := fi ++ #[.func (.yield (C.w.heap.size + 1)) #[] #[]] }, W1, g, fi ++ #[.func (.yield (C.w.heap.size + 1)) #[] #[]] ++ ca, W1, ?_, ?_, fun _ _ => trivial, ?_, dn, ?_⟩
  · rw [← hW1, hrec]; exact run_enterLoop_outer _ _ _ _ _
  · have hcst : a.eval (.const (.func (.yield (C.w.heap.size + 1)) #[] #[])) = .func (.yield (C.w.heap.size + 1)) #[] #[] := rfl
    simp [resolve, hv, Deferred.ofValue, hcst]
  · simp only [invoke, callFunc, Sem.run_bind, run_program, Result.andThen_ok, f1, hq, hn, Bool.false_eq_true, if_false, Sem.run_pure]
  · rw [c1w] at hcalls
    refine callsFw (hcalls.mono ?_)
    rintro e w' ⟨C2, rfl, p1, p2, p3, p4, v, rfl, hv2⟩
    -- the loop's row, behind the iterator
    obtain ⟨blk, hblk, hcells⟩ : ∃ blk, H' σ.nx = some blk ∧ ∃ (q : Int) (c t : AV), blk = ⟨[.int .i64 q, c, t], true, 0, false⟩ ∧ q.toNat = s := by
      unfold statusOf at hst
      split at hst <;> cases hst
      rename_i hh
      exact ⟨_, hh, _, _, _, rfl, rfl⟩
    obtain ⟨q, c, t, rfl, hqs⟩ := hcells
    have hlive : C2.H σ.nx = some ⟨[.int .i64 q, c, t], true, 0, false⟩ := by rw [p1]; exact hblk
    have hat : C2.at_ σ.nx = C.w.heap.size + 1 := by
      obtain ⟨_, _, _, h3⟩ := p4.live σ.nx _ (by rw [c1B]; exact Nat.lt_succ_self _) hlive
      rw [h3, c1at]
    obtain ⟨s0, ps0, as0, bd0, sl0, r0, g1, g2, g3, g4, g5, g6, g7, g8⟩ := p3.lp σ.nx _ hlive rfl
    have hs0 : s0 = s := by simp at g1; omega
    subst hs0
    rw [hat] at g2
    obtain ⟨le3, ok3⟩ := p3.loopOff hlive rfl (r := r0) (r' := { r0 with state := .exhausted }) (by rw [hat]; exact g2)
    rw [hat] at le3 ok3
    have hrun := run_endLoop (P := P) g2 (by
      intro hb
      match s0, g7 with
      | 0, g7 => rw [g7.1] at hb; cases hb
      | 1, g7 => simp [leftBy] at hex
      | 2, g7 => rw [g7.1] at hb; cases hb
      | i + 3, g7 => rw [g7.1] at hb; cases hb)
    have leA : C.Le ⟨C2.H.upd σ.nx none, C2.at_, C2.F, C2.B, C2.w.putObj (C.w.heap.size + 1) (.loop { r0 with state := .exhausted })⟩ := (le1.trans p4).trans le3
    have hD : (C2.w.putObj (C.w.heap.size + 1) (.loop { r0 with state := .exhausted })).heap[C.w.heap.size]? = some (.deferred (some [])) := by
      rw [heap_putObj _ _ _ _ (by omega)]
      exact deferred_kept p4 ok1 (by rw [c1w]; exact hK1)
    have fin : ∀ e, (match ex with
        | .norm => e = Exit.normal
        | .exit i => e = .exit i
        | .ret => e = .ret
        | .panic _ => False) → CoRel C a (ex, ⟨σ.sl, H'.upd σ.nx none, nx'⟩) e { a with defers := [mark C.w.heap.size] ++ a.defers } (C2.w.putObj (C.w.heap.size + 1) (.loop { r0 with state := .exhausted })) := by
      intro e he
      refine ⟨⟨C2.H.upd σ.nx none, C2.at_, C2.F, C2.B, C2.w.putObj (C.w.heap.size + 1) (.loop { r0 with state := .exhausted })⟩, rfl, by dsimp only; rw [p1], p2, ok3, leA, ⟨[mark C.w.heap.size], rfl, [C.w.heap.size], rfl, by simp, fun D hDm => ?_⟩, ?_⟩
      · obtain rfl : D = C.w.heap.size := by simpa using hDm
        exact ⟨Nat.le_refl _, hD⟩
      · have hsl := hs.le leA
        cases ex with
        | norm => exact ⟨he, hsl⟩
        | exit i => exact ⟨he, hsl⟩
        | ret => exact ⟨he, hsl⟩
        | panic v => exact he.elim
    generalize C2.w.putObj (C.w.heap.size + 1) (.loop { r0 with state := .exhausted }) = W3 at hrun fin
    refine ⟨r0.pending, W3, hrun, ?_⟩
    match s0, g7, hex with
    | 0, g7, hex =>
      rw [g7.2]
      cases hex
      exact fin _ rfl
    | 1, g7, hex => simp [leftBy] at hex
    | 2, g7, hex =>
      rw [g7.2]
      cases hex
      exact wpIn_ret (fin _ rfl)
    | i + 3, g7, hex =>
      rw [g7.2]
      cases hex
      exact wpIn_exit (fin _ rfl)

theorem step_code (hE : POk P E) {cl : Cl} (hp : PureOk P cl.p) (ho : BodyOk P cl.o) {again : Code → St → Option (Ex × St)} (hag : CodeOk P again) (hlo : LoopOk P again) : CodeOk P (step E cl again) := by
  intro ro c
  induction c with
  | skip =>
    intro _ _ σ r h C a hH hB hok hs
    simp only [step, Option.some.injEq] at h
    subst h
    exact wpIn_skip ⟨C, rfl, hH, hB, hok, Cx.Le.refl C, ⟨[], rfl, .nil⟩, rfl, hs⟩
  | region id ops draw =>
    intro hc hro σ r h C a hH hB hok hs
    cases draw with
    | false =>
      simp only [step, Bool.false_eq_true, if_false] at h
      refine wpIn_region ?_
      have := runOps_ok hE.toEOk hp ho ro ops ops.toList 0 σ r (fun j => by simp) h C a hH hB hok hs
      rw [List.range_eq_range']
      exact wpOpsIn_mono (fun e a w => ExRel.co) _ _ _ (by simpa using this)
    | true =>
      simp only [step, if_true] at h
      simp only [codeOk, Bool.not_true, Bool.false_or] at hc
      obtain ⟨l, ok'⟩ := hok.same (w := { C.w with drawn := C.w.drawn + 1 }) rfl
      have := draw_ok (a0 := a) hE.toEOk hp ho hc h (C0 := { C with w := { C.w with drawn := C.w.drawn + 1 } }) hH hB ok' (hs.le l)
      have hq : ∀ e a' w', ExRel { C with w := { C.w with drawn := C.w.drawn + 1 } } a r e a' w' → CoRel C a r e a' w' := fun e a' w' g => (g.le l rfl).co
      cases ro with
      | none => exact (wpIn_wide (n := 0)).2 (wp_region_any hE.mixed (any_wide hq _ _ _ _ this))
      | some L =>
        have hr := hro (by simp)
        simp only [rOk, List.all_eq_true] at hr
        refine wpIn_region_any hE.mixed (any_in (some L) (fun i o hio c e => ?_) hq no_out _ _ _ _ this)
        have := hr o (by have := Array.mem_of_getElem? hio; simpa using this)
        rw [e] at this
        cases this
  | seq x y ihx ihy =>
    intro hc hro σ r h C a hH hB hok hs
    simp only [codeOk, Bool.and_eq_true] at hc
    simp only [rOk, Bool.and_eq_true] at hro
    simp only [step] at h
    refine wpIn_seq ?_
    split at h
    · rename_i σ' hr
      refine wpIn_mono (ihx hc.1 (fun h => (hro h).1) σ _ hr C a hH hB hok hs) fun e a1 w1 hq => ?_
      obtain ⟨C', rfl, h2, h3, h4, h5, h6, h7, h8⟩ := hq
      dsimp only at h7 h8
      subst h7
      exact wpIn_mono (ihy hc.2 (fun h => (hro h).2) σ' r h C' a1 h2 h3 h4 h8) fun e a2 w2 hq2 => hq2.trans h5 h4 h6
    · rename_i i σ' hr
      cases h
      refine wpIn_mono (ihx hc.1 (fun h => (hro h).1) σ _ hr C a hH hB hok hs) fun e a1 w1 hq => ?_
      have he : e = .exit i := by obtain ⟨_, _, _, _, _, _, _, h7, _⟩ := hq; exact h7
      subst he
      exact hq
    · rename_i σ' hr
      cases h
      refine wpIn_mono (ihx hc.1 (fun h => (hro h).1) σ _ hr C a hH hB hok hs) fun e a1 w1 hq => ?_
      have he : e = .ret := by obtain ⟨_, _, _, _, _, _, _, h7, _⟩ := hq; exact h7
      subst he
      exact hq
    · rename_i v σ' hr
      cases h
      refine wpIn_mono (ihx hc.1 (fun h => (hro h).1) σ _ hr C a hH hB hok hs) fun e a1 w1 hq => ?_
      obtain ⟨u, he⟩ : ∃ u, e = .panic [entry u] := by obtain ⟨_, _, _, _, _, _, _, u, h7, _⟩ := hq; exact ⟨u, h7⟩
      subst he
      exact hq
    · cases h
  | cond c x y ihx ihy =>
    intro hc hro σ r h C a hH hB hok hs
    simp only [codeOk, Bool.and_eq_true] at hc
    simp only [rOk, Bool.and_eq_true] at hro
    simp only [step] at h
    split at h
    · rename_i he
      exact wpIn_cond_true (rep_bool (ev_rep hs he)) (ihx hc.1 (fun h => (hro h).1) σ r h C a hH hB hok hs)
    · rename_i he
      exact wpIn_cond_false (rep_bool (ev_rep hs he)) (ihy hc.2 (fun h => (hro h).2) σ r h C a hH hB hok hs)
    · cases h
  | block i c ih =>
    intro hc hro σ r h C a hH hB hok hs
    simp only [codeOk] at hc
    simp only [rOk] at hro
    simp only [step] at h
    refine wpIn_block ?_
    split at h
    · rename_i σ' hr
      cases h
      refine wpIn_mono (ih hc hro σ _ hr C a hH hB hok hs) fun e a1 w1 hq => ?_
      have he : e = .normal := by obtain ⟨_, _, _, _, _, _, _, h7, _⟩ := hq; exact h7
      subst he
      exact hq
    · rename_i j σ' hr
      refine wpIn_mono (ih hc hro σ _ hr C a hH hB hok hs) fun e a1 w1 hq => ?_
      have he : e = .exit j := by obtain ⟨_, _, _, _, _, _, _, h7, _⟩ := hq; exact h7
      subst he
      simp only [Exit.inBlock]
      split at h
      · rename_i hj
        cases h
        rw [if_pos hj]
        obtain ⟨C', h1, h2, h3, h4, h5, h6, h7, h8⟩ := hq
        exact ⟨C', h1, h2, h3, h4, h5, h6, rfl, h8⟩
      · rename_i hj
        cases h
        rw [if_neg hj]
        exact hq
    · rename_i σ' hr
      cases h
      refine wpIn_mono (ih hc hro σ _ hr C a hH hB hok hs) fun e a1 w1 hq => ?_
      have he : e = .ret := by obtain ⟨_, _, _, _, _, _, _, h7, _⟩ := hq; exact h7
      subst he
      exact hq
    · rename_i v σ' hr
      cases h
      refine wpIn_mono (ih hc hro σ _ hr C a hH hB hok hs) fun e a1 w1 hq => ?_
      obtain ⟨u, he⟩ : ∃ u, e = .panic [entry u] := by obtain ⟨_, _, _, _, _, _, _, u, h7, _⟩ := hq; exact ⟨u, h7⟩
      subst he
      exact hq
    · cases h
  | loop c ih =>
    intro hc hro σ r h C a hH hB hok hs
    simp only [codeOk] at hc
    simp only [rOk] at hro
    simp only [step] at h
    intro b k cs hb _ _
    obtain ⟨e, a', w', hq, harr⟩ := loop_next hag hlo hc hro h C a hH hB hok hs b k cs hb
    exact ⟨e, a', w', hq, .of_steps (.one (fenced_calm (n := 0) trivial (room_Fw _) rfl) stepR_loop) harr⟩
  | rangeFunc fo ps asg bd =>
    intro hc hro σ r h C a hH hB hok hs
    simp only [codeOk, Bool.and_eq_true] at hc
    cases ro with
    | some L => have := hro (by simp); simp [rOk] at this
    | none => exact rangeFunc_ok hE ho ⟨hc.1.1.1, hc.1.1.2, hc.1.2, hc.2⟩ h C a hH hB hok hs
  | exit i =>
    intro _ _ σ r h C a hH hB hok hs
    simp only [step, Option.some.injEq] at h
    subst h
    exact wpIn_exit ⟨C, rfl, hH, hB, hok, Cx.Le.refl C, ⟨[], rfl, .nil⟩, rfl, hs⟩
  | ret =>
    intro _ _ σ r h C a hH hB hok hs
    simp only [step, Option.some.injEq] at h
    subst h
    exact wpIn_ret ⟨C, rfl, hH, hB, hok, Cx.Le.refl C, ⟨[], rfl, .nil⟩, rfl, hs⟩
  | _ => intro _ _ σ r h; simp [step] at h

theorem step_loopOk {cl : Cl} {again : Code → St → Option (Ex × St)} (hag : CodeOk P again) (hlo : LoopOk P again) : LoopOk P (step E cl again) := by
  intro ro c hc hro σ r h C a hH hB hok hs
  simp only [step] at h
  exact loop_next hag hlo hc hro h C a hH hB hok hs

/-- A round's slots. -/
theorem setAll_rel {C : Cx} : ∀ (ps : List Tmp) (vs : List Value) (xs : List AV) (sl : List AV) (tm : Array Value), RepL C vs xs → SRel C sl tm → SRel C (setAll sl (ps.zip xs)) ((ps.zip vs).foldl (fun tmps (t, a) => tmps.setIfInBounds t a) tm)
  | [], vs, xs, sl, tm, _, h => by simpa [setAll] using h
  | p :: ps, [], [], sl, tm, _, h => by simpa [setAll] using h
  | p :: ps, v :: vs, x :: xs, sl, tm, hr, h => by
    simp only [List.zip_cons_cons, List.foldl_cons, setAll]
    refine setAll_rel ps vs xs _ _ hr.2 ?_
    exact h.put (a := ⟨tm, []⟩) (some p) hr.1
  | _ :: _, _ :: _, [], _, _, h, _ => h.elim
  | _ :: _, [], _ :: _, _, _, h, _ => h.elim
theorem yield_ok {again : Code → St → Option (Ex × St)} (hag : CodeOk P again) (l : List AV) (id : Nat) (H : Heap) (nx : Nat) (r : Res) (H' : Heap) (nx' : Nat) (hb : yieldB again (l ++ [.ref id 0 0]) H nx = some (r, H', nx')) (C : Cx) (vs : Array Value) (hH : C.H = H) (hB : C.B = fun i => i < nx) (hok : C.Ok) (hr : RepL C vs.toList l) :
    (∃ blk, C.H id = some blk) ∧ YieldAt Fence.wide 0 P (C.at_ id) vs C.w (BPost C r H' nx') := by
  unfold yieldB at hb
  have e1 : (l ++ [AV.ref id 0 0]).getLast? = some (.ref id 0 0) := by simp
  have e2 : (l ++ [AV.ref id 0 0]).dropLast = l := by simp
  rw [e1, e2] at hb
  have hb : yieldR again id l H nx = some (r, H', nx') := hb
  unfold yieldR at hb
  split at hb <;> try cases hb
  rename_i ps asg bd sl hrow0
  have hrow : H id = some ⟨[.int .i64 0, .code ps asg bd, .tup sl], true, 0, false⟩ := by
    unfold rowOf at hrow0
    split at hrow0
    · split at hrow0 <;> cases hrow0
      rename_i hh hx
      rw [hx, hh]
    · cases hrow0
  split at hb <;> try cases hb
  rename_i hlen
  split at hb <;> try cases hb
  rename_i σ1 has
  split at hb <;> try cases hb
  rename_i blk1 ht1
  split at hb <;> try cases hb
  rename_i r2 hbd
  have hrow' : C.H id = some ⟨[.int .i64 0, .code ps asg bd, .tup sl], true, 0, false⟩ := by rw [hH]; exact hrow
  refine ⟨⟨_, hrow'⟩, ?_⟩
  obtain ⟨s0, ps0, as0, bd0, sl0, rc, g1, g2, g3, g4, g5, g6, g7, g8⟩ := hok.lp id _ hrow' rfl
  simp only [List.cons.injEq, AV.int.injEq, AV.code.injEq, AV.tup.injEq, and_true, true_and] at g1
  obtain ⟨q0, ⟨rfl, rfl, rfl⟩, rfl⟩ := g1
  obtain ⟨c1, c2, c3, c4⟩ := g6
  have hvl : vs.size = l.length := by have := hr.length; simpa using this
  have hy := run_yield (P := P) (args := vs) g2 (by rw [g3, hvl, hlen])
  rw [g3, g4, g5] at hy
  refine ⟨_, _, asg, bd, hy, roundIn_of_wpIn trivial ?_⟩
  show asg.wpIn (Fw (some (C.at_ id))) 0 P _ _ _
  have hs0 : SRel C (setAll sl (ps.toList.zip l)) ((ps.zip vs).foldl (fun tmps (t, a) => tmps.setIfInBounds t a) rc.tmps) := by
    have := setAll_rel ps.toList vs.toList l sl rc.tmps hr g8
    rw [← Array.foldl_toList, Array.toList_zip]
    exact this
  refine wpIn_mono (hag (some (C.at_ id)) asg c1 (fun _ => c3) _ _ has C ⟨_, []⟩ hH hB hok hs0) fun e a1 w1 hq => ?_
  obtain ⟨C1, rfl, h2, h3, h4, h5, _, h7, h8⟩ := hq
  dsimp only at h2 h3 h7 h8
  subst h7
  show ∃ w₂, _
  -- the round is under way
  have h2i : C1.H id = σ1.h id := by rw [h2]
  have ht1' : turn 0 1 (C1.H id) = some blk1 := by rw [h2i]; exact ht1
  obtain ⟨cc, ct, hrow1, rfl⟩ := turn_some ht1'
  have hB0 : C.B id := hok.born id _ hrow'
  have hat1 : C1.at_ id = C.at_ id := by obtain ⟨_, _, _, q3⟩ := h5.live id _ hB0 hrow1; exact q3
  obtain ⟨s1, ps1, as1, bd1, sl1, rc1, k1, k2, k3, k4, k5, k6, k7, k8⟩ := h4.lp id _ hrow1 rfl
  have hs1 : s1 = 0 := by simp only [List.cons.injEq, AV.int.injEq, true_and] at k1; have := k1.1; omega
  subst hs1
  obtain ⟨le2, ok2⟩ := h4.loopTo ht1' k2 (s' := 1) (r' := { rc1 with state := .busy }) rfl ⟨rfl, rfl, rfl, rfl⟩
  have k2' := k2
  rw [hat1] at k2'
  refine ⟨_, run_beginRound k2' k7.1, ?_⟩
  show bd.wpIn (Fw (some (C.at_ id))) 0 P _ _ _
  rw [hat1] at le2 ok2
  have hH2 : C1.H.upd id (some ⟨[.int .i64 (1 : Nat), cc, ct], true, 0, false⟩) = σ1.h.upd id (some ⟨[.int .i64 (1 : Nat), cc, ct], true, 0, false⟩) := by rw [h2]
  refine wpIn_mono (hag (some (C.at_ id)) bd c2 (fun _ => c4) _ _ hbd ⟨_, C1.at_, C1.F, C1.B, C1.w.putObj (C.at_ id) (.loop { rc1 with state := .busy })⟩ a1 hH2 h3 ok2 (h8.le le2)) fun e a2 w2 hq2 => ?_
  obtain ⟨C3, rfl, p2, p3, p4, p5, _, p7⟩ := hq2
  unfold roundEnd at hb
  split at hb <;> try cases hb
  rename_i s' bb hby
  split at hb <;> try cases hb
  rename_i blk3 ht3
  have ht3' : turn 1 s' (C3.H id) = some blk3 := by rw [p2]; exact ht3
  obtain ⟨dc, dt, hrow3, hblk3⟩ := turn_some ht3'
  have hB1 : C1.B id := h5.born id hB0
  have hat3 : C3.at_ id = C.at_ id := by obtain ⟨_, _, _, q3⟩ := p5.live id _ hB1 hrow3; exact q3.trans hat1
  obtain ⟨s3, ps3, as3, bd3, sl3, rc3, m1, m2, m3, m4, m5, m6, m7, m8⟩ := p4.lp id _ hrow3 rfl
  have fin : ∀ (jump : Option Code), (bb = jump.isNone) → LpSt s' { rc3 with state := if jump.isNone then .ready else .done, pending := jump } →
      ∃ v w', (Instr.endRound (C.at_ id) jump).run P C3.w = .ok v w' ∧ BPost C (.ret (.bool bb)) (r2.2.h.upd id (some blk3)) r2.2.nx (.returned v) w' := by
    intro jump hj hst
    have m2' := m2
    rw [hat3] at m2'
    refine ⟨_, _, run_endRound jump m2', ?_⟩
    obtain ⟨le4, ok4⟩ := p4.loopTo ht3' m2 (r' := { rc3 with state := if jump.isNone then .ready else .done, pending := jump }) hst ⟨rfl, rfl, rfl, rfl⟩
    rw [hat3] at le4 ok4
    exact ⟨⟨C3.H.upd id (some blk3), C3.at_, C3.F, C3.B, C3.w.putObj (C.at_ id) (.loop { rc3 with state := if jump.isNone then .ready else .done, pending := jump })⟩, rfl, by dsimp only; rw [p2], p3, ok4, ((h5.trans le2).trans p5).trans le4, _, rfl, by rw [hj]; exact .bool _⟩
  obtain ⟨ex, σe⟩ := r2
  dsimp only at p7 hby
  cases ex with
  | norm =>
    obtain ⟨rfl, _⟩ := p7
    cases hby
    exact fin none rfl ⟨rfl, rfl⟩
  | ret =>
    obtain ⟨rfl, _⟩ := p7
    cases hby
    exact fin (some .ret) rfl ⟨rfl, rfl⟩
  | exit i =>
    obtain ⟨rfl, _⟩ := p7
    cases hby
    exact fin (some (.exit i)) rfl ⟨rfl, rfl⟩
  | panic v => cases hby

/-- The code of a function that defers. -/
theorem splitD_code : ∀ (c : Code) {pre : List (Array Oper)} {ops : Array Oper} {k : Nat} {c1 c2 : Code}, splitD c = some (pre, ops, k, c1, c2) → codeOk c = true → (∃ id ops2, c1 = .region id ops2 false) ∧ codeOk c2 = true := by
  intro c
  induction c with
  | seq y b ihy ihb =>
    intro pre ops k c1 c2 h hc
    cases y <;> simp only [splitD, reduceCtorEq] at h
    split at h <;> try cases h
    simp only [codeOk, Bool.and_eq_true] at hc
    split at h
    · split at h <;> cases h
      simp only [codeOk, Bool.and_eq_true] at hc
      exact ⟨⟨_, _, rfl⟩, hc.2.2⟩
    · split at h <;> try cases h
      exact ihb (by assumption) hc.2
  | _ => intro pre ops k c1 c2 h; simp [splitD] at h
theorem bodyD_ok (hE : POk P E) {again : Code → St → Option (Ex × St)} (hag : CodeOk P again) (hre : RegOk P again) {f : FuncId} {fn : Func} (hfn : E.df f = some fn) {l : List AV} {H : Heap} {nx : Nat} {r : Res} {H' : Heap} {nx' : Nat} (hb : bodyD E again fn l H nx = some (r, H', nx'))
    {C : Cx} {vs : Array Value} (hH : C.H = H) (hB : C.B = fun i => i < nx) (hok : C.Ok) (hr : RepL C vs.toList l) : (∃ fn, P.funcs[f]? = some fn ∧ fn.name ≠ "runtime.NumGoroutine" ∧ fn.body.isSome = true) ∧ Calls P f vs C.w (BPost C r H' nx') := by
  obtain ⟨q1, q2, q3⟩ := hE.df f fn hfn
  unfold bodyD at hb
  split at hb <;> try cases hb
  rename_i c hc
  split at hb <;> try cases hb
  rename_i pre ops k c1 c2 hsp
  split at hb <;> try cases hb
  rename_i σ0 hpre
  split at hb <;> try cases hb
  rename_i σ1 hpl
  split at hb <;> try cases hb
  rename_i g x m σ2 hcl hrest
  obtain ⟨⟨id, ops2, rfl⟩, hc2⟩ := splitD_code c hsp (q3 c hc)
  refine ⟨⟨fn, q1, q2, by rw [hc]; rfl⟩, ?_⟩
  have hs : SRel C (l ++ List.replicate (fn.ntmps - l.length) undef) (vs ++ Array.replicate (fn.ntmps - vs.size) Go.undef) := mem_cells (sl := []) (id := 0) hr
  refine ofCallsFw (ro := none) (n := 0) (callsIn_of_wp_marks q1 hc trivial ?_)
  refine splitD_wp hE.toEOk c pre hsp _ σ0 σ1 hpre hpl hcl C ⟨vs ++ Array.replicate (fn.ntmps - vs.size) Go.undef, []⟩ (PlRel.refl hH hB hok hs) fun C1 a1 fi ca e1 e2 e3 e4 e5 e6 e7 => ?_
  refine wpIn_seq ?_
  unfold restD at hrest
  split at hrest
  · rename_i σ' h1
    refine wpIn_mono (hre id ops2 σ1 _ h1 C1 a1 e1 e2 e3 e5) fun e a2 w2 hq => ?_
    obtain ⟨C2, rfl, p1, p2, p3, p4, p5, p6, p7⟩ := hq
    dsimp only at p1 p2 p6 p7
    subst p6
    have done : ∀ (ex : Ex) (σ3 : St), again c2 σ' = some (ex, σ3) → (ex = .norm ∨ ex = .ret) → leaveD E fn g x none σ3 = some (r, H', nx') → c2.wpIn (Fw none) 0 P (bodyPostM (Fw none) 0 P fn (BPost C r H' nx')) a2 C2.w := by
      intro ex σ3 h2 hex hl
      refine wpIn_mono (hag none c2 hc2 (fun h => absurd rfl h) _ _ h2 C2 a2 p1 p2 p3 p7) fun e a3 w3 hq3 => ?_
      obtain ⟨C3, rfl, s1, s2, s3, s4, ⟨ds, s5, Ds, rfl, n6, m6⟩, s7⟩ := hq3
      dsimp only at s1 s2 s7
      have hle : C.Le C3 := (e4.trans p4).trans s4
      have fin : SRel C3 σ3.sl a3.tmps → LeavesInM (Fw none) 0 P fn a3.tmps (BPost C r H' nx') a3.defers .returning C3.w := fun hs3 => by
        rw [s5, p5, e6]
        exact leaveD_ok hE hl s1 s2 s3 hle hs3 (e7.le (p4.trans s4)) n6 (fun D hD => ⟨Nat.le_trans (e4.trans p4).size (m6 D hD).1, (m6 D hD).2⟩) rfl
      rcases hex with rfl | rfl
      · obtain ⟨rfl, hs3⟩ := s7
        exact fin hs3
      · obtain ⟨rfl, hs3⟩ := s7
        exact fin hs3
    split at hrest
    · rename_i σ3 h2
      cases hrest
      exact done _ _ h2 (.inl rfl) hb
    · rename_i σ3 h2
      cases hrest
      exact done _ _ h2 (.inr rfl) hb
    · cases hrest
  · rename_i v σ' h1
    cases hrest
    refine wpIn_mono (hre id ops2 σ1 _ h1 C1 a1 e1 e2 e3 e5) fun e a2 w2 hq => ?_
    obtain ⟨C2, rfl, p1, p2, p3, p4, p5, u, p6, p7, p8⟩ := hq
    dsimp only at p1 p2 p7 p8
    subst p6
    show LeavesInM (Fw none) 0 P fn a2.tmps (BPost C r H' nx') a2.defers (.panicking [entry u]) C2.w
    rw [p5, e6]
    exact leaveD_ok hE hb p1 p2 p3 (e4.trans p4) p8 (e7.le p4) (Ds := []) List.nodup_nil (fun _ h => by cases h) ⟨u, rfl, p7⟩
  · cases hrest
theorem body_ok (hE : POk P E) {again : Code → St → Option (Ex × St)} (hag : CodeOk P again) (hre : RegOk P again) : BodyOk P (body E again) := by
  refine ⟨fun f l H nx r H' nx' hy hb C vs hH hB hok hr => ?_, fun l id H nx r H' nx' hb => ?_⟩
  rotate_left
  · unfold body at hb
    rw [hE.yf.1, hE.yf.2] at hb
    dsimp only at hb
    rw [if_pos rfl] at hb
    exact yield_ok hag l id H nx r H' nx' hb
  unfold body at hb
  split at hb
  rotate_left
  · split at hb
    · rename_i fn hfn
      exact bodyD_ok hE hag hre hfn hb hH hB hok hr
    · rw [if_neg hy] at hb; cases hb
  rename_i fn hfn
  obtain ⟨q1, q2, q3⟩ := hE.fn f fn hfn
  split at hb <;> try cases hb
  rename_i c hc
  refine ⟨⟨fn, q1, q2, by rw [hc]; rfl⟩, ?_⟩
  have hs : SRel C (l ++ List.replicate (fn.ntmps - l.length) undef) (vs ++ Array.replicate (fn.ntmps - vs.size) Go.undef) := mem_cells (sl := []) (id := 0) hr
  refine ofCallsFw (ro := none) (n := 0) (callsIn_of_wp_marks q1 hc trivial ?_)
  have fin : ∀ (σ : St) (C' : Cx) (tm : Array Value), C'.H = σ.h → (C'.B = fun i => i < σ.nx) → C'.Ok → C.Le C' → SRel C' σ.sl tm → (match resOf E σ.h σ.sl fn.results.toList with
        | some vs => some (Res.ret (one vs), σ.h, σ.nx)
        | none => none) = some (r, H', nx') → ∃ v, (results fn tm).run P C'.w = .ok v C'.w ∧ BPost C r H' nx' (.returned v) C'.w := by
    intro σ C' tm h1 h2 h3 h4 h6 h7
    split at h7 <;> cases h7
    rename_i xs hxs
    obtain ⟨us, g1, g2⟩ := resOf_run hE.toEOk h3 h6 fn.results.toList xs (by rw [h1]; exact hxs)
    have hone : Rep C' (oneV us) (one xs) := by
      clear g1 hxs hb
      match us, xs, g2 with
      | [], [], _ => exact .tup #[] [] rfl (by simp)
      | [v], [x], g => exact g.1
      | v :: v' :: us, x :: x' :: xs, g =>
        exact .tup _ _ (by have := g.length; simpa using this) (fun j v x hv hx => g.get j v x (by simpa using hv) hx)
    refine ⟨_, ?_, C', rfl, h1, h2, h3, h4, _, rfl, hone⟩
    rw [results_eq]
    simp only [Sem.run_bind, g1, Result.andThen_ok, Sem.run_pure]
  have leave : ∀ (σ : St) (C' : Cx) (a' : Act), C'.H = σ.h → (C'.B = fun i => i < σ.nx) → C'.Ok → C.Le C' → (∃ ds, a'.defers = ds ++ [] ∧ Marks C.w.heap.size C'.w ds) → SRel C' σ.sl a'.tmps → (match resOf E σ.h σ.sl fn.results.toList with
        | some vs => some (Res.ret (one vs), σ.h, σ.nx)
        | none => none) = some (r, H', nx') → LeavesInM (Fw none) 0 P fn a'.tmps (BPost C r H' nx') a'.defers .returning C'.w := by
    rintro σ C' a' h2 h3 h4 h5 ⟨ds, e6, Ds, rfl, n6, m6⟩ h8 hb
    rw [e6, List.append_nil]
    refine leaves_marks (by simp) C Ds C' h4 h5 n6 m6 fun C2 k1 k2 k3 k4 k5 => ?_
    exact fin σ C2 a'.tmps (k3.trans h2) (k4.trans h3) k1 k2 ⟨h8.1, fun i v x hv hx => k5 v x (h8.2 i v x hv hx)⟩ hb
  split at hb
  · rename_i σ hrun
    refine wpIn_mono (hag none c (q3 c hc) (fun h => absurd rfl h) _ _ hrun C ⟨vs ++ Array.replicate (fn.ntmps - vs.size) Go.undef, []⟩ hH hB hok hs) fun e a' w' hq => ?_
    obtain ⟨C', rfl, h2, h3, h4, h5, h6, h7, h8⟩ := hq
    dsimp only at h7 h8
    subst h7
    exact leave σ C' a' h2 h3 h4 h5 h6 h8 hb
  · rename_i σ hrun
    refine wpIn_mono (hag none c (q3 c hc) (fun h => absurd rfl h) _ _ hrun C ⟨vs ++ Array.replicate (fn.ntmps - vs.size) Go.undef, []⟩ hH hB hok hs) fun e a' w' hq => ?_
    obtain ⟨C', rfl, h2, h3, h4, h5, h6, h7, h8⟩ := hq
    dsimp only at h7 h8
    subst h7
    exact leave σ C' a' h2 h3 h4 h5 h6 h8 hb
  · rename_i v σ hrun
    cases hb
    refine wpIn_mono (hag none c (q3 c hc) (fun h => absurd rfl h) _ _ hrun C ⟨vs ++ Array.replicate (fn.ntmps - vs.size) Go.undef, []⟩ hH hB hok hs) fun e a' w' hq => ?_
    obtain ⟨C', rfl, h2, h3, h4, h5, ⟨ds, e6, Ds, rfl, n6, m6⟩, u, h7, h8⟩ := hq
    subst h7
    show LeavesInM (Fw none) 0 P fn a'.tmps _ a'.defers (.panicking [entry u]) C'.w
    rw [e6, List.append_nil]
    refine leaves_marks (by simp) C Ds C' h4 h5 n6 m6 fun C2 k1 k2 k3 k4 k5 => ?_
    exact ⟨C2, rfl, k3.trans h2, k4.trans h3, k1, k2, u, rfl, k5 _ _ h8⟩
  · cases hb

theorem bodyP_ok (hE : POk P E) {again : Code → St → Option (Ex × St)} (hag : CodeOk P again) (hre : RegOk P again) : PureOk P (bodyP E again) := by
  intro f l r hb C vs hok hr hpl
  unfold bodyP at hb
  rw [if_pos hpl] at hb
  have hy : f ≠ 1000003 := by
    rintro rfl
    have hno : body E again 1000003 l Heap.empty 0 = none := by
      unfold body
      rw [hE.yf.1, hE.yf.2]
      dsimp only
      rw [if_pos rfl]
      unfold yieldB
      split
      · rename_i id hl
        unfold refOf at hl
        split at hl
        · rename_i hl2
          have := of_pureL hpl _ (List.mem_of_getLast? hl2)
          simp [AV.pure] at this
        · cases hl
      · rfl
    rw [hno] at hb
    cases hb
  let D : Cx := ⟨Heap.empty, fun _ => 0, C.wr, fun _ => False, C.w⟩
  have hwr : ∀ b, D.wr b ↔ C.wr b := fun b => ⟨fun h => h.elim id fun ⟨i, blk, h, _⟩ => absurd h (by simp [D, Heap.empty]), .inl⟩
  have hD : D.Ok := by
    refine ⟨fun i j bi bj h => absurd h (by simp [D, Heap.empty]), fun i b h => absurd h (by simp [D, Heap.empty]), fun i b h => absurd h (by simp [D, Heap.empty]), fun i b h => absurd h (by simp [D, Heap.empty]), fun b hb => ?_, fun i b h => absurd h (by simp [D, Heap.empty])⟩
    rcases hb with hb | ⟨i, blk, h1, _, h3⟩
    · exact hok.Fsz b hb
    · rw [← h3]; exact hok.lt h1
  have pure_mem : ∀ x ∈ l, x.pure = true := of_pureL hpl
  have hrD : RepL D vs.toList l := RepL.of_get hr.length fun j v x hv hx => Rep.pureOn (C := C) (C' := D) (fun _ _ _ => rfl) (fun b _ h => (hwr b).1 h) (Nat.le_refl _) (hr.get j v x hv hx) (pure_mem x (List.mem_of_getElem? hx))
  have hDB : D.B = fun i => i < 0 := by funext i; simp [D]
  have back : ∀ (D' : Cx), D.Le D' → D'.Ok → C.Le { C with w := D'.w } ∧ ({ C with w := D'.w } : Cx).Ok ∧ ∀ v x ids, Rep (D'.fr ids) v x → x.pure = true → Rep { C with w := D'.w } v x := by
    intro D' hle hok'
    have hmem : ∀ b, b < C.w.heap.size → D'.w.heap[b]? = C.w.heap[b]? := fun b hb => hle.mem b hb (by rintro ⟨i, blk, h, _⟩; simp [D, Heap.empty] at h)
    have l : C.Le { C with w := D'.w } := ⟨fun b hb _ => hmem b hb, fun _ _ h => h, rfl, fun i b _ hb => ⟨b, hb, rfl, rfl⟩, fun _ h => h, fun b cs t fz hb => ⟨cs, by dsimp only; rw [hmem b (Array.getElem?_eq_some_iff.1 hb).1]; exact hb, rfl⟩, hle.size, hle.env⟩
    refine ⟨l, ⟨hok.inj, hok.nF, hok.born, fun i b hb hz => ?_, fun b hb => Nat.lt_of_lt_of_le (hok.Fsz b hb) hle.size, fun i b hb hz => (hok.lp i b hb hz).le l (hmem _ (hok.lt hb))⟩, fun v x ids hv hp => ?_⟩
    · obtain ⟨cs, t, h1, h2, h3⟩ := hok.blk i b hb hz
      exact ⟨cs, t, by dsimp only; rw [hmem _ (hok.lt hb)]; exact h1, h2, fun j c hc => let ⟨v, hv, hr, h1⟩ := h3 j c hc; ⟨v, hv, hr.le l, h1⟩⟩
    · refine Rep.pureOn (C := D'.fr ids) (C' := { C with w := D'.w }) (fun _ _ _ => rfl) (fun b _ h => .inl ?_) (Nat.le_refl _) hv hp
      show D'.F b
      rw [hle.out]
      rcases h with h | ⟨i, blk, h1, h2, h3⟩
      · exact .inl h
      · exact .inr ⟨i, blk, h1, h2, h3⟩
  split at hb
  · rename_i v h n hbody
    split at hb <;> cases hb
    rename_i v' ids hpur
    obtain ⟨q1, q2⟩ := (body_ok hE hag hre).fn f l _ _ _ _ _ hy hbody D vs rfl hDB hD hrD
    refine ⟨q1, Calls.mono q2 ?_⟩
    rintro e w' ⟨D', rfl, g1, g2, g3, g4, u, rfl, hu⟩
    obtain ⟨b1, b2, b3⟩ := back D' g4 g3
    obtain ⟨p1, p2⟩ := purify_sound g3 ids deep v v' ids u (by rw [g1]; exact hpur) (fun _ h => h) hu
    exact ⟨b1, b2, u, rfl, b3 u v' ids p1 p2, p2⟩
  · rename_i v h n hbody
    split at hb <;> cases hb
    rename_i v' ids hpur
    obtain ⟨q1, q2⟩ := (body_ok hE hag hre).fn f l _ _ _ _ _ hy hbody D vs rfl hDB hD hrD
    refine ⟨q1, Calls.mono q2 ?_⟩
    rintro e w' ⟨D', rfl, g1, g2, g3, g4, u, rfl, hu⟩
    obtain ⟨b1, b2, b3⟩ := back D' g4 g3
    obtain ⟨p1, p2⟩ := purify_sound g3 ids deep v v' ids u (by rw [g1]; exact hpur) (fun _ h => h) hu
    exact ⟨b1, b2, u, rfl, b3 u v' ids p1 p2, p2⟩
  · cases hb

theorem step_reg (hE : POk P E) {cl : Cl} (hp : PureOk P cl.p) (ho : BodyOk P cl.o) {again : Code → St → Option (Ex × St)} : RegOk P (step E cl again) := by
  intro id ops σ r h C a hH hB hok hs
  simp only [step, Bool.false_eq_true, if_false] at h
  refine wpIn_region ?_
  have := runOps_okS hE.toEOk hp ho none ops ops.toList 0 σ r (fun j => by simp) h C a hH hB hok hs
  rw [List.range_eq_range']
  simpa using this
theorem exec_all (hE : POk P E) : ∀ n, CodeOk P (exec E n) ∧ LoopOk P (exec E n) ∧ RegOk P (exec E n)
  | 0 => ⟨fun ro c _ _ σ r h => by simp [exec] at h, fun ro c _ _ σ r h => by simp [exec] at h, fun id ops σ r h => by simp [exec] at h⟩
  | n + 1 => by
    obtain ⟨h1, h2, h3⟩ := exec_all hE n
    exact ⟨step_code hE (bodyP_ok hE h1 h3) (body_ok hE h1 h3) h1 h2, step_loopOk h1 h2, step_reg hE (bodyP_ok hE h1 h3) (body_ok hE h1 h3)⟩
end
end Vm
