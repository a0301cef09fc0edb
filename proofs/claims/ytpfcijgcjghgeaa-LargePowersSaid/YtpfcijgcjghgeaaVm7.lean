/- The machine over pure values and the model's world: one operation (II): what makes, reads and writes rows. (Own work of this repo.) -/
import Derived.Test.YtpfcijgcjghgeaaVm6
set_option linter.unusedVariables false
set_option linter.unusedSimpArgs false
namespace Vm
open Go

/-- What is asked of the environment. -/
structure EOk (P : Program) (E : Env) : Prop where
  ty : ∀ t ti, E.T t = some ti → tiOf P t = some ti

section
variable {P : Program} {E : Env} {o : Oper} {a : Act} {C : Cx} {nid : Nat} {sl : List AV}

theorem setCells_length : ∀ (vs cs : List AV) (off : Nat), (setCells cs off vs).length = cs.length
  | [], _, _ => rfl
  | v :: vs, cs, off => by simp [setCells, setCells_length vs]
theorem setCells_get : ∀ (vs cs : List AV) (off j : Nat), off + vs.length ≤ cs.length → (setCells cs off vs)[j]? = if off ≤ j ∧ j < off + vs.length then vs[j - off]? else cs[j]?
  | [], cs, off, j, _ => by
    simp only [setCells, List.length_nil, Nat.add_zero]
    rw [if_neg (by omega)]
  | v :: vs, cs, off, j, h => by
    simp only [List.length_cons] at h
    simp only [setCells]
    rw [setCells_get vs (cs.set off v) (off + 1) j (by simp; omega)]
    simp only [List.length_cons]
    by_cases h1 : off + 1 ≤ j ∧ j < off + 1 + vs.length
    · rw [if_pos h1, if_pos (by omega)]
      rw [show j - off = (j - (off + 1)) + 1 by omega, List.getElem?_cons_succ]
    · rw [if_neg h1]
      by_cases h2 : j = off
      · subst h2
        rw [if_pos (by omega), List.getElem?_set_self (by omega)]
        simp
      · rw [if_neg (by omega), List.getElem?_set_ne (by omega)]

theorem foldl_set (off : Nat) : ∀ (l : List Value) (k : Nat) (cells : Array Value), (l.zipIdx k).foldl (fun (cs : Array Value) (p : Value × Nat) => cs.setIfInBounds (off + p.2) p.1) cells = (List.foldl (fun (p : Array Value × Nat) c => (p.1.setIfInBounds (off + p.2) c, p.2 + 1)) (cells, k) l).1
  | [], k, cells => rfl
  | v :: l, k, cells => by simp only [List.zipIdx_cons, List.foldl_cons]; exact foldl_set off l (k + 1) _
theorem fill_cells (off : Nat) : ∀ (l : List Value) (k : Nat) (cells : Array Value) (xs : List AV) (cs : List AV), CRel C cells cs → l.length = xs.length → (∀ (j : Nat) (c : AV), xs[j]? = some c → ∃ v, l[j]? = some v ∧ Rep C v c) → off + k + l.length ≤ cells.size →
    CRel C (List.foldl (fun (p : Array Value × Nat) c => (p.1.setIfInBounds (off + p.2) c, p.2 + 1)) (cells, k) l).1 (setCells cs (off + k) xs)
  | [], k, cells, [], cs, h, _, _, _ => h
  | v :: l, k, cells, x :: xs, cs, h, hl, hx, hb => by
    simp only [List.foldl_cons, setCells]
    have hx0 : Rep C v x := by obtain ⟨u, hu, r⟩ := hx 0 x rfl; simp at hu; subst hu; exact r
    have := fill_cells off l (k + 1) (cells.setIfInBounds (off + k) v) xs (cs.set (off + k) x) ?_ (by simpa using hl) (fun j c hj => by simpa using hx (j + 1) c (by simpa using hj)) (by simp at hb ⊢; omega)
    · rwa [show off + k + 1 = off + (k + 1) by omega]
    · refine ⟨by simp [h.1], fun j c hc => ?_⟩
      by_cases hj : off + k = j
      · subst hj
        have hlt : off + k < cs.length := by have := (List.getElem?_eq_some_iff.1 hc).1; simpa using this
        rw [List.getElem?_set_self hlt] at hc
        cases hc
        exact ⟨v, Array.getElem?_setIfInBounds_self_of_lt (by rw [h.1]; exact hlt), hx0⟩
      · rw [List.getElem?_set_ne hj] at hc
        obtain ⟨u, hu, r⟩ := h.2 j c hc
        exact ⟨u, by rw [Array.getElem?_setIfInBounds_ne hj]; exact hu, r⟩
  | [], _, _, _ :: _, _, _, hl, _, _ => by simp at hl
  | _ :: _, _, _, [], _, _, hl, _, _ => by simp at hl

theorem fill_ok {place : Nat → Option (Nat × Nat)} {pl' : Nat → Option (Nat × Nat)} (hp : ∀ i q, pl' i = some q → place i = some q) : ∀ (ps : List (Nat × Value)) (l : List (Nat × AV)) (cells : Array Value) (cs ds : List AV), CRel C cells cs → RepL C (ps.map (·.2)) (l.map (·.2)) → ps.map (·.1) = l.map (·.1) →
    fillAll pl' cs l = some ds → ∃ cells', Instr.fill place cells ps = some cells' ∧ CRel C cells' ds
  | [], [], cells, cs, ds, h, _, _, he => by simp [fillAll] at he; subst he; exact ⟨cells, rfl, h⟩
  | (i, v) :: ps, (k, x) :: l, cells, cs, ds, h, hr, hi, he => by
    simp only [List.map_cons, List.cons.injEq] at hi
    obtain ⟨rfl, hi⟩ := hi
    simp only [fillAll] at he
    split at he
    · cases he
    · rename_i off size hpl
      split at he
      · rename_i hc
        obtain ⟨h1, h2⟩ := hc
        have hrc := rep_cells hr.1
        simp only [Instr.fill, hp _ _ hpl]
        have hsz : v.cells.size = size := by rw [hrc.1]; exact h1
        rw [if_neg (by simp only [not_or, Bool.or_eq_true, decide_eq_true_eq, ne_eq]; rw [h.1]; omega)]
        have e : v.cells.zipIdx.foldl (fun cs (x : Value × Nat) => cs.setIfInBounds (off + x.2) x.1) cells = (List.foldl (fun (p : Array Value × Nat) c => (p.1.setIfInBounds (off + p.2) c, p.2 + 1)) (cells, 0) v.cells.toList).1 := by
          rw [← foldl_set, ← Array.foldl_toList, Array.toList_zipIdx]
        rw [show (v.cells.zipIdx.foldl (fun cs (x : Value × Nat) => match x with | (c, j) => cs.setIfInBounds (off + j) c) cells) = (List.foldl (fun (p : Array Value × Nat) c => (p.1.setIfInBounds (off + p.2) c, p.2 + 1)) (cells, 0) v.cells.toList).1 from e]
        refine fill_ok hp ps l _ _ ds ?_ hr.2 hi he
        have := fill_cells (C := C) off v.cells.toList 0 cells x.cells cs h (by simpa using hrc.1) (fun j c hj => by obtain ⟨u, hu, r⟩ := hrc.2 j c hj; exact ⟨u, by simpa using hu, r⟩) (by simp; rw [hsz, h.1]; omega)
        simpa using this
      · cases he
  | [], _ :: _, _, _, _, _, hr, _, _ => hr.elim
  | _ :: _, [], _, _, _, _, hr, _, _ => hr.elim

theorem zero_rel {t : TypeId} {ti : TI} {i : TypeInfo} {d : TypeDesc} {z : Value} (F : TyFacts P t ti i d z) : CRel C z.cells ti.zero.cells := rep_cells (ofConst_rep F.az)
theorem CRel.scal {vs : Array Value} {cs : List AV} (h : CRel C vs cs) (hs : cs.all AV.scal = true) : ∀ (j : Nat) (c : AV), cs[j]? = some c → ∃ v, vs[j]? = some v ∧ Rep C v c ∧ v.oneCell' = true := by
  intro j c hc
  obtain ⟨v, hv, r⟩ := h.2 j c hc
  refine ⟨v, hv, r, ?_⟩
  have := List.all_eq_true.1 hs c (List.mem_of_getElem? hc)
  cases r <;> first | rfl | (simp [AV.scal] at this; done) | assumption

/-- A new row of the heap. -/
theorem grow_ok (h : C.Ok) (hn : C.H nid = none) (hB : ¬ C.B nid) {w : World} {cs : Array Value} {t : TypeId} (hw : w.heap = C.w.heap.push (.cells cs t)) (blk : Blk)
    (hs : blk.cells.length ≤ cs.size) (hr : ∀ (j : Nat) (c : AV), blk.cells[j]? = some c → ∃ v, cs[j]? = some v ∧ Rep C v c ∧ v.oneCell' = true) {out : Out} {rds : List Nat} (hw2 : Alike C.w w := by exact ⟨rfl, rfl, rfl⟩) :
    ∃ C', C'.w = w ∧ C'.at_ nid = C.w.heap.size ∧ C'.H nid = some blk ∧ C'.B nid ∧ After C ⟨out, rds, [(nid, some blk)], true⟩ nid C' := by
  obtain ⟨le, ok⟩ := h.grow hn hB hw blk hs hr hw2
  exact ⟨_, rfl, by simp, Heap.upd_same _ _ _, (Or.inr rfl : C.B nid ∨ nid = nid), rfl, by funext i; simp, ok, le⟩

theorem alloc_ok (hE : EOk P E) (h : C.Ok) (hn : C.H nid = none) (hB : ¬ C.B nid) {t : TypeId} (hop : o.op = .alloc t) {e : Eff} (he : opEff E C.H nid sl o.op = some e) : OpOk P o a C e nid := by
  simp only [hop, opEff] at he
  split at he
  · rename_i ti ht
    split at he
    · rename_i hsc
      cases he
      obtain ⟨i, d, z, F⟩ := tiOf_facts (hE.ty _ _ ht)
      have hz : CRel C z.cells ti.zero.cells := zero_rel F
      obtain ⟨C', hw, hat, hH, hBB, hA⟩ := grow_ok (out := .val (.ptr nid 0)) (rds := [nid]) h hn hB (w := C.w.alloc (.cells z.cells t)) rfl ⟨ti.zero.cells, ti.agg, ti.size, false⟩ (by simp [hz.1]) (hz.scal hsc)
      refine ⟨.pointer (some ⟨C.w.heap.size, 0, none⟩), C', ?_, hA, .ptr _ _ _ rfl hBB fun blk _ => by rw [hat]⟩
      simp only [execOp, hop, Instr.alloc, Sem.run_bind, F.run_zero, Result.andThen_ok, newVar, newRow, run_newObj, Sem.run_pure, hw]
      rfl
    · cases he
  · cases he
theorem box_ok (hE : EOk P E) (h : C.Ok) (hs : SRel C sl a.tmps) (hn : C.H nid = none) (hB : ¬ C.B nid) {t : TypeId} {x : Operand} (hop : o.op = .box t x) {e : Eff} (he : opEff E C.H nid sl o.op = some e) : OpOk P o a C e nid := by
  simp only [hop, opEff] at he
  split at he
  · rename_i ti v ht hv
    split at he
    · rename_i hsc
      cases he
      have hr := rep_cells (ev_rep hs hv)
      obtain ⟨C', hw, hat, hH, hBB, hA⟩ := grow_ok (out := .val (.ptr nid 0)) (rds := [nid]) h hn hB (w := C.w.alloc (.cells (a.eval x).cells t)) rfl ⟨v.cells, ti.agg, ti.size, false⟩ (by simp [hr.1]) (hr.scal hsc)
      refine ⟨.pointer (some ⟨C.w.heap.size, 0, none⟩), C', ?_, hA, .ptr _ _ _ rfl hBB fun blk _ => by rw [hat]⟩
      simp only [execOp, hop, Instr.box, Sem.run_bind, Result.andThen_ok, newVar, newRow, run_newObj, Sem.run_pure, hw]
      rfl
    · cases he
  · cases he

theorem reps_length : ∀ (n : Nat) (z : List AV), (reps n z).length = n * z.length
  | 0, z => by simp [reps]
  | n + 1, z => by simp [reps, reps_length n z, Nat.succ_mul, Nat.add_comm]
theorem reps_get : ∀ (n : Nat) (z : List AV) (j : Nat), j < n * z.length → (reps n z)[j]? = z[j % z.length]?
  | 0, z, j, h => by simp at h
  | n + 1, z, j, h => by
    simp only [reps]
    by_cases hj : j < z.length
    · rw [List.getElem?_append_left hj, Nat.mod_eq_of_lt hj]
    · rw [List.getElem?_append_right (by omega), reps_get n z _ (by rw [Nat.succ_mul] at h; omega)]
      congr 1
      rw [Nat.mod_eq_sub_mod (Nat.le_of_not_lt hj)]
theorem zeros_rel {z : Array Value} {zs : List AV} (h : CRel C z zs) (hne : zs.length ≠ 0) (n : Nat) : CRel C ((Array.range (n * zs.length)).map (z[· % z.size]!)) (reps n zs) := by
  refine ⟨by simp [reps_length], fun j c hc => ?_⟩
  have hj : j < n * zs.length := by have := (List.getElem?_eq_some_iff.1 hc).1; rwa [reps_length] at this
  rw [reps_get _ _ _ hj] at hc
  obtain ⟨v, hv, r⟩ := h.2 _ c hc
  refine ⟨v, ?_, r⟩
  have hm : j % z.size < z.size := Nat.mod_lt _ (by rw [h.1]; omega)
  rw [← h.1] at hv
  simp only [Array.getElem?_map, Array.getElem?_range, hj, if_true, Option.map_some, Option.some.injEq]
  rw [getElem!_pos z _ hm]
  rw [Array.getElem?_eq_getElem hm] at hv
  cases hv
  rfl
theorem reps_all {p : AV → Bool} {z : List AV} (h : z.all p = true) : ∀ n, (reps n z).all p = true
  | 0 => rfl
  | n + 1 => by simp only [reps, List.all_append, h, reps_all h n, Bool.and_self]

theorem buildSlice_ok (hE : EOk P E) (h : C.Ok) (hs : SRel C sl a.tmps) (hn : C.H nid = none) (hB : ¬ C.B nid) {t : TypeId} {len : Nat} {ps : Array (Nat × Operand)} (hop : o.op = .buildSlice t len ps) {e : Eff} (he : opEff E C.H nid sl o.op = some e) : OpOk P o a C e nid := by
  simp only [hop, opEff] at he
  split at he <;> try cases he
  rename_i ti l ht hl
  split at he <;> try cases he
  rename_i el hd
  split at he <;> try cases he
  rename_i te hte
  split at he <;> try cases he
  rename_i hc
  obtain ⟨hz0, hzl, hbig⟩ := hc
  split at he <;> try cases he
  rename_i cs hfill
  split at he <;> try cases he
  rename_i hsc
  obtain ⟨i, d, z, F⟩ := tiOf_facts (hE.ty _ _ ht)
  obtain ⟨i', d', z', F'⟩ := tiOf_facts (hE.ty _ _ hte)
  have hd' : d = .slice el := by
    have := F.ad; rw [hd] at this
    cases d <;> simp [dOf] at this
    rw [this]
  subst hd'
  have hz := zero_rel (C := C) F'
  obtain ⟨r1, r2⟩ := evps_rep hs hl
  -- the row of zeros
  have hzero : ∀ w : World, (if len * te.size = 0 then (Pure.pure #[] : Sem (Array Value)) else do Pure.pure (← zeroValue el).cells).run P w = .ok (if len * te.size = 0 then #[] else z'.cells) w := by
    intro w; split <;> simp [F'.run_zero]
  have hrel : CRel C ((Array.range (len * te.size)).map ((if len * te.size = 0 then #[] else z'.cells)[· % (if len * te.size = 0 then #[] else z'.cells).size]!)) (reps len te.zero.cells) := by
    by_cases h0 : len * te.size = 0
    · have : len = 0 := by
        rcases Nat.mul_eq_zero.1 h0 with h | h
        · exact h
        · exact absurd h hz0
      subst this
      simp only [Nat.zero_mul, if_true]
      exact ⟨by simp [reps], by simp [reps]⟩
    · simp only [h0, if_false]
      have := zeros_rel hz (by omega) len
      rwa [hzl] at this
  obtain ⟨cells', hf, hrel'⟩ := fill_ok (C := C) (place := fun i => some (i * te.size, te.size)) (fun _ _ h => h) (ps.toList.map fun p => (p.1, a.eval p.2)) l _ _ cs hrel r1 r2 hfill
  have hlen : cs.length = cells'.size := hrel'.1.symm
  have hcl : cells'.size = len * te.size := by
    have fl : ∀ (pl : Nat → Option (Nat × Nat)) (l : List (Nat × AV)) (c d : List AV), fillAll pl c l = some d → d.length = c.length := by
      intro pl l
      induction l with
      | nil => intro c d h; simp [fillAll] at h; rw [h]
      | cons p l ih =>
        intro c d h
        obtain ⟨i, v⟩ := p
        simp only [fillAll] at h
        split at h
        · cases h
        · split at h
          · rw [ih _ _ h, setCells_length]
          · cases h
    rw [← hlen, fl _ _ _ _ hfill, reps_length, hzl]
  obtain ⟨C', hw, hat, hH, hBB, hA⟩ := grow_ok (out := .val (.ref nid 0 len)) (rds := [nid]) h hn hB (w := C.w.alloc (.cells cells' el)) rfl ⟨cs, te.agg, te.size, false⟩ (by simp [hlen]) (hrel'.scal hsc)
  refine ⟨.slice (some ⟨C.w.heap.size, 0, none⟩) len len, C', ?_, hA, .ref _ _ _ _ rfl hBB fun blk hb => ⟨len, by rw [hat], Nat.le_refl _, cells', el, (0, 0), ?_, ?_⟩⟩
  · simp only [execOp, hop, Instr.buildSlice, Sem.run_bind, F.run_und, F'.run_size, Result.andThen_ok]
    rw [if_neg (by omega)]
    have hps : (Array.map (fun (x : Nat × Operand) => (x.fst, a.eval x.snd)) ps).toList = ps.toList.map fun p => (p.1, a.eval p.2) := by simp
    by_cases h0 : len * te.size = 0
    · simp only [h0, if_true] at hf ⊢
      simp only [Sem.run_bind, Sem.run_pure, Result.andThen_ok, hps, hf, newRow, run_newObj, hw]
      rfl
    · simp only [h0, if_false] at hf ⊢
      simp only [Sem.run_bind, Sem.run_pure, F'.run_zero, Result.andThen_ok, hps, hf, newRow, run_newObj, hw]
      rfl
  · rw [hat, hw]; show (C.w.heap.push _)[_]? = _; simp
  · rw [hH] at hb; cases hb; simp only [Nat.zero_add]; omega
end
end Vm
