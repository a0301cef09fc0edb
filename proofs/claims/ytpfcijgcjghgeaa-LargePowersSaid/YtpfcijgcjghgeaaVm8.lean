/- The machine over pure values and the model's world: one operation (III). (Own work of this repo.) -/
import Derived.Test.YtpfcijgcjghgeaaVm7
set_option linter.unusedVariables false
set_option linter.unusedSimpArgs false
namespace Vm
open Go
section
variable {P : Program} {E : Env} {o : Oper} {a : Act} {C : Cx} {nid : Nat} {sl : List AV}

theorem dOf_slice {d : TypeDesc} {e : TypeId} (h : dOf d = some (.slice e)) : d = .slice e := by
  cases d <;> simp [dOf] at h; rw [h]
theorem dOf_struct {d : TypeDesc} {fs : List (Nat × TypeId)} (h : dOf d = some (.struct fs)) : ∃ l, d = .struct l ∧ fs = l.toList.map fun f => (f.offset, f.type) := by
  cases d <;> simp [dOf] at h; exact ⟨_, rfl, h.symm⟩
theorem dOf_array {d : TypeDesc} {n : Nat} {e : TypeId} (h : dOf d = some (.array n e)) : d = .array n e := by
  cases d <;> simp [dOf] at h; rw [h.1, h.2]
theorem dOf_int {d : TypeDesc} {k : IntKind} (h : dOf d = some (.int k)) : d = .int k := by
  cases d <;> simp [dOf] at h; rw [h]
theorem dOf_bool {d : TypeDesc} (h : dOf d = some .bool) : d = .bool := by
  cases d <;> simp [dOf] at h; rfl
theorem dOf_str {d : TypeDesc} (h : dOf d = some .str) : d = .string := by
  cases d <;> simp [dOf] at h; rfl
theorem dOf_func {d : TypeDesc} (h : dOf d = some .func) : ∃ a b c, d = .func a b c := by
  cases d <;> simp [dOf] at h; exact ⟨_, _, _, rfl⟩

theorem run_mapM {α β : Type} {P : Program} {w : World} {g : α → Sem β} {f : α → β} : ∀ (l : List α), (∀ x ∈ l, (g x).run P w = .ok (f x) w) → (l.mapM g).run P w = .ok (l.map f) w
  | [], _ => by simp
  | x :: l, h => by
    rw [List.mapM_cons]
    simp only [Sem.run_bind, h x (by simp), Result.andThen_ok, run_mapM l (fun y hy => h y (by simp [hy])), Sem.run_pure, List.map_cons]
theorem places_run (hE : EOk P E) (w : World) : ∀ (l : List Field) (pl : List (Nat × Nat)), places E (l.map fun f => (f.offset, f.type)) = some pl →
    (l.mapM fun (f : Field) => do Pure.pure (f.offset, ← Go.sizeOf f.type)).run P w = .ok pl w
  | [], pl, h => by simp [places] at h; subst h; simp
  | f :: l, pl, h => by
    simp only [List.map_cons, places] at h
    split at h
    · rename_i tu l' hu hl
      cases h
      obtain ⟨i, d, z, F⟩ := tiOf_facts (hE.ty _ _ hu)
      rw [List.mapM_cons]
      simp only [Sem.run_bind, F.run_size, Result.andThen_ok, Sem.run_pure, places_run hE w l l' hl]
    · cases h

theorem build_ok (hE : EOk P E) (h : C.Ok) (hs : SRel C sl a.tmps) {t : TypeId} {ps : Array (Nat × Operand)} (hop : o.op = .build t ps) {e : Eff} (he : opEff E C.H nid sl o.op = some e) : OpOk P o a C e nid := by
  simp only [hop, opEff] at he
  split at he <;> try cases he
  rename_i ti l ht hl
  obtain ⟨i, d, z, F⟩ := tiOf_facts (hE.ty _ _ ht)
  obtain ⟨r1, r2⟩ := evps_rep hs hl
  have hz := zero_rel (C := C) F
  have hps : (Array.map (fun (x : Nat × Operand) => (x.fst, a.eval x.snd)) ps).toList = ps.toList.map fun p => (p.1, a.eval p.2) := by simp
  split at he
  · rename_i fs hd
    obtain ⟨fl, rfl, rfl⟩ := dOf_struct (hd ▸ F.ad)
    split at he <;> try cases he
    rename_i pl hpl
    split at he <;> try cases he
    rename_i cs hfill
    obtain ⟨cells', hf, hrel'⟩ := fill_ok (C := C) (place := fun i => pl.toArray[i]?) (fun i q h => by simpa using h) (ps.toList.map fun p => (p.1, a.eval p.2)) l _ _ cs hz r1 r2 hfill
    refine .pure h (v := .agg cells') ?_ (.agg cells' cs hrel'.1 fun j v x hv hx => by obtain ⟨u, hu, r⟩ := hrel'.2 j x hx; rw [hv] at hu; cases hu; exact r)
    have hm : (fl.mapM fun (f : Field) => do Pure.pure (f.offset, ← Go.sizeOf f.type)).run P C.w = .ok pl.toArray C.w := by
      rw [Array.mapM_eq_mapM_toList]
      simp only [Sem.run_map, places_run hE C.w fl.toList pl hpl, Result.andThen_ok]
    simp only [execOp, hop, Instr.build, Sem.run_bind, F.run_zero, F.run_und, Result.andThen_ok, hm, hps, hf, Sem.run_pure]
  · rename_i n el hd
    obtain rfl := dOf_array (hd ▸ F.ad)
    split at he <;> try cases he
    rename_i te hte
    obtain ⟨i', d', z', F'⟩ := tiOf_facts (hE.ty _ _ hte)
    split at he <;> try cases he
    rename_i cs hfill
    obtain ⟨cells', hf, hrel'⟩ := fill_ok (C := C) (place := fun i => some (i * te.size, te.size)) (fun i q h => h) (ps.toList.map fun p => (p.1, a.eval p.2)) l _ _ cs hz r1 r2 hfill
    refine .pure h (v := .agg cells') ?_ (.agg cells' cs hrel'.1 fun j v x hv hx => by obtain ⟨u, hu, r⟩ := hrel'.2 j x hx; rw [hv] at hu; cases hu; exact r)
    simp only [execOp, hop, Instr.build, Sem.run_bind, F.run_zero, F.run_und, F'.run_size, Result.andThen_ok, hps, hf, Sem.run_pure]
  · cases he

theorem rep_ptr {v : Value} {id off : Nat} (h : Rep C v (.ptr id off)) {b : Blk} (hb : C.H id = some b) : v = .pointer (some ⟨C.at_ id, off, none⟩) := by
  cases h with | ptr _ _ _ _ _ hh => exact hh b hb
theorem rep_ref {v : Value} {id off len : Nat} (h : Rep C v (.ref id off len)) {b : Blk} (hb : C.H id = some b) : ∃ cap, v = .slice (some ⟨C.at_ id, off, none⟩) len cap ∧ len ≤ cap ∧ ∃ cs t fz, C.w.heap[C.at_ id]? = some (.cells cs t fz) ∧ off + cap * b.esz ≤ cs.size := by
  cases h with | ref _ _ _ _ _ _ hh => exact hh b hb
theorem addr_add (b o n : Nat) : (⟨b, o, none⟩ : Addr).add n = ⟨b, o + n, none⟩ := by
  unfold Addr.add; split <;> simp_all
/-- Cells of a row that lies in the world. -/
theorem Cx.Ok.cell (h : C.Ok) {id : Nat} {b : Blk} (hb : C.H id = some b) {j : Nat} {c : AV} (hc : b.cells[j]? = some c) : ∃ v, C.w.cell? ⟨C.at_ id, j, none⟩ = some v ∧ Rep C v c ∧ v.oneCell' = true := by
  obtain ⟨cs, t, h1, h2, h3⟩ := h.blk id b hb
  obtain ⟨v, hv, r, h4⟩ := h3 j c hc
  exact ⟨v, by simp only [World.cell?, h1]; simpa using hv, r, h4⟩
theorem load_cells {w : World} {ad : Addr} {n : Nat} {cs : List AV} (hn : cs.length = n) (hc : ∀ (j : Nat) (c : AV), cs[j]? = some c → ∃ v, w.cell? (ad.add j) = some v ∧ Rep C v c) :
    ∃ vs : Array Value, (loadCells ad n).run P w = .ok vs w ∧ vs.size = cs.length ∧ ∀ (j : Nat) (v : Value) (x : AV), vs[j]? = some v → cs[j]? = some x → Rep C v x := by
  have hall : ∀ j, j < n → ∃ v, w.cell? (ad.add j) = some v := fun j hj => by
    obtain ⟨v, hv, _⟩ := hc j _ (List.getElem?_eq_getElem (by omega)); exact ⟨v, hv⟩
  refine ⟨_, run_loadCells w ad n (fun j => (w.cell? (ad.add j)).getD Go.undef) (fun j hj => by obtain ⟨v, hv⟩ := hall j hj; rw [hv]; rfl), by simp [hn], fun j v x hv hx => ?_⟩
  obtain ⟨u, hu, r⟩ := hc j x hx
  have hj : j < n := by rw [← hn]; exact (List.getElem?_eq_some_iff.1 hx).1
  simp [hj, hu] at hv
  subst hv
  exact r

theorem load_run (hE : EOk P E) (h : C.Ok) {t : TypeId} {v : Value} {x : AV} (hr : Rep C v x) {e : Eff} (he : loadEff E C.H t x = some e) :
    ∃ u y rds, e = ⟨.val y, rds, [], false⟩ ∧ (Instr.loadAt t v).run P C.w = .ok u C.w ∧ Rep C u y ∧ ∃ ad, v = .pointer (some ad) ∧ (loadVar t ad).run P C.w = .ok u C.w := by
  unfold loadEff at he
  split at he
  · rename_i id off
    split at he <;> try cases he
    rename_i ti b ht hb
    obtain ⟨i, d, z, F⟩ := tiOf_facts (hE.ty _ _ ht)
    cases hr with
    | ptr v id off h1 hB hh =>
      obtain rfl := hh b hb
      split at he
      · rename_i hag
        split at he <;> cases he
        rename_i hlen
        obtain ⟨vs, hrun, hsz, hrep⟩ := load_cells (P := P) (C := C) (w := C.w) (ad := ⟨C.at_ id, off, none⟩) (n := ti.size) (cs := (b.cells.drop off).take ti.size) (by simp; omega) (fun j c hc => by
          have hj : j < ti.size := by have := (List.getElem?_eq_some_iff.1 hc).1; simp at this; omega
          rw [List.getElem?_take_of_lt hj, List.getElem?_drop] at hc
          obtain ⟨v, hv, r, _⟩ := h.cell hb hc
          exact ⟨v, by rw [addr_add]; exact hv, r⟩)
        have hl : (loadVar t ⟨C.at_ id, off, none⟩).run P C.w = .ok (.agg vs) C.w := by
          simp only [loadVar, Sem.run_bind, F.run_agg, Result.andThen_ok, hag, if_true, F.run_size, hrun, Sem.run_pure]
        exact ⟨.agg vs, _, _, rfl, by simp only [Instr.loadAt, Instr.sureAddr, Sem.run_bind, Sem.run_pure, Result.andThen_ok, hl], .agg vs _ hsz hrep, _, rfl, hl⟩
      · rename_i hag
        split at he <;> cases he
        rename_i c hc
        obtain ⟨v, hv, r, _⟩ := h.cell hb hc
        have hag' : ti.agg = false := by simpa using hag
        have hl : (loadVar t ⟨C.at_ id, off, none⟩).run P C.w = .ok v C.w := by
          simp only [loadVar, Sem.run_bind, F.run_agg, Result.andThen_ok, hag', Bool.false_eq_true, if_false, run_load, hv]
        exact ⟨v, _, _, rfl, by simp only [Instr.loadAt, Instr.sureAddr, Sem.run_bind, Sem.run_pure, Result.andThen_ok, hl], r, _, rfl, hl⟩
  · rename_i cs
    split at he <;> try cases he
    rename_i ti ht
    obtain ⟨i, d, z, F⟩ := tiOf_facts (hE.ty _ _ ht)
    cases hr with
    | imm ad cs u hm hu hr =>
      have cell : ∀ (j : Nat) (c : AV), cs[j]? = some c → C.w.cell? (ad.add j) = some (u j) := by
        intro j c hc
        have hne : cs ≠ [] := by intro e; rw [e] at hc; simp at hc
        obtain ⟨hsp, _, _⟩ := hm hne
        have : ad = ⟨ad.block, ad.off, none⟩ := by cases ad; simp at hsp; simp [hsp]
        rw [this, addr_add]
        exact hu j c hc
      split at he
      · rename_i hag
        split at he <;> cases he
        rename_i hlen
        obtain ⟨vs, hrun, hsz, hrep⟩ := load_cells (P := P) (C := C) (w := C.w) (ad := ad) (n := ti.size) (cs := cs.take ti.size) (by simp; omega) (fun j c hc => by
          have hj : j < ti.size := by have := (List.getElem?_eq_some_iff.1 hc).1; simp at this; omega
          rw [List.getElem?_take_of_lt hj] at hc
          exact ⟨_, cell j c hc, hr j c hc⟩)
        have hl : (loadVar t ad).run P C.w = .ok (.agg vs) C.w := by
          simp only [loadVar, Sem.run_bind, F.run_agg, Result.andThen_ok, hag, if_true, F.run_size, hrun, Sem.run_pure]
        exact ⟨.agg vs, _, _, rfl, by simp only [Instr.loadAt, Instr.sureAddr, Sem.run_bind, Sem.run_pure, Result.andThen_ok, hl], .agg vs _ hsz hrep, _, rfl, hl⟩
      · rename_i hag
        have hag' : ti.agg = false := by simpa using hag
        split at he
        · rename_i c cs'
          cases he
          have hv := cell 0 c rfl
          have hl : (loadVar t ad).run P C.w = .ok (u 0) C.w := by
            have : ad.add 0 = ad := by simp [Addr.add]
            rw [this] at hv
            simp only [loadVar, Sem.run_bind, F.run_agg, Result.andThen_ok, hag', Bool.false_eq_true, if_false, run_load, hv]
          exact ⟨u 0, _, _, rfl, by simp only [Instr.loadAt, Instr.sureAddr, Sem.run_bind, Sem.run_pure, Result.andThen_ok, hl], hr 0 c rfl, _, rfl, hl⟩
        · cases he
  · cases he
theorem load_ok (hE : EOk P E) (h : C.Ok) (hs : SRel C sl a.tmps) {t : TypeId} {x : Operand} (hop : o.op = .load t x) {e : Eff} (he : opEff E C.H nid sl o.op = some e) : OpOk P o a C e nid := by
  simp only [hop, opEff] at he
  split at he <;> try cases he
  rename_i y hy
  obtain ⟨u, z, rds, rfl, hrun, hr, _⟩ := load_run hE h (ev_rep hs hy) he
  refine .pure h (v := u) ?_ hr
  simp only [execOp, hop, Sem.run_bind, hrun, Result.andThen_ok, Sem.run_pure]

/-- Cells written over a row that lies in the world. -/
theorem write_ok (h : C.Ok) {id off : Nat} {b : Blk} (hb : C.H id = some b) (hf : b.fz = false) {vs : List Value} {xs : List AV} (hl : vs.length = xs.length) (hx : ∀ (j : Nat) (c : AV), xs[j]? = some c → ∃ v, vs[j]? = some v ∧ Rep C v c)
    (h1 : ∀ v ∈ vs, v.oneCell' = true) (hb2 : off + xs.length ≤ b.cells.length) {out : Out} {rds : List Nat} :
    ∃ C', (storeCells ⟨C.at_ id, off, none⟩ vs).run P C.w = .ok () C'.w ∧ After C ⟨out, rds, [(id, some { b with cells := setCells b.cells off xs })], false⟩ nid C' := by
  obtain ⟨cs, t, hh, hlen, hrel⟩ := h.blk id b hb
  have hrun := run_storeCells_at (P := P) (C.at_ id) off t vs 0 cs C.w hh (by omega) h1
  obtain ⟨le, ok⟩ := h.store hb hf hh (cs' := (cs.toList.take (off + 0) ++ vs ++ cs.toList.drop (off + 0 + vs.length)).toArray) (by simp; omega) (setCells b.cells off xs) (by rw [setCells_length]; simp; omega) (fun j c hc => by
    rw [setCells_get _ _ _ _ hb2] at hc
    simp only [Nat.add_zero, List.getElem?_toArray]
    split at hc
    · rename_i hj
      obtain ⟨v, hv, r⟩ := hx _ c hc
      refine ⟨v, ?_, r, h1 v (List.mem_of_getElem? hv)⟩
      rw [List.append_assoc, List.getElem?_append_right (by simp; omega), List.getElem?_append_left (by simp; omega)]
      simp only [List.length_take, Array.length_toList]
      rw [Nat.min_eq_left (by omega)]
      exact hv
    · rename_i hj
      have hjl : j < b.cells.length := (List.getElem?_eq_some_iff.1 hc).1
      obtain ⟨v, hv, r, h4⟩ := hrel j c hc
      refine ⟨v, ?_, r, h4⟩
      by_cases hlt : j < off
      · rw [List.append_assoc, List.getElem?_append_left (by simp; omega), List.getElem?_take_of_lt hlt]
        simpa using hv
      · rw [List.getElem?_append_right (by simp; omega), List.getElem?_drop]
        simp only [List.length_append, List.length_take, Array.length_toList]
        rw [show off + vs.length + (j - (min off cs.size + vs.length)) = j by omega]
        simpa using hv)
  exact ⟨_, hrun, rfl, by funext i; simp, ok, le⟩

theorem store_ok (hE : EOk P E) (h : C.Ok) (hs : SRel C sl a.tmps) {t : TypeId} {x y : Operand} (hop : o.op = .store t x y) {e : Eff} (he : opEff E C.H nid sl o.op = some e) : OpOk P o a C e nid := by
  simp only [hop, opEff] at he
  split at he <;> try cases he
  rename_i p v hp hv
  have hrp := ev_rep hs hp
  have hrv := ev_rep hs hv
  unfold storeEff at he
  split at he <;> try cases he
  rename_i id off
  split at he <;> try cases he
  rename_i ti b ht hb
  split at he <;> try cases he
  rename_i hc
  obtain ⟨hf, hsz, hlen, hsc⟩ := hc
  obtain ⟨i, d, z, F⟩ := tiOf_facts (hE.ty _ _ ht)
  have hcr := rep_cells hrv
  have hsc' := CRel.scal hcr hsc
  have hrp' := rep_ptr hrp hb
  have one : ∀ u ∈ (a.eval y).cells.toList, u.oneCell' = true := by
    intro u hu
    obtain ⟨j, hj⟩ := List.getElem?_of_mem hu
    have hjl : j < v.cells.length := by have := (List.getElem?_eq_some_iff.1 hj).1; rw [← hcr.1]; simpa using this
    obtain ⟨u', hu', _, h1⟩ := hsc' j _ (List.getElem?_eq_getElem hjl)
    have : u = u' := by simp at hj; rw [hu'] at hj; cases hj; rfl
    rw [this]; exact h1
  obtain ⟨C', hrun, hA⟩ := write_ok (P := P) (C := C) (nid := nid) (out := .skip) (rds := [id]) h hb hf (off := off) (vs := (a.eval y).cells.toList) (xs := v.cells) (by simpa using hcr.1) (fun j c hj => by obtain ⟨u, hu, r⟩ := hcr.2 j c hj; exact ⟨u, by simpa using hu, r⟩) one (by omega)
  refine ⟨C', ?_, hA⟩
  simp only [execOp, hop, Instr.storeAt, Instr.sureAddr, hrp', storeVar, Sem.run_bind, Sem.run_pure, Result.andThen_ok, F.run_size]
  rw [if_neg (by rw [hcr.1]; simpa using hsz)]
  simp only [hrun, Result.andThen_ok]
end
end Vm
