/- The machine over pure values and the model's world: one operation (V). (Own work of this repo.) -/
import Derived.Test.YtpfcijgcjghgeaaVm9
set_option linter.unusedVariables false
set_option linter.unusedSimpArgs false
namespace Vm
open Go
section
variable {P : Program} {E : Env} {o : Oper} {a : Act} {C : Cx} {nid : Nat} {sl : List AV}

theorem inRange_spec {i : Int} {lo hi n : Nat} (h : inRange i lo hi = some n) : (lo : Int) ≤ i ∧ i ≤ (hi : Int) ∧ n = i.toNat := by
  unfold inRange at h
  split at h <;> cases h
  rename_i hc
  exact ⟨hc.1, hc.2, rfl⟩
theorem sliceBound_run {k : IntKind} {i : Int} {y : Nat} {c : BoundsCode} {w : World} (h : 0 ≤ i ∧ i ≤ (y : Int)) : (Instr.sliceBound (.int k i) y c).run P w = .ok i.toNat w := by
  simp only [Instr.sliceBound, asIntOf, Sem.run_bind, Sem.run_pure, Result.andThen_ok]
  rw [if_pos h]
  rfl
/-- An optional operand. -/
def ORep (C : Cx) : Option Value → Option AV → Prop
  | none, none => True
  | some v, some x => Rep C v x
  | _, _ => False
theorem evo_rep (hs : SRel C sl a.tmps) {x : Option Operand} {y : Option AV} (h : evo sl x = some y) : ORep C (x.map a.eval) y := by
  cases x with
  | none => simp [evo] at h; subst h; trivial
  | some x =>
    simp only [evo] at h
    cases hv : ev sl x with
    | none => rw [hv] at h; cases h
    | some v => rw [hv] at h; cases h; exact ev_rep hs hv
theorem cut_run {len cap : Nat} (hcap : len ≤ cap) {lo hi mx : Option AV} {lov hiv mxv : Option Value} (h1 : ORep C lov lo) (h2 : ORep C hiv hi) (h3 : ORep C mxv mx) {x y : Nat} (h : cutBounds len lo hi mx = some (x, y)) (sl? : Bool) (w : World) :
    ∃ m, (Instr.sliceBounds sl? len cap lov hiv mxv).run P w = .ok (x, y, m) w ∧ x ≤ y ∧ y ≤ len ∧ y ≤ m ∧ m ≤ cap := by
  unfold cutBounds at h
  dsimp only at h
  split at h <;> try cases h
  rename_i hh mm hhe hme
  split at h <;> try cases h
  rename_i hmh
  split at h <;> try cases h
  rename_i heq
  subst heq
  -- the high bound
  have Hh : hh ≤ len ∧ ∀ (m : Nat), hh ≤ m → (match hiv, mxv with
      | some v, some _ => Instr.sliceBound v m .slice3B
      | some v, none => Instr.sliceBound v m (if sl? then .sliceAcap else .sliceAlen)
      | none, none => Pure.pure len
      | none, some _ => stuck "Slice: max without high").run P w = .ok hh w := by
    cases hi with
    | none =>
      simp only [Option.some.injEq] at hhe
      subst hhe
      cases hiv with
      | some v => exact h2.elim
      | none =>
        cases mx with
        | some u => simp at hmh
        | none =>
          cases mxv with
          | some v => exact h3.elim
          | none => exact ⟨Nat.le_refl _, fun m _ => rfl⟩
    | some u =>
      cases hiv with
      | none => exact h2.elim
      | some v =>
        cases u <;> simp only [reduceCtorEq] at hhe
        rename_i k i
        obtain ⟨p1, p2, rfl⟩ := inRange_spec hhe
        have hv : v = .int k i := rep_int h2
        subst hv
        refine ⟨by omega, fun m hm => ?_⟩
        cases mxv with
        | none => exact sliceBound_run ⟨by omega, by omega⟩
        | some v => exact sliceBound_run ⟨by omega, by omega⟩
  -- the maximum
  have Hm : ∃ m, hh ≤ m ∧ m ≤ cap ∧ (match mxv with | some v => Instr.sliceBound v cap (if sl? then .slice3Acap else .slice3Alen) | none => Pure.pure cap).run P w = .ok m w := by
    cases mx with
    | none =>
      cases mxv with
      | some v => exact h3.elim
      | none => exact ⟨cap, by omega, Nat.le_refl _, rfl⟩
    | some u =>
      cases mxv with
      | none => exact h3.elim
      | some v =>
        cases u <;> simp only [reduceCtorEq] at hme
        rename_i k i
        obtain ⟨p1, p2, p3⟩ := inRange_spec hme
        have hv : v = .int k i := rep_int h3
        subst hv
        exact ⟨i.toNat, by omega, by omega, sliceBound_run ⟨by omega, by omega⟩⟩
  obtain ⟨m, hm1, hm2, hmr⟩ := Hm
  -- the low bound
  have Hl : x ≤ hh ∧ y = hh ∧ (match lov with | some v => Instr.sliceBound v hh (if mxv.isSome then .slice3C else .sliceB) | none => Pure.pure 0).run P w = .ok x w := by
    cases lo with
    | none =>
      cases lov with
      | some v => exact h1.elim
      | none =>
        simp only [Option.some.injEq, Prod.mk.injEq] at h
        obtain ⟨rfl, rfl⟩ := h
        exact ⟨Nat.zero_le _, rfl, rfl⟩
    | some u =>
      cases lov with
      | none => exact h1.elim
      | some v =>
        cases u <;> simp only [reduceCtorEq] at h
        rename_i k i
        cases hr : inRange i 0 hh with
        | none => rw [hr] at h; cases h
        | some l =>
          rw [hr] at h
          simp only [Option.map_some, Option.some.injEq, Prod.mk.injEq] at h
          obtain ⟨rfl, rfl⟩ := h
          obtain ⟨p1, p2, rfl⟩ := inRange_spec hr
          have hv : v = .int k i := rep_int h1
          subst hv
          exact ⟨by omega, rfl, sliceBound_run ⟨by omega, by omega⟩⟩
  obtain ⟨hl1, rfl, hlr⟩ := Hl
  refine ⟨m, ?_, hl1, Hh.1, hm1, hm2⟩
  have Hh2 := Hh.2 m hm1
  clear Hh hme hhe h1 h2 h3 h
  cases mxv <;> cases hiv <;> cases lov <;> simp only [run_stuck, reduceCtorEq] at hmr Hh2 hlr <;> simp only [Instr.sliceBounds, Sem.run_bind, hmr, Hh2, hlr, Result.andThen_ok, Sem.run_pure] <;> simp_all

theorem add_block (ad : Addr) (n : Nat) : (ad.add n).block = ad.block := by unfold Addr.add; split <;> rfl
theorem add_off (ad : Addr) (n : Nat) : (ad.add n).off = ad.off + n := by unfold Addr.add; split <;> simp_all
theorem add_spot {ad : Addr} (h : ad.spot = none) (n : Nat) : (ad.add n).spot = none := by unfold Addr.add; split <;> simp_all

theorem slice_ok (hE : EOk P E) (h : C.Ok) (hs : SRel C sl a.tmps) {t : TypeId} {x : Operand} {lo hi mx : Option Operand} (hop : o.op = .slice t x lo hi mx) {e : Eff} (he : opEff E C.H nid sl o.op = some e) : OpOk P o a C e nid := by
  simp only [hop, opEff] at he
  split at he <;> try cases he
  rename_i ti v l hh m ht hv hl hhi hmx
  obtain ⟨i, d, z, F⟩ := tiOf_facts (hE.ty _ _ ht)
  have hr := ev_rep hs hv
  have r1 := evo_rep hs hl
  have r2 := evo_rep hs hhi
  have r3 := evo_rep hs hmx
  split at he <;> try cases he
  · rename_i s hd
    obtain rfl := dOf_str (hd ▸ F.ad)
    split at he <;> try cases he
    rename_i hm
    split at he <;> cases he
    rename_i p q hcut
    have hx := rep_str hr
    have hm' : mx = none := by
      cases mx with
      | none => rfl
      | some y =>
        simp only [evo] at hmx
        cases hy : ev sl y with
        | none => rw [hy] at hmx; cases hmx
        | some u => rw [hy] at hmx; cases hmx; simp at hm
    subst hm'
    obtain ⟨mm, hrun, _⟩ := cut_run (P := P) (C := C) (Nat.le_refl s.size) r1 r2 (mx := none) (mxv := none) trivial hcut false C.w
    refine .pure h (v := .string (s.extract p q)) ?_ (.str _)
    simp only [execOp, hop, Instr.sliceAt, Sem.run_bind, F.run_und, Result.andThen_ok, Instr.slice, hx, Option.map_none, Option.isSome_none, Bool.false_eq_true, if_false, hrun, Sem.run_pure]
  · rename_i el nl xs hd
    obtain rfl := dOf_slice (hd ▸ F.ad)
    split at he <;> try cases he
    rename_i te p q hte hcut
    obtain ⟨i', d', z', F'⟩ := tiOf_facts (hE.ty _ _ hte)
    have he' : e = ⟨.val (.lst nl ((xs.take q).drop p)), [], [], false⟩ ∧ (p = 0 ∨ p = q ∨ ∃ y, xs[p]? = some y ∧ y.cells.length = te.size) := by
      split at he
      · rename_i hc
        cases he
        exact ⟨rfl, hc.imp id .inl⟩
      · split at he
        · rename_i y hy
          split at he <;> cases he
          rename_i hc
          exact ⟨rfl, .inr (.inr ⟨y, hy, hc⟩)⟩
        · cases he
    obtain ⟨rfl, hcase⟩ := he'
    cases nl with
    | true =>
      obtain ⟨hx, rfl⟩ := rep_lnil hr
      obtain ⟨mm, hrun, b1, b2, b3, b4⟩ := cut_run (P := P) (C := C) (len := 0) (cap := 0) (Nat.le_refl _) r1 r2 r3 (by simpa using hcut) true C.w
      obtain rfl : q = 0 := by omega
      obtain rfl : p = 0 := by omega
      obtain rfl : mm = 0 := by omega
      refine .pure h (v := .slice none 0 0) ?_ .lnil
      simp only [execOp, hop, Instr.sliceAt, Sem.run_bind, F.run_und, Result.andThen_ok, Instr.slice, hx, hrun, F'.run_size, Sem.run_pure, if_true, Nat.sub_self]
    | false =>
      obtain ⟨ad, cap, esz, u, hx, hc, hz, hm, hu, hrr, hoo⟩ := rep_lst hr
      obtain ⟨mm, hrun, b1, b2, b3, b4⟩ := cut_run (P := P) (C := C) hc r1 r2 r3 hcut true C.w
      have hlen : ((xs.take q).drop p).length = q - p := by simp; omega
      have hg : ∀ (i : Nat) (y : AV), ((xs.take q).drop p)[i]? = some y → xs[p + i]? = some y := by
        intro i y hy
        rw [List.getElem?_drop] at hy
        have : p + i < q := by have := (List.getElem?_eq_some_iff.1 hy).1; simp at this; omega
        rwa [List.getElem?_take_of_lt this] at hy
      have hrep := Rep.lst (C := C) (if mm = p then ad else ad.add (p * te.size)) (mm - p) esz ((xs.take q).drop p) (fun i j => u (p + i) j) (by rw [hlen]; omega)
        (fun y hy => hz y (List.mem_of_mem_take (List.mem_of_mem_drop hy)))
        (fun hne => by
          have hne' : xs ≠ [] := by intro e; rw [e] at hne; simp at hne
          obtain ⟨q1, q2, q3⟩ := hm hne'
          split
          · exact ⟨q1, q2, q3⟩
          · exact ⟨add_spot q1 _, by rw [add_block]; exact q2, by rw [add_block]; exact q3⟩)
        (fun i y hy j c hj => by
          have hlt : p < q := by have := (List.getElem?_eq_some_iff.1 hy).1; rw [hlen] at this; omega
          have hy' := hg i y hy
          have := hu _ y hy' j c hj
          rw [if_neg (by omega), add_block, add_off]
          have hes : p * te.size = p * esz := by
            rcases hcase with rfl | rfl | ⟨y0, hy0, h0⟩
            · simp
            · omega
            · rw [← h0, hz y0 (List.mem_of_getElem? hy0)]
          rw [hes]
          rw [Nat.add_mul] at this
          rw [show ad.off + p * esz + (i * esz + j) = ad.off + (p * esz + i * esz + j) by omega]
          exact this)
        (fun i y hy j c hj => hoo _ y (hg i y hy) j c hj)
        (fun i y hy j c hj => hrr _ y (hg i y hy) j c hj)
      rw [hlen] at hrep
      refine .pure h (v := .slice (some (if mm = p then ad else ad.add (p * te.size))) (q - p) (mm - p)) ?_ hrep
      simp only [execOp, hop, Instr.sliceAt, Sem.run_bind, F.run_und, Result.andThen_ok, Instr.slice, hx, hrun, F'.run_size, Sem.run_pure, Option.map_some]
      split <;> rfl
  · rename_i el id off len hd
    obtain rfl := dOf_slice (hd ▸ F.ad)
    split at he <;> try cases he
    rename_i blk te p q hb hte hcut
    obtain ⟨i', d', z', F'⟩ := tiOf_facts (hE.ty _ _ hte)
    split at he <;> try cases he
    rename_i hes
    obtain ⟨cap, hx, hc, cs, tt, fz, hh1, hh2⟩ := rep_ref hr hb
    obtain ⟨mm, hrun, b1, b2, b3, b4⟩ := cut_run (P := P) (C := C) hc r1 r2 r3 hcut true C.w
    have hrun' : (execOp a.eval o).run P C.w = .ok (.value (.slice (some (if mm = p then ⟨C.at_ id, off, none⟩ else ⟨C.at_ id, off + p * te.size, none⟩)) (q - p) (mm - p))) C.w := by
      simp only [execOp, hop, Instr.sliceAt, Sem.run_bind, F.run_und, Result.andThen_ok, Instr.slice, hx, hrun, F'.run_size, Sem.run_pure, Option.map_some, addr_add]
      split <;> rfl
    have hmul : off + p * blk.esz + (mm - p) * blk.esz ≤ cs.size := by
      have e1 : p * blk.esz + (mm - p) * blk.esz = mm * blk.esz := by rw [← Nat.add_mul]; congr 1; omega
      have e2 : mm * blk.esz ≤ cap * blk.esz := Nat.mul_le_mul_right _ b4
      omega
    split at he
    · rename_i hpq
      subst hpq
      split at he
      · rename_i hp0
        subst hp0
        cases he
        refine .pure h hrun' (.ref _ _ _ _ rfl (rep_refB hr) fun blk' hb' => ⟨mm - 0, ?_, by omega, cs, tt, fz, hh1, ?_⟩)
        · simp only [Nat.zero_mul, Nat.add_zero, Nat.sub_self, ite_self]
        · rw [hb] at hb'; cases hb'; simpa using hmul
      · cases he
        refine .pure h hrun' ?_
        have := Rep.lst (C := C) (if mm = p then ⟨C.at_ id, off, none⟩ else ⟨C.at_ id, off + p * te.size, none⟩) (mm - p) 1 [] (fun _ _ => Go.undef) (Nat.zero_le _) (by simp) (by simp) (by simp) (by simp) (by simp)
        simpa using this
    · rename_i hpq
      cases he
      refine .pure h hrun' (.ref _ _ _ _ rfl (rep_refB hr) fun blk' hb' => ⟨mm - p, ?_, by omega, cs, tt, fz, hh1, ?_⟩)
      · rw [if_neg (by omega)]
      · rw [hb] at hb'; cases hb'; rw [← hes]; exact hmul

theorem indexAddr_ok (hE : EOk P E) (h : C.Ok) (hs : SRel C sl a.tmps) {t : TypeId} {x y : Operand} (hop : o.op = .indexAddr t x y) {e : Eff} (he : opEff E C.H nid sl o.op = some e) : OpOk P o a C e nid := by
  simp only [hop, opEff] at he
  split at he <;> try cases he
  rename_i ti v k n ht hv hi
  obtain ⟨i, d, z, F⟩ := tiOf_facts (hE.ty _ _ ht)
  have hr := ev_rep hs hv
  have hy := rep_int (ev_rep hs hi)
  split at he <;> try cases he
  · rename_i el hd
    obtain rfl := dOf_slice (hd ▸ F.ad)
    split at he <;> try cases he
    · rename_i te nl xs hte
      obtain ⟨i', d', z', F'⟩ := tiOf_facts (hE.ty _ _ hte)
      split at he <;> try cases he
      rename_i hn
      split at he <;> try cases he
      rename_i yv hyv
      split at he <;> cases he
      rename_i hsz
      cases nl with
      | true => obtain ⟨_, rfl⟩ := rep_lnil hr; simp at hyv
      | false =>
        obtain ⟨ad, cap, esz, u, hx, hc, hz, hm, hu, hrr, hoo⟩ := rep_lst hr
        have hlt : n.toNat < xs.length := (List.getElem?_eq_some_iff.1 hyv).1
        have hne : xs ≠ [] := by intro e; rw [e] at hyv; simp at hyv
        obtain ⟨q1, q2, q3⟩ := hm hne
        have hes : te.size = esz := by rw [← hsz]; exact hz yv (List.mem_of_getElem? hyv)
        refine .pure h (v := .pointer (some (ad.add (n.toNat * te.size)))) ?_ (.imm _ _ (fun j => u n.toNat j) (fun _ => ⟨add_spot q1 _, by rw [add_block]; exact q2, by rw [add_block]; exact q3⟩) (fun j c hj => ?_) fun j c hj => hrr _ yv hyv j c hj)
        · simp only [execOp, hop, Instr.indexAt, hy, asIntOf, Sem.run_bind, Sem.run_pure, Result.andThen_ok, F.run_und, hx]
          rw [if_pos ⟨hn, by omega⟩]
          simp only [Sem.run_bind, F'.run_size, Result.andThen_ok, Sem.run_pure]
        · rw [add_block, add_off, hes, Nat.add_assoc]
          exact hu _ yv hyv j c hj
    · rename_i te id off len hte
      obtain ⟨i', d', z', F'⟩ := tiOf_facts (hE.ty _ _ hte)
      split at he <;> try cases he
      rename_i hn
      split at he <;> try cases he
      rename_i b hb
      split at he <;> cases he
      rename_i hes
      obtain ⟨cap, hx, hc, _⟩ := rep_ref hr hb
      refine .pure h (v := .pointer (some ⟨C.at_ id, off + n.toNat * te.size, none⟩)) ?_ (.ptr _ _ _ rfl (rep_refB hr) fun _ _ => rfl)
      simp only [execOp, hop, Instr.indexAt, hy, asIntOf, Sem.run_bind, Sem.run_pure, Result.andThen_ok, F.run_und, hx]
      rw [if_pos ⟨hn.1, hn.2⟩]
      simp only [Sem.run_bind, F'.run_size, Result.andThen_ok, Sem.run_pure, addr_add]
  · rename_i len el hd
    obtain rfl := dOf_array (hd ▸ F.ad)
    split at he <;> try cases he
    · rename_i te id off hte
      obtain ⟨i', d', z', F'⟩ := tiOf_facts (hE.ty _ _ hte)
      split at he <;> try cases he
      rename_i hn
      split at he <;> cases he
      rename_i b hb
      have hx := rep_ptr hr hb
      refine .pure h (v := .pointer (some ⟨C.at_ id, off + n.toNat * te.size, none⟩)) ?_ (.ptr _ _ _ rfl (rep_ptrB hr) fun _ _ => rfl)
      simp only [execOp, hop, Instr.indexAt, hy, asIntOf, Sem.run_bind, Sem.run_pure, Result.andThen_ok, F.run_und, hx, Instr.sureAddr]
      rw [if_pos ⟨hn.1, hn.2⟩]
      simp only [Sem.run_bind, F'.run_size, Result.andThen_ok, Sem.run_pure, addr_add]
    · rename_i te cs hte
      obtain ⟨i', d', z', F'⟩ := tiOf_facts (hE.ty _ _ hte)
      split at he <;> cases he
      rename_i hn
      obtain ⟨ad, u, hx, hm, hu, hrr⟩ := rep_imm hr
      refine .pure h (v := .pointer (some (ad.add (n.toNat * te.size)))) ?_ (.imm _ _ (fun j => u (n.toNat * te.size + j)) (fun hne => ?_) (fun j c hc => ?_) fun j c hc => ?_)
      · simp only [execOp, hop, Instr.indexAt, hy, asIntOf, Sem.run_bind, Sem.run_pure, Result.andThen_ok, F.run_und, hx, Instr.sureAddr]
        rw [if_pos ⟨hn.1, hn.2⟩]
        simp only [Sem.run_bind, F'.run_size, Result.andThen_ok, Sem.run_pure]
      · have hne' : cs ≠ [] := by intro e; rw [e] at hne; simp at hne
        obtain ⟨q1, q2, q3⟩ := hm hne'
        exact ⟨add_spot q1 _, by rw [add_block]; exact q2, by rw [add_block]; exact q3⟩
      · rw [List.getElem?_drop] at hc
        rw [add_block, add_off, Nat.add_assoc]
        exact hu _ c hc
      · rw [List.getElem?_drop] at hc
        exact hrr _ c hc
end
end Vm
