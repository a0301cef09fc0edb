/- The machine over pure values and the model's world: one operation (VI). (Own work of this repo.) -/
import Derived.Test.YtpfcijgcjghgeaaVm10
set_option linter.unusedVariables false
set_option linter.unusedSimpArgs false
namespace Vm
open Go
section
variable {P : Program} {E : Env} {o : Oper} {a : Act} {C : Cx} {nid : Nat} {sl : List AV}

theorem index_ok (hE : EOk P E) (h : C.Ok) (hs : SRel C sl a.tmps) {t : TypeId} {x y : Operand} (hop : o.op = .index t x y) {e : Eff} (he : opEff E C.H nid sl o.op = some e) : OpOk P o a C e nid := by
  simp only [hop, opEff] at he
  split at he <;> try cases he
  rename_i ti v k n ht hv hi
  obtain ⟨i, d, z, F⟩ := tiOf_facts (hE.ty _ _ ht)
  have hr := ev_rep hs hv
  have hy := rep_int (ev_rep hs hi)
  split at he <;> try cases he
  · rename_i s hd
    obtain rfl := dOf_str (hd ▸ F.ad)
    split at he <;> try cases he
    rename_i hn
    split at he <;> cases he
    rename_i b hb
    have hx := rep_str hr
    have hb' : s[n.toNat]? = some b := by
      have hlt : n.toNat < s.size := by
        have := (List.getElem?_eq_some_iff.1 hb).1
        simpa using this
      have e1 : s[n.toNat]? = some s[n.toNat] := getElem?_pos s n.toNat hlt
      rw [e1]
      have e2 : s.data.toList[n.toNat]? = some s.data[n.toNat] := by
        rw [Array.getElem?_toList]; exact Array.getElem?_eq_getElem _
      rw [e2] at hb
      cases hb
      rfl
    refine .pure h (v := .int .u8 b.toNat) ?_ (.int _ _)
    simp only [execOp, hop, Instr.index, hy, asIntOf, Sem.run_bind, Sem.run_pure, Result.andThen_ok, F.run_und, hx, if_pos hn, hb']
  · rename_i m el cs hd
    obtain rfl := dOf_array (hd ▸ F.ad)
    split at he <;> try cases he
    rename_i te hte
    obtain ⟨i', d', z', F'⟩ := tiOf_facts (hE.ty _ _ hte)
    split at he <;> try cases he
    rename_i hn
    obtain ⟨vs, hx, hsz, hrr⟩ := rep_agg hr
    obtain ⟨v, yv, rfl, hrun, hr'⟩ := part_ok (P := P) (C := C) hE hsz hrr he
    refine .pure h (v := v) ?_ hr'
    simp only [execOp, hop, Instr.index, hy, asIntOf, Sem.run_bind, Sem.run_pure, Result.andThen_ok, F.run_und, hx]
    rw [if_pos ⟨hn.1, hn.2⟩]
    simp only [Sem.run_bind, F'.run_size, Result.andThen_ok, hrun]

theorem wrap_i64 {n : Int} (h0 : -9223372036854775808 ≤ n) (h : n ≤ 9223372036854775807) : IntKind.i64.wrap n = n := by
  have e : IntKind.i64.wrap n = if n % 18446744073709551616 ≥ 9223372036854775808 then n % 18446744073709551616 - 18446744073709551616 else n % 18446744073709551616 := by
    simp [IntKind.wrap, IntKind.bits, IntKind.signed]
  rw [e]
  split <;> omega

theorem makeSlice_ok (hE : EOk P E) (h : C.Ok) (hs : SRel C sl a.tmps) (hn : C.H nid = none) (hB : ¬ C.B nid) {t : TypeId} {x y : Operand} (hop : o.op = .makeSlice t x y) {e : Eff} (he : opEff E C.H nid sl o.op = some e) : OpOk P o a C e nid := by
  simp only [hop, opEff] at he
  split at he <;> try cases he
  rename_i ti k n k' m ht hl hc
  obtain ⟨i, d, z, F⟩ := tiOf_facts (hE.ty _ _ ht)
  have hx := rep_int (ev_rep hs hl)
  have hy := rep_int (ev_rep hs hc)
  split at he <;> try cases he
  rename_i el hd
  obtain rfl := dOf_slice (hd ▸ F.ad)
  split at he <;> try cases he
  rename_i te hte
  obtain ⟨i', d', z', F'⟩ := tiOf_facts (hE.ty _ _ hte)
  split at he <;> cases he
  rename_i hcond
  obtain ⟨hz0, hzl, hsc, hn0, hnm, hmb, hm64⟩ := hcond
  have hz := zero_rel (C := C) F'
  have hzero : CRel C (((Array.range (m.toNat * te.size)).map ((if m.toNat * te.size = 0 then #[] else z'.cells)[· % (if m.toNat * te.size = 0 then #[] else z'.cells).size]!))) (reps m.toNat te.zero.cells) := by
    by_cases h0 : m.toNat * te.size = 0
    · have : m.toNat = 0 := by
        rcases Nat.mul_eq_zero.1 h0 with h | h
        · exact h
        · exact absurd h hz0
      rw [this]
      simp only [Nat.zero_mul, if_true]
      exact ⟨by simp [reps], by simp [reps]⟩
    · simp only [h0, if_false]
      have := zeros_rel hz (by omega) m.toNat
      rwa [hzl] at this
  have hlen : (reps n.toNat te.zero.cells).length = n.toNat * te.size := by rw [reps_length, hzl]
  have hle : n.toNat * te.size ≤ m.toNat * te.size := Nat.mul_le_mul_right _ (by omega)
  have hpre : ∀ (j : Nat) (c : AV), (reps n.toNat te.zero.cells)[j]? = some c → (reps m.toNat te.zero.cells)[j]? = some c := by
    intro j c hj
    have hjl : j < n.toNat * te.zero.cells.length := by have := (List.getElem?_eq_some_iff.1 hj).1; rwa [reps_length] at this
    rw [reps_get _ _ _ hjl] at hj
    rw [reps_get _ _ _ (by rw [hzl] at hjl ⊢; omega)]
    exact hj
  obtain ⟨C', hw, hat, hH, hBB, hA⟩ := grow_ok (out := .val (.ref nid 0 n.toNat)) (rds := [nid]) h hn hB
    (w := C.w.alloc (.cells ((Array.range (m.toNat * te.size)).map ((if m.toNat * te.size = 0 then #[] else z'.cells)[· % (if m.toNat * te.size = 0 then #[] else z'.cells).size]!)) el)) rfl
    ⟨reps n.toNat te.zero.cells, te.agg, te.size, false⟩ (by dsimp only; rw [hlen]; simpa using hle) (fun j c hj => hzero.scal (reps_all hsc _) j c (hpre j c hj))
  obtain ⟨row, hrow, hrs⟩ : ∃ row, C'.w.heap[C'.at_ nid]? = some (Obj.cells row el (0, 0)) ∧ row.size = m.toNat * te.size := ⟨_, by rw [hat, hw]; exact Array.getElem?_push_size, by simp⟩
  refine ⟨.slice (some ⟨C.w.heap.size, 0, none⟩) n.toNat m.toNat, C', ?_, hA, .ref _ _ _ _ rfl hBB fun blk hb => ⟨m.toNat, by rw [hat], by omega, row, el, (0, 0), hrow, by rw [hH] at hb; cases hb; simp [hrs]⟩⟩
  · simp only [execOp, hop, Instr.makeSlice, Sem.run_bind, F.run_und, F'.run_info, Result.andThen_ok, hx, hy, asInt, asIntOf, Sem.run_pure]
    rw [wrap_i64 (by omega) (by omega), wrap_i64 (by omega) (by omega)]
    have hb : i'.bytes = te.bytes := F'.bytes
    have hb2 : ¬ ((i'.bytes : Int) * m > 2 ^ 48) := by rw [hb, Int.mul_comm]; omega
    rw [if_neg (by simp only [Bool.or_eq_true, decide_eq_true_eq, not_or]; exact ⟨⟨⟨by omega, hb2⟩, by omega⟩, by omega⟩)]
    simp only [Sem.run_bind, run_askRoom, Result.andThen_ok, F'.run_size]
    by_cases h0 : m.toNat * te.size = 0
    · simp only [h0, if_true] at hw ⊢
      simp only [Sem.run_bind, Sem.run_pure, Result.andThen_ok, newRow, run_newObj, hw]
      rfl
    · simp only [h0, if_false] at hw ⊢
      simp only [Sem.run_bind, Sem.run_pure, F'.run_zero, Result.andThen_ok, newRow, run_newObj, hw]
      rfl

theorem typeAssert_ok (hE : EOk P E) (h : C.Ok) (hs : SRel C sl a.tmps) {x : Operand} {t u : TypeId} {ok : Bool} (hop : o.op = .typeAssert x t u ok) {e : Eff} (he : opEff E C.H nid sl o.op = some e) : OpOk P o a C e nid := by
  simp only [hop, opEff] at he
  split at he <;> try cases he
  rename_i ti v ht hv
  obtain ⟨i, d, z, F⟩ := tiOf_facts (hE.ty _ _ ht)
  have hr := ev_rep hs hv
  split at he <;> try cases he
  rename_i h1 h2
  have hd : ∀ ms, d ≠ .interface ms := fun ms e => h1 (by have := F.ad; rw [e] at this; simpa [dOf] using this.symm)
  have pair : ∀ (w : Value) (y : AV) (b : Bool), Rep C w y → Rep C (.tuple #[w, .bool b]) (.tup [y, .bool b]) := by
    intro w y b hw
    refine .tup _ _ rfl fun j v x hv hx => ?_
    match j with
    | 0 => simp at hv hx; subst hv hx; exact hw
    | 1 => simp at hv hx; subst hv hx; exact .bool b
    | j + 2 => simp at hv
  split at he <;> try cases he
  · rename_i t' y
    cases hx : a.eval x <;> rw [hx] at hr <;> cases hr
    rename_i w hw
    split at he
    · rename_i heq
      subst heq
      cases ok with
      | true =>
        cases he
        refine .pure h (v := .tuple #[w, .bool true]) ?_ (pair _ _ _ hw)
        simp only [execOp, hop, hx, Instr.typeAssert, Sem.run_bind, F.run_und, Result.andThen_ok]
        cases d <;> first | exact absurd rfl (hd _) | simp
      | false =>
        cases he
        refine .pure h (v := w) ?_ hw
        simp only [execOp, hop, hx, Instr.typeAssert, Sem.run_bind, F.run_und, Result.andThen_ok]
        cases d <;> first | exact absurd rfl (hd _) | simp
    · rename_i hne
      cases ok with
      | true =>
        cases he
        refine .pure h (v := .tuple #[z, .bool false]) ?_ (pair _ _ _ (ofConst_rep F.az))
        simp only [execOp, hop, hx, Instr.typeAssert, Sem.run_bind, F.run_und, Result.andThen_ok]
        cases d <;> first | exact absurd rfl (hd _) | simp [hne, F.run_zero]
      | false => cases he
  · cases hx : a.eval x <;> rw [hx] at hr <;> cases hr
    cases ok with
    | true =>
      cases he
      refine .pure h (v := .tuple #[z, .bool false]) ?_ (pair _ _ _ (ofConst_rep F.az))
      simp only [execOp, hop, hx, Instr.typeAssert, Sem.run_bind, F.run_und, Result.andThen_ok]
      cases d <;> first | exact absurd rfl (hd _) | simp [F.run_zero]
    | false => cases he

theorem panic_ok (h : C.Ok) (hs : SRel C sl a.tmps) {x : Operand} (hop : o.op = .panic x) {e : Eff} (he : opEff E C.H nid sl o.op = some e) : OpOk P o a C e nid := by
  simp only [hop, opEff] at he
  split at he <;> cases he
  rename_i t v hv
  have hr := ev_rep hs hv
  cases hx : a.eval x <;> rw [hx] at hr <;> cases hr
  rename_i w hw
  refine ⟨.iface t w, ?_, .iface t w v hw, rfl, rfl⟩
  simp only [execOp, hop, hx, Instr.panic, Sem.run_bind, run_goPanic, Result.andThen_halt]
end
end Vm
