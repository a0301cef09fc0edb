/- The machine over pure values and the model's world: one operation (VII). (Own work of this repo.) -/
import Derived.Test.YtpfcijgcjghgeaaVm11
set_option linter.unusedVariables false
set_option linter.unusedSimpArgs false
namespace Vm
open Go
section
variable {P : Program} {E : Env} {o : Oper} {a : Act} {C : Cx} {nid : Nat} {sl : List AV}

theorem dOf_ptr {d : TypeDesc} {e : TypeId} (h : dOf d = some (.ptr e)) : d = .pointer e := by
  cases d <;> simp [dOf] at h; rw [h]
theorem dOf_iface {d : TypeDesc} (h : dOf d = some .iface) : ∃ ms, d = .interface ms := by
  cases d <;> simp [dOf] at h; exact ⟨_, rfl⟩
theorem equal_run {t : TypeId} {x y : Value} {w : World} {r : Result Bool} (h : ∀ n, (Go.Op.equalIn (n + 1) t x y).run P w = r) : (Go.Op.equal t x y).run P w = r := h 9999

theorem eqOf_run {t : TypeId} {ti : TI} {i : TypeInfo} {d : TypeDesc} {z : Value} (F : TyFacts P t ti i d z) {x y : AV} {v w : Value} (hx : Rep C v x) (hy : Rep C w y) {b : Bool} (h : eqOf ti.desc x y = some b) :
    (∀ n, (Go.Op.equalIn (n + 1) t v w).run P C.w = .ok b C.w) ∧ (∀ op ox oy, (Go.eqGuard op t ox oy v w).run P C.w = .ok () C.w) ∧
    ((∃ c, v = .bool c) ∨ (∃ p q r, v = .slice p q r) ∨ v = .pointer none ∨ v = .nilIface ∨ (∃ p q, v = .iface p q) ∨ v = .nilFunc ∨ (∃ p q r, v = .func p q r)) := by
  unfold eqOf at h
  split at h <;> cases h
  · rename_i p q hd
    obtain rfl := dOf_bool (hd ▸ F.ad)
    obtain rfl := rep_bool hx
    obtain rfl := rep_bool hy
    refine ⟨fun n => ?_, fun op ox oy => ?_, .inl ⟨_, rfl⟩⟩
    · simp only [Go.Op.equalIn, Sem.run_bind, F.run_und, Result.andThen_ok, Sem.run_pure]
    · cases op <;> rfl
  · rename_i e xs ys hd
    obtain rfl := dOf_slice (hd ▸ F.ad)
    obtain ⟨rfl, rfl⟩ := rep_lnil hy
    cases b with
    | true =>
      obtain ⟨rfl, rfl⟩ := rep_lnil hx
      refine ⟨fun n => ?_, fun op ox oy => ?_, .inr (.inl ⟨_, _, _, rfl⟩)⟩
      · simp only [Go.Op.equalIn, Sem.run_bind, F.run_und, Result.andThen_ok, Sem.run_pure, Option.isNone_none]
      · cases op <;> rfl
    | false =>
      obtain ⟨ad, cap, esz, u, rfl, _⟩ := rep_lst hx
      refine ⟨fun n => ?_, fun op ox oy => ?_, .inr (.inl ⟨_, _, _, rfl⟩)⟩
      · simp only [Go.Op.equalIn, Sem.run_bind, F.run_und, Result.andThen_ok, Sem.run_pure]
      · cases op <;> rfl
  · rename_i e xs ys hd hnot
    obtain rfl := dOf_slice (hd ▸ F.ad)
    obtain ⟨rfl, rfl⟩ := rep_lnil hx
    cases b with
    | true =>
      obtain ⟨rfl, rfl⟩ := rep_lnil hy
      refine ⟨fun n => ?_, fun op ox oy => ?_, .inr (.inl ⟨_, _, _, rfl⟩)⟩
      · simp only [Go.Op.equalIn, Sem.run_bind, F.run_und, Result.andThen_ok, Sem.run_pure, Option.isNone_none]
      · cases op <;> rfl
    | false =>
      obtain ⟨ad, cap, esz, u, rfl, _⟩ := rep_lst hy
      refine ⟨fun n => ?_, fun op ox oy => ?_, .inr (.inl ⟨_, _, _, rfl⟩)⟩
      · simp only [Go.Op.equalIn, Sem.run_bind, F.run_und, Result.andThen_ok, Sem.run_pure, Option.isNone_some]
      · cases op <;> rfl
  · rename_i e hd
    obtain rfl := dOf_ptr (hd ▸ F.ad)
    cases hx; cases hy
    refine ⟨fun n => ?_, fun op ox oy => ?_, .inr (.inr (.inl rfl))⟩
    · simp only [Go.Op.equalIn, Sem.run_bind, F.run_und, Result.andThen_ok, Sem.run_pure, Option.isNone_none]
    · cases op <;> rfl
  · rename_i p q hd
    obtain ⟨ms, rfl⟩ := dOf_iface (hd ▸ F.ad)
    cases hx; cases hy
    refine ⟨fun n => ?_, fun op ox oy => ?_, .inr (.inr (.inr (.inl rfl)))⟩
    · simp only [Go.Op.equalIn, Sem.run_bind, F.run_und, Result.andThen_ok, Sem.run_pure]
    · cases op <;> rfl
  · rename_i p q hd
    obtain ⟨ms, rfl⟩ := dOf_iface (hd ▸ F.ad)
    cases hx; cases hy
    refine ⟨fun n => ?_, fun op ox oy => ?_, .inr (.inr (.inr (.inr (.inl ⟨_, _, rfl⟩))))⟩
    · simp only [Go.Op.equalIn, Sem.run_bind, F.run_und, Result.andThen_ok, Sem.run_pure]
    · cases op <;> rfl
  · rename_i hd
    obtain ⟨p, q, r, rfl⟩ := dOf_func (hd ▸ F.ad)
    cases hx; cases hy
    refine ⟨fun n => ?_, fun op ox oy => ?_, .inr (.inr (.inr (.inr (.inr (.inl rfl)))))⟩
    · simp only [Go.Op.equalIn, Sem.run_bind, F.run_und, Result.andThen_ok, Sem.run_pure]
    · cases op <;> rfl
  · rename_i f l m hd
    obtain ⟨p, q, r, rfl⟩ := dOf_func (hd ▸ F.ad)
    cases hx; cases hy
    refine ⟨fun n => ?_, fun op ox oy => ?_, .inr (.inr (.inr (.inr (.inr (.inr ⟨_, _, _, rfl⟩)))))⟩
    · simp only [Go.Op.equalIn, Sem.run_bind, F.run_und, Result.andThen_ok, Sem.run_pure]
    · cases op <;> rfl
  · rename_i f l m hd
    obtain ⟨p, q, r, rfl⟩ := dOf_func (hd ▸ F.ad)
    cases hx; cases hy
    refine ⟨fun n => ?_, fun op ox oy => ?_, .inr (.inr (.inr (.inr (.inr (.inl rfl)))))⟩
    · simp only [Go.Op.equalIn, Sem.run_bind, F.run_und, Result.andThen_ok, Sem.run_pure]
    · cases op <;> rfl

theorem intBin_run {op : BinOp} {k k' : IntKind} {x y : Int} {v : AV} (hb : bothInt op k k' = true) (h : intBin op k x y = some v) (t : TypeId) (w : World) :
    ∃ u, (Go.binOp op t (.int k x) (.int k' y)).run P w = .ok u w ∧ Rep C u v := by
  cases op <;> simp only [intBin, Option.some.injEq, reduceCtorEq] at h <;> simp only [bothInt, beq_iff_eq] at hb <;> (try subst hb)
  case shl =>
    split at h <;> cases h
    rename_i hy
    refine ⟨_, ?_, .int _ _⟩
    simp only [Go.binOp, Go.Op.shift]
    rw [if_neg hy]
    rfl
  case shr =>
    split at h <;> cases h
    rename_i hy
    refine ⟨_, ?_, .int _ _⟩
    simp only [Go.binOp, Go.Op.shift]
    rw [if_neg hy]
    rfl
  case quo =>
    split at h <;> cases h
    rename_i hy
    refine ⟨_, ?_, .int _ _⟩
    simp only [Go.binOp, Go.Op.intDiv, ne_eq, not_true_eq_false, if_false]
    rw [if_neg hy]
    rfl
  case rem =>
    split at h <;> cases h
    rename_i hy
    refine ⟨_, ?_, .int _ _⟩
    simp only [Go.binOp, Go.Op.intDiv, ne_eq, not_true_eq_false, if_false]
    rw [if_neg hy]
    rfl
  all_goals
    subst h
    first
    | exact ⟨_, by simp only [Go.binOp, Go.Op.intArith, Go.Op.intBits, Go.Op.intCmp, ne_eq, not_true_eq_false, if_false]; rfl, .int _ _⟩
    | exact ⟨_, by simp only [Go.binOp, Go.Op.intArith, Go.Op.intBits, Go.Op.intCmp, ne_eq, not_true_eq_false, if_false]; rfl, .bool _⟩
theorem guard_int (op : BinOp) (t : TypeId) (ox oy : Operand) (k k' : IntKind) (x y : Int) (w : World) : (Go.eqGuard op t ox oy (.int k x) (.int k' y)).run P w = .ok () w := by cases op <;> rfl
theorem guard_str (op : BinOp) (t : TypeId) (ox oy : Operand) (x y : ByteArray) (w : World) : (Go.eqGuard op t ox oy (.string x) (.string y)).run P w = .ok () w := by cases op <;> rfl

theorem binOp_ok (hE : EOk P E) (h : C.Ok) (hs : SRel C sl a.tmps) {op : BinOp} {t t' : TypeId} {x y : Operand} (hop : o.op = .binOp op t x y t') {e : Eff} (he : opEff E C.H nid sl o.op = some e) : OpOk P o a C e nid := by
  simp only [hop, opEff] at he
  split at he <;> try cases he
  rename_i p q hp hq
  have hx := ev_rep hs hp
  have hy := ev_rep hs hq
  have hexec : ∀ {v : Value}, (Go.eqGuard op t x y (a.eval x) (a.eval y)).run P C.w = .ok () C.w → (Go.binOp op t (a.eval x) (a.eval y)).run P C.w = .ok v C.w → (execOp a.eval o).run P C.w = .ok (.value v) C.w := by
    intro v h1 h2
    simp only [execOp, hop, Sem.run_bind, h1, h2, Result.andThen_ok, Sem.run_pure]
  unfold binEff at he
  split at he
  · rename_i k m k' n
    split at he <;> try cases he
    rename_i hb
    cases hv : intBin op k m n with
    | none => rw [hv] at he; cases he
    | some v =>
      rw [hv] at he; cases he
      obtain ⟨u, hu, r⟩ := intBin_run (P := P) (C := C) hb hv t C.w
      refine .pure h (hexec ?_ ?_) r
      · rw [rep_int hx, rep_int hy]; exact guard_int _ _ _ _ _ _ _ _ _
      · rw [rep_int hx, rep_int hy]; exact hu
  · rename_i s s'
    have e1 := rep_str hx
    have e2 := rep_str hy
    split at he <;> try cases he
    · split at he <;> cases he
      rename_i hlen
      refine .pure h (hexec (by rw [e1, e2]; exact guard_str _ _ _ _ _ _ _) ?_) (.str _)
      rw [e1, e2]
      simp only [Go.binOp, Go.Op.stringOp]
      rw [if_neg (by simp [IntKind.max, IntKind.signed, IntKind.bits]; omega)]
      rfl
    · refine .pure h (hexec (by rw [e1, e2]; exact guard_str _ _ _ _ _ _ _) ?_) (.bool _)
      rw [e1, e2]; rfl
    · refine .pure h (hexec (by rw [e1, e2]; exact guard_str _ _ _ _ _ _ _) ?_) (.bool _)
      rw [e1, e2]; rfl
  · rename_i hn1 hn2
    split at he <;> try cases he
    · rename_i ti ht
      obtain ⟨i, d, z, F⟩ := tiOf_facts (hE.ty _ _ ht)
      cases hv : eqOf ti.desc p q with
      | none => rw [hv] at he; cases he
      | some b =>
        rw [hv] at he; cases he
        obtain ⟨h1, h2, h5⟩ := eqOf_run F hx hy hv
        refine .pure h (hexec (h2 _ _ _) ?_) (.bool b)
        have : Go.binOp .eql t (a.eval x) (a.eval y) = (do Pure.pure (.bool (← Go.Op.equal t (a.eval x) (a.eval y)))) := by
          generalize a.eval x = vx at *
          generalize a.eval y = vy at *
          rcases h5 with ⟨c, rfl⟩ | ⟨c1, c2, c3, rfl⟩ | rfl | rfl | ⟨c1, c2, rfl⟩ | rfl | ⟨c1, c2, c3, rfl⟩ <;> cases vy <;> rfl
        rw [this]
        simp only [Sem.run_bind, equal_run h1, Result.andThen_ok, Sem.run_pure]
    · rename_i ti ht
      obtain ⟨i, d, z, F⟩ := tiOf_facts (hE.ty _ _ ht)
      cases hv : eqOf ti.desc p q with
      | none => rw [hv] at he; cases he
      | some b =>
        rw [hv] at he; cases he
        obtain ⟨h1, h2, h5⟩ := eqOf_run F hx hy hv
        refine .pure h (hexec (h2 _ _ _) ?_) (.bool (!b))
        have : Go.binOp .neq t (a.eval x) (a.eval y) = (do Pure.pure (.bool (!(← Go.Op.equal t (a.eval x) (a.eval y))))) := by
          generalize a.eval x = vx at *
          generalize a.eval y = vy at *
          rcases h5 with ⟨c, rfl⟩ | ⟨c1, c2, c3, rfl⟩ | rfl | rfl | ⟨c1, c2, rfl⟩ | rfl | ⟨c1, c2, c3, rfl⟩ <;> cases vy <;> rfl
        rw [this]
        simp only [Sem.run_bind, equal_run h1, Result.andThen_ok, Sem.run_pure]
end
end Vm
