/- The machine over pure values and the model's world: types, and how the world moves. (Own work of this repo.) -/
import Derived.Test.YtpfcijgcjghgeaaVm2
import Derived.Laws.Cells
import Derived.Laws.CopyRow
set_option linter.unusedVariables false
set_option linter.unusedSimpArgs false
namespace Vm
open Go

def dOf : TypeDesc → Option TD
  | .int k => some (.int k)
  | .bool => some .bool
  | .string => some .str
  | .slice e => some (.slice e)
  | .pointer e => some (.ptr e)
  | .struct fs => some (.struct (fs.toList.map fun f => (f.offset, f.type)))
  | .array n e => some (.array n e)
  | .func _ _ _ => some .func
  | .interface _ => some .iface
  | _ => none
def aggD : TypeDesc → Bool
  | .struct _ => true
  | .array _ _ => true
  | _ => false
def tiOf (P : Program) (t : TypeId) : Option TI :=
  match P.info? t, P.underlying t with
  | some i, some d => (match i.zero with
    | some z => (match ofConst z, dOf d with
      | some az, some ad => if az.cells.length = i.size then some ⟨i.size, i.bytes, aggD d, az, ad⟩ else none
      | _, _ => none)
    | none => none)
  | _, _ => none

structure TyFacts (P : Program) (t : TypeId) (ti : TI) (i : TypeInfo) (d : TypeDesc) (z : Value) : Prop where
  info : P.info? t = some i
  und : P.underlying t = some d
  zero : i.zero = some z
  size : i.size = ti.size
  bytes : i.bytes = ti.bytes
  az : ofConst z = some ti.zero
  ad : dOf d = some ti.desc
  agg : ti.agg = aggD d
  zlen : ti.zero.cells.length = ti.size
theorem tiOf_facts {P : Program} {t : TypeId} {ti : TI} (h : tiOf P t = some ti) : ∃ i d z, TyFacts P t ti i d z := by
  unfold tiOf at h
  split at h
  · rename_i i d hi hd
    split at h
    · rename_i z hz
      split at h
      · rename_i az ad ha hb
        split at h
        · rename_i hl
          cases h
          exact ⟨i, d, z, hi, hd, hz, rfl, rfl, ha, hb, rfl, hl⟩
        · cases h
      · cases h
    · cases h
  · cases h

section
variable {P : Program} {t : TypeId} {ti : TI} {i : TypeInfo} {d : TypeDesc} {z : Value} (F : TyFacts P t ti i d z) (w : World)
include F
theorem TyFacts.run_und : (underlying t).run P w = .ok d w := by simp [underlying, F.und]
theorem TyFacts.run_info : (typeInfo t).run P w = .ok i w := by simp [typeInfo, F.info]
theorem TyFacts.run_size : (Go.sizeOf t).run P w = .ok ti.size w := by simp [Go.sizeOf, typeInfo, F.info, F.size]
theorem TyFacts.run_zero : (zeroValue t).run P w = .ok z w := by simp [zeroValue, typeInfo, F.info, F.zero]
theorem TyFacts.run_agg : (isAgg t).run P w = .ok ti.agg w := by
  simp only [isAgg, Sem.run_bind, F.run_und, Result.andThen_ok, F.agg]
  cases d <;> rfl
end

/-! #### constants -/
theorem scalConst_rep {C : Cx} {v : Value} {x : AV} (h : scalConst v = some x) : Rep C v x := by
  unfold scalConst at h
  split at h <;> first | cases h
  all_goals constructor
theorem scalConst_one {v : Value} {x : AV} (h : scalConst v = some x) : v.oneCell' = true := by
  unfold scalConst at h
  split at h <;> first | rfl | cases h
theorem scalConsts_get {vs : List Value} {xs : List AV} (h : scalConsts vs = some xs) : vs.length = xs.length ∧ ∀ (j : Nat) (v : Value) (x : AV), vs[j]? = some v → xs[j]? = some x → scalConst v = some x := by
  induction vs generalizing xs with
  | nil => simp [scalConsts] at h; subst h; simp
  | cons v vs ih =>
    simp only [scalConsts] at h
    split at h
    · rename_i y ys hy hys
      cases h
      obtain ⟨hl, hg⟩ := ih hys
      refine ⟨by simp [hl], fun j v' x' hv hx => ?_⟩
      cases j with
      | zero => simp at hv hx; subst hv hx; exact hy
      | succ j => simp at hv hx; exact hg j v' x' hv hx
    · cases h
theorem ofConst_rep {C : Cx} {v : Value} {x : AV} (h : ofConst v = some x) : Rep C v x := by
  unfold ofConst at h
  split at h
  · rename_i cs
    cases hs : scalConsts cs.toList with
    | none => simp [hs] at h
    | some xs =>
      simp [hs] at h
      subst h
      obtain ⟨hl, hg⟩ := scalConsts_get hs
      exact .agg cs xs (by simpa using hl) fun j v x hv hx => scalConst_rep (hg j v x (by simpa using hv) hx)
  · rename_i cs
    split at h
    · rename_i he
      cases h
      have : cs = #[] := by
        have := List.isEmpty_iff.1 he
        simpa using this
      subst this
      exact .tup #[] [] rfl (by simp)
    · cases h
  · exact scalConst_rep h
/-- A constant's cells, one by one. -/
theorem ofConst_cells {v : Value} {x : AV} (h : ofConst v = some x) : v.cells.size = x.cells.length ∧ ((∃ vs, v = .tuple vs) ∨ ∀ (j : Nat) (c : AV), x.cells[j]? = some c → ∃ u, v.cells[j]? = some u ∧ scalConst u = some c) := by
  unfold ofConst at h
  split at h
  · rename_i cs
    cases hs : scalConsts cs.toList with
    | none => simp [hs] at h
    | some xs =>
      simp [hs] at h
      subst h
      obtain ⟨hl, hg⟩ := scalConsts_get hs
      refine ⟨by simpa [Value.cells, AV.cells] using hl, .inr fun j c hc => ?_⟩
      simp only [AV.cells] at hc
      have hj : j < cs.toList.length := by
        have := (List.getElem?_eq_some_iff.1 hc).1
        omega
      refine ⟨cs.toList[j], ?_, hg j _ c (List.getElem?_eq_getElem hj) hc⟩
      simp only [Value.cells]
      rw [← Array.getElem?_toList]
      exact List.getElem?_eq_getElem hj
  · rename_i cs
    split at h
    · cases h; exact ⟨rfl, .inl ⟨cs, rfl⟩⟩
    · cases h
  · rename_i h1 h2
    have hv : v.cells = #[v] := by
      cases v <;> first | rfl | (exact absurd rfl (h1 _))
    have hx : x.cells = [x] := by
      unfold scalConst at h
      split at h <;> first | (cases h; rfl) | cases h
    rw [hv, hx]
    refine ⟨rfl, .inr fun j c hc => ?_⟩
    cases j with
    | zero => simp at hc; subst hc; exact ⟨v, rfl, h⟩
    | succ j => simp at hc

/-! #### slots -/
def SRel (C : Cx) (sl : List AV) (tm : Array Value) : Prop := tm.size = sl.length ∧ ∀ (i : Nat) (v : Value) (x : AV), tm[i]? = some v → sl[i]? = some x → Rep C v x
def RepL (C : Cx) : List Value → List AV → Prop
  | [], [] => True
  | v :: vs, x :: xs => Rep C v x ∧ RepL C vs xs
  | _, _ => False
theorem RepL.length {C : Cx} : ∀ {vs : List Value} {xs : List AV}, RepL C vs xs → vs.length = xs.length
  | [], [], _ => rfl
  | _ :: _, _ :: _, h => by simp [RepL.length h.2]
  | [], _ :: _, h => h.elim
  | _ :: _, [], h => h.elim
theorem RepL.get {C : Cx} : ∀ {vs : List Value} {xs : List AV}, RepL C vs xs → ∀ (j : Nat) (v : Value) (x : AV), vs[j]? = some v → xs[j]? = some x → Rep C v x
  | [], [], _, j, v, x, hv, _ => by simp at hv
  | _ :: _, _ :: _, h, 0, v, x, hv, hx => by simp at hv hx; subst hv hx; exact h.1
  | _ :: _, _ :: _, h, j + 1, v, x, hv, hx => RepL.get h.2 j v x (by simpa using hv) (by simpa using hx)
  | [], _ :: _, h, _, _, _, _, _ => h.elim
  | _ :: _, [], h, _, _, _, _, _ => h.elim
theorem RepL.of_get {C : Cx} : ∀ {vs : List Value} {xs : List AV}, vs.length = xs.length → (∀ (j : Nat) (v : Value) (x : AV), vs[j]? = some v → xs[j]? = some x → Rep C v x) → RepL C vs xs
  | [], [], _, _ => trivial
  | v :: _, x :: _, hl, h => ⟨h 0 v x rfl rfl, RepL.of_get (by simpa using hl) fun j v x hv hx => h (j + 1) v x (by simpa using hv) (by simpa using hx)⟩
  | [], _ :: _, hl, _ => by simp at hl
  | _ :: _, [], hl, _ => by simp at hl
theorem RepL.app {C : Cx} : ∀ {vs us : List Value} {xs ys : List AV}, RepL C vs xs → RepL C us ys → RepL C (vs ++ us) (xs ++ ys)
  | [], _, [], _, _, g => g
  | _ :: _, _, _ :: _, _, h, g => ⟨h.1, RepL.app h.2 g⟩
  | [], _, _ :: _, _, h, _ => h.elim
  | _ :: _, _, [], _, h, _ => h.elim
theorem RepL.le {C C' : Cx} (hl : C.Le C') : ∀ {vs : List Value} {xs : List AV}, RepL C vs xs → RepL C' vs xs
  | [], [], _ => trivial
  | _ :: _, _ :: _, h => ⟨h.1.le hl, RepL.le hl h.2⟩
  | [], _ :: _, h => h.elim
  | _ :: _, [], h => h.elim
theorem rep_undef (C : Cx) : Rep C Go.undef undef := .tup #[] [] rfl (by simp)
theorem SRel.le {C C' : Cx} (hl : C.Le C') {sl : List AV} {tm : Array Value} (h : SRel C sl tm) : SRel C' sl tm := ⟨h.1, fun i v x hv hx => (h.2 i v x hv hx).le hl⟩
theorem SRel.put {C : Cx} {sl : List AV} {a : Act} (h : SRel C sl a.tmps) (d : Option Tmp) {v : Value} {x : AV} (r : Rep C v x) : SRel C (put sl d x) (a.put d v).tmps := by
  cases d with
  | none => exact h
  | some d =>
    refine ⟨by simp [Act.put, Vm.put, h.1], fun i u y hu hy => ?_⟩
    simp only [Act.put, Vm.put] at hu hy
    by_cases hi : d = i
    · subst hi
      have hd : d < a.tmps.size := by
        rcases Nat.lt_or_ge d a.tmps.size with h' | h'
        · exact h'
        · rw [Array.getElem?_eq_none (by simpa using h')] at hu; cases hu
      rw [Array.getElem?_setIfInBounds_self_of_lt hd] at hu
      rw [List.getElem?_set_self (by rw [← h.1]; exact hd)] at hy
      cases hu; cases hy; exact r
    · rw [Array.getElem?_setIfInBounds_ne hi] at hu
      rw [List.getElem?_set_ne hi] at hy
      exact h.2 i u y hu hy
theorem ev_rep {C : Cx} {sl : List AV} {a : Act} (h : SRel C sl a.tmps) {o : Operand} {x : AV} (he : ev sl o = some x) : Rep C (a.eval o) x := by
  cases o with
  | tmp t =>
    simp only [ev, Option.some.injEq] at he
    subst he
    simp only [Act.eval, Array.getD_eq_getD_getElem?, List.getD_eq_getElem?_getD]
    by_cases ht : t < a.tmps.size
    · have ht' : t < sl.length := by rw [← h.1]; exact ht
      have h1 : a.tmps[t]? = some a.tmps[t] := Array.getElem?_eq_getElem ht
      have h2 : sl[t]? = some sl[t] := List.getElem?_eq_getElem ht'
      rw [h1, h2]
      exact h.2 t _ _ h1 h2
    · rw [Array.getElem?_eq_none (Nat.le_of_not_lt ht), List.getElem?_eq_none (by rw [← h.1]; exact Nat.le_of_not_lt ht)]
      exact rep_undef C
  | const v => exact ofConst_rep he
  | global g => simp [ev] at he
  | func f => simp only [ev, Option.some.injEq] at he; subst he; exact .fn f #[] #[] [] [] rfl rfl (by simp) (by simp)
theorem evs_rep {C : Cx} {sl : List AV} {a : Act} (h : SRel C sl a.tmps) : ∀ {l : List Operand} {xs : List AV}, evs sl l = some xs → RepL C (l.map a.eval) xs
  | [], xs, he => by simp [evs] at he; subst he; trivial
  | o :: l, xs, he => by
    simp only [evs] at he
    split at he
    · rename_i v vs hv hvs
      cases he
      exact ⟨ev_rep h hv, evs_rep h hvs⟩
    · cases he
theorem evps_rep {C : Cx} {sl : List AV} {a : Act} (h : SRel C sl a.tmps) : ∀ {l : List (Nat × Operand)} {xs : List (Nat × AV)}, evps sl l = some xs →
    RepL C ((l.map fun p => (p.1, a.eval p.2)).map (·.2)) (xs.map (·.2)) ∧ (l.map fun p => (p.1, a.eval p.2)).map (·.1) = xs.map (·.1)
  | [], xs, he => by simp [evps] at he; subst he; exact ⟨trivial, rfl⟩
  | (i, o) :: l, xs, he => by
    simp only [evps] at he
    split at he
    · rename_i v vs hv hvs
      cases he
      obtain ⟨h1, h2⟩ := evps_rep h hvs
      exact ⟨⟨ev_rep h hv, h1⟩, by simpa using h2⟩
    · cases he

/-! #### the heap of the machine -/
theorem Heap.upd_same (h : Heap) (i : Nat) (b : Option Blk) : h.upd i b i = b := by simp [Heap.upd]
theorem Heap.upd_ne (h : Heap) {i j : Nat} (b : Option Blk) (hn : j ≠ i) : h.upd i b j = h j := by simp [Heap.upd, hn]

/-! #### how the world moves -/
theorem setRow_other (w : World) (g : Nat) (cs : Array Value) (b : Nat) (h : g ≠ b) : (w.setRow g cs).heap[b]? = w.heap[b]? := by
  simp [World.setRow, Array.getElem?_modify, h]
theorem push_get {α : Type} (h : Array α) (o : α) {b : Nat} (hb : b < h.size) : (h.push o)[b]? = h[b]? := by
  rw [Array.getElem?_push, if_neg (by omega)]

/-- Nothing but the tape moves. -/
theorem Cx.Ok.same {C : Cx} (h : C.Ok) {w : World} (hw : w.heap = C.w.heap) (hw2 : Alike C.w w := by exact ⟨rfl, rfl, rfl⟩) : C.Le { C with w := w } ∧ ({ C with w := w } : Cx).Ok := by
  have l : C.Le { C with w := w } := ⟨fun b _ _ => by simp [hw], fun _ _ hm => hm, rfl, fun i b _ hb => ⟨b, hb, rfl, rfl⟩, fun _ hB => hB, fun b cs t fz hb => ⟨cs, by simp [hw, hb], rfl⟩, by simp [hw], hw2⟩
  exact ⟨l, h.inj, h.nF, h.born, fun i b hb => by
    obtain ⟨cs, t, h1, h2, h3⟩ := h.blk i b hb
    exact ⟨cs, t, by simpa [hw] using h1, h2, fun j c hc => let ⟨v, hv, hr, h1⟩ := h3 j c hc; ⟨v, hv, hr.le l, h1⟩⟩, fun b hb => by simpa [hw] using h.Fsz b hb⟩

/-- A new row. -/
theorem Cx.Ok.grow {C : Cx} (h : C.Ok) {nid : Nat} (hn : C.H nid = none) (hB : ¬ C.B nid) {w : World} {cs : Array Value} {t : TypeId} (hw : w.heap = C.w.heap.push (.cells cs t)) (blk : Blk)
    (hs : blk.cells.length ≤ cs.size) (hr : ∀ (j : Nat) (c : AV), blk.cells[j]? = some c → ∃ v, cs[j]? = some v ∧ Rep C v c ∧ v.oneCell' = true) (hw2 : Alike C.w w := by exact ⟨rfl, rfl, rfl⟩) :
    C.Le ⟨C.H.upd nid (some blk), fun i => if i = nid then C.w.heap.size else C.at_ i, C.F, fun i => C.B i ∨ i = nid, w⟩ ∧
    (⟨C.H.upd nid (some blk), fun i => if i = nid then C.w.heap.size else C.at_ i, C.F, fun i => C.B i ∨ i = nid, w⟩ : Cx).Ok := by
  have l : C.Le ⟨C.H.upd nid (some blk), fun i => if i = nid then C.w.heap.size else C.at_ i, C.F, fun i => C.B i ∨ i = nid, w⟩ := by
    refine ⟨fun b hb _ => by simp only [hw]; exact push_get _ _ hb, fun b hb hm => ?_, rfl, fun i b' hi hb' => ?_, fun i hi => .inl hi, fun b cs' t' fz hb => ⟨cs', ?_, rfl⟩, by simp [hw], hw2⟩
    · obtain ⟨i, b', h1, h2, h3⟩ := hm
      by_cases hi : i = nid
      · simp only [hi, if_true] at h3; omega
      · simp only [hi, if_false] at h3
        simp only [Heap.upd_ne _ _ hi] at h1
        exact ⟨i, b', h1, h2, h3⟩
    · have hne : i ≠ nid := fun e => hB (e ▸ hi)
      simp only [Heap.upd_ne _ _ hne] at hb'
      exact ⟨b', hb', rfl, by simp [hne]⟩
    · simp only [hw]
      rw [push_get _ _ (Array.getElem?_eq_some_iff.1 hb).1]
      exact hb
  refine ⟨l, ?_, ?_, ?_, ?_, ?_⟩
  · intro i j bi bj hi hj he
    dsimp only at hi hj he
    by_cases h1 : i = nid <;> by_cases h2 : j = nid
    · rw [h1, h2]
    · rw [Heap.upd_ne _ _ h2] at hj
      simp only [h1, h2, if_true, if_false] at he
      have := h.lt hj
      omega
    · rw [Heap.upd_ne _ _ h1] at hi
      simp only [h1, h2, if_true, if_false] at he
      have := h.lt hi
      omega
    · rw [Heap.upd_ne _ _ h1] at hi
      rw [Heap.upd_ne _ _ h2] at hj
      simp only [h1, h2, if_false] at he
      exact h.inj i j bi bj hi hj he
  · intro i b hi hF
    dsimp only at hi hF
    by_cases h1 : i = nid
    · simp only [h1, if_true] at hF
      have := h.Fsz _ hF
      omega
    · rw [Heap.upd_ne _ _ h1] at hi
      simp only [h1, if_false] at hF
      exact h.nF i b hi hF
  · intro i b hi
    dsimp only at hi
    by_cases h1 : i = nid
    · exact .inr h1
    · rw [Heap.upd_ne _ _ h1] at hi
      exact .inl (h.born i b hi)
  · intro i b hi
    dsimp only at hi
    by_cases h1 : i = nid
    · subst h1
      rw [Heap.upd_same] at hi
      cases hi
      refine ⟨cs, t, by simp [hw], hs, fun j c hc => ?_⟩
      obtain ⟨v, hv, hrv, h1⟩ := hr j c hc
      exact ⟨v, hv, hrv.le l, h1⟩
    · rw [Heap.upd_ne _ _ h1] at hi
      obtain ⟨cs', t', h2, h3, h4⟩ := h.blk i b hi
      refine ⟨cs', t', ?_, h3, fun j c hc => ?_⟩
      · simp only [h1, if_false, hw]
        rw [push_get _ _ (h.lt hi)]
        exact h2
      · obtain ⟨v, hv, hrv, h5⟩ := h4 j c hc
        exact ⟨v, hv, hrv.le l, h5⟩
  · intro b hb
    have := h.Fsz b hb
    simp [hw]
    omega
end Vm
