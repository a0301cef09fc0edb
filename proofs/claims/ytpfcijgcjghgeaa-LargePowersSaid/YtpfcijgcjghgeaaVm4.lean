/- The machine over pure values and the model's world: stores, appends in place, freezing. (Own work of this repo.) -/
import Derived.Test.YtpfcijgcjghgeaaVm3
set_option linter.unusedVariables false
set_option linter.unusedSimpArgs false
namespace Vm
open Go

theorem Cx.Ok.lt' {C : Cx} (h : C.Ok) {i : Nat} {b : Blk} (hb : C.H i = some b) {cs : Array Value} {t : TypeId} {fz : Nat × Nat} (_ : C.w.heap[C.at_ i]? = some (.cells cs t fz)) : C.at_ i < C.w.heap.size := h.lt hb

/-- A row is written. -/
theorem Cx.Ok.store {C : Cx} (h : C.Ok) {id : Nat} {blk : Blk} (hb : C.H id = some blk) (hf : blk.fz = false) {cs cs' : Array Value} {t : TypeId} (hh : C.w.heap[C.at_ id]? = some (.cells cs t (0, 0)))
    (hsz : cs'.size = cs.size) (cells : List AV) (hlen : cells.length ≤ cs'.size) (hr : ∀ (j : Nat) (c : AV), cells[j]? = some c → ∃ v, cs'[j]? = some v ∧ Rep C v c ∧ v.oneCell' = true) :
    C.Le ⟨C.H.upd id (some { blk with cells := cells }), C.at_, C.F, C.B, C.w.setRow (C.at_ id) cs'⟩ ∧ (⟨C.H.upd id (some { blk with cells := cells }), C.at_, C.F, C.B, C.w.setRow (C.at_ id) cs'⟩ : Cx).Ok := by
  have own : C.own (C.at_ id) := ⟨id, blk, hb, hf, rfl⟩
  have szeq : (C.w.setRow (C.at_ id) cs').heap.size = C.w.heap.size := by simp [World.setRow]
  have lv : ∀ i b', (C.H.upd id (some { blk with cells := cells })) i = some b' → ∃ b, C.H i = some b ∧ b.esz = b'.esz ∧ b.fz = b'.fz := by
    intro i b' hi
    by_cases e : i = id
    · subst e; rw [Heap.upd_same] at hi; cases hi; exact ⟨blk, hb, rfl, rfl⟩
    · rw [Heap.upd_ne _ _ e] at hi; exact ⟨b', hi, rfl, rfl⟩
  have l : C.Le ⟨C.H.upd id (some { blk with cells := cells }), C.at_, C.F, C.B, C.w.setRow (C.at_ id) cs'⟩ := by
    refine ⟨fun b hb' ho => ?_, fun b hb' hm => ?_, rfl, fun i b' _ hb' => ?_, fun i hi => hi, fun b c' t' fz hb' => ?_, by dsimp only; omega, rfl, rfl, rfl⟩
    · exact setRow_other _ _ _ _ (fun e => ho (e ▸ own))
    · obtain ⟨i, b', h1, h2, h3⟩ := hm
      obtain ⟨b0, h4, _, h5⟩ := lv i b' h1
      exact ⟨i, b0, h4, by rw [h5]; exact h2, h3⟩
    · obtain ⟨b0, h4, h5, _⟩ := lv i b' hb'
      exact ⟨b0, h4, h5, rfl⟩
    · by_cases e : C.at_ id = b
      · subst e
        rw [hh] at hb'
        cases hb'
        exact ⟨cs', setRow_heap _ _ _ _ _ _ hh, hsz⟩
      · exact ⟨c', by dsimp only; rw [setRow_other _ _ _ _ e]; exact hb', rfl⟩
  refine ⟨l, fun i j bi bj hi hj he => ?_, fun i b hi hF => ?_, fun i b hi => ?_, fun i b hi => ?_, fun b hb' => by dsimp only; rw [szeq]; exact h.Fsz b hb'⟩
  · obtain ⟨b0, h4, _⟩ := lv i bi hi
    obtain ⟨b1, h5, _⟩ := lv j bj hj
    exact h.inj i j b0 b1 h4 h5 he
  · obtain ⟨b0, h4, _⟩ := lv i b hi
    exact h.nF i b0 h4 hF
  · obtain ⟨b0, h4, _⟩ := lv i b hi
    exact h.born i b0 h4
  · by_cases e : i = id
    · subst e
      dsimp only at hi ⊢
      rw [Heap.upd_same] at hi
      cases hi
      refine ⟨cs', t, setRow_heap _ _ _ _ _ _ hh, hlen, fun j c hc => ?_⟩
      obtain ⟨v, hv, hrv, h1⟩ := hr j c hc
      exact ⟨v, hv, hrv.le l, h1⟩
    · dsimp only at hi ⊢
      rw [Heap.upd_ne _ _ e] at hi
      obtain ⟨c0, t0, h2, h3, h4⟩ := h.blk i b hi
      refine ⟨c0, t0, ?_, h3, fun j c hc => ?_⟩
      · rw [setRow_other _ _ _ _ (fun e' => e (h.inj _ _ _ _ hi hb e'.symm))]
        exact h2
      · obtain ⟨v, hv, hrv, h5⟩ := h4 j c hc
        exact ⟨v, hv, hrv.le l, h5⟩

/-- An append within the capacity: the row goes on under a new number. -/
theorem Cx.Ok.move {C : Cx} (h : C.Ok) {id nid : Nat} {blk : Blk} (hb : C.H id = some blk) (hf : blk.fz = false) (hn : C.H nid = none) (hB : ¬ C.B nid) {cs cs' : Array Value} {t : TypeId}
    (hh : C.w.heap[C.at_ id]? = some (.cells cs t (0, 0))) (hsz : cs'.size = cs.size) (cells : List AV) (hlen : cells.length ≤ cs'.size)
    (hr : ∀ (j : Nat) (c : AV), cells[j]? = some c → ∃ v, cs'[j]? = some v ∧ Rep C v c ∧ v.oneCell' = true) :
    C.Le ⟨(C.H.upd id none).upd nid (some { blk with cells := cells }), fun i => if i = nid then C.at_ id else C.at_ i, C.F, fun i => C.B i ∨ i = nid, C.w.setRow (C.at_ id) cs'⟩ ∧
    (⟨(C.H.upd id none).upd nid (some { blk with cells := cells }), fun i => if i = nid then C.at_ id else C.at_ i, C.F, fun i => C.B i ∨ i = nid, C.w.setRow (C.at_ id) cs'⟩ : Cx).Ok := by
  have own : C.own (C.at_ id) := ⟨id, blk, hb, hf, rfl⟩
  have hne : id ≠ nid := fun e => by rw [e, hn] at hb; cases hb
  have szeq : (C.w.setRow (C.at_ id) cs').heap.size = C.w.heap.size := by simp [World.setRow]
  -- what lives behind the append lived before it: the new number is the old row
  have lv : ∀ i b', ((C.H.upd id none).upd nid (some { blk with cells := cells })) i = some b' →
      (i = nid ∧ b' = { blk with cells := cells }) ∨ (i ≠ nid ∧ i ≠ id ∧ C.H i = some b') := by
    intro i b' hi
    by_cases e : i = nid
    · subst e; rw [Heap.upd_same] at hi; cases hi; exact .inl ⟨rfl, rfl⟩
    · rw [Heap.upd_ne _ _ e] at hi
      by_cases e' : i = id
      · subst e'; rw [Heap.upd_same] at hi; cases hi
      · rw [Heap.upd_ne _ _ e'] at hi; exact .inr ⟨e, e', hi⟩
  have l : C.Le ⟨(C.H.upd id none).upd nid (some { blk with cells := cells }), fun i => if i = nid then C.at_ id else C.at_ i, C.F, fun i => C.B i ∨ i = nid, C.w.setRow (C.at_ id) cs'⟩ := by
    refine ⟨fun b hb' ho => ?_, fun b hb' hm => ?_, rfl, fun i b' hi hb' => ?_, fun i hi => .inl hi, fun b c' t' fz hb' => ?_, by dsimp only; omega, rfl, rfl, rfl⟩
    · exact setRow_other _ _ _ _ (fun e => ho (e ▸ own))
    · obtain ⟨i, b', h1, h2, h3⟩ := hm
      dsimp only at h3
      rcases lv i b' h1 with ⟨e, _⟩ | ⟨e, _, h4⟩
      · rw [if_pos e] at h3; exact h3 ▸ own
      · rw [if_neg e] at h3; exact ⟨i, b', h4, h2, h3⟩
    · rcases lv i b' hb' with ⟨e, _⟩ | ⟨e, _, h4⟩
      · exact absurd (e ▸ hi) hB
      · exact ⟨b', h4, rfl, by dsimp only; rw [if_neg e]⟩
    · by_cases e : C.at_ id = b
      · subst e
        rw [hh] at hb'
        cases hb'
        exact ⟨cs', setRow_heap _ _ _ _ _ _ hh, hsz⟩
      · exact ⟨c', by dsimp only; rw [setRow_other _ _ _ _ e]; exact hb', rfl⟩
  refine ⟨l, fun i j bi bj hi hj he => ?_, fun i b hi hF => ?_, fun i b hi => ?_, fun i b hi => ?_, fun b hb' => by dsimp only; rw [szeq]; exact h.Fsz b hb'⟩
  · dsimp only at he
    rcases lv i bi hi with ⟨e1, _⟩ | ⟨e1, f1, h1⟩ <;> rcases lv j bj hj with ⟨e2, _⟩ | ⟨e2, f2, h2⟩
    · rw [e1, e2]
    · rw [if_pos e1, if_neg e2] at he; exact absurd (h.inj _ _ _ _ hb h2 he).symm f2
    · rw [if_neg e1, if_pos e2] at he; exact absurd (h.inj _ _ _ _ h1 hb he) f1
    · rw [if_neg e1, if_neg e2] at he; exact h.inj _ _ _ _ h1 h2 he
  · dsimp only at hF
    rcases lv i b hi with ⟨e1, _⟩ | ⟨e1, _, h1⟩
    · rw [if_pos e1] at hF; exact h.nF _ _ hb hF
    · rw [if_neg e1] at hF; exact h.nF _ _ h1 hF
  · rcases lv i b hi with ⟨e1, _⟩ | ⟨_, _, h1⟩
    · exact .inr e1
    · exact .inl (h.born _ _ h1)
  · dsimp only
    rcases lv i b hi with ⟨e1, e2⟩ | ⟨e1, f1, h1⟩
    · rw [if_pos e1, e2]
      refine ⟨cs', t, setRow_heap _ _ _ _ _ _ hh, hlen, fun j c hc => ?_⟩
      obtain ⟨v, hv, hrv, h1⟩ := hr j c hc
      exact ⟨v, hv, hrv.le l, h1⟩
    · rw [if_neg e1]
      obtain ⟨c0, t0, h2, h3, h4⟩ := h.blk i b h1
      refine ⟨c0, t0, ?_, h3, fun j c hc => ?_⟩
      · rw [setRow_other _ _ _ _ (fun e' => f1 (h.inj _ _ _ _ h1 hb e'.symm))]
        exact h2
      · obtain ⟨v, hv, hrv, h5⟩ := h4 j c hc
        exact ⟨v, hv, hrv.le l, h5⟩

/-- An append that needs a new row: the old row is given up, a new one comes. -/
theorem Cx.Ok.drop {C : Cx} (h : C.Ok) (id : Nat) : C.Le { C with H := C.H.upd id none } ∧ ({ C with H := C.H.upd id none } : Cx).Ok := by
  have lv : ∀ i b', (C.H.upd id none) i = some b' → C.H i = some b' := by
    intro i b' hi
    by_cases e : i = id
    · subst e; rw [Heap.upd_same] at hi; cases hi
    · rwa [Heap.upd_ne _ _ e] at hi
  have l : C.Le { C with H := C.H.upd id none } := ⟨fun _ _ _ => rfl, fun b hb hm => let ⟨i, b', h1, h2, h3⟩ := hm; ⟨i, b', lv _ _ h1, h2, h3⟩, rfl, fun i b _ hb => ⟨b, lv _ _ hb, rfl, rfl⟩, fun _ hB => hB, fun b cs t fz hb => ⟨cs, hb, rfl⟩, Nat.le_refl _, rfl, rfl, rfl⟩
  refine ⟨l, fun i j bi bj hi hj he => h.inj i j bi bj (lv _ _ hi) (lv _ _ hj) he, fun i b hi => h.nF i b (lv _ _ hi), fun i b hi => h.born i b (lv _ _ hi), fun i b hi => ?_, h.Fsz⟩
  obtain ⟨cs, t, h1, h2, h3⟩ := h.blk i b (lv _ _ hi)
  exact ⟨cs, t, h1, h2, fun j c hc => let ⟨v, hv, hr, h1⟩ := h3 j c hc; ⟨v, hv, hr.le l, h1⟩⟩

theorem freezes_get (H : Heap) : ∀ (ids : List Nat) (G : Heap) (i : Nat), (∀ j, G j = H j ∨ G j = (H j).map fun b => { b with fz := true }) →
    (G.upds (freezes H ids)) i = H i ∨ (G.upds (freezes H ids)) i = (H i).map fun b => { b with fz := true }
  | [], G, i, h => h i
  | k :: ids, G, i, h => by
    simp only [freezes, Heap.upds]
    refine freezes_get H ids _ i fun j => ?_
    by_cases e : j = k
    · subst e; rw [Heap.upd_same]; exact .inr rfl
    · rw [Heap.upd_ne _ _ e]; exact h j
theorem freezes_in (H : Heap) : ∀ (ids : List Nat) (G : Heap) (i : Nat), (i ∈ ids ∨ G i = (H i).map fun b => { b with fz := true }) → (G.upds (freezes H ids)) i = (H i).map fun b => { b with fz := true }
  | [], G, i, h => by
    rcases h with h | h
    · cases h
    · exact h
  | k :: ids, G, i, h => by
    simp only [freezes, Heap.upds]
    refine freezes_in H ids _ i ?_
    by_cases e : i = k
    · subst e; exact .inr (Heap.upd_same _ _ _)
    · rw [Heap.upd_ne _ _ e]
      rcases h with h | h
      · rcases List.mem_cons.1 h with h | h
        · exact absurd h e
        · exact .inl h
      · exact .inr h

/-- Freezing. -/
theorem Cx.Ok.freeze {C : Cx} (h : C.Ok) (ids : List Nat) : C.Le { C with H := C.H.upds (freezes C.H ids) } ∧ ({ C with H := C.H.upds (freezes C.H ids) } : Cx).Ok := by
  have lv : ∀ i b', (C.H.upds (freezes C.H ids)) i = some b' → ∃ b, C.H i = some b ∧ b.esz = b'.esz ∧ b.cells = b'.cells ∧ (b'.fz = false → b.fz = false) := by
    intro i b' hi
    rcases freezes_get C.H ids C.H i (fun j => .inl rfl) with e | e
    · rw [e] at hi; exact ⟨b', hi, rfl, rfl, id⟩
    · rw [e] at hi
      cases hH : C.H i with
      | none => simp [hH] at hi
      | some b => simp [hH] at hi; subst hi; exact ⟨b, rfl, rfl, rfl, fun h => by simp at h⟩
  have l : C.Le { C with H := C.H.upds (freezes C.H ids) } := by
    refine ⟨fun _ _ _ => rfl, fun b hb hm => ?_, rfl, fun i b' _ hb => ?_, fun _ hB => hB, fun b cs t fz hb => ⟨cs, hb, rfl⟩, Nat.le_refl _, rfl, rfl, rfl⟩
    · obtain ⟨i, b', h1, h2, h3⟩ := hm
      obtain ⟨b0, h4, _, _, h5⟩ := lv i b' h1
      exact ⟨i, b0, h4, h5 h2, h3⟩
    · obtain ⟨b0, h4, h5, _⟩ := lv i b' hb
      exact ⟨b0, h4, h5, rfl⟩
  refine ⟨l, fun i j bi bj hi hj he => ?_, fun i b hi => ?_, fun i b hi => ?_, fun i b hi => ?_, h.Fsz⟩
  · obtain ⟨b0, h4, _⟩ := lv i bi hi
    obtain ⟨b1, h5, _⟩ := lv j bj hj
    exact h.inj i j _ _ h4 h5 he
  · obtain ⟨b0, h4, _⟩ := lv i b hi
    exact h.nF i b0 h4
  · obtain ⟨b0, h4, _⟩ := lv i b hi
    exact h.born i b0 h4
  · obtain ⟨b0, h4, _, h5, _⟩ := lv i b hi
    obtain ⟨cs, t, h1, h2, h3⟩ := h.blk i b0 h4
    rw [h5] at h2 h3
    exact ⟨cs, t, h1, h2, fun j c hc => let ⟨v, hv, hr, h1⟩ := h3 j c hc; ⟨v, hv, hr.le l, h1⟩⟩

/-! #### What a value without addresses stands for, behind freezing -/
theorem pureL_of {l : List AV} (h : ∀ x ∈ l, x.pure = true) : AV.pureL l = true := by
  induction l with
  | nil => rfl
  | cons x xs ih => simp only [AV.pureL, Bool.and_eq_true]; exact ⟨h x (by simp), ih fun y hy => h y (by simp [hy])⟩
theorem of_pureL {l : List AV} (h : AV.pureL l = true) : ∀ x ∈ l, x.pure = true := by
  induction l with
  | nil => intro x hx; cases hx
  | cons y ys ih =>
    simp only [AV.pureL, Bool.and_eq_true] at h
    intro x hx
    rcases List.mem_cons.1 hx with rfl | hx
    · exact h.1
    · exact ih h.2 x hx
theorem mapL_get {p : AV → Option (AV × List Nat)} : ∀ {l m : List AV} {ids : List Nat}, mapL p l = some (m, ids) → l.length = m.length ∧ ∀ (j : Nat) (x y : AV), l[j]? = some x → m[j]? = some y → ∃ is, p x = some (y, is) ∧ ∀ i ∈ is, i ∈ ids
  | [], m, ids, h => by simp [mapL] at h; obtain ⟨rfl, rfl⟩ := h; simp
  | x :: xs, m, ids, h => by
    simp only [mapL] at h
    split at h
    · rename_i y i ys j hy hys
      cases h
      obtain ⟨hl, hg⟩ := mapL_get hys
      refine ⟨by simp [hl], fun k x' y' hx hy' => ?_⟩
      cases k with
      | zero => simp at hx hy'; subst hx hy'; exact ⟨i, hy, fun a ha => by simp [ha]⟩
      | succ k =>
        obtain ⟨is, h1, h2⟩ := hg k x' y' (by simpa using hx) (by simpa using hy')
        exact ⟨is, h1, fun a ha => by simp [h2 a ha]⟩
    · cases h
theorem elems_length (ag : Bool) (esz : Nat) : ∀ (n : Nat) (cs : List AV), (elems ag esz n cs).length = n
  | 0, _ => rfl
  | n + 1, cs => by simp [elems, elems_length ag esz n]
theorem elems_get (ag : Bool) (esz : Nat) : ∀ (n : Nat) (cs : List AV) (i : Nat), i < n → (elems ag esz n cs)[i]? = some (if ag then .agg ((cs.drop (i * esz)).take esz) else (cs.drop (i * esz)).headD undef)
  | 0, _, i, h => by omega
  | n + 1, cs, 0, _ => by simp [elems]
  | n + 1, cs, i + 1, h => by
    simp only [elems, List.getElem?_cons_succ]
    rw [elems_get ag esz n (cs.drop esz) i (by omega)]
    simp only [List.drop_drop, Nat.succ_mul, Nat.add_comm]

end Vm
