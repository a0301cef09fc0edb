/- The machine over pure values and the model's world: one operation (VIII): len, append, copy, min, max; all together. (Own work of this repo.) -/
import Derived.Test.YtpfcijgcjghgeaaVm12
set_option linter.unusedVariables false
set_option linter.unusedSimpArgs false
namespace Vm
open Go
section
variable {P : Program} {E : Env} {o : Oper} {a : Act} {C : Cx} {nid : Nat} {sl : List AV}

/-- A builtin's result, out of its own text. -/
def BOk (P : Program) (C : Cx) (nid : Nat) (s : Sem Value) (e : Eff) : Prop := ∃ x v C', e.out = .val x ∧ s.run P C.w = .ok v C'.w ∧ After C e nid C' ∧ Rep C' v x
theorem BOk.pure (h : C.Ok) {s : Sem Value} {v : Value} {x : AV} {rds : List Nat} (hrun : s.run P C.w = .ok v C.w) (r : Rep C v x) : BOk P C nid s ⟨.val x, rds, [], false⟩ :=
  ⟨x, v, C, rfl, hrun, .same h, r⟩

theorem len_ok (hE : EOk P E) (h : C.Ok) {t : TypeId} {ty : TypeId} {x : AV} {v : Value} (hr : Rep C v x) {e : Eff} (he : builtinEff E C.H nid .len [t] [x] = some e) : BOk P C nid (Builtin.len_ #[t] ty #[v]) e := by
  simp only [builtinEff] at he
  split at he <;> try cases he
  rename_i ti ht
  obtain ⟨i, d, z, F⟩ := tiOf_facts (hE.ty _ _ ht)
  split at he
  · rename_i el nl xs hd
    obtain rfl := dOf_slice (hd ▸ F.ad)
    cases he
    cases nl with
    | true =>
      obtain ⟨rfl, rfl⟩ := rep_lnil hr
      exact .pure h (v := goInt 0) (by simp [Builtin.len_, F.run_und]) (.int _ _)
    | false =>
      obtain ⟨ad, cap, esz, u, rfl, _⟩ := rep_lst hr
      exact .pure h (v := goInt xs.length) (by simp [Builtin.len_, F.run_und]) (.int _ _)
  · rename_i el id off n hd
    obtain rfl := dOf_slice (hd ▸ F.ad)
    split at he <;> cases he
    rename_i b hb
    obtain ⟨cap, rfl, _⟩ := rep_ref hr hb
    exact .pure h (v := goInt n) (by simp [Builtin.len_, F.run_und]) (.int _ _)
  · rename_i s hd
    obtain rfl := dOf_str (hd ▸ F.ad)
    cases he
    obtain rfl := rep_str hr
    exact .pure h (v := goInt s.size) (by simp [Builtin.len_, F.run_und]) (.int _ _)
  · rename_i n el hd
    obtain rfl := dOf_array (hd ▸ F.ad)
    cases he
    exact .pure h (v := goInt n) (by simp [Builtin.len_, F.run_und]) (.int _ _)
  · cases he

/-- What a source's cells are in the world. -/
theorem src_run (h : C.Ok) {esz : Nat} {v : Value} {x : AV} (hr : Rep C v x) {cs : List AV} {n : Nat} {rd : List Nat} (hs : srcCells C.H x = some (cs, n, rd)) (hl : cs.length = n * esz) (hz : esz ≠ 0) :
    (Builtin.lenOf v).run P C.w = .ok n C.w ∧ ∀ m, m ≤ n → ∃ vs : Array Value, (Builtin.firstCells esz m v).run P C.w = .ok vs C.w ∧ vs.size = m * esz ∧ ∀ (j : Nat) (c : AV), (cs.take (m * esz))[j]? = some c → ∃ u, vs[j]? = some u ∧ Rep C u c ∧ u.oneCell' = true := by
  unfold srcCells at hs
  split at hs
  · rename_i nl xs
    cases hs
    cases nl with
    | true =>
      obtain ⟨rfl, rfl⟩ := rep_lnil hr
      refine ⟨rfl, fun m hm => ⟨#[], rfl, ?_, by simp [flat]⟩⟩
      obtain rfl : m = 0 := by simpa using hm
      simp
    | false =>
      obtain ⟨ad, cap, esz', u, rfl, hc, hzz, hm, hu, hrr, hoo⟩ := rep_lst hr
      refine ⟨rfl, fun m hmn => ?_⟩
      -- each element has 'esz' cells
      have hfl : ∀ (l : List AV), (∀ x ∈ l, x.cells.length = esz') → (flat l).length = l.length * esz' := by
        intro l
        induction l with
        | nil => intro _; simp [flat]
        | cons y ys ih => intro h; simp only [flat, List.length_append, List.length_cons, Nat.succ_mul]; rw [ih fun z hz => h z (by simp [hz]), h y (by simp)]; omega
      have heq : xs = [] ∨ esz' = esz := by
        by_cases h0 : xs = []
        · exact .inl h0
        · right
          have := hfl xs hzz
          rw [this] at hl
          have hp : 0 < xs.length := List.length_pos_iff.2 h0
          exact Nat.eq_of_mul_eq_mul_left hp hl
      have hget : ∀ (l : List AV) (k : Nat) (c : AV), (∀ x ∈ l, x.cells.length = esz) → (flat l)[k]? = some c → ∃ y, l[k / esz]? = some y ∧ y.cells[k % esz]? = some c := by
        intro l
        induction l with
        | nil => intro k c _ h; simp [flat] at h
        | cons y ys ih =>
          intro k c hh hk
          simp only [flat] at hk
          have hy : y.cells.length = esz := hh y (by simp)
          by_cases hlt : k < esz
          · rw [List.getElem?_append_left (by omega)] at hk
            exact ⟨y, by rw [Nat.div_eq_of_lt hlt]; rfl, by rw [Nat.mod_eq_of_lt hlt]; exact hk⟩
          · rw [List.getElem?_append_right (by omega)] at hk
            obtain ⟨w, hw1, hw2⟩ := ih (k - y.cells.length) c (fun z hz => hh z (by simp [hz])) hk
            rw [hy] at hw1 hw2
            refine ⟨w, ?_, ?_⟩
            · have : k / esz = (k - esz) / esz + 1 := by
                rw [Nat.div_eq k esz, if_pos ⟨Nat.pos_of_ne_zero hz, by omega⟩]
              rw [this, List.getElem?_cons_succ]
              exact hw1
            · rw [Nat.mod_eq_sub_mod (by omega)]
              exact hw2
      rcases heq with rfl | rfl
      · obtain rfl : m = 0 := by simpa using hmn
        refine ⟨#[], ?_, by simp, by simp⟩
        simp only [Builtin.firstCells, Nat.zero_mul, loadCells, loadCellsFrom]
        rfl
      · have hall : ∀ (j : Nat) (c : AV), (flat xs)[j]? = some c → C.w.cell? (ad.add j) = some (u (j / esz') (j % esz')) ∧ Rep C (u (j / esz') (j % esz')) c := by
          intro j c hj
          obtain ⟨y, hy, hyc⟩ := hget xs j c hzz hj
          have hne : xs ≠ [] := by intro e; rw [e] at hy; simp at hy
          obtain ⟨q1, q2, q3⟩ := hm hne
          have := hu _ y hy _ c hyc
          rw [show j / esz' * esz' + j % esz' = j from Nat.div_add_mod' j esz'] at this
          have e : ad.add j = ⟨ad.block, ad.off + j, none⟩ := by
            have := add_block ad j; have := add_off ad j; have := add_spot q1 j
            cases h : ad.add j; simp_all
          rw [e]
          exact ⟨this, hrr _ y hy _ c hyc⟩
        have hlen : m * esz' ≤ (flat xs).length := by rw [hl]; exact Nat.mul_le_mul_right _ hmn
        have hone : ∀ (j : Nat) (c : AV), (flat xs)[j]? = some c → (u (j / esz') (j % esz')).oneCell' = true := by
          intro j c hj
          obtain ⟨y, hy, hyc⟩ := hget xs j c hzz hj
          exact hoo _ y hy _ c hyc
        refine ⟨_, run_loadCells C.w ad (m * esz') (fun j => u (j / esz') (j % esz')) (fun j hj => (hall j _ (List.getElem?_eq_getElem (by omega))).1), by simp, fun j c hj => ?_⟩
        have hj' : j < m * esz' := by have := (List.getElem?_eq_some_iff.1 hj).1; simp at this; omega
        rw [List.getElem?_take_of_lt hj'] at hj
        exact ⟨_, by simp [hj'], (hall j c hj).2, hone j c hj⟩
  · rename_i id off ln
    split at hs <;> try cases hs
    rename_i b hb
    split at hs <;> cases hs
    rename_i hlen
    obtain ⟨cap, rfl, _⟩ := rep_ref hr hb
    have he : n * b.esz = n * esz := by simp at hl; omega
    refine ⟨rfl, fun m hmn => ?_⟩
    have hm : m * esz ≤ n * b.esz := by rw [he]; exact Nat.mul_le_mul_right _ hmn
    have hall : ∀ j, j < m * esz → ∃ v, C.w.cell? (Addr.add ⟨C.at_ id, off, none⟩ j) = some v ∧ ∀ c, b.cells[off + j]? = some c → Rep C v c ∧ v.oneCell' = true := by
      intro j hj
      obtain ⟨v, hv, r, h1⟩ := h.cell hb (List.getElem?_eq_getElem (show off + j < b.cells.length by omega))
      refine ⟨v, by rw [addr_add]; exact hv, fun c hc => ?_⟩
      rw [List.getElem?_eq_getElem (show off + j < b.cells.length by omega)] at hc
      cases hc
      exact ⟨r, h1⟩
    refine ⟨_, run_loadCells C.w _ (m * esz) (fun j => (C.w.cell? (Addr.add ⟨C.at_ id, off, none⟩ j)).getD Go.undef) (fun j hj => by obtain ⟨v, hv, _⟩ := hall j hj; rw [hv]; rfl), by simp, fun j c hj => ?_⟩
    have hj' : j < m * esz := by have := (List.getElem?_eq_some_iff.1 hj).1; simp at this; omega
    rw [List.getElem?_take_of_lt hj', List.getElem?_take_of_lt (by omega), List.getElem?_drop] at hj
    obtain ⟨v, hv, hvr⟩ := hall j hj'
    exact ⟨v, by simp [hj', hv], hvr c hj⟩
  · rename_i s
    cases hs
    obtain rfl := rep_str hr
    refine ⟨rfl, fun m hmn => ⟨_, rfl, ?_, fun j c hj => ?_⟩⟩
    · have hl' : s.size = s.size * esz := by simpa using hl
      by_cases h0 : s.size = 0
      · obtain rfl : m = 0 := by omega
        simp
      · obtain rfl : esz = 1 := (Nat.eq_of_mul_eq_mul_left (Nat.pos_of_ne_zero h0) (by simpa using hl')).symm
        simp; omega
    · have hl' : s.size = s.size * esz := by simpa using hl
      by_cases h0 : s.size = 0
      · have : s.data.toList = [] := List.eq_nil_of_length_eq_zero (by rw [Array.length_toList]; exact h0)
        rw [this] at hj
        simp at hj
      · obtain rfl : esz = 1 := (Nat.eq_of_mul_eq_mul_left (Nat.pos_of_ne_zero h0) (by simpa using hl')).symm
        have hj' : j < m := by have := (List.getElem?_eq_some_iff.1 hj).1; simp at this; omega
        rw [List.getElem?_take_of_lt (by omega), List.getElem?_map] at hj
        cases hd : s.data.toList[j]? with
        | none => rw [hd] at hj; cases hj
        | some b =>
          rw [hd] at hj; cases hj
          refine ⟨.int .u8 b.toNat, ?_, .int _ _, rfl⟩
          have hb : s.data[j]? = some b := by simpa using hd
          simp only [ByteArray.data_extract, Array.getElem?_map, Array.getElem?_extract]
          rw [if_pos (by have : s.data.size = s.size := rfl; omega)]
          simp [hb]
  · cases hs

theorem nextcap_le (need cap : Nat) (h : cap < need) : Builtin.nextslicecap need cap ≤ 2 * need + 1000 := by
  have grow : ∀ (k c : Nat), c < 2 * need + 1000 → Builtin.growBy need k c ≤ 2 * need + 1000 := by
    intro k
    induction k with
    | zero => intro c hc; simp only [Builtin.growBy]; omega
    | succ k ih =>
      intro c hc
      simp only [Builtin.growBy]
      split
      · omega
      · exact ih _ (by omega)
  unfold Builtin.nextslicecap
  split
  · omega
  · split
    · omega
    · exact grow 4 cap (by omega)

theorem append_ok (hE : EOk P E) (h : C.Ok) (hn : C.H nid = none) (hB : ¬ C.B nid) {ts tx ty : TypeId} {s x : AV} {v w : Value} (hr : Rep C v s) (hrx : Rep C w x) {e : Eff} (he : appendEff E C.H nid ts tx s x = some e) :
    BOk P C nid (Builtin.append_ #[ts, tx] ty #[v, w]) e := by
  unfold appendEff at he
  split at he <;> try cases he
  rename_i ti tj ht htj
  obtain ⟨i, d, z, F⟩ := tiOf_facts (hE.ty _ _ ht)
  obtain ⟨i2, d2, z2, F2⟩ := tiOf_facts (hE.ty _ _ htj)
  split at he <;> try cases he
  rename_i el hd hnint
  obtain rfl := dOf_slice (hd ▸ F.ad)
  have hnz : ∀ k, d2 ≠ .int k := fun k e => by have := F2.ad; rw [e] at this; exact hnint k (by simpa [dOf] using this.symm)
  have hzeros : (d2 matches .int _) = false := by cases d2 <;> first | rfl | exact absurd rfl (hnz _)
  split at he <;> try cases he
  rename_i te cs n rd hte hsrc
  obtain ⟨i3, d3, z3, F3⟩ := tiOf_facts (hE.ty _ _ hte)
  split at he <;> try cases he
  rename_i hcond
  have hsz : te.size ≠ 0 := fun e => hcond (.inl e)
  have hby : te.bytes ≠ 0 := fun e => hcond (.inr (.inl e))
  have hcl : cs.length = n * te.size := Decidable.byContradiction fun e => hcond (.inr (.inr e))
  obtain ⟨hlen, hfirst⟩ := src_run (P := P) h hrx hsrc hcl hsz
  obtain ⟨new, hnew, hnews, hnewr⟩ := hfirst n (Nat.le_refl _)
  rw [List.take_of_length_le (by omega)] at hnewr
  have e0 : (#[ts, tx] : Array TypeId)[0]? = some ts := rfl
  have e1 : (#[ts, tx] : Array TypeId)[1]? = some tx := rfl
  -- within the capacity
  have hin : ∀ (base : Option Addr) (sLen sCap : Nat), v = .slice base sLen sCap → sLen + n ≤ sCap →
      (Builtin.append_ #[ts, tx] ty #[v, w]).run P C.w = match base with
        | some b => ((storeCells (b.add (sLen * te.size)) new.toList).run P C.w).andThen fun _ w' => .ok (.slice base (sLen + n) sCap) w'
        | none => .ok (.slice base (sLen + n) sCap) C.w := by
    intro base sLen sCap hv hle
    subst hv
    have e2 : (#[Value.slice base sLen sCap, w] : Array Value)[0]? = some (Value.slice base sLen sCap) := rfl
    have e3 : (#[Value.slice base sLen sCap, w] : Array Value)[1]? = some w := rfl
    simp only [Builtin.append_, e0, e1, e2, e3, Sem.run_bind, F.run_und, F2.run_und, F3.run_size, Result.andThen_ok, Sem.run_pure, hzeros, Bool.false_eq_true, if_false, hlen, if_pos hle, Bool.not_false, if_true, hnew]
    cases base <;> simp only [Sem.run_bind, Sem.run_pure]
  -- beyond it
  have hout : ∀ (base : Option Addr) (sLen sCap : Nat) (old new' : Array Value), v = .slice base sLen sCap → ¬ sLen + n ≤ sCap → (2 * (sLen + n) + 1000) * te.bytes ≤ 281474976710656 →
      (Builtin.firstCells te.size sLen v).run P C.w.drew = .ok old C.w.drew → (Builtin.firstCells te.size n w).run P C.w.drew = .ok new' C.w.drew →
      ∃ (newCap : Nat) (rest : Array Value), sLen + n ≤ newCap ∧ rest.size = (newCap - (sLen + n)) * te.size ∧
        (Builtin.append_ #[ts, tx] ty #[v, w]).run P C.w = .ok (.slice (some ⟨C.w.heap.size, 0, none⟩) (sLen + n) newCap) (C.w.drew.alloc (.cells (old ++ new' ++ rest) el)) := by
    intro base sLen sCap old new' hv hle hbig ho hn'
    subst hv
    have e2 : (#[Value.slice base sLen sCap, w] : Array Value)[0]? = some (Value.slice base sLen sCap) := rfl
    have e3 : (#[Value.slice base sLen sCap, w] : Array Value)[1]? = some w := rfl
    have hcap : ¬ Builtin.nextslicecap (sLen + n) sCap * te.bytes > 2 ^ 48 := by
      have h1 := nextcap_le (sLen + n) sCap (by omega)
      have h2 : Builtin.nextslicecap (sLen + n) sCap * te.bytes ≤ (2 * (sLen + n) + 1000) * te.bytes := Nat.mul_le_mul_right _ h1
      omega
    have hb : i3.bytes = te.bytes := F3.bytes
    have hz3 : z3.cells.size = te.size := by rw [(rep_cells (C := C) (ofConst_rep F3.az)).1]; exact F3.zlen
    refine ⟨sLen + n + C.w.tape C.w.drawn (.appendCap (sLen + n) sCap el) % (2 ^ 63 - (sLen + n)), Builtin.zeroCells z3.cells ((sLen + n + C.w.tape C.w.drawn (.appendCap (sLen + n) sCap el) % (2 ^ 63 - (sLen + n))) - (sLen + n)), by omega, by simp [Builtin.zeroCells, hz3], ?_⟩
    simp only [Builtin.append_, e0, e1, e2, e3, Sem.run_bind, F.run_und, F2.run_und, F3.run_size, F3.run_info, F3.run_zero, Result.andThen_ok, Sem.run_pure, hzeros, Bool.false_eq_true, if_false, hlen, if_neg hle, Bool.not_false, if_true, hb, hby, or_self, and_false,
      if_neg hcap, run_choose, Question.forced, Question.cut, run_askRoom, World.drew_eq, ho, hn', newRow, run_newObj, World.size_drew]
    rfl
  -- the row that a new one is
  have hsame := h.same (w := C.w.drew) rfl
  have hnew2 : ∃ vs : Array Value, (Builtin.firstCells te.size n w).run P C.w.drew = .ok vs C.w.drew ∧ vs.size = n * te.size ∧ ∀ (j : Nat) (c : AV), cs[j]? = some c → ∃ u, vs[j]? = some u ∧ Rep { C with w := C.w.drew } u c ∧ u.oneCell' = true := by
    obtain ⟨_, hf⟩ := src_run (P := P) (C := { C with w := C.w.drew }) hsame.2 (hrx.le hsame.1) hsrc hcl hsz
    have := hf n (Nat.le_refl _)
    rwa [List.take_of_length_le (by omega)] at this
  split at he
  · rename_i xs
    obtain ⟨rfl, rfl⟩ := rep_lnil hr
    split at he
    · rename_i h0
      cases he
      refine .pure h (v := .slice none 0 0) ?_ .lnil
      rw [hin none 0 0 rfl (by omega)]
      simp [h0]
    · rename_i h0
      split at he <;> cases he
      rename_i hbig
      obtain ⟨vs, hvs, hvsz, hvr⟩ := hnew2
      obtain ⟨newCap, rest, hc1, hc2, hrun⟩ := hout none 0 0 #[] vs rfl (by omega) (by simpa using hbig) (by simp only [Builtin.firstCells]; rfl) hvs
      obtain ⟨C', hw, hat, hH, hBB, hA⟩ := grow_ok (out := .val (.ref nid 0 n)) (rds := nid :: rd) hsame.2 hn hB (w := C.w.drew.alloc (.cells (#[] ++ vs ++ rest) el)) rfl ⟨cs, te.agg, te.size, false⟩ (by simp; omega) (fun j c hj => by
        obtain ⟨u, hu, r, h1⟩ := hvr j c hj
        refine ⟨u, ?_, r, h1⟩
        have hj' : j < vs.size := (Array.getElem?_eq_some_iff.1 hu).1
        simp only [Array.empty_append]
        rw [Array.getElem?_append_left hj']
        exact hu)
      refine ⟨_, .slice (some ⟨C.w.heap.size, 0, none⟩) n newCap, C', rfl, by rw [hrun, hw]; simp, ⟨hA.H, hA.B, hA.ok, hsame.1.trans hA.le⟩, .ref _ _ _ _ rfl hBB fun blk hb => ⟨newCap, by rw [hat]; rfl, by omega, #[] ++ vs ++ rest, el, (0, 0), by rw [hat, hw]; exact Array.getElem?_push_size, ?_⟩⟩
      rw [hH] at hb; cases hb
      have hm : newCap * te.size = n * te.size + (newCap - n) * te.size := by rw [← Nat.add_mul]; congr 1; omega
      simp only [Nat.zero_add] at hc1 hc2
      simp; omega
  · rename_i id off len
    split at he <;> try cases he
    rename_i b hb
    split at he <;> try cases he
    rename_i hcb
    obtain ⟨hf, rfl, hes, hlb⟩ := hcb
    obtain ⟨cap, rfl, hcap, rs, rt, rf, hrow, hrl⟩ := rep_ref hr hb
    split at he
    · rename_i h0
      subst h0
      cases he
      refine .pure h (v := .slice (some ⟨C.at_ id, 0, none⟩) len cap) ?_ hr
      rw [hin _ len cap rfl (by omega)]
      have : new.toList = [] := List.eq_nil_of_length_eq_zero (by simpa using hnews)
      simp only [this, storeCells, Sem.run_pure, Result.andThen_ok, Nat.add_zero]
    · rename_i h0
      split at he <;> cases he
      rename_i hbig
      by_cases hle : len + n ≤ cap
      · -- in place
        obtain ⟨cc, t, hb1, hb2, hb3⟩ := h.blk id b hb
        rw [hrow] at hb1
        cases hb1
        have hspace : len * te.size + n * te.size ≤ rs.size := by
          have : (len + n) * te.size ≤ cap * te.size := Nat.mul_le_mul_right _ hle
          rw [Nat.add_mul] at this
          rw [hes] at hrl
          omega
        have hlb' : b.cells.length = len * te.size := by rw [← hes]; exact hlb.symm
        have one : ∀ u ∈ new.toList, u.oneCell' = true := by
          intro u hu
          obtain ⟨j, hj⟩ := List.getElem?_of_mem hu
          have hjl : j < cs.length := by have := (List.getElem?_eq_some_iff.1 hj).1; rw [hcl, ← hnews]; simpa using this
          obtain ⟨u', hu', _, h1⟩ := hnewr j _ (List.getElem?_eq_getElem hjl)
          have : u = u' := by simp at hj; rw [hu'] at hj; cases hj; rfl
          rw [this]; exact h1
        have hrun := run_storeCells_at (P := P) (C.at_ id) (len * te.size) rt new.toList 0 rs C.w hrow (by simp; omega) one
        obtain ⟨le, ok⟩ := h.move hb hf hn hB hrow (cs' := (rs.toList.take (len * te.size + 0) ++ new.toList ++ rs.toList.drop (len * te.size + 0 + new.toList.length)).toArray) (by simp; omega) (b.cells ++ cs) (by simp; omega) (fun j c hc => by
          simp only [Nat.add_zero, List.getElem?_toArray]
          by_cases hj : j < len * te.size
          · rw [List.getElem?_append_left (by omega)] at hc
            obtain ⟨v, hv, r, h1⟩ := hb3 j c hc
            refine ⟨v, ?_, r, h1⟩
            rw [List.append_assoc, List.getElem?_append_left (by simp; omega), List.getElem?_take_of_lt hj]
            simpa using hv
          · rw [List.getElem?_append_right (by omega)] at hc
            obtain ⟨v, hv, r, h1⟩ := hnewr _ c hc
            refine ⟨v, ?_, r, h1⟩
            have hjn : j - b.cells.length < new.size := (Array.getElem?_eq_some_iff.1 hv).1
            rw [List.append_assoc, List.getElem?_append_right (by simp; omega), List.getElem?_append_left (by simp; omega)]
            simp only [List.length_take, Array.length_toList]
            rw [Nat.min_eq_left (by omega), ← hlb']
            simpa using hv)
        refine ⟨_, .slice (some ⟨C.at_ id, 0, none⟩) (len + n) cap, _, rfl, ?_, ⟨by simp only [Heap.upds, hf], by funext i; simp, ok, le⟩, .ref _ _ _ _ rfl (Or.inr rfl) fun blk hbl => ⟨cap, by simp, hle, (rs.toList.take (len * te.size + 0) ++ new.toList ++ rs.toList.drop (len * te.size + 0 + new.toList.length)).toArray, rt, (0, 0), ?_, ?_⟩⟩
        · rw [hin _ len cap rfl hle]
          simp only [addr_add, Nat.zero_add, hrun, Result.andThen_ok]
        · dsimp only
          rw [if_pos rfl]
          exact setRow_heap _ _ _ _ _ _ hrow
        · dsimp only at hbl
          rw [Heap.upd_same] at hbl
          cases hbl
          rw [hes] at hrl ⊢
          simp; omega
      · -- a new row
        obtain ⟨d1, d2⟩ := h.drop id
        have hold : ∃ vs : Array Value, (Builtin.firstCells te.size len (.slice (some ⟨C.at_ id, 0, none⟩) len cap)).run P C.w.drew = .ok vs C.w.drew ∧ vs.size = len * te.size ∧ ∀ (j : Nat) (c : AV), b.cells[j]? = some c → ∃ u, vs[j]? = some u ∧ Rep { C with w := C.w.drew } u c ∧ u.oneCell' = true := by
          have hsrc2 : srcCells ({ C with w := C.w.drew } : Cx).H (.ref id 0 len) = some ((b.cells.drop 0).take (len * b.esz), len, [id]) := by
            simp only [srcCells, hb]; rw [if_pos (by omega)]
          obtain ⟨_, hf2⟩ := src_run (P := P) (C := { C with w := C.w.drew }) hsame.2 (hr.le hsame.1) hsrc2 (esz := te.size) (by simp; rw [← hes]; omega) hsz
          obtain ⟨vs, q1, q2, q3⟩ := hf2 len (Nat.le_refl _)
          refine ⟨vs, q1, q2, fun j c hj => q3 j c ?_⟩
          have hj' : j < b.cells.length := (List.getElem?_eq_some_iff.1 hj).1
          rw [List.getElem?_take_of_lt (by rw [← hes]; omega), List.getElem?_take_of_lt (by omega)]
          simpa using hj
        obtain ⟨vo, hvo, hvos, hvor⟩ := hold
        obtain ⟨vs, hvs, hvsz, hvr⟩ := hnew2
        obtain ⟨newCap, rest, hc1, hc2, hrun⟩ := hout _ len cap vo vs rfl hle hbig hvo hvs
        have dsame := d2.same (w := C.w.drew) rfl
        have hid : id ≠ nid := fun e => by rw [e, hn] at hb; cases hb
        obtain ⟨C', hw, hat, hH, hBB, hA⟩ := grow_ok (out := .val (.ref nid 0 (len + n))) (rds := nid :: id :: rd) dsame.2 (nid := nid) (by dsimp only; rw [Heap.upd_ne _ _ (Ne.symm hid)]; exact hn) hB (w := C.w.drew.alloc (.cells (vo ++ vs ++ rest) el)) rfl ⟨b.cells ++ cs, b.agg, b.esz, false⟩ (by simp only [List.length_append, Array.size_append]; have := hlb; rw [hes] at this; omega) (fun j c hj => by
          by_cases hjl : j < b.cells.length
          · rw [List.getElem?_append_left hjl] at hj
            obtain ⟨u, hu, r, h1⟩ := hvor j c hj
            have hj' : j < vo.size := (Array.getElem?_eq_some_iff.1 hu).1
            refine ⟨u, ?_, (r.le (C' := { C with H := C.H.upd id none, w := C.w.drew }) (hsame.2.drop id).1), h1⟩
            rw [Array.append_assoc, Array.getElem?_append_left hj']
            exact hu
          · rw [List.getElem?_append_right (by omega)] at hj
            obtain ⟨u, hu, r, h1⟩ := hvr _ c hj
            have hj' : j - b.cells.length < vs.size := (Array.getElem?_eq_some_iff.1 hu).1
            refine ⟨u, ?_, (r.le (C' := { C with H := C.H.upd id none, w := C.w.drew }) (hsame.2.drop id).1), h1⟩
            have hvob : vo.size = b.cells.length := by rw [hvos, ← hes]; exact hlb
            rw [Array.append_assoc, Array.getElem?_append_right (by omega), hvob, Array.getElem?_append_left hj']
            exact hu)
        refine ⟨_, .slice (some ⟨C.w.heap.size, 0, none⟩) (len + n) newCap, C', rfl, by rw [hrun, hw], ⟨hA.H, hA.B, hA.ok, (d1.trans dsame.1).trans hA.le⟩, .ref _ _ _ _ rfl hBB fun blk hbl => ⟨newCap, by rw [hat]; rfl, hc1, vo ++ vs ++ rest, el, (0, 0), by rw [hat, hw]; exact Array.getElem?_push_size, ?_⟩⟩
        rw [hH] at hbl; cases hbl
        have hm : newCap * te.size = len * te.size + n * te.size + (newCap - (len + n)) * te.size := by rw [← Nat.add_mul, ← Nat.add_mul]; congr 1; omega
        rw [hes]
        simp; omega
  · cases he
end
end Vm
