/- Part 3 of a proof about this seat: Row, Law1, Pan, Ex1, Stat, Stab, Chn, Chn1, Rf, Trd, Pel1, Pel2, Exn, Exp1, Per, Pel3, Conv, Lst, Mst. (Own work of this repo.) -/
import Derived.Test.YtiglncbaomoceaaZPellNth2
import Derived.OpenShut
import Derived.Carry
import Derived.Deep.Slices
set_option linter.unusedVariables false
set_option linter.unusedSimpArgs false
/- The machine over pure values and the rows: what the arguments of a row are as values of the machine. (Own work of this repo.) -/
namespace Vm
open Go Go.RowKit

def FitS (E : Env) (F : TypeId → List AV → Prop) : List (Nat × TypeId) → List AV → Prop
  | [], avs => avs = []
  | (_, u) :: fs, avs => ∃ x y, avs = x ++ y ∧ F u x ∧ FitS E F fs y
/-- A row's element. -/
def elm (ti : TI) (cs : List AV) : AV := if ti.agg then .agg cs else cs.headD undef
def FitD (E : Env) (F : TypeId → List AV → Prop) (avs : List AV) : TD → Prop
  | .int k => ∃ i, avs = [.int k i] ∧ (Lit.int k i).wf = true
  | .bool => ∃ b, avs = [.bool b]
  | .str => ∃ s, avs = [.str s] ∧ s.size ≤ maxLen
  | .slice e => match E.T e with
    | none => False
    | some te => avs = [.lst true []] ∨ ∃ xs, avs = [.lst false xs] ∧ xs.length ≤ maxLen ∧ ∀ x ∈ xs, ∃ cs, x = elm te cs ∧ cs.length = te.size ∧ F e cs
  | .struct fs => FitS E F fs avs
  | .array n e => ∃ xs : List (List AV), xs.length = n ∧ avs = xs.flatten ∧ ∀ x ∈ xs, F e x
  | _ => False
/-- What cells of a type are. -/
def Fit (E : Env) : Nat → TypeId → List AV → Prop
  | 0 => fun _ _ => False
  | m + 1 => fun t avs => match E.T t with
    | none => False
    | some ti => avs.length = ti.size ∧ FitD E (Fit E m) avs ti.desc
def FitArgs (E : Env) : List TypeId → List AV → Prop
  | [], avs => avs = []
  | t :: ts, avs => ∃ cs x ys, avs = x :: ys ∧ (match E.T t with | none => False | some ti => x = elm ti cs ∧ Fit E 6 t cs) ∧ FitArgs E ts ys

/-- Do the fields lie one behind the other? -/
def tiles (E : Env) (S : TypeId → Bool) : List (Nat × TypeId) → Nat → Nat → Bool
  | [], o, size => o == size
  | (o', u) :: fs, o, size => o' == o && S u && (match E.T u with | some tu => tiles E S fs (o + tu.size) size | none => false)
def Sup (E : Env) : Nat → TypeId → Bool
  | 0, _ => false
  | m + 1, t => match E.T t with
    | none => false
    | some ti => (match ti.desc with
      | .int _ | .bool | .str => ti.size == 1 && !ti.agg
      | .slice e => ti.size == 1 && !ti.agg && Sup E m e && (match E.T e with | some te => te.size != 0 | none => false)
      | .struct fs => ti.agg && tiles E (Sup E m) fs 0 ti.size
      | .array n e => ti.agg && Sup E m e && (match E.T e with | some te => ti.size == n * te.size | none => false)
      | _ => false)

section
variable {P : Program} {E : Env} {H : Type} {enc : TypeId × Value → H} {w : World} {base : Nat} {sp : Nat → Bool} {held : Bool}

theorem cells_of (hE : EOk P E) {t : TypeId} {ti : TI} (h : E.T t = some ti) : P.cellsOf t = ti.size := by
  obtain ⟨i, d, z, F⟩ := tiOf_facts (hE.ty _ _ h)
  rw [Program.cellsOf, F.info]
  exact F.size

/-- The cells stand for values of the machine, one for one. -/
def Cel (w : World) (cs : List Value) (avs : List AV) : Prop := avs.length = cs.length ∧ ∀ (j : Nat) (v : Value) (a : AV), cs[j]? = some v → avs[j]? = some a → Rep (C0 w) v a ∧ v.oneCell' = true ∧ a.scal = true ∧ a.pure = true
theorem Cel.nil : Cel w [] [] := ⟨rfl, fun j v a h => by simp at h⟩
theorem Cel.one {v : Value} {a : AV} (h : Rep (C0 w) v a) (h1 : v.oneCell' = true) (h2 : a.scal = true) (h3 : a.pure = true) : Cel w [v] [a] := by
  refine ⟨rfl, fun j v' a' hv ha => ?_⟩
  match j with
  | 0 => simp at hv ha; subst hv; subst ha; exact ⟨h, h1, h2, h3⟩
  | j + 1 => simp at hv
theorem Cel.app {cs ds : List Value} {avs bs : List AV} (h : Cel w cs avs) (g : Cel w ds bs) : Cel w (cs ++ ds) (avs ++ bs) := by
  refine ⟨by rw [List.length_append, List.length_append, h.1, g.1], fun j v a hv ha => ?_⟩
  by_cases hj : j < cs.length
  · rw [List.getElem?_append_left hj] at hv
    rw [List.getElem?_append_left (by rw [h.1]; exact hj)] at ha
    exact h.2 j v a hv ha
  · rw [List.getElem?_append_right (by omega)] at hv
    rw [List.getElem?_append_right (by rw [h.1]; omega), h.1] at ha
    exact g.2 _ v a hv ha
theorem pureL_ofm {avs : List AV} : (∀ a ∈ avs, a.pure = true) → AV.pureL avs = true := by
  induction avs with
  | nil => intro _; rfl
  | cons x xs ih => intro h; simp only [AV.pureL, Bool.and_eq_true]; exact ⟨h x (by simp), ih fun a ha => h a (by simp [ha])⟩
theorem Cel.pureL {cs : List Value} {avs : List AV} (h : Cel w cs avs) : AV.pureL avs = true := pureL_ofm fun a ha => by
  obtain ⟨j, hj, rfl⟩ := List.getElem_of_mem ha
  have hj' : j < cs.length := by rw [← h.1]; exact hj
  exact (h.2 j _ _ (List.getElem?_eq_getElem hj') (List.getElem?_eq_getElem hj)).2.2.2

theorem add_at {a : Addr} {x y : Nat} {v : Value} (h : w.cell? ((a.add x).add y) = some v) : w.cell? ⟨a.block, a.off + (x + y), none⟩ = some v ∧ a.block < w.heap.size ∧ (x + y = 0 → a.spot = none) := by
  have hb : ((a.add x).add y).block = a.block := by unfold Addr.add; split <;> split <;> rfl
  have h1 := World.block_lt_of_cell? w _ h
  rw [hb] at h1
  by_cases h0 : x + y = 0
  · obtain rfl : x = 0 := by omega
    obtain rfl : y = 0 := by omega
    have e : (a.add 0).add 0 = a := by simp [Addr.add]
    rw [e] at h
    have hs : a.spot = none := by
      cases hsp : a.spot with
      | none => rfl
      | some k =>
        simp only [World.cell?, hsp] at h
        split at h <;> simp at h
    refine ⟨?_, h1, fun _ => hs⟩
    have e2 : a = ⟨a.block, a.off + (0 + 0), none⟩ := by cases a; simp_all
    rw [e2] at h; exact h
  · refine ⟨?_, h1, fun h => absurd h h0⟩
    have e : (a.add x).add y = ⟨a.block, a.off + (x + y), none⟩ := by
      unfold Addr.add
      by_cases hx : x = 0
      · subst hx; simp only [if_true]; rw [if_neg (by omega)]; simp
      · rw [if_neg hx]
        by_cases hy : y = 0
        · subst hy; simp
        · rw [if_neg hy]; simp [Nat.add_assoc]
    rw [e] at h; exact h

theorem elm_cells {ti : TI} {cs : List AV} (hl : cs.length = ti.size) (h : ti.agg = false → ti.size = 1) (hs : ∀ a ∈ cs, a.scal = true) : (elm ti cs).cells = cs := by
  unfold elm
  cases ha : ti.agg with
  | true => rfl
  | false =>
    have := h ha
    match cs, hl with
    | [], hl => simp at hl; omega
    | [c], _ =>
      have := hs c (by simp)
      cases c <;> simp_all [AV.scal, AV.cells]
    | _ :: _ :: _, hl => simp at hl; omega
theorem sup_one {m : Nat} {t : TypeId} {ti : TI} (h : Sup E m t = true) (ht : E.T t = some ti) (ha : ti.agg = false) : ti.size = 1 := by
  cases m with
  | zero => simp [Sup] at h
  | succ m =>
    simp only [Sup, ht] at h
    split at h <;> simp_all

theorem open_cells (hE : EOk P E) : ∀ (m : Nat) (t : TypeId), Sup E m t = true → ∀ (n : Nat) (cs : List Value) (x : DataW H × List MemPlace), DataW.trod enc P w base sp held n t cs = some x → ∃ avs, Cel w cs avs ∧ Fit E m t avs
  | 0, t, hs, _, _, _, _ => by simp [Sup] at hs
  | m + 1, t, hs, n, cs, x, h => by
    have ih := open_cells hE m
    simp only [Sup] at hs
    split at hs
    · cases hs
    · rename_i ti ht
      obtain ⟨i, d, z, F⟩ := tiOf_facts (hE.ty _ _ ht)
      have hsz := cells_of hE ht
      have had := F.ad
      have hund := F.und
      simp only [Fit, ht]
      split at hs
      · -- int
        rename_i k hd
        rw [hd] at had ⊢
        simp only [Bool.and_eq_true, beq_iff_eq] at hs
        obtain rfl : d = .int k := by cases d <;> simp_all [dOf]
        obtain ⟨q, rfl, _, hw⟩ := DataW.trod_int hund h
        exact ⟨[.int k q], Cel.one (.int _ _) rfl rfl rfl, by simp [hs.1], q, rfl, hw⟩
      · rename_i hd
        rw [hd] at had ⊢
        simp only [Bool.and_eq_true, beq_iff_eq] at hs
        obtain rfl : d = .bool := by cases d <;> simp_all [dOf]
        obtain ⟨q, rfl, _⟩ := DataW.trod_bool hund h
        exact ⟨[.bool q], Cel.one (.bool _) rfl rfl rfl, by simp [hs.1], q, rfl⟩
      · rename_i hd
        rw [hd] at had ⊢
        simp only [Bool.and_eq_true, beq_iff_eq] at hs
        obtain rfl : d = .string := by cases d <;> simp_all [dOf]
        obtain ⟨q, rfl, _, hw⟩ := DataW.trod_string hund h
        exact ⟨[.str q], Cel.one (.str _) rfl rfl rfl, by simp [hs.1], q, rfl, hw⟩
      · -- slice
        rename_i e hd
        rw [hd] at had ⊢
        simp only [Bool.and_eq_true, beq_iff_eq] at hs
        obtain ⟨⟨⟨hs1, _⟩, hse⟩, hsz0⟩ := hs
        obtain rfl : d = .slice e := by cases d <;> simp_all [dOf]
        split at hsz0
        · rename_i te hte
          have hesz := cells_of hE hte
          have hpos : te.size ≠ 0 := by simpa using hsz0
          simp only [FitD, hte]
          rcases Go.Deep.open_slice hund h with ⟨rfl, _⟩ | ⟨a, len, cap, mm, n', D, Pl, rfl, _, hl, hm, hmm, _, hx⟩
          · exact ⟨[.lst true []], Cel.one .lnil rfl rfl rfl, by simp [hs1], .inl rfl⟩
          · have hmm' : len ≤ mm := by rw [hmm]; split <;> omega
            have each : ∀ i, i < len → ∃ (cs' : List Value) (avs : List AV), w.cells? base (a.add (i * P.cellsOf e)) (P.cellsOf e) = some cs' ∧ Cel w cs' avs ∧ Fit E m e avs := fun i hi => by
              obtain ⟨cs', h1, h2⟩ := hx i (by omega)
              obtain ⟨avs, h3, h4⟩ := ih e hse n' cs' _ h2
              exact ⟨cs', avs, h1, h3, h4⟩
            let U : Nat → List Value := fun i => if hi : i < len then (each i hi).choose else []
            let A : Nat → List AV := fun i => if hi : i < len then (each i hi).choose_spec.choose else []
            have hUA : ∀ i, i < len → w.cells? base (a.add (i * P.cellsOf e)) (P.cellsOf e) = some (U i) ∧ Cel w (U i) (A i) ∧ Fit E m e (A i) := fun i hi => by
              simp only [U, A, dif_pos hi]
              exact (each i hi).choose_spec.choose_spec
            have hUl : ∀ i, i < len → (U i).length = te.size := fun i hi => by rw [(World.cells?_some (hUA i hi).1).2.1, hesz]
            have hAl : ∀ i, i < len → (A i).length = te.size := fun i hi => by rw [(hUA i hi).2.1.1, hUl i hi]
            have hsc : ∀ i, i < len → ∀ c ∈ A i, c.scal = true ∧ c.pure = true := fun i hi c hc => by
              obtain ⟨j, hj, rfl⟩ := List.getElem_of_mem hc
              have hj' : j < (U i).length := by rw [← (hUA i hi).2.1.1]; exact hj
              exact ((hUA i hi).2.1.2 j _ _ (List.getElem?_eq_getElem hj') (List.getElem?_eq_getElem hj)).2.2
            have hec : ∀ i, i < len → (elm te (A i)).cells = A i := fun i hi => elm_cells (hAl i hi) (fun ha => sup_one hse hte ha) fun a ha => (hsc i hi a ha).1
            have hep : ∀ i, i < len → (elm te (A i)).pure = true := fun i hi => by
              unfold elm
              split
              · simp only [AV.pure]; exact pureL_ofm fun a ha => (hsc i hi a ha).2
              · have := hAl i hi
                cases hA : A i with
                | nil => rfl
                | cons c cs => exact (hsc i hi c (by rw [hA]; simp)).2
            have hel : ∀ i v, ((List.range len).map fun i => elm te (A i))[i]? = some v → i < len ∧ v = elm te (A i) := fun i v h => by
              rw [List.getElem?_map] at h
              by_cases hi : i < len
              · rw [List.getElem?_range hi] at h; simp at h; exact ⟨hi, h.symm⟩
              · rw [List.getElem?_eq_none (by simpa using hi)] at h; simp at h
            have hat : ∀ i j c, i < len → (A i)[j]? = some c → ∃ v, (U i)[j]? = some v ∧ w.cell? ((a.add (i * te.size)).add j) = some v := fun i j c hi hc => by
              have hj : j < te.size := by rw [← hAl i hi]; exact (List.getElem?_eq_some_iff.1 hc).1
              have := (World.cells?_some (hUA i hi).1).2.2 j (by rw [hesz]; exact hj)
              rw [hesz] at this
              have hv : (U i)[j]? = some ((U i)[j]'(by rw [hUl i hi]; exact hj)) := List.getElem?_eq_getElem _
              exact ⟨_, hv, by rw [this, hv]⟩
            refine ⟨[.lst false ((List.range len).map fun i => elm te (A i))], ?_, by simp [hs1], .inr ⟨_, rfl, by simp; omega, fun x hx => ?_⟩⟩
            · have hlen : ((List.range len).map fun i => elm te (A i)).length = len := by simp
              have hrep : Rep (C0 w) (.slice (some a) ((List.range len).map fun i => elm te (A i)).length cap) (.lst false ((List.range len).map fun i => elm te (A i))) := by
                refine .lst a cap te.size _ (fun i j => ((U i)[j]?).getD (.bool true)) (by rw [hlen]; exact hl) (fun x hx => ?_) (fun hne => ?_) (fun i x hx j c hc => ?_) (fun i x hx j c hc => ?_) (fun i x hx j c hc => ?_)
                · obtain ⟨i, hi, rfl⟩ := List.mem_map.1 hx
                  have hi := List.mem_range.1 hi
                  rw [hec i hi, hAl i hi]
                · have h0 : 0 < len := by
                    rcases Nat.eq_zero_or_pos len with h | h
                    · subst h; exact absurd rfl hne
                    · exact h
                  obtain ⟨c, hc⟩ : ∃ c, (A 0)[0]? = some c := ⟨(A 0)[0]'(by rw [hAl 0 h0]; omega), List.getElem?_eq_getElem _⟩
                  obtain ⟨v, _, hv⟩ := hat 0 0 c h0 hc
                  have := add_at hv
                  exact ⟨this.2.2 (by simp), this.2.1, C0_wr w _⟩
                · obtain ⟨hi, rfl⟩ := hel i x hx
                  rw [hec i hi] at hc
                  obtain ⟨v, hv, hcell⟩ := hat i j c hi hc
                  rw [hv]
                  exact (add_at hcell).1
                · obtain ⟨hi, rfl⟩ := hel i x hx
                  rw [hec i hi] at hc
                  obtain ⟨v, hv, hcell⟩ := hat i j c hi hc
                  rw [hv]
                  exact ((hUA i hi).2.1.2 j v c hv hc).2.1
                · obtain ⟨hi, rfl⟩ := hel i x hx
                  rw [hec i hi] at hc
                  obtain ⟨v, hv, hcell⟩ := hat i j c hi hc
                  rw [hv]
                  exact ((hUA i hi).2.1.2 j v c hv hc).1
              rw [hlen] at hrep
              refine Cel.one hrep rfl rfl ?_
              simp only [AV.pure]
              exact pureL_ofm fun x hx => by
                obtain ⟨i, hi, rfl⟩ := List.mem_map.1 hx
                exact hep i (List.mem_range.1 hi)
            · obtain ⟨i, hi, rfl⟩ := List.mem_map.1 hx
              have hi := List.mem_range.1 hi
              exact ⟨A i, rfl, hAl i hi, (hUA i hi).2.2⟩
        · cases hsz0
      · -- struct
        rename_i fs hd
        rw [hd] at had ⊢
        simp only [Bool.and_eq_true] at hs
        obtain ⟨_, hs⟩ := hs
        obtain ⟨gs, rfl⟩ : ∃ gs, d = .struct gs := by cases d <;> simp_all [dOf]
        simp only [dOf, Option.some.injEq, TD.struct.injEq] at had
        obtain ⟨xs, n', _, _, hl, _, hf⟩ := DataW.trod_struct hund h
        have key : ∀ (l : List Field) (o : Nat) (cs : List Value), (∀ f ∈ l, ∃ y, DataW.trod enc P w base sp held n' f.type ((cs.drop (f.offset - o)).take (P.cellsOf f.type)) = some y) → tiles E (Sup E m) (l.map fun f => (f.offset, f.type)) o ti.size = true → cs.length + o = ti.size →
            ∃ avs, Cel w cs avs ∧ FitS E (Fit E m) (l.map fun f => (f.offset, f.type)) avs := by
          intro l
          induction l with
          | nil =>
            intro o cs _ ht' hcl
            simp only [List.map_nil, tiles, beq_iff_eq] at ht'
            have : cs = [] := List.length_eq_zero_iff.1 (by omega)
            subst this
            exact ⟨[], Cel.nil, rfl⟩
          | cons f l ihl =>
            intro o cs hall ht' hcl
            simp only [List.map_cons, tiles, Bool.and_eq_true, beq_iff_eq] at ht'
            obtain ⟨⟨ho, hsu⟩, hrest⟩ := ht'
            split at hrest
            · rename_i tu htu
              have hu := cells_of hE htu
              obtain ⟨y, hy⟩ := hall f (by simp)
              rw [ho, Nat.sub_self, List.drop_zero, hu] at hy
              obtain ⟨as1, h1, h2⟩ := ih f.type hsu n' _ _ hy
              have hlen1 : as1.length = tu.size := by
                cases m with
                | zero => simp [Sup] at hsu
                | succ m => simp only [Fit, htu] at h2; exact h2.1
              have hcs : tu.size ≤ cs.length := by
                have := h1.1
                rw [hlen1, List.length_take] at this
                omega
              have hle : ∀ (l' : List (Nat × TypeId)) (o' : Nat), tiles E (Sup E m) l' o' ti.size = true → ∀ q ∈ l', o' ≤ q.1 := by
                intro l'
                induction l' with
                | nil => intro _ _ q hq; cases hq
                | cons p l' ihp =>
                  intro o' hp q hq
                  obtain ⟨p1, p2⟩ := p
                  simp only [tiles, Bool.and_eq_true, beq_iff_eq] at hp
                  obtain ⟨⟨hp1, _⟩, hp3⟩ := hp
                  split at hp3
                  · rcases List.mem_cons.1 hq with rfl | hq
                    · exact Nat.le_of_eq hp1.symm
                    · have := ihp _ hp3 q hq; omega
                  · cases hp3
              obtain ⟨as2, h3, h4⟩ := ihl (o + tu.size) (cs.drop tu.size) (fun g hg => by
                obtain ⟨y, hy⟩ := hall g (by simp [hg])
                refine ⟨y, ?_⟩
                have hge := hle _ _ hrest (g.offset, g.type) (List.mem_map.2 ⟨g, hg, rfl⟩)
                have hge' : o + tu.size ≤ g.offset := hge
                rw [List.drop_drop, show tu.size + (g.offset - (o + tu.size)) = g.offset - o by omega]
                exact hy) hrest (by rw [List.length_drop]; omega)
              refine ⟨as1 ++ as2, ?_, as1, as2, rfl, h2, h4⟩
              have := h1.app h3
              rwa [List.take_append_drop] at this
            · cases hrest
        rw [← had] at hs
        obtain ⟨avs, h1, h2⟩ := key gs.toList 0 cs (fun f hf' => by
          obtain ⟨i, hi, rfl⟩ := List.getElem_of_mem hf'
          have hi' : i < gs.size := by simpa using hi
          have := hf i gs[i] (Array.getElem?_eq_getElem hi')
          have hx : i < xs.length := by omega
          rw [List.getElem?_eq_getElem hx] at this
          simp only [Nat.sub_zero, Array.getElem_toList]
          exact ⟨_, this⟩) hs (by omega)
        refine ⟨avs, h1, by rw [h1.1, hl, hsz], ?_⟩
        simp only [FitD]
        rw [← had]
        exact h2
      · -- array
        rename_i k e hd
        rw [hd] at had ⊢
        simp only [Bool.and_eq_true] at hs
        obtain ⟨⟨_, hse⟩, hs⟩ := hs
        obtain rfl : d = .array k e := by cases d <;> simp_all [dOf]
        split at hs
        · rename_i te hte
          have hesz := cells_of hE hte
          simp only [beq_iff_eq] at hs
          obtain ⟨xs, n', _, _, hl, hxl, hf⟩ := DataW.trod_array hund h
          have key : ∀ (q : Nat) (cs : List Value), (∀ i, i < q → ∃ y, DataW.trod enc P w base sp held n' e ((cs.drop (i * te.size)).take te.size) = some y) → cs.length = q * te.size → ∃ ys : List (List AV), ys.length = q ∧ Cel w cs ys.flatten ∧ ∀ y ∈ ys, Fit E m e y := by
            intro q
            induction q with
            | zero =>
              intro cs _ hcl
              have : cs = [] := List.length_eq_zero_iff.1 (by omega)
              subst this
              exact ⟨[], rfl, Cel.nil, fun y hy => by cases hy⟩
            | succ q ihq =>
              intro cs hall hcl
              rw [Nat.add_mul, Nat.one_mul] at hcl
              obtain ⟨y, hy⟩ := hall 0 (by omega)
              rw [Nat.zero_mul, List.drop_zero] at hy
              obtain ⟨as1, h1, h2⟩ := ih e hse n' _ _ hy
              obtain ⟨ys, h3, h4, h5⟩ := ihq (cs.drop te.size) (fun i hi => by
                obtain ⟨y, hy⟩ := hall (i + 1) (by omega)
                refine ⟨y, ?_⟩
                rw [List.drop_drop, show te.size + i * te.size = (i + 1) * te.size by rw [Nat.add_mul]; omega]
                exact hy) (by rw [List.length_drop]; omega)
              refine ⟨as1 :: ys, by simp [h3], ?_, fun y hy => ?_⟩
              · have := h1.app h4
                rwa [List.take_append_drop] at this
              · rcases List.mem_cons.1 hy with rfl | hy
                · exact h2
                · exact h5 y hy
          obtain ⟨ys, h1, h2, h3⟩ := key k cs (fun i hi => by
            have := hf i hi
            have hx : i < xs.length := by omega
            rw [List.getElem?_eq_getElem hx, hesz] at this
            exact ⟨_, this⟩) (by rw [hl, hsz, hs])
          exact ⟨ys.flatten, h2, by rw [h2.1, hl, hsz], ys, h1, rfl, h3⟩
        · cases hs
      · cases hs

theorem okWide_form (hE : EOk P E) {m : Nat} {t : TypeId} {ti : TI} {r : Reach} {b : Nat} {v : Value} (ht : E.T t = some ti) (hs : Sup E m t = true) (h : Value.okWide P w r b t v) : (ti.agg = true ∧ ∃ vs : Array Value, v = .agg vs) ∨ (ti.agg = false ∧ v.oneCell' = true) := by
  obtain ⟨i, d, z, F⟩ := tiOf_facts (hE.ty _ _ ht)
  have had := F.ad
  have hag := F.agg
  cases m with
  | zero => simp [Sup] at hs
  | succ m =>
    simp only [Sup, ht] at hs
    unfold Value.okWide at h
    rw [F.und] at h
    cases d with
    | struct gs => left; refine ⟨by rw [hag]; rfl, ?_⟩; obtain ⟨cs, rfl, _⟩ := h; exact ⟨cs, rfl⟩
    | array n e => left; refine ⟨by rw [hag]; rfl, ?_⟩; obtain ⟨cs, rfl, _⟩ := h; exact ⟨cs, rfl⟩
    | int k => right; refine ⟨by rw [hag]; rfl, ?_⟩; cases v <;> first | rfl | (simp [Cell.okWide, Cell.ok, F.und] at h)
    | bool => right; refine ⟨by rw [hag]; rfl, ?_⟩; cases v <;> first | rfl | (simp [Cell.okWide, Cell.ok, F.und] at h)
    | string => right; refine ⟨by rw [hag]; rfl, ?_⟩; cases v <;> first | rfl | (simp [Cell.okWide, Cell.ok, F.und] at h)
    | slice e => right; refine ⟨by rw [hag]; rfl, ?_⟩; cases v <;> first | rfl | (simp [Cell.okWide, Cell.ok, F.und] at h)
    | _ =>
      have hd : ∀ x, dOf _ = some x → x = ti.desc := fun x hx => by rw [had] at hx; cases hx; rfl
      simp only [dOf] at had
      first
        | (cases had; done)
        | (simp only [Option.some.injEq] at had; rw [← had] at hs; simp at hs)

/-- The arguments of a row: what they are to the machine; and that they read the same wherever nothing old has turned. -/
theorem open_args (hE : EOk P E) (hl : laidOutB P = true) : ∀ (ts : List TypeId) (vs : List Value) (ds : List (DataW H)) (ps : List MemPlace), ts.all (fun t => Sup E 6 t && P.readableRec t && decide (t < P.types.size)) = true → DataW.TrodAll enc P w 0 (fun _ => true) true ts vs ds ps →
    (∀ (j : Nat) (t : TypeId) (v : Value), ts[j]? = some t → vs[j]? = some v → ∃ r b, Value.okWide P w r b t v) →
    ∃ avs, FitArgs E ts avs ∧ RepL (C0 w) vs avs ∧ AV.pureL avs = true ∧ ∀ w', Below w.heap.size w w' → DataW.TrodAll enc P w' 0 (fun b => decide (b < w.heap.size)) true ts vs ds ps
  | [], vs, ds, ps, _, h, _ => by
    obtain ⟨rfl, rfl, rfl⟩ := ChangeShapes.trodAll_nil h
    exact ⟨[], rfl, trivial, rfl, fun w' _ => rfl⟩
  | t :: ts, vs, ds, ps, hs, h, hv => by
    obtain ⟨v, vs, d, ds, p, q, rfl, rfl, rfl, h0, h1⟩ := ChangeShapes.trodAll_cons h
    simp only [List.all_cons, Bool.and_eq_true, decide_eq_true_eq] at hs
    obtain ⟨⟨⟨hs0, hr⟩, hlt⟩, hs1⟩ := hs
    obtain ⟨avs, g1, g2, g3, g4⟩ := open_args hE hl ts vs ds q (by simpa using hs1) h1 fun j t v ht hv' => hv (j + 1) t v (by simpa using ht) (by simpa using hv')
    obtain ⟨fuel, h0'⟩ := h0
    obtain ⟨cs, k1, k2⟩ := open_cells hE 6 t hs0 fuel _ _ h0'
    obtain ⟨ti, hti⟩ : ∃ ti, E.T t = some ti := by
      cases hh : E.T t with
      | none => simp [Fit, hh] at k2
      | some ti => exact ⟨ti, rfl⟩
    have hcl : cs.length = ti.size := by simp only [Fit, hti] at k2; exact k2.1
    obtain ⟨r, b, hok⟩ := hv 0 t v rfl rfl
    have hrep : Rep (C0 w) v (elm ti cs) ∧ (elm ti cs).pure = true := by
      have hp := k1.pureL
      rcases okWide_form hE hti hs0 hok with ⟨ha, us, rfl⟩ | ⟨ha, h1c⟩
      · unfold elm
        rw [if_pos ha]
        refine ⟨.agg us cs ?_ fun j v x hv hx => ?_, by simpa [AV.pure] using hp⟩
        · have := k1.1; simpa [Value.cells] using this.symm
        · exact (k1.2 j v x (by simpa [Value.cells] using hv) hx).1
      · have h1 := sup_one hs0 hti ha
        have hc : v.cells.toList = [v] := by cases v <;> first | rfl | (simp [Value.oneCell'] at h1c)
        rw [hc] at k1
        obtain ⟨a, rfl⟩ : ∃ a, cs = [a] := List.length_eq_one_iff.1 (by rw [hcl, h1])
        unfold elm
        simp only [ha, Bool.false_eq_true, if_false, List.headD_cons]
        have := k1.2 0 v a rfl rfl
        exact ⟨this.1, this.2.2.2⟩
    refine ⟨elm ti cs :: avs, ⟨cs, _, avs, rfl, by rw [hti]; exact ⟨rfl, k2⟩, g1⟩, ⟨hrep.1, g2⟩, by simp only [AV.pureL, hrep.2, g3]; rfl, fun w' hb => ?_⟩
    refine ⟨p, q, ?_, g4 w' hb, rfl⟩
    refine Below.trod hl hr hlt ⟨fuel, h0'⟩ hb fun x hx => ?_
    exact DataW.trod_lt _ _ _ _ h0' x hx
theorem trodAll_len : ∀ {ts : List TypeId} {vs : List Value} {ds : List (DataW H)} {ps : List MemPlace}, DataW.TrodAll enc P w base sp held ts vs ds ps → ds.length = ts.length
  | [], vs, ds, ps, h => by obtain ⟨rfl, rfl, rfl⟩ := ChangeShapes.trodAll_nil h; rfl
  | t :: ts, vs, ds, ps, h => by
    obtain ⟨v, vs, d, ds, p, q, rfl, rfl, rfl, h0, h1⟩ := ChangeShapes.trodAll_cons h
    simp [trodAll_len h1]
end
end Vm

/- Walks of the laws of chapter 1: their helpers. (Own work of this repo.) -/
namespace Go.Proofs.Ytiglncbaomoceaa
open Vm
set_option maxRecDepth 10000

/-- Numbers as they come: sign, words. -/
abbrev Raw := Bool × Bool × List Nat
abbrev ivr (q : Raw) : AV := iv q.1 q.2.1 q.2.2
def lightW (most : Nat) (q : Raw) : Bool := decide (q.2.2.length ≤ most) && rvalidW q.1 q.2.2
theorem get_ivr {L : List Raw} {i : Nat} (h : i < L.length) : (L.map ivr)[i]? = some (.agg [.bool (L.getD i default).1, .lst (L.getD i default).2.1 ((L.getD i default).2.2.map wd)]) := by
  simp [h]
theorem pure_ivr (L : List Raw) : AV.pureL (L.map ivr) = true := by
  induction L with
  | nil => rfl
  | cons q L ih => simp only [List.map_cons, AV.pureL, AV.pure, ih, pure_wd]; rfl
/-- Light numbers are numbers. -/
theorem light_norm {most : Nat} {q : Raw} (hr : InR q.2.2) (h : lightW most q = true) : q.2.2.length ≤ most ∧ q.2.2.length ≤ 4096 ∧ ∃ z : Int, ivr q = I q.2.1 z ∧ dg z = q.2.2 := by
  unfold lightW at h
  rw [Bool.and_eq_true, decide_eq_true_eq] at h
  obtain ⟨h1, z, h2, h3⟩ := rvalid_norm hr h.2
  exact ⟨h.1, h1, z, by rw [I, h2, h3], h3⟩
/-- What an argument of the numbers' type is. -/
theorem fit_raw {m : Nat} {cs : List AV} (h : Fit E (m + 3) 28 cs) : ∃ q : Raw, cs = [.bool q.1, .lst q.2.1 (q.2.2.map wd)] ∧ InR q.2.2 ∧ (q.2.1 = true → q.2.2 = []) ∧ q.2.2.length ≤ maxLen := by
  simp only [Fit, opn_eq, T1, T2, T3, T4, T5, T6, T9, T10, T11, T12, T15, T16, T17, T20, T21, T22, T23, T25, T26, T27, T28, T30, T31, T32, T33, T34, T36, T37, T38, T39, T40, T41, T43, T44, T46, T47, T48, T49, T50, T51, T52, T53, T54, T55, T56, T57, T58, T59, T60, T61, T62, T63, T64, T65, T67, T68, T69, T70, T71, T72, T73, T74, T75, T76, T77, T78, T80, T81, T83, T84, T86, T87, T88, T89, T90, T91, T93, T94, T95, T96, T98, T99, T100, T101, T103, T105, T106, T107, T108, T109, T110, T111, T112, T113, T114, T117, T120, T121, T122, T123, T124, T125, T126, FitD, FitS] at h
  obtain ⟨_, x, y, rfl, ⟨_, b, rfl⟩, x2, y2, rfl, ⟨_, h2⟩, rfl⟩ := h
  rcases h2 with rfl | ⟨xs, rfl, hl, hx⟩
  · exact ⟨(b, true, []), rfl, fun x hx => by (cases hx), fun _ => rfl, by simp⟩
  · have key : ∀ (xs : List AV), (∀ x ∈ xs, ∃ cs, x = elm ⟨1, 4, false, .int .u32 0, .int .u32⟩ cs ∧ cs.length = 1 ∧ cs.length = 1 ∧ ∃ i, cs = [.int .u32 i] ∧ (Lit.int .u32 i).wf = true) → ∃ l : List Nat, xs = l.map wd ∧ InR l := by
      intro xs
      induction xs with
      | nil => intro _; exact ⟨[], rfl, fun x hx => by (cases hx)⟩
      | cons x xs ih =>
        intro h
        obtain ⟨l, rfl, hl⟩ := ih fun y hy => h y (by simp [hy])
        obtain ⟨cs, rfl, _, _, i, rfl, hi⟩ := h x (by simp)
        have hi' : 0 ≤ i ∧ i < 4294967296 := by simp [Lit.wf, IntKind.max, IntKind.min, IntKind.bits, IntKind.signed] at hi; omega
        refine ⟨i.toNat :: l, ?_, fun y hy => ?_⟩
        · have : ((i.toNat : Nat) : Int) = i := by omega
          simp [elm, wd, this]
        · rcases List.mem_cons.1 hy with rfl | hy
          · show i.toNat < 4294967296; omega
          · exact hl y hy
    obtain ⟨l, rfl, hr⟩ := key xs hx
    exact ⟨(b, false, l), rfl, hr, fun h => by simp at h, by simpa using hl⟩
end Go.Proofs.Ytiglncbaomoceaa

/- The machine over pure values: how one walks through functions that panic, and through those that defer a closure which recovers. (Own work of this repo.) -/
namespace Vm
open Go
section
variable {E : Env} {σ : St}
def panK (v : AV) : Ex → St → Prop
  | .panic x, _ => x = v
  | _, _ => False
theorem panK_panic {v x : AV} : panK v (.panic x) σ = (x = v) := rfl
theorem denP_pan {f : FuncId} {fn : Func} {c : Code} {args : List AV} {t : TypeId} {k : IntKind} {n : Int} (hf : E.fn f = some fn) (hb : fn.body = some c) (hp : AV.pureL args = true)
    (hw : W E c ⟨args ++ List.replicate (fn.ntmps - args.length) undef, Heap.empty, 0⟩ (panK (.iface t (.int k n)))) : denP E f args = some (.panic (.iface t (.int k n))) := by
  obtain ⟨e, σ', hd, hq⟩ := hw
  unfold denP bodyP
  rw [if_pos hp]
  simp only [body, hf, hb, hd]
  cases e with
  | panic v =>
    obtain rfl : v = _ := hq
    simp [purify, deep, AV.pure]
  | norm => exact hq.elim
  | ret => exact hq.elim
  | exit i => exact hq.elim
def panO (R : AV → Heap → Nat → Prop) : Ex → St → Prop
  | .panic x, σ => R x σ.h σ.nx
  | _, _ => False
theorem panO_panic {R : AV → Heap → Nat → Prop} {x : AV} : panO R (.panic x) σ = R x σ.h σ.nx := rfl
theorem denO_pan {f : FuncId} {fn : Func} {c : Code} {args : List AV} {h : Heap} {nx : Nat} {R : AV → Heap → Nat → Prop} (hf : E.fn f = some fn) (hb : fn.body = some c)
    (hw : W E c ⟨args ++ List.replicate (fn.ntmps - args.length) undef, h, nx⟩ (panO R)) : ∃ v h' nx', denO E f args h nx = some (.panic v, h', nx') ∧ R v h' nx' := by
  obtain ⟨e, σ', hd, hq⟩ := hw
  unfold denO
  simp only [body, hf, hb, hd]
  cases e with
  | panic v => exact ⟨v, _, _, rfl, hq⟩
  | norm => exact hq.elim
  | ret => exact hq.elim
  | exit i => exact hq.elim
/-- The way out of a function that defers. -/
def lvK (E : Env) (fn : Func) (g : FuncId) (x : List AV) (R : AV → Heap → Nat → Prop) (m : Option AV) (σ : St) : Prop :=
  ∃ h' n' vs, callD E g x m σ.h σ.nx = some (h', n') ∧ resOf E h' σ.sl fn.results.toList = some vs ∧ R (one vs) h' n'
def endD (E : Env) (fn : Func) (g : FuncId) (x : List AV) (R : AV → Heap → Nat → Prop) : Ex → St → Prop
  | .norm, σ => lvK E fn g x R none σ
  | .ret, σ => lvK E fn g x R none σ
  | _, _ => False
def defK (E : Env) (fn : Func) (g : FuncId) (x : List AV) (c2 : Code) (R : AV → Heap → Nat → Prop) : Ex → St → Prop
  | .norm, σ => W E c2 σ (endD E fn g x R)
  | .panic v, σ => lvK E fn g x R (some v) σ
  | _, _ => False
variable {fn : Func} {g : FuncId} {x : List AV} {c2 : Code} {R : AV → Heap → Nat → Prop}
theorem endD_norm : endD E fn g x R .norm σ = lvK E fn g x R none σ := rfl
theorem endD_ret : endD E fn g x R .ret σ = lvK E fn g x R none σ := rfl
theorem defK_norm : defK E fn g x c2 R .norm σ = W E c2 σ (endD E fn g x R) := rfl
theorem defK_panic {v : AV} : defK E fn g x c2 R (.panic v) σ = lvK E fn g x R (some v) σ := rfl
theorem denO_defer {f : FuncId} {c c1 : Code} {pre : List (Array Oper)} {ops : Array Oper} {k : Nat} {args : List AV} {h : Heap} {nx : Nat} {σ0 σ1 : St} (hf : E.fn f = none ∧ E.df f = some fn) (hb : fn.body = some c) (hs : splitD c = some (pre, ops, k, c1, c2))
    (hp : runPre E pre ⟨args ++ List.replicate (fn.ntmps - args.length) undef, h, nx⟩ = some σ0) (hl : runPl E ops.toList ops.toList.dropLast σ0 = some σ1) (hc : clOf σ1.sl[k]? = some (g, x))
    (hw : W E c1 σ1 (defK E fn g x c2 R)) : ∃ v h' n', denO E f args h nx = some (.ret v, h', n') ∧ R v h' n' := by
  have lv : ∀ (m : Option AV) (σ2 : St), restD (den E) c1 c2 σ1 = some (m, σ2) → lvK E fn g x R m σ2 → ∃ v h' n', denO E f args h nx = some (.ret v, h', n') ∧ R v h' n' := by
    rintro m σ2 hr ⟨h', n', vs, h1, h2, h3⟩
    refine ⟨one vs, h', n', ?_, h3⟩
    unfold denO body
    rw [hf.1]
    dsimp only
    rw [hf.2]
    simp only [bodyD, hb, hs, hp, hl, hc, hr, leaveD, h1, h2]
  obtain ⟨e, σ', hd, hq⟩ := hw
  cases e with
  | norm =>
    obtain ⟨e2, σ2, hd2, hq2⟩ := hq
    cases e2 with
    | norm => exact lv none σ2 (by simp only [restD, hd, hd2]) hq2
    | ret => exact lv none σ2 (by simp only [restD, hd, hd2]) hq2
    | exit i => exact hq2.elim
    | panic v => exact hq2.elim
  | panic v => exact lv (some v) σ' (by simp only [restD, hd]) hq
  | ret => exact hq.elim
  | exit i => exact hq.elim
end
attribute [go_sem] panK_panic panO_panic endD_norm endD_ret defK_norm defK_panic
end Vm

/- Walks: operations that throw an error. (Own work of this repo.) -/
namespace Go.Proofs.Ytiglncbaomoceaa
open Vm
theorem openK_any {Q : Ex → St → Prop} {σ : St} {all os : List Go.Oper} {dst : Option Nat} {x : Option (Res × Heap × Nat)} {v : AV} {h : Heap} {n : Nat} (hx : x = some (.ret v, h, n)) (k : Rg E all os ⟨put σ.sl dst v, h, n⟩ Q) : openK E all os dst Q σ x := by
  subst hx; exact k
set_option maxRecDepth 10000

/-- An error that is thrown. -/
abbrev Thr (e : Int) : AV := .iface 89 (.int .i64 e)
theorem throw_pan (e : Int) : denP E 43 [.int .i64 e] = some (.panic (Thr e)) := by
  refine denP_pan E43 rfl rfl ?_
  simp (maxSteps := 4000000) only [go_sem, ↓reduceIte, Nat.reduceAdd, Nat.reduceSub, Nat.reduceMul, Nat.reduceEqDiff, reduceCtorEq, Int.reduceAdd, Int.reduceLT, Int.reduceLE, Int.reduceToNat, Int.reduceNeg, Int.reduceSub, ← List.map_take, ← List.map_drop, ne_eq, Nat.reduceLeDiff, Nat.reduceLT, Nat.zero_le, Nat.le_refl, wrap64, wrapu64, wrapu32, ← Int.natCast_add, ← Int.natCast_mul, cast_succ, wrapu32_nat, shr32, reps_wd, map_set_wd, List.length_set, zs_len, Try.f43]
theorem exOk_ret (f : Bool) (z : Int) : denP E 84 [I f z, .int .i64 0] = some (.ret (I f z)) := by
  refine denP_eq E84 rfl (by simp [AV.pureL, AV.pure, pure_wd]) ?_
  simp (maxSteps := 4000000) only [go_sem, ↓reduceIte, Nat.reduceAdd, Nat.reduceSub, Nat.reduceMul, Nat.reduceEqDiff, reduceCtorEq, Int.reduceAdd, Int.reduceLT, Int.reduceLE, Int.reduceToNat, Int.reduceNeg, Int.reduceSub, ← List.map_take, ← List.map_drop, ne_eq, Nat.reduceLeDiff, Nat.reduceLT, Nat.zero_le, Nat.le_refl, wrap64, wrapu64, wrapu32, ← Int.natCast_add, ← Int.natCast_mul, cast_succ, wrapu32_nat, shr32, reps_wd, map_set_wd, List.length_set, zs_len, Try.f84, Int.reduceEq, places, fillAll]
theorem exOk_pan (f : Bool) (z e : Int) (he : e ≠ 0) : denP E 84 [I f z, .int .i64 e] = some (.panic (Thr e)) := by
  refine denP_pan E84 rfl (by simp [AV.pureL, AV.pure, pure_wd]) ?_
  have z1 : (e = 0) = False := eq_false he
  have h1 := throw_pan e
  simp (maxSteps := 4000000) only [go_sem, ↓reduceIte, Nat.reduceAdd, Nat.reduceSub, Nat.reduceMul, Nat.reduceEqDiff, reduceCtorEq, Int.reduceAdd, Int.reduceLT, Int.reduceLE, Int.reduceToNat, Int.reduceNeg, Int.reduceSub, ← List.map_take, ← List.map_drop, ne_eq, Nat.reduceLeDiff, Nat.reduceLT, Nat.zero_le, Nat.le_refl, wrap64, wrapu64, wrapu32, ← Int.natCast_add, ← Int.natCast_mul, cast_succ, wrapu32_nat, shr32, reps_wd, map_set_wd, List.length_set, zs_len, Try.f84, z1, h1, Int.reduceEq, places, fillAll]
theorem exAdd_ret (f g : Bool) (x y : Int) (hx : (dg x).length ≤ 4096) (hy : (dg y).length ≤ 4096) (h : (dg (x + y)).length ≤ 4096) : denP E 67 [I f x, I g y] = some (.ret (I false (x + y))) := by
  refine denP_eq E67 rfl (by simp [AV.pureL, AV.pure, pure_wd]) ?_
  have h1 := add_spec f x g y hx hy
  rw [RI, fit_of h, fm_of h, er_of h] at h1
  have h2 := exOk_ret false (x + y)
  generalize x + y = z at *
  simp (maxSteps := 4000000) only [go_sem, ↓reduceIte, Nat.reduceAdd, Nat.reduceSub, Nat.reduceMul, Nat.reduceEqDiff, reduceCtorEq, Int.reduceAdd, Int.reduceLT, Int.reduceLE, Int.reduceToNat, Int.reduceNeg, Int.reduceSub, ← List.map_take, ← List.map_drop, ne_eq, Nat.reduceLeDiff, Nat.reduceLT, Nat.zero_le, Nat.le_refl, wrap64, wrapu64, wrapu32, ← Int.natCast_add, ← Int.natCast_mul, cast_succ, wrapu32_nat, shr32, reps_wd, map_set_wd, List.length_set, zs_len, Try.f67, h1, h2, places, fillAll]
theorem exAdd_pan (f g : Bool) (x y : Int) (hx : (dg x).length ≤ 4096) (hy : (dg y).length ≤ 4096) (h : ¬ (dg (x + y)).length ≤ 4096) : denP E 67 [I f x, I g y] = some (.panic (Thr 4)) := by
  refine denP_pan E67 rfl (by simp [AV.pureL, AV.pure, pure_wd]) ?_
  have h1 := add_spec f x g y hx hy
  rw [RI, er_no h] at h1
  have h2 := exOk_pan (fm false (x + y)) (fit (x + y)) 4 (by decide)
  generalize fit (x + y) = z at *
  generalize fm false (x + y) = fl at *
  simp (maxSteps := 4000000) only [go_sem, ↓reduceIte, Nat.reduceAdd, Nat.reduceSub, Nat.reduceMul, Nat.reduceEqDiff, reduceCtorEq, Int.reduceAdd, Int.reduceLT, Int.reduceLE, Int.reduceToNat, Int.reduceNeg, Int.reduceSub, ← List.map_take, ← List.map_drop, ne_eq, Nat.reduceLeDiff, Nat.reduceLT, Nat.zero_le, Nat.le_refl, wrap64, wrapu64, wrapu32, ← Int.natCast_add, ← Int.natCast_mul, cast_succ, wrapu32_nat, shr32, reps_wd, map_set_wd, List.length_set, zs_len, Try.f67, h1, h2, places, fillAll]
theorem exMul_ret (f g : Bool) (x y : Int) (hx : (dg x).length ≤ 4096) (hy : (dg y).length ≤ 4096) (h : (dg (x * y)).length ≤ 4096) : denP E 68 [I f x, I g y] = some (.ret (I (mz x y) (x * y))) := by
  refine denP_eq E68 rfl (by simp [AV.pureL, AV.pure, pure_wd]) ?_
  have h1 := mul_spec f x g y hx hy
  rw [RI, fit_of h, fm_of h, er_of h] at h1
  have h2 := exOk_ret (mz x y) (x * y)
  generalize x * y = z at *
  simp (maxSteps := 4000000) only [go_sem, ↓reduceIte, Nat.reduceAdd, Nat.reduceSub, Nat.reduceMul, Nat.reduceEqDiff, reduceCtorEq, Int.reduceAdd, Int.reduceLT, Int.reduceLE, Int.reduceToNat, Int.reduceNeg, Int.reduceSub, ← List.map_take, ← List.map_drop, ne_eq, Nat.reduceLeDiff, Nat.reduceLT, Nat.zero_le, Nat.le_refl, wrap64, wrapu64, wrapu32, ← Int.natCast_add, ← Int.natCast_mul, cast_succ, wrapu32_nat, shr32, reps_wd, map_set_wd, List.length_set, zs_len, Try.f68, h1, h2, places, fillAll]
theorem exMul_pan (f g : Bool) (x y : Int) (hx : (dg x).length ≤ 4096) (hy : (dg y).length ≤ 4096) (h : ¬ (dg (x * y)).length ≤ 4096) : denP E 68 [I f x, I g y] = some (.panic (Thr 4)) := by
  refine denP_pan E68 rfl (by simp [AV.pureL, AV.pure, pure_wd]) ?_
  have h1 := mul_spec f x g y hx hy
  rw [RI, er_no h] at h1
  have h2 := exOk_pan (fm (mz x y) (x * y)) (fit (x * y)) 4 (by decide)
  generalize fit (x * y) = z at *
  generalize fm (mz x y) (x * y) = fl at *
  simp (maxSteps := 4000000) only [go_sem, ↓reduceIte, Nat.reduceAdd, Nat.reduceSub, Nat.reduceMul, Nat.reduceEqDiff, reduceCtorEq, Int.reduceAdd, Int.reduceLT, Int.reduceLE, Int.reduceToNat, Int.reduceNeg, Int.reduceSub, ← List.map_take, ← List.map_drop, ne_eq, Nat.reduceLeDiff, Nat.reduceLT, Nat.zero_le, Nat.le_refl, wrap64, wrapu64, wrapu32, ← Int.natCast_add, ← Int.natCast_mul, cast_succ, wrapu32_nat, shr32, reps_wd, map_set_wd, List.length_set, zs_len, Try.f68, h1, h2, places, fillAll]
theorem exCmp_ret (f g : Bool) (x y : Int) (hx : (dg x).length ≤ 4096) (hy : (dg y).length ≤ 4096) : denP E 55 [I f x, I g y] = some (.ret (.int .i64 (cmpI x y))) := by
  refine denP_eq E55 rfl (by simp [AV.pureL, AV.pure, pure_wd]) ?_
  have h1 := cmp_spec f x g y hx hy
  simp (maxSteps := 4000000) only [go_sem, ↓reduceIte, Nat.reduceAdd, Nat.reduceSub, Nat.reduceMul, Nat.reduceEqDiff, reduceCtorEq, Int.reduceAdd, Int.reduceLT, Int.reduceLE, Int.reduceToNat, Int.reduceNeg, Int.reduceSub, ← List.map_take, ← List.map_drop, ne_eq, Nat.reduceLeDiff, Nat.reduceLT, Nat.zero_le, Nat.le_refl, wrap64, wrapu64, wrapu32, ← Int.natCast_add, ← Int.natCast_mul, cast_succ, wrapu32_nat, shr32, reps_wd, map_set_wd, List.length_set, zs_len, Try.f55, h1, Int.reduceEq, places, fillAll]
theorem callD_none (p n : Nat) (h : Heap) : callD E 71 [.ptr p 0] none h n = some (h, n) := rfl
theorem callD_some (p n : Nat) (e x : Int) (h : Heap) (hk : h p = some ⟨[.int .i64 x], false, 1, false⟩) : callD E 71 [.ptr p 0] (some (Thr e)) h n = some (h.upd p (some ⟨[.int .i64 e], false, 1, false⟩), n) := by
  simp (maxSteps := 4000000) only [go_sem, ↓reduceIte, Nat.reduceAdd, Nat.reduceSub, Nat.reduceMul, Nat.reduceEqDiff, reduceCtorEq, Int.reduceAdd, Int.reduceLT, Int.reduceLE, Int.reduceToNat, Int.reduceNeg, Int.reduceSub, ← List.map_take, ← List.map_drop, ne_eq, Nat.reduceLeDiff, Nat.reduceLT, Nat.zero_le, Nat.le_refl, wrap64, wrapu64, wrapu32, ← Int.natCast_add, ← Int.natCast_mul, cast_succ, wrapu32_nat, shr32, reps_wd, map_set_wd, List.length_set, zs_len, callD, E71, Try.f71, splitR, isRec, runPl, runS, St.put, St.eff, hk, opn_eq, T1, T2, T3, T4, T5, T6, T9, T10, T11, T12, T15, T16, T17, T20, T21, T22, T23, T25, T26, T27, T28, T30, T31, T32, T33, T34, T36, T37, T38, T39, T40, T41, T43, T44, T46, T47, T48, T49, T50, T51, T52, T53, T54, T55, T56, T57, T58, T59, T60, T61, T62, T63, T64, T65, T67, T68, T69, T70, T71, T72, T73, T74, T75, T76, T77, T78, T80, T81, T83, T84, T86, T87, T88, T89, T90, T91, T93, T94, T95, T96, T98, T99, T100, T101, T103, T105, T106, T107, T108, T109, T110, T111, T112, T113, T114, T117, T120, T121, T122, T123, T124, T125, T126, nilEff, Option.getD_some]
/-- Try: what is done returns. -/
theorem try_ret (g : Nat) (a b : List AV) (hg : E.opn g = true) (v : AV) (h h' : Heap) (nx n' : Nat) (hd : denO E g (a ++ b) (h.upd nx (some ⟨[.int .i64 0], false, 1, false⟩)) (nx + 1) = some (.ret v, h', n')) (hk : h' nx = some ⟨[.int .i64 0], false, 1, false⟩) (hn : nx < n') :
    ∃ h2 n2, denO E 53 [.fn g a b] h nx = some (.ret (.int .i64 0), h2, n2) ∧ n' ≤ n2 ∧ ∀ i, i ≠ nx → i < n' → h2 i = h' i := by
  have key : ∃ v2 h2 n2, denO E 53 [.fn g a b] h nx = some (.ret v2, h2, n2) ∧ v2 = .int .i64 0 ∧ n' ≤ n2 ∧ ∀ i, i ≠ nx → i < n' → h2 i = h' i := by
    refine denO_defer (σ0 := ⟨[.fn g a b, Vm.undef, .ptr nx 0, Vm.undef, Vm.undef, Vm.undef], h.upd nx (some ⟨[.int .i64 0], false, 1, false⟩), nx + 1⟩) (σ1 := ⟨[.fn g a b, Vm.undef, .ptr nx 0, .fn 71 [] [.ptr nx 0], Vm.undef, Vm.undef], h.upd nx (some ⟨[.int .i64 0], false, 1, false⟩), nx + 1⟩) D53 rfl rfl ?_ ?_ rfl ?_
    · rfl
    · rfl
    · simp (maxSteps := 4000000) only [go_sem, ↓reduceIte, Nat.reduceAdd, Nat.reduceSub, Nat.reduceMul, Nat.reduceEqDiff, reduceCtorEq, Int.reduceAdd, Int.reduceLT, Int.reduceLE, Int.reduceToNat, Int.reduceNeg, Int.reduceSub, ← List.map_take, ← List.map_drop, ne_eq, Nat.reduceLeDiff, Nat.reduceLT, Nat.zero_le, Nat.le_refl, wrap64, wrapu64, wrapu32, ← Int.natCast_add, ← Int.natCast_mul, cast_succ, wrapu32_nat, shr32, reps_wd, map_set_wd, List.length_set, zs_len, hg]
      refine openK_any hd ?_
      simp (maxSteps := 4000000) only [go_sem, ↓reduceIte, Nat.reduceAdd, Nat.reduceSub, Nat.reduceMul, Nat.reduceEqDiff, reduceCtorEq, Int.reduceAdd, Int.reduceLT, Int.reduceLE, Int.reduceToNat, Int.reduceNeg, Int.reduceSub, ← List.map_take, ← List.map_drop, ne_eq, Nat.reduceLeDiff, Nat.reduceLT, Nat.zero_le, Nat.le_refl, wrap64, wrapu64, wrapu32, ← Int.natCast_add, ← Int.natCast_mul, cast_succ, wrapu32_nat, shr32, reps_wd, map_set_wd, List.length_set, zs_len, hk]
      refine ⟨_, _, [.int .i64 0], callD_none _ _ _, ?_, ?_⟩
      · simp (maxSteps := 4000000) only [go_sem, ↓reduceIte, Nat.reduceAdd, Nat.reduceSub, Nat.reduceMul, Nat.reduceEqDiff, reduceCtorEq, Int.reduceAdd, Int.reduceLT, Int.reduceLE, Int.reduceToNat, Int.reduceNeg, Int.reduceSub, ← List.map_take, ← List.map_drop, ne_eq, Nat.reduceLeDiff, Nat.reduceLT, Nat.zero_le, Nat.le_refl, wrap64, wrapu64, wrapu32, ← Int.natCast_add, ← Int.natCast_mul, cast_succ, wrapu32_nat, shr32, reps_wd, map_set_wd, List.length_set, zs_len, Try.f53, resOf]
      · refine ⟨rfl, Nat.le_refl _, fun i h1 h2 => ?_⟩
        simp only [upd_apply, if_neg h1]
  obtain ⟨v2, h2, n2, e1, rfl, e2⟩ := key
  exact ⟨h2, n2, e1, e2⟩
/-- Try: an error is thrown. -/
theorem try_pan (g : Nat) (a b : List AV) (hg : E.opn g = true) (e : Int) (h h' : Heap) (nx n' : Nat) (hd : denO E g (a ++ b) (h.upd nx (some ⟨[.int .i64 0], false, 1, false⟩)) (nx + 1) = some (.panic (Thr e), h', n')) (hk : h' nx = some ⟨[.int .i64 0], false, 1, false⟩) (hn : nx < n') :
    ∃ h2 n2, denO E 53 [.fn g a b] h nx = some (.ret (.int .i64 e), h2, n2) ∧ n' ≤ n2 ∧ ∀ i, i ≠ nx → i < n' → h2 i = h' i := by
  have key : ∃ v2 h2 n2, denO E 53 [.fn g a b] h nx = some (.ret v2, h2, n2) ∧ v2 = .int .i64 e ∧ n' ≤ n2 ∧ ∀ i, i ≠ nx → i < n' → h2 i = h' i := by
    refine denO_defer (σ0 := ⟨[.fn g a b, Vm.undef, .ptr nx 0, Vm.undef, Vm.undef, Vm.undef], h.upd nx (some ⟨[.int .i64 0], false, 1, false⟩), nx + 1⟩) (σ1 := ⟨[.fn g a b, Vm.undef, .ptr nx 0, .fn 71 [] [.ptr nx 0], Vm.undef, Vm.undef], h.upd nx (some ⟨[.int .i64 0], false, 1, false⟩), nx + 1⟩) D53 rfl rfl ?_ ?_ rfl ?_
    · rfl
    · rfl
    · simp (maxSteps := 4000000) only [go_sem, ↓reduceIte, Nat.reduceAdd, Nat.reduceSub, Nat.reduceMul, Nat.reduceEqDiff, reduceCtorEq, Int.reduceAdd, Int.reduceLT, Int.reduceLE, Int.reduceToNat, Int.reduceNeg, Int.reduceSub, ← List.map_take, ← List.map_drop, ne_eq, Nat.reduceLeDiff, Nat.reduceLT, Nat.zero_le, Nat.le_refl, wrap64, wrapu64, wrapu32, ← Int.natCast_add, ← Int.natCast_mul, cast_succ, wrapu32_nat, shr32, reps_wd, map_set_wd, List.length_set, zs_len, hg]
      rw [hd]
      simp only [openK_panic, thenK_panic, defK_panic]
      refine ⟨h'.upd nx (some ⟨[.int .i64 e], false, 1, false⟩), n', [.int .i64 e], ?_, ?_, ?_⟩
      · exact callD_some _ _ _ 0 _ hk
      · simp (maxSteps := 4000000) only [go_sem, ↓reduceIte, Nat.reduceAdd, Nat.reduceSub, Nat.reduceMul, Nat.reduceEqDiff, reduceCtorEq, Int.reduceAdd, Int.reduceLT, Int.reduceLE, Int.reduceToNat, Int.reduceNeg, Int.reduceSub, ← List.map_take, ← List.map_drop, ne_eq, Nat.reduceLeDiff, Nat.reduceLT, Nat.zero_le, Nat.le_refl, wrap64, wrapu64, wrapu32, ← Int.natCast_add, ← Int.natCast_mul, cast_succ, wrapu32_nat, shr32, reps_wd, map_set_wd, List.length_set, zs_len, Try.f53, resOf]
      · refine ⟨rfl, Nat.le_refl _, fun i h1 h2 => ?_⟩
        simp only [upd_apply, if_neg h1]
  obtain ⟨v2, h2, n2, e1, rfl, e2⟩ := key
  exact ⟨h2, n2, e1, e2⟩
end Go.Proofs.Ytiglncbaomoceaa

/- The machine over pure values: a statement that leaves its order open, when what is written always stands in order. (Own work of this repo.) -/
namespace Vm
open Go
def orderOne (all : List Oper) (i : Nat) (r : Rec) : Nat → List Rec → Bool
  | _, [] => true
  | j, s :: ss => (r.quiet && s.quiet || befBit all j i) && orderOne all i r (j + 1) ss
def orderOk (all : List Oper) : Nat → List Rec → Bool
  | _, [] => true
  | i, r :: rs => orderOne all i r (i + 1) rs && orderOk all (i + 1) rs
theorem quiet_ids {r : Rec} (h : r.quiet = true) : r.ids = [] := by
  unfold Rec.quiet at h; unfold Rec.ids
  rw [List.isEmpty_iff] at h; rw [h]; rfl
theorem free_quiet {r s : Rec} (h1 : r.quiet = true) (h2 : s.quiet = true) : r.free s = true := by
  unfold Rec.free; rw [quiet_ids h1, quiet_ids h2]; rfl
theorem orderOne_ok {all : List Oper} {i : Nat} {r : Rec} : ∀ (ss : List Rec) (j : Nat), orderOne all i r j ss = true → dynOne all i r j ss = true
  | [], _, _ => rfl
  | s :: ss, j, h => by
    rw [orderOne, Bool.and_eq_true, Bool.or_eq_true, Bool.and_eq_true] at h
    rw [dynOne, Bool.and_eq_true]
    refine ⟨?_, orderOne_ok ss (j + 1) h.2⟩
    rcases h.1 with ⟨h1, h2⟩ | h1
    · rw [free_quiet h1 h2]
    · rw [h1]; split <;> rfl
theorem orderOk_ok {all : List Oper} : ∀ (rs : List Rec) (i : Nat), orderOk all i rs = true → dynOk all i rs = true
  | [], _, _ => rfl
  | r :: rs, i, h => by
    rw [orderOk, Bool.and_eq_true] at h
    rw [dynOk, orderOne_ok rs _ h.1, orderOk_ok rs _ h.2]; rfl
theorem okR_stat {all : List Oper} {rs : List Rec} (h : orderOk all 0 rs = true) : okR all rs = true := by
  unfold okR; rw [orderOk_ok rs 0 h]; split <;> rfl
/-- The pairs that nothing keeps in order. -/
def pairsOne (all : List Oper) (i : Nat) (r : Rec) : Nat → List Rec → List (Rec × Rec)
  | _, [] => []
  | j, s :: ss => (match r.quiet && s.quiet || befBit all j i with | true => pairsOne all i r (j + 1) ss | false => (r, s) :: pairsOne all i r (j + 1) ss)
def pairs (all : List Oper) : Nat → List Rec → List (Rec × Rec)
  | _, [] => []
  | i, r :: rs => pairsOne all i r (i + 1) rs ++ pairs all (i + 1) rs
def allFree : List (Rec × Rec) → Prop
  | [] => True
  | p :: ps => p.1.free p.2 = true ∧ allFree ps
theorem allFree_mem {l : List (Rec × Rec)} (h : allFree l) : ∀ p ∈ l, p.1.free p.2 = true := by
  induction l with
  | nil => intro p hp; cases hp
  | cons x xs ih =>
    intro p hp
    rcases List.mem_cons.1 hp with rfl | hp
    · exact h.1
    · exact ih h.2 p hp
theorem pairsOne_ok {all : List Oper} {i : Nat} {r : Rec} : ∀ (ss : List Rec) (j : Nat), (∀ p ∈ pairsOne all i r j ss, p.1.free p.2 = true) → dynOne all i r j ss = true
  | [], _, _ => rfl
  | s :: ss, j, h => by
    rw [dynOne, Bool.and_eq_true]
    rw [pairsOne] at h
    cases hc : r.quiet && s.quiet || befBit all j i with
    | true =>
      rw [hc] at h
      refine ⟨?_, pairsOne_ok ss (j + 1) h⟩
      rw [Bool.or_eq_true, Bool.and_eq_true] at hc
      rcases hc with ⟨h1, h2⟩ | h1
      · rw [free_quiet h1 h2]
      · rw [h1]; split <;> rfl
    | false =>
      rw [hc] at h
      refine ⟨?_, pairsOne_ok ss (j + 1) fun p hp => h p (List.mem_cons_of_mem _ hp)⟩
      rw [h (r, s) (List.mem_cons_self ..)]
theorem pairs_ok {all : List Oper} : ∀ (rs : List Rec) (i : Nat), (∀ p ∈ pairs all i rs, p.1.free p.2 = true) → dynOk all i rs = true
  | [], _, _ => rfl
  | r :: rs, i, h => by
    rw [dynOk, Bool.and_eq_true]
    exact ⟨pairsOne_ok rs _ fun p hp => h p (List.mem_append.2 (.inl hp)), pairs_ok rs _ fun p hp => h p (List.mem_append.2 (.inr hp))⟩
theorem okR_pairs {all : List Oper} {rs : List Rec} (h : allFree (pairs all 0 rs)) : okR all rs = true := by
  unfold okR; rw [pairs_ok rs 0 (allFree_mem h)]; split <;> rfl
theorem free_mk {a b c d : List Nat} : (mk a b).free (mk c d) = (b.all (fun x => !(c ++ d).contains x) && d.all (fun x => !a.contains x)) := by
  unfold Rec.free; rw [mk_ids, mk_ids]; rfl
end Vm

/- The machine over pure values: in a statement without an order, readers that hang on little are looked at once. (Own work of this repo.) -/
namespace Vm
open Go

theorem off_ne {n k : Nat} : (n + (k + 1) = n) = False := eq_false (by omega)
theorem ne_off {n k : Nat} : (n = n + (k + 1)) = False := eq_false (by omega)
/-- A reader that hangs on little (of loads: those of the kinds in T). -/
def stB (T : List (Nat × Nat)) (r : Rec) : Bool := match r.ups with
  | [] => (match r.dep with
    | .all => false
    | .shape _ => true
    | .cells t off _ => T.any fun p => p.1 == t && p.2 == off)
  | _ => false
def trB (r : Rec) : Bool := match r.ups, r.rds with
  | [], [] => true
  | _, _ => false
def sktB (T : List (Nat × Nat)) (r : Rec) : Bool := match trB r with | true => true | false => stB T r
def stOk (E : Env) (H : Heap) (W : List (Nat × Option Blk)) : List Nat × Dep → Prop
  | ([x], d) => d.ok E (H x) ∧ ∀ p ∈ W, p.1 = x → d.ok E p.2
  | _ => False
def sts (T : List (Nat × Nat)) : List Rec → List (List Nat × Dep)
  | [] => []
  | r :: rs => match stB T r with | true => (r.rds, r.dep) :: sts T rs | false => sts T rs
def allS (E : Env) (H : Heap) (W : List (Nat × Option Blk)) : List (List Nat × Dep) → Prop
  | [] => True
  | q :: qs => stOk E H W q ∧ allS E H W qs
def gl1 (T : List (Nat × Nat)) (M : List Nat) (i : Nat) (r : Rec) : Nat → List Rec → List (Rec × Rec)
  | _, [] => []
  | j, s :: ss => (match sktB T s || (r.quiet && s.quiet) || (M.getD j 0).testBit i with | true => gl1 T M i r (j + 1) ss | false => (r, s) :: gl1 T M i r (j + 1) ss)
def gl (T : List (Nat × Nat)) (M : List Nat) : Nat → List Rec → List (Rec × Rec)
  | _, [] => []
  | i, r :: rs => (match sktB T r with | true => [] | false => gl1 T M i r (i + 1) rs) ++ gl T M (i + 1) rs
def Disj (p : Rec × Rec) : Prop := (∀ i, i ∈ p.1.ids → i ∉ p.2.ids) ∧ (∀ i, i ∈ p.1.ids → i ∉ p.2.rds) ∧ (∀ i, i ∈ p.2.ids → i ∉ p.1.rds)
def allD : List (Rec × Rec) → Prop
  | [] => True
  | p :: ps => Disj p ∧ allD ps
section
variable {E : Env} {H : Heap} {all : List Oper} {W : List (Nat × Option Blk)} {T : List (Nat × Nat)}
theorem stB_ids {r : Rec} (h : stB T r = true) : r.ids = [] := by
  unfold stB at h; unfold Rec.ids
  split at h
  · rename_i hu; rw [hu]; rfl
  · cases h
theorem allS_mem : ∀ {l : List (List Nat × Dep)}, allS E H W l → ∀ q ∈ l, stOk E H W q
  | [], _, _, h => by cases h
  | x :: xs, h, q, hq => by
    rcases List.mem_cons.1 hq with rfl | hq
    · exact h.1
    · exact allS_mem h.2 q hq
theorem sts_mem : ∀ {rs : List Rec} {r : Rec}, r ∈ rs → stB T r = true → (r.rds, r.dep) ∈ sts T rs
  | x :: xs, r, h, hb => by
    rw [sts]
    rcases List.mem_cons.1 h with rfl | h
    · rw [hb]; exact List.mem_cons_self
    · have := sts_mem h hb
      split
      · exact List.mem_cons_of_mem _ this
      · exact this
theorem allD_mem : ∀ {l : List (Rec × Rec)}, allD l → ∀ q ∈ l, Disj q
  | [], _, _, h => by cases h
  | x :: xs, h, q, hq => by
    rcases List.mem_cons.1 hq with rfl | hq
    · exact h.1
    · exact allD_mem h.2 q hq
theorem fl1_sub {i : Nat} {r : Rec} : ∀ (ss : List Rec) (j : Nat) (p : Rec × Rec), p ∈ fl1 all i r j ss → p.1 = r ∧ p.2 ∈ ss ∧ (sktB T p.2 = true ∨ p ∈ gl1 T (masks all []) i r j ss)
  | [], _, _, h => by cases h
  | s :: ss, j, p, h => by
    rw [fl1] at h
    split at h
    · rename_i hc
      obtain ⟨h1, h2, h3⟩ := fl1_sub ss (j + 1) p h
      refine ⟨h1, List.mem_cons_of_mem _ h2, h3.imp id fun h3 => ?_⟩
      rw [gl1]
      have : (sktB T s || (r.quiet && s.quiet) || ((masks all []).getD j 0).testBit i) = true := by rw [Bool.or_assoc]; unfold befBit at hc; rw [hc, Bool.or_true]
      rw [this]; exact h3
    · rename_i hc
      rcases List.mem_cons.1 h with rfl | h
      · refine ⟨rfl, List.mem_cons_self, ?_⟩
        cases hs : sktB T s with
        | true => exact .inl rfl
        | false =>
          right
          rw [gl1]
          have : (sktB T s || (r.quiet && s.quiet) || ((masks all []).getD j 0).testBit i) = false := by rw [hs, Bool.or_assoc]; unfold befBit at hc; rw [hc]; rfl
          rw [this]; exact List.mem_cons_self
      · obtain ⟨h1, h2, h3⟩ := fl1_sub ss (j + 1) p h
        refine ⟨h1, List.mem_cons_of_mem _ h2, h3.imp id fun h3 => ?_⟩
        rw [gl1]
        split
        · exact h3
        · exact List.mem_cons_of_mem _ h3
theorem fl_sub : ∀ (rs : List Rec) (i : Nat) (p : Rec × Rec), p ∈ fl all i rs → p.1 ∈ rs ∧ p.2 ∈ rs ∧ (sktB T p.1 = true ∨ sktB T p.2 = true ∨ p ∈ gl T (masks all []) i rs)
  | [], _, _, h => by cases h
  | r :: rs, i, p, h => by
    rw [fl] at h
    rcases List.mem_append.1 h with h | h
    · obtain ⟨h1, h2, h3⟩ := fl1_sub rs (i + 1) p h
      refine ⟨by rw [h1]; exact List.mem_cons_self, List.mem_cons_of_mem _ h2, ?_⟩
      cases hs : sktB T r with
      | true => exact .inl (by rw [h1]; exact hs)
      | false => exact .inr (h3.imp id fun h3 => by rw [gl, hs]; exact List.mem_append_left _ h3)
    · obtain ⟨h1, h2, h3⟩ := fl_sub rs (i + 1) p h
      exact ⟨List.mem_cons_of_mem _ h1, List.mem_cons_of_mem _ h2, h3.imp id fun h3 => h3.imp id fun h3 => by rw [gl]; exact List.mem_append_right _ h3⟩
theorem allW_of {rs : List Rec} (T : List (Nat × Nat)) (M : List Nat) (hM : masks all [] = M) (hW : rs.flatMap (·.ups) = W) (h1 : allS E H W (sts T rs)) (h2 : allD (gl T M 0 rs)) : allW E rs H (fl all 0 rs) := by
  subst hM
  have st : ∀ r ∈ rs, stB T r = true → StW E rs H r := by
    intro r hr hb
    have := allS_mem h1 _ (sts_mem hr hb)
    unfold stOk at this
    split at this
    · rename_i x d he
      simp only [Prod.mk.injEq] at he
      obtain ⟨e1, e2⟩ := he
      subst e2
      exact ⟨stB_ids hb, x, e1, this.1, fun s hs p hp => this.2 p (by rw [← hW]; exact List.mem_flatMap.2 ⟨s, hs, hp⟩)⟩
    · exact this.elim
  have key : ∀ l : List (Rec × Rec), (∀ p ∈ l, PairW E rs H p.1 p.2) → allW E rs H l := by
    intro l
    induction l with
    | nil => intro _; trivial
    | cons p ps ih => exact fun h => ⟨h p List.mem_cons_self, ih fun q hq => h q (List.mem_cons_of_mem _ hq)⟩
  refine key _ fun p hp => ?_
  obtain ⟨m1, m2, h⟩ := fl_sub rs 0 p hp
  have tr : ∀ r, sktB T r = true → r.ids = [] ∧ (r.rds = [] ∨ stB T r = true) := by
    intro r h
    unfold sktB at h
    split at h
    · rename_i ht
      unfold trB at ht
      split at ht
      · rename_i h1 h2
        exact ⟨by unfold Rec.ids; rw [h1]; rfl, .inl h2⟩
      · cases ht
    · exact ⟨stB_ids h, .inr h⟩
  rcases h with h | h | h
  · obtain ⟨e, h⟩ := tr _ h
    exact ⟨fun i hi => absurd (e ▸ hi) List.not_mem_nil, .inl fun i hi => absurd (e ▸ hi) List.not_mem_nil, h.elim (fun h => .inl fun i _ hi => absurd (h ▸ hi) List.not_mem_nil) fun h => .inr (st _ m1 h)⟩
  · obtain ⟨e, h⟩ := tr _ h
    exact ⟨fun i _ hi => absurd (e ▸ hi) List.not_mem_nil, h.elim (fun h => .inl fun i _ hi => absurd (h ▸ hi) List.not_mem_nil) fun h => .inr (st _ m2 h), .inl fun i hi => absurd (e ▸ hi) List.not_mem_nil⟩
  · obtain ⟨d1, d2, d3⟩ := allD_mem h2 p h
    exact ⟨d1, .inl d2, .inl d3⟩
end
end Vm

/- Plain facts on a computation that keeps its first error. (Own work of this repo.) -/
namespace Vm

/-- The error behind an operation whose exact result is z. -/
def ke (e z : Int) : Int := if e = 0 then er z else e
/-- The number behind it. -/
def kval (e z : Int) : Int := if ke e z = 0 then z else 0
def kf (e : Int) (f : Bool) (z : Int) : Bool := if ke e z = 0 then f else true
theorem er_cases (z : Int) : (er z = 0 ∧ (dg z).length ≤ 4096) ∨ (er z = 4 ∧ ¬ (dg z).length ≤ 4096) := by
  unfold er; split
  · exact .inl ⟨rfl, by assumption⟩
  · exact .inr ⟨rfl, by assumption⟩
theorem kval_len (e z : Int) : (dg (kval e z)).length ≤ 4096 := by
  unfold kval
  split
  · rename_i h
    unfold ke at h
    split at h
    · rcases er_cases z with h1 | h1
      · exact h1.2
      · omega
    · contradiction
  · rw [dg_zero]; simp
theorem ke_zero (z : Int) : ke 0 z = er z := if_pos rfl
theorem ke_bad {e : Int} (h : e ≠ 0) (z : Int) : ke e z = e := if_neg h
theorem kval_bad {e : Int} (h : e ≠ 0) (z : Int) : kval e z = 0 := by unfold kval; rw [ke_bad h, if_neg h]
theorem kf_bad {e : Int} (h : e ≠ 0) (f : Bool) (z : Int) : kf e f z = true := by unfold kf; rw [ke_bad h, if_neg h]
theorem ke_fit {z : Int} (h : (dg z).length ≤ 4096) (e : Int) : ke e z = e := by
  unfold ke; split
  · rename_i h0; rw [er_of h, h0]
  · rfl
theorem kval_fit {z : Int} (h : (dg z).length ≤ 4096) : kval 0 z = z := by unfold kval; rw [ke_fit h, if_pos rfl]
theorem kf_fit {z : Int} (h : (dg z).length ≤ 4096) (f : Bool) : kf 0 f z = f := by unfold kf; rw [ke_fit h, if_pos rfl]
theorem ke_no {z : Int} (h : ¬ (dg z).length ≤ 4096) : ke 0 z = 4 := by rw [ke_zero, er_no h]
theorem ke_04 {e z : Int} (h : e = 0 ∨ e = 4) : ke e z = 0 ∨ ke e z = 4 := by
  unfold ke; split
  · rcases er_cases z with h1 | h1
    · exact .inl h1.1
    · exact .inr h1.1
  · rcases h with h | h <;> omega
/-- What 'keep' does. -/
theorem keep_val (e z : Int) : (if ke e z = 0 then fit z else 0) = kval e z := by
  unfold kval
  split
  · rename_i h
    unfold ke at h
    split at h
    · rcases er_cases z with h1 | h1
      · exact fit_of h1.2
      · omega
    · contradiction
  · rfl
theorem keep_f (e : Int) (f : Bool) (z : Int) : (if ke e z = 0 then fm f z else true) = kf e f z := by
  unfold kf
  split
  · rename_i h
    unfold ke at h
    split at h
    · rcases er_cases z with h1 | h1
      · exact fm_of h1.2
      · omega
    · contradiction
  · rfl
end Vm

/- Walks: computations that keep their first error. (Own work of this repo.) -/
namespace Go.Proofs.Ytiglncbaomoceaa
open Vm
set_option maxRecDepth 10000

theorem purify_ptr {n : Nat} {H : Heap} {i o : Nat} : purify (n + 1) H (.ptr i o) = none := rfl
attribute [go_sem] purify_ptr raK2_none
/-- What an open call leaves: the one row turned, rows before alone. -/
def Kept (id : Nat) (b : Blk) (h : Heap) (nx : Nat) (h' : Heap) (n' : Nat) : Prop := h' id = some b ∧ nx ≤ n' ∧ ∀ i, i < nx → i ≠ id → h' i = h i
theorem openK_kept {Q : Ex → St → Prop} {σ : St} {all os : List Go.Oper} {dst : Option Nat} {x : Option (Res × Heap × Nat)} {v : AV} {id : Nat} {b : Blk} {h : Heap} {nx : Nat} (hx : ∃ h' n', x = some (.ret v, h', n') ∧ Kept id b h nx h' n')
    (k : ∀ h' n', h' id = some b → nx ≤ n' → (∀ i, i < nx → i ≠ id → h' i = h i) → Rg E all os ⟨put σ.sl dst v, h', n'⟩ Q) : openK E all os dst Q σ x := by
  obtain ⟨h', n', rfl, k1, k2, k3⟩ := hx
  exact k h' n' k1 k2 k3
theorem lnK2_kept {N : Nat} {dst : Option Nat} {next : List Rec → St → Prop} {acc : List Rec} {σ : St} {g : Go.FuncId} {l : List AV} {v : AV} {b : Blk} (R : List Nat) (id : Nat) (hl : lends l = true) (ho : (E.opn g && g != 1000003) = true) (hR : reach σ.h 3 l = R) (hN : ∀ i ∈ R, i < N)
    (spec : ∃ h' n', denO E g l (σ.h.only R) N = some (.ret v, h', n') ∧ Kept id b (σ.h.only R) N h' n') (hp : v.pure = true)
    (hok : (R.all fun i => (σ.h i).isSome && (match (if i = id then some b else σ.h i) with | some b => AV.withinL R b.cells | none => true)) = true)
    (hn : next (acc ++ [cr R (R.map fun i => (i, if i = id then some b else σ.h i)) .all]) ⟨put σ.sl dst v, σ.h.upds (R.map fun i => (i, if i = id then some b else σ.h i)), σ.nx⟩) : lnK2 E N dst next acc σ g l := by
  obtain ⟨h', n', hd, k1, _, k3⟩ := spec
  have hh : ∀ i ∈ R, h' i = if i = id then some b else σ.h i := by
    intro i hi
    by_cases e : i = id
    · rw [if_pos e, e, k1]
    · rw [if_neg e, k3 i (hN i hi) e]; exact if_pos hi
  refine lnK2_intro (R := R) hl ho hR hd hp ?_ ?_ hn
  · rw [← hok]
    unfold lendOk
    rw [Bool.eq_iff_iff, List.all_eq_true, List.all_eq_true]
    exact ⟨fun h i hi => by rw [← hh i hi]; exact h i hi, fun h i hi => by rw [hh i hi]; exact h i hi⟩
  · unfold lendUps
    exact List.map_congr_left fun i hi => by rw [hh i hi]
end Go.Proofs.Ytiglncbaomoceaa

/- The machine over pure values: how one walks through a loop over a function. (Own work of this repo.) -/
namespace Vm
open Go
section
variable {E : Env} {σ : St} {Q : Ex → St → Prop}
/-- The loop, its row's states being L. -/
def rfK (E : Env) (Q : Ex → St → Prop) (σ : St) (L : Nat → Blk) : Option AV → Prop
  | some (.fn g a b) => g ≠ 1000003 ∧ ∃ v h' n' s e, denO E g (a ++ [.fn 1000003 [] [.ref σ.nx 0 0]] ++ b) (σ.h.upd σ.nx (some (L 0))) (σ.nx + 1) = some (.ret v, h', n') ∧ h' σ.nx = some (L s) ∧ leftBy s = some e ∧ Q e ⟨σ.sl, h'.upd σ.nx none, n'⟩
  | _ => False
def IsLoop (L : Nat → Blk) (ps : Array Tmp) (asg bd : Code) (sl : List AV) : Prop := ∀ s, L s = loopRow s ps asg bd sl
theorem W_rangeFunc {fo : Operand} {ps : Array Tmp} {asg bd : Code} (h : ∀ L : Nat → Blk, IsLoop L ps asg bd σ.sl → rfK E Q σ L (ev σ.sl fo)) : W E (.rangeFunc fo ps asg bd) σ Q := by
  have h1 := h _ (fun _ => rfl)
  unfold rfK at h1
  split at h1
  · rename_i g a b he
    obtain ⟨hg, v, h', n', s, e, hd, hs, hl, hq⟩ := h1
    refine W_of (r := (e, ⟨σ.sl, h'.upd σ.nx none, n'⟩)) ?_ hq
    have hd' : (cl E (den E)).o g (a ++ [.fn 1000003 [] [.ref σ.nx 0 0]] ++ b) (σ.h.upd σ.nx (some (loopRow 0 ps asg bd σ.sl))) (σ.nx + 1) = some (.ret v, h', n') := hd
    have hst : statusOf (h' σ.nx) = some s := by rw [hs]; unfold statusOf loopRow; rfl
    simp only [step, he]
    rw [if_neg hg, hd']
    simp only [hst, hl]
  · exact h1.elim
/-- A round begins: the loop's variables are set. -/
def beginK (E : Env) (L : Nat → Blk) (id : Nat) (bd : Code) (Q : Ex → St → Prop) : Ex → St → Prop
  | .norm, σ => σ.h id = some (L 0) ∧ W E bd ⟨σ.sl, σ.h.upd id (some (L 1)), σ.nx⟩ Q
  | _, _ => False
/-- It ends. -/
def endK (L : Nat → Blk) (id : Nat) (R : Bool → Heap → Nat → Prop) : Ex → St → Prop
  | .norm, σ => σ.h id = some (L 1) ∧ R true (σ.h.upd id (some (L 0))) σ.nx
  | .ret, σ => σ.h id = some (L 1) ∧ R false (σ.h.upd id (some (L 2))) σ.nx
  | .exit i, σ => σ.h id = some (L 1) ∧ R false (σ.h.upd id (some (L (i + 3)))) σ.nx
  | .panic _, _ => False
theorem beginK_norm {L : Nat → Blk} {id : Nat} {bd : Code} : beginK E L id bd Q .norm σ = (σ.h id = some (L 0) ∧ W E bd ⟨σ.sl, σ.h.upd id (some (L 1)), σ.nx⟩ Q) := rfl
theorem endK_norm {L : Nat → Blk} {id : Nat} {R : Bool → Heap → Nat → Prop} : endK L id R .norm σ = (σ.h id = some (L 1) ∧ R true (σ.h.upd id (some (L 0))) σ.nx) := rfl
theorem endK_ret {L : Nat → Blk} {id : Nat} {R : Bool → Heap → Nat → Prop} : endK L id R .ret σ = (σ.h id = some (L 1) ∧ R false (σ.h.upd id (some (L 2))) σ.nx) := rfl
theorem endK_exit {L : Nat → Blk} {id i : Nat} {R : Bool → Heap → Nat → Prop} : endK L id R (.exit i) σ = (σ.h id = some (L 1) ∧ R false (σ.h.upd id (some (L (i + 3)))) σ.nx) := rfl
theorem turn_loop {L : Nat → Blk} {ps : Array Tmp} {asg bd : Code} {sl : List AV} (hL : IsLoop L ps asg bd sl) (s s' : Nat) : turn s s' (some (L s)) = some (L s') := by
  rw [hL s, hL s']
  unfold turn loopRow
  simp
theorem denO_yield {L : Nat → Blk} {ps : Array Tmp} {asg bd : Code} {sl args : List AV} (hL : IsLoop L ps asg bd sl) {id : Nat} {h : Heap} {nx : Nat} {R : Bool → Heap → Nat → Prop} (hE : E.fn 1000003 = none ∧ E.df 1000003 = none) (hrow : h id = some (L 0)) (hlen : args.length = ps.size)
    (hw : W E asg ⟨setAll sl (ps.toList.zip args), h, nx⟩ (beginK E L id bd (endK L id R))) : ∃ b h' n', denO E 1000003 (args ++ [.ref id 0 0]) h nx = some (.ret (.bool b), h', n') ∧ R b h' n' := by
  obtain ⟨e, σ1, h1, h2⟩ := hw
  cases e with
  | norm =>
    obtain ⟨h3, e2, σ2, h4, h5⟩ := h2
    have hr : rowOf (h id) = some (ps, asg, bd, sl) := by rw [hrow, hL 0]; rfl
    have t1 : turn 0 1 (σ1.h id) = some (L 1) := by rw [h3]; exact turn_loop hL 0 1
    have main : ∀ s b, roundBy e2 = some (s, b) → σ2.h id = some (L 1) → R b (σ2.h.upd id (some (L s))) σ2.nx → ∃ b h' n', denO E 1000003 (args ++ [.ref id 0 0]) h nx = some (.ret (.bool b), h', n') ∧ R b h' n' := by
      intro s b hb h6 hR
      refine ⟨b, _, _, ?_, hR⟩
      have t2 : turn 1 s (σ2.h id) = some (L s) := by rw [h6]; exact turn_loop hL 1 s
      unfold denO
      simp only [body, hE.1, hE.2, if_true, yieldB, List.getLast?_append, List.getLast?_singleton, Option.some_or, refOf, List.dropLast_concat, yieldR, hr, hlen, h1, t1, h4, roundEnd, hb, t2]
    cases e2 with
    | norm => exact main 0 true rfl h5.1 h5.2
    | ret => exact main 2 false rfl h5.1 h5.2
    | exit i => exact main (i + 3) false rfl h5.1 h5.2
    | panic v => exact h5.elim
  | ret => exact h2.elim
  | exit i => exact h2.elim
  | panic v => exact h2.elim
theorem setAll_two {sl : List AV} {t u : Tmp} {x y : AV} : setAll sl (([t, u] : List Tmp).zip [x, y]) = (sl.set t x).set u y := rfl
theorem setAll_one {sl : List AV} {t : Tmp} {x : AV} : setAll sl (([t] : List Tmp).zip [x]) = sl.set t x := rfl
end
attribute [go_sem] setAll_two setAll_one beginK_norm endK_norm endK_ret endK_exit
end Vm

/- Walks: numbers that are tried. (Own work of this repo.) -/
namespace Go.Proofs.Ytiglncbaomoceaa
open Vm
set_option maxRecDepth 10000

abbrev pq (f : Bool) (x : Int) (g : Bool) (y : Int) : AV := .agg [.bool (ng x), .lst f ((dg x).map wd), .bool (ng y), .lst g ((dg y).map wd)]
abbrev pqrow (f : Bool) (x : Int) (g : Bool) (y : Int) : Blk := ⟨[.bool (ng x), .lst f ((dg x).map wd), .bool (ng y), .lst g ((dg y).map wd)], true, 4, false⟩
/-- A closure that leaves what is there alone. -/
def Calm (g : Nat) (l : List AV) (r : Res) (h : Heap) (nx : Nat) : Prop := ∀ (H : Heap) (N : Nat), nx ≤ N → (∀ i, i < nx → H i = h i) → ∃ H' N', denO E g l H N = some (r, H', N') ∧ N ≤ N' ∧ ∀ i, i < N → H' i = H i
theorem openK_get {Q : Ex → St → Prop} {σ : St} {all os : List Go.Oper} {dst : Option Nat} {x : Option (Res × Heap × Nat)} {v : AV} {h : Heap} {n : Nat} (hx : ∃ H' N', x = some (.ret v, H', N') ∧ n ≤ N' ∧ ∀ i, i < n → H' i = h i)
    (k : ∀ H' N', n ≤ N' → (∀ i, i < n → H' i = h i) → Rg E all os ⟨put σ.sl dst v, H', N'⟩ Q) : openK E all os dst Q σ x := by
  obtain ⟨H', N', rfl, h1, h2⟩ := hx
  exact k H' N' h1 h2
theorem tried1_ret (g : Nat) (a b : List AV) (hg : E.opn g = true) (fx fy : Bool) (x y : Int) (p q : Nat) (h : Heap) (nx : Nat) (hp : p < nx) (hq : q < nx) (hpq : p ≠ q) (hP : h p = some ⟨[.fn g a b], false, 1, false⟩) (hQ : ∃ c1 c2 c3 c4, h q = some ⟨[c1, c2, c3, c4], true, 4, false⟩) (spec : Calm g (a ++ b) (.ret (pq fx x fy y)) h nx) :
    ∃ h' n', denO E 66 [.ptr p 0, .ptr q 0] h nx = some (.ret (.tup []), h', n') ∧ nx ≤ n' ∧ h' q = some (pqrow fx x fy y) ∧ ∀ i, i ≠ q → i < nx → h' i = h i := by
  obtain ⟨c1, c2, c3, c4, hQ⟩ := hQ
  have key : ∃ v h' n', denO E 66 [.ptr p 0, .ptr q 0] h nx = some (.ret v, h', n') ∧ v = .tup [] ∧ nx ≤ n' ∧ h' q = some (pqrow fx x fy y) ∧ ∀ i, i ≠ q → i < nx → h' i = h i := by
    refine denO_intro E66 rfl ?_
    simp (maxSteps := 4000000) only [go_sem, ↓reduceIte, Nat.reduceAdd, Nat.reduceSub, Nat.reduceMul, Nat.reduceEqDiff, reduceCtorEq, Int.reduceAdd, Int.reduceLT, Int.reduceLE, Int.reduceToNat, Int.reduceNeg, Int.reduceSub, ← List.map_take, ← List.map_drop, ne_eq, Nat.reduceLeDiff, Nat.reduceLT, Nat.zero_le, Nat.le_refl, wrap64, wrapu64, wrapu32, ← Int.natCast_add, ← Int.natCast_mul, cast_succ, wrapu32_nat, shr32, reps_wd, map_set_wd, List.length_set, zs_len, Try.f66, hP, hg]
    refine openK_get (spec h nx (Nat.le_refl _) fun _ _ => rfl) fun H' N' h1 h2 => ?_
    have q1 := (h2 q hq).trans hQ
    simp (maxSteps := 4000000) only [go_sem, ↓reduceIte, Nat.reduceAdd, Nat.reduceSub, Nat.reduceMul, Nat.reduceEqDiff, reduceCtorEq, Int.reduceAdd, Int.reduceLT, Int.reduceLE, Int.reduceToNat, Int.reduceNeg, Int.reduceSub, ← List.map_take, ← List.map_drop, ne_eq, Nat.reduceLeDiff, Nat.reduceLT, Nat.zero_le, Nat.le_refl, wrap64, wrapu64, wrapu32, ← Int.natCast_add, ← Int.natCast_mul, cast_succ, wrapu32_nat, shr32, reps_wd, map_set_wd, List.length_set, zs_len, q1]
    refine ⟨h1, fun i hi1 hi2 => ?_⟩
    rw [if_neg hi1]
    exact h2 i hi2
  obtain ⟨v, h', n', h1, rfl, h2⟩ := key
  exact ⟨h', n', h1, h2⟩
theorem tried1_pan (g : Nat) (a b : List AV) (hg : E.opn g = true) (e : Int) (p q : Nat) (h : Heap) (nx : Nat) (hP : h p = some ⟨[.fn g a b], false, 1, false⟩) (spec : Calm g (a ++ b) (.panic (Thr e)) h nx) :
    ∃ h' n', denO E 66 [.ptr p 0, .ptr q 0] h nx = some (.panic (Thr e), h', n') ∧ nx ≤ n' ∧ ∀ i, i < nx → h' i = h i := by
  have key : ∃ v h' n', denO E 66 [.ptr p 0, .ptr q 0] h nx = some (.panic v, h', n') ∧ v = Thr e ∧ nx ≤ n' ∧ ∀ i, i < nx → h' i = h i := by
    refine denO_pan E66 rfl ?_
    simp (maxSteps := 4000000) only [go_sem, ↓reduceIte, Nat.reduceAdd, Nat.reduceSub, Nat.reduceMul, Nat.reduceEqDiff, reduceCtorEq, Int.reduceAdd, Int.reduceLT, Int.reduceLE, Int.reduceToNat, Int.reduceNeg, Int.reduceSub, ← List.map_take, ← List.map_drop, ne_eq, Nat.reduceLeDiff, Nat.reduceLT, Nat.zero_le, Nat.le_refl, wrap64, wrapu64, wrapu32, ← Int.natCast_add, ← Int.natCast_mul, cast_succ, wrapu32_nat, shr32, reps_wd, map_set_wd, List.length_set, zs_len, Try.f66, hP, hg]
    obtain ⟨H', N', h1, h2, h3⟩ := spec h nx (Nat.le_refl _) fun _ _ => rfl
    rw [h1]
    simp (maxSteps := 4000000) only [go_sem, ↓reduceIte, Nat.reduceAdd, Nat.reduceSub, Nat.reduceMul, Nat.reduceEqDiff, reduceCtorEq, Int.reduceAdd, Int.reduceLT, Int.reduceLE, Int.reduceToNat, Int.reduceNeg, Int.reduceSub, ← List.map_take, ← List.map_drop, ne_eq, Nat.reduceLeDiff, Nat.reduceLT, Nat.zero_le, Nat.le_refl, wrap64, wrapu64, wrapu32, ← Int.natCast_add, ← Int.natCast_mul, cast_succ, wrapu32_nat, shr32, reps_wd, map_set_wd, List.length_set, zs_len, openK_panic]
    exact ⟨h2, h3⟩
  obtain ⟨v, h', n', h1, rfl, h2⟩ := key
  exact ⟨h', n', h1, h2⟩
theorem Calm.sub {g : Nat} {l : List AV} {r : Res} {h h' : Heap} {nx nx' : Nat} (s : Calm g l r h nx) (hn : nx ≤ nx') (hh : ∀ i, i < nx → h' i = h i) : Calm g l r h' nx' := fun H N h1 h2 => s H N (by omega) fun i hi => (h2 i (by omega)).trans (hh i hi)
set_option maxHeartbeats 2000000 in
theorem tried_ret (g : Nat) (a b : List AV) (hg : E.opn g = true) (fx fy : Bool) (x y : Int) (h : Heap) (nx : Nat) (spec : Calm g (a ++ b) (.ret (pq fx x fy y)) h nx) :
    ∃ h' n', denO E 38 [.fn g a b] h nx = some (.ret (.tup [I fx x, I fy y, .int .i64 0]), h', n') ∧ nx ≤ n' ∧ ∀ i, i < nx → h' i = h i := by
  have key : ∃ v h' n', denO E 38 [.fn g a b] h nx = some (.ret v, h', n') ∧ v = .tup [I fx x, I fy y, .int .i64 0] ∧ nx ≤ n' ∧ ∀ i, i < nx → h' i = h i := by
    refine denO_intro E38 rfl ?_
    simp (maxSteps := 4000000) only [go_sem, ↓reduceIte, Nat.reduceAdd, Nat.reduceSub, Nat.reduceMul, Nat.reduceEqDiff, reduceCtorEq, Int.reduceAdd, Int.reduceLT, Int.reduceLE, Int.reduceToNat, Int.reduceNeg, Int.reduceSub, ← List.map_take, ← List.map_drop, ne_eq, Nat.reduceLeDiff, Nat.reduceLT, Nat.zero_le, Nat.le_refl, wrap64, wrapu64, wrapu32, ← Int.natCast_add, ← Int.natCast_mul, cast_succ, wrapu32_nat, shr32, reps_wd, map_set_wd, List.length_set, zs_len, Try.f38, Nat.add_assoc, off_ne, ne_off, places, fillAll]
    obtain ⟨H1, hH1⟩ : ∃ H1 : Heap, H1 = ((((h.upd nx (some ⟨[.fn g a b], false, 1, false⟩)).upd (nx + 1) (some ⟨[.bool false, .lst true []], true, 2, false⟩)).upd (nx + 2) (some ⟨[.bool false, .lst true []], true, 2, false⟩)).upd (nx + 3) (some ⟨[.bool false, .lst true [], .bool false, .lst true []], true, 4, false⟩)) := ⟨_, rfl⟩
    have L0 : H1 nx = some ⟨[.fn g a b], false, 1, false⟩ := by rw [hH1]; simp only [upd_apply, ↓reduceIte, Nat.reduceEqDiff, off_ne, ne_off, Nat.reduceEqDiff, Nat.add_right_inj]
    have L1 : H1 (nx + 1) = some ⟨[.bool false, .lst true []], true, 2, false⟩ := by rw [hH1]; simp only [upd_apply, ↓reduceIte, Nat.reduceEqDiff, off_ne, ne_off, Nat.add_right_inj]
    have L2 : H1 (nx + 2) = some ⟨[.bool false, .lst true []], true, 2, false⟩ := by rw [hH1]; simp only [upd_apply, ↓reduceIte, Nat.reduceEqDiff, off_ne, ne_off, Nat.add_right_inj]
    have L3 : H1 (nx + 3) = some ⟨[.bool false, .lst true [], .bool false, .lst true []], true, 4, false⟩ := by rw [hH1]; simp only [upd_apply, ↓reduceIte, Nat.reduceEqDiff, off_ne, ne_off, Nat.add_right_inj]
    have L4 : ∀ i, i < nx → H1 i = h i := fun i hi => by rw [hH1]; simp only [upd_apply]; (repeat rw [if_neg (by omega)])
    rw [← hH1]
    clear hH1
    obtain ⟨h', n', d, k1, k2, k3⟩ := tried1_ret g a b hg fx fy x y nx (nx + 3) (H1.upd (nx + 4) (some ⟨[.int .i64 0], false, 1, false⟩)) (nx + 5) (by omega) (by omega) (by omega) ((upd_ne (by omega)).trans L0) ⟨_, _, _, _, (upd_ne (by omega)).trans L3⟩ (spec.sub (by omega) fun i hi => (upd_ne (by omega)).trans (L4 i hi))
    obtain ⟨h2, n2, d2, m1, m2⟩ := try_ret 66 [] [.ptr nx 0, .ptr (nx + 3) 0] rfl (.tup []) H1 h' (nx + 4) n' d ((k3 (nx + 4) (by omega) (by omega)).trans (if_pos rfl)) (by omega)
    refine openK_any d2 ?_
    have r1 : h2 (nx + 1) = some ⟨[.bool false, .lst true []], true, 2, false⟩ := (m2 _ (by omega) (by omega)).trans ((k3 _ (by omega) (by omega)).trans ((upd_ne (by omega)).trans L1))
    have r2 : h2 (nx + 2) = some ⟨[.bool false, .lst true []], true, 2, false⟩ := (m2 _ (by omega) (by omega)).trans ((k3 _ (by omega) (by omega)).trans ((upd_ne (by omega)).trans L2))
    have r3 : h2 (nx + 3) = some (pqrow fx x fy y) := (m2 _ (by omega) (by omega)).trans k2
    have r4 : ∀ i, i < nx → h2 i = h i := fun i hi => (m2 _ (by omega) (by omega)).trans ((k3 _ (by omega) (by omega)).trans ((upd_ne (by omega)).trans (L4 i hi)))
    clear d d2 k2 k3 m2 spec L0 L1 L2 L3 L4
    simp (maxSteps := 4000000) only [go_sem, ↓reduceIte, Nat.reduceAdd, Nat.reduceSub, Nat.reduceMul, Nat.reduceEqDiff, reduceCtorEq, Int.reduceAdd, Int.reduceLT, Int.reduceLE, Int.reduceToNat, Int.reduceNeg, Int.reduceSub, ← List.map_take, ← List.map_drop, ne_eq, Nat.reduceLeDiff, Nat.reduceLT, Nat.zero_le, Nat.le_refl, wrap64, wrapu64, wrapu32, ← Int.natCast_add, ← Int.natCast_mul, cast_succ, wrapu32_nat, shr32, reps_wd, map_set_wd, List.length_set, zs_len, Int.reduceEq, Nat.add_right_inj]
    refine W_drawn2 ?_
    simp (maxSteps := 4000000) only [go_sem, ↓reduceIte, Nat.reduceAdd, Nat.reduceSub, Nat.reduceMul, Nat.reduceEqDiff, reduceCtorEq, Int.reduceAdd, Int.reduceLT, Int.reduceLE, Int.reduceToNat, Int.reduceNeg, Int.reduceSub, ← List.map_take, ← List.map_drop, ne_eq, Nat.reduceLeDiff, Nat.reduceLT, Nat.zero_le, Nat.le_refl, wrap64, wrapu64, wrapu32, ← Int.natCast_add, ← Int.natCast_mul, cast_succ, wrapu32_nat, shr32, reps_wd, map_set_wd, List.length_set, zs_len, r1, r2, r3, Nat.add_right_inj, off_ne, ne_off]
    refine ⟨by exact allW_of [(28, 0), (28, 2)] [0, 1, 0, 4, 3, 31, 63] (by kernel_rfl) (by ((simp only [List.flatMap_cons, List.flatMap_nil, cr, List.append_nil, List.nil_append, List.cons_append]); rfl)) (by ((simp (disch := omega) [sts, stB, allS, stOk, cr, Dep.ok, loadEff, upd_apply, if_neg, T1, T2, T3, T4, T5, T6, T9, T10, T11, T12, T15, T16, T17, T20, T21, T22, T23, T25, T26, T27, T28, T30, T31, T32, T33, T34, T36, T37, T38, T39, T40, T41, T43, T44, T46, T47, T48, T49, T50, T51, T52, T53, T54, T55, T56, T57, T58, T59, T60, T61, T62, T63, T64, T65, T67, T68, T69, T70, T71, T72, T73, T74, T75, T76, T77, T78, T80, T81, T83, T84, T86, T87, T88, T89, T90, T91, T93, T94, T95, T96, T98, T99, T100, T101, T103, T105, T106, T107, T108, T109, T110, T111, T112, T113, T114, T117, T120, T121, T122, T123, T124, T125, T126, r1, r2, r3]) <;> (repeat (any_goals apply And.intro)) <;> (first | omega | rfl | (intro hx; first | omega | rfl)))) (by ((repeat ((with_unfolding_all refine And.intro ?_ ?_); (focus ((with_unfolding_all refine ⟨?_, ?_, ?_⟩) <;> ((intro i hi hj); (simp only [cr, Rec.ids, List.map_cons, List.map_nil, List.mem_cons, List.not_mem_nil, or_false, false_or] at hi hj); (first | done | omega)))))); (with_unfolding_all exact True.intro))), by omega, fun i hi => ?_⟩
    rw [if_neg (by omega), if_neg (by omega)]
    exact r4 i hi
  obtain ⟨v, h', n', h1, rfl, h2⟩ := key
  exact ⟨h', n', h1, h2⟩
set_option maxHeartbeats 2000000 in
theorem tried_pan (g : Nat) (a b : List AV) (hg : E.opn g = true) (e : Int) (he : e ≠ 0) (h : Heap) (nx : Nat) (spec : Calm g (a ++ b) (.panic (Thr e)) h nx) :
    ∃ h' n', denO E 38 [.fn g a b] h nx = some (.ret (.tup [I true 0, I true 0, .int .i64 e]), h', n') ∧ nx ≤ n' ∧ ∀ i, i < nx → h' i = h i := by
  have key : ∃ v h' n', denO E 38 [.fn g a b] h nx = some (.ret v, h', n') ∧ v = .tup [I true 0, I true 0, .int .i64 e] ∧ nx ≤ n' ∧ ∀ i, i < nx → h' i = h i := by
    refine denO_intro E38 rfl ?_
    simp (maxSteps := 4000000) only [go_sem, ↓reduceIte, Nat.reduceAdd, Nat.reduceSub, Nat.reduceMul, Nat.reduceEqDiff, reduceCtorEq, Int.reduceAdd, Int.reduceLT, Int.reduceLE, Int.reduceToNat, Int.reduceNeg, Int.reduceSub, ← List.map_take, ← List.map_drop, ne_eq, Nat.reduceLeDiff, Nat.reduceLT, Nat.zero_le, Nat.le_refl, wrap64, wrapu64, wrapu32, ← Int.natCast_add, ← Int.natCast_mul, cast_succ, wrapu32_nat, shr32, reps_wd, map_set_wd, List.length_set, zs_len, Try.f38, Nat.add_assoc, off_ne, ne_off, places, fillAll]
    obtain ⟨H1, hH1⟩ : ∃ H1 : Heap, H1 = ((((h.upd nx (some ⟨[.fn g a b], false, 1, false⟩)).upd (nx + 1) (some ⟨[.bool false, .lst true []], true, 2, false⟩)).upd (nx + 2) (some ⟨[.bool false, .lst true []], true, 2, false⟩)).upd (nx + 3) (some ⟨[.bool false, .lst true [], .bool false, .lst true []], true, 4, false⟩)) := ⟨_, rfl⟩
    have L0 : H1 nx = some ⟨[.fn g a b], false, 1, false⟩ := by rw [hH1]; simp only [upd_apply, ↓reduceIte, Nat.reduceEqDiff, off_ne, ne_off, Nat.reduceEqDiff, Nat.add_right_inj]
    have L1 : H1 (nx + 1) = some ⟨[.bool false, .lst true []], true, 2, false⟩ := by rw [hH1]; simp only [upd_apply, ↓reduceIte, Nat.reduceEqDiff, off_ne, ne_off, Nat.add_right_inj]
    have L2 : H1 (nx + 2) = some ⟨[.bool false, .lst true []], true, 2, false⟩ := by rw [hH1]; simp only [upd_apply, ↓reduceIte, Nat.reduceEqDiff, off_ne, ne_off, Nat.add_right_inj]
    have L3 : H1 (nx + 3) = some ⟨[.bool false, .lst true [], .bool false, .lst true []], true, 4, false⟩ := by rw [hH1]; simp only [upd_apply, ↓reduceIte, Nat.reduceEqDiff, off_ne, ne_off, Nat.add_right_inj]
    have L4 : ∀ i, i < nx → H1 i = h i := fun i hi => by rw [hH1]; simp only [upd_apply]; (repeat rw [if_neg (by omega)])
    rw [← hH1]
    clear hH1
    obtain ⟨h', n', d, k1, k3⟩ := tried1_pan g a b hg e nx (nx + 3) (H1.upd (nx + 4) (some ⟨[.int .i64 0], false, 1, false⟩)) (nx + 5) ((upd_ne (by omega)).trans L0) (spec.sub (by omega) fun i hi => (upd_ne (by omega)).trans (L4 i hi))
    obtain ⟨h2, n2, d2, m1, m2⟩ := try_pan 66 [] [.ptr nx 0, .ptr (nx + 3) 0] rfl e H1 h' (nx + 4) n' d ((k3 (nx + 4) (by omega)).trans (if_pos rfl)) (by omega)
    refine openK_any d2 ?_
    have r1 : h2 (nx + 1) = some ⟨[.bool false, .lst true []], true, 2, false⟩ := (m2 _ (by omega) (by omega)).trans ((k3 _ (by omega)).trans ((upd_ne (by omega)).trans L1))
    have r2 : h2 (nx + 2) = some ⟨[.bool false, .lst true []], true, 2, false⟩ := (m2 _ (by omega) (by omega)).trans ((k3 _ (by omega)).trans ((upd_ne (by omega)).trans L2))
    have r4 : ∀ i, i < nx → h2 i = h i := fun i hi => (m2 _ (by omega) (by omega)).trans ((k3 _ (by omega)).trans ((upd_ne (by omega)).trans (L4 i hi)))
    clear d d2 k3 m2 spec L0 L1 L2 L3 L4
    have z1 : (e = 0) = False := eq_false he
    have q0 := ng_zero
    have q1 := dg_zero
    simp (maxSteps := 4000000) only [go_sem, ↓reduceIte, Nat.reduceAdd, Nat.reduceSub, Nat.reduceMul, Nat.reduceEqDiff, reduceCtorEq, Int.reduceAdd, Int.reduceLT, Int.reduceLE, Int.reduceToNat, Int.reduceNeg, Int.reduceSub, ← List.map_take, ← List.map_drop, ne_eq, Nat.reduceLeDiff, Nat.reduceLT, Nat.zero_le, Nat.le_refl, wrap64, wrapu64, wrapu32, ← Int.natCast_add, ← Int.natCast_mul, cast_succ, wrapu32_nat, shr32, reps_wd, map_set_wd, List.length_set, zs_len, z1, r1, r2, Nat.add_right_inj, off_ne, ne_off, places, fillAll, ng_zero, dg_zero]
    refine ⟨by omega, fun i hi => ?_⟩
    rw [if_neg (by omega), if_neg (by omega)]
    exact r4 i hi
  obtain ⟨v, h', n', h1, rfl, h2⟩ := key
  exact ⟨h', n', h1, h2⟩
end Go.Proofs.Ytiglncbaomoceaa

/- Plain mathematics for chapter 7: the expansion of a root. (Own work of this repo.) -/
namespace Pel

/-- r is the root of D, rounded down, and D is no square. -/
structure Rt (D r : Int) : Prop where
  pos : 1 ≤ r
  lo : r * r < D
  hi : D < (r + 1) * (r + 1)
/-- A stage: the root is followed by (root + p) / q. -/
structure Stg (D r p q : Int) : Prop where
  p0 : 0 < p
  pr : p ≤ r
  q0 : 0 < q
  dv : q ∣ D - p * p
  lo : r < p + q
  hi : q ≤ r + p
variable {D r : Int}

theorem fl_spec {x q : Int} (hq : 0 < q) : q * (x / q) ≤ x ∧ x < q * (x / q) + q := by
  have h1 := Int.mul_ediv_add_emod x q
  have h2 := Int.emod_nonneg x (show q ≠ 0 by omega)
  have h3 := Int.emod_lt_of_pos x hq
  omega
theorem fl_uniq {x q a : Int} (hq : 0 < q) (h1 : q * a ≤ x) (h2 : x < q * a + q) : x / q = a := by
  have ⟨g1, g2⟩ := fl_spec (x := x) hq
  have e1 : q * (x / q) < q * (a + 1) := by rw [Int.mul_add]; omega
  have e2 : q * a < q * (x / q + 1) := by rw [Int.mul_add]; omega
  have := Int.lt_of_mul_lt_mul_left e1 (by omega)
  have := Int.lt_of_mul_lt_mul_left e2 (by omega)
  omega
/-- What the next stage is. -/
def np (r p q : Int) : Int := (r + p) / q * q - p
def nq (D r p q : Int) : Int := (D - np r p q * np r p q) / q
theorem np_bounds {p q : Int} (hq : 0 < q) : np r p q ≤ r ∧ r < np r p q + q := by
  have ⟨g1, g2⟩ := fl_spec (x := r + p) hq
  unfold np
  rw [Int.mul_comm] at g1 g2
  omega
theorem nq_mul {p q : Int} (hq : 0 < q) (hd : q ∣ D - p * p) : q * nq D r p q = D - np r p q * np r p q := by
  unfold nq
  refine Int.mul_ediv_cancel' ?_
  have e : D - np r p q * np r p q = D - p * p + q * ((r + p) / q * (2 * p - (r + p) / q * q)) := by
    unfold np
    generalize (r + p) / q = a
    have e1 : (a * q - p) * (a * q - p) = a * q * (a * q) - 2 * (a * q * p) + p * p := by
      rw [Int.sub_mul, Int.mul_sub, Int.mul_sub, Int.mul_comm p (a * q)]; omega
    have e2 : q * (a * (2 * p - a * q)) = 2 * (a * q * p) - a * q * (a * q) := by
      rw [Int.mul_sub, Int.mul_sub]
      have e3 : q * (a * (2 * p)) = 2 * (a * q * p) := by
        rw [← Int.mul_assoc, Int.mul_comm q a, Int.mul_left_comm]
      have e4 : q * (a * (a * q)) = a * q * (a * q) := by
        rw [← Int.mul_assoc, Int.mul_comm q a]
      rw [e3, e4]
    rw [e1, e2]; omega
  rw [e]
  exact Int.dvd_add hd (Int.dvd_mul_right _ _)
theorem sq_le {a b : Int} (h0 : 0 ≤ a) (h : a ≤ b) : a * a ≤ b * b := Int.mul_le_mul h h h0 (by omega)
/-- The facts about the next stage that need little of the one before. -/
theorem next_of (hr : Rt D r) {p q : Int} (hq : 0 < q) (hd : q ∣ D - p * p) (hp' : 0 < np r p q) (hqu : q ≤ r + np r p q) : Stg D r (np r p q) (nq D r p q) := by
  obtain ⟨b1, b2⟩ := np_bounds (r := r) (p := p) hq
  have hm := nq_mul (r := r) hq hd
  generalize np r p q = p' at *
  generalize nq D r p q = q' at *
  have h1 : p' * p' ≤ r * r := sq_le (by omega) b1
  have hq' : 0 < q' := by
    rcases Int.lt_or_le 0 q' with h | h
    · exact h
    · have := Int.mul_nonpos_of_nonneg_of_nonpos (Int.le_of_lt hq) h
      have := hr.lo; omega
  refine ⟨hp', b1, hq', ⟨q, by rw [← hm, Int.mul_comm]⟩, ?_, ?_⟩
  · rcases Int.lt_or_le r (p' + q') with h | h
    · exact h
    · exfalso
      have e1 : q * q' ≤ (r + p') * (r - p') := Int.mul_le_mul hqu (by omega) (by omega) (by omega)
      have e2 : (r + p') * (r - p') = r * r - p' * p' := by rw [Int.add_mul, Int.mul_sub, Int.mul_sub, Int.mul_comm r p']; omega
      have := hr.lo; omega
  · rcases Int.lt_or_le (r + p') q' with h | h
    · exfalso
      have e1 : (r + 1 - p') * (r + 1 + p') ≤ q * q' := Int.mul_le_mul (by omega) (by omega) (by omega) (by omega)
      have e2 : (r + 1 - p') * (r + 1 + p') = (r + 1) * (r + 1) - p' * p' := by rw [Int.sub_mul, Int.mul_add (r + 1) (r + 1) p', Int.mul_add p', Int.mul_comm p' (r + 1)]; omega
      have := hr.hi; omega
    · exact h
theorem next_stg (hr : Rt D r) {p q : Int} (h : Stg D r p q) : Stg D r (np r p q) (nq D r p q) := by
  obtain ⟨b1, b2⟩ := np_bounds (r := r) (p := p) h.q0
  have ha : 1 ≤ (r + p) / q := by
    rcases Int.lt_or_le 0 ((r + p) / q) with g | g
    · exact g
    · have ⟨g1, g2⟩ := fl_spec (x := r + p) h.q0
      have := Int.mul_nonpos_of_nonneg_of_nonpos (Int.le_of_lt h.q0) g
      have := h.hi; omega
  have hs : p + np r p q = (r + p) / q * q := by unfold np; omega
  have hge : q ≤ (r + p) / q * q := by
    have := Int.mul_le_mul_of_nonneg_right ha (Int.le_of_lt h.q0); omega
  refine next_of hr h.q0 h.dv ?_ (by have := h.pr; omega)
  rcases Int.lt_or_le r q with g | g
  · have := h.pr; omega
  · omega
theorem first_stg (hr : Rt D r) : np r 0 1 = r ∧ nq D r 0 1 = D - r * r ∧ Stg D r r (D - r * r) := by
  have e1 : np r 0 1 = r := by unfold np; rw [Int.add_zero, Int.ediv_one]; omega
  have e2 : nq D r 0 1 = D - r * r := by unfold nq; rw [e1, Int.ediv_one]
  refine ⟨e1, e2, ?_⟩
  have := next_of (p := 0) (q := 1) hr (by omega) (Int.one_dvd _) (by rw [e1]; have := hr.pos; omega) (by rw [e1]; have := hr.pos; omega)
  rwa [e1, e2] at this
/-- The stages. -/
def P (D r : Int) : Nat → Int × Int
  | 0 => (0, 1)
  | n + 1 => (np r (P D r n).1 (P D r n).2, nq D r (P D r n).1 (P D r n).2)
def A (D r : Int) (n : Nat) : Int := (r + (P D r n).1) / (P D r n).2
theorem P_zero : P D r 0 = (0, 1) := rfl
theorem P_succ (n : Nat) : P D r (n + 1) = (A D r n * (P D r n).2 - (P D r n).1, (D - (A D r n * (P D r n).2 - (P D r n).1) * (A D r n * (P D r n).2 - (P D r n).1)) / (P D r n).2) := rfl
theorem P_one (hr : Rt D r) : P D r 1 = (r, D - r * r) := by
  obtain ⟨h1, h2, _⟩ := first_stg hr
  show (np r 0 1, nq D r 0 1) = _
  rw [h1, h2]
theorem stg (hr : Rt D r) : ∀ n, Stg D r (P D r (n + 1)).1 (P D r (n + 1)).2
  | 0 => by rw [P_one hr]; exact (first_stg hr).2.2
  | n + 1 => next_stg hr (stg hr n)
theorem A_zero : A D r 0 = r := by show (r + 0) / 1 = r; rw [Int.add_zero, Int.ediv_one]
theorem q_pos (hr : Rt D r) (n : Nat) : 0 < (P D r n).2 := by
  cases n with
  | zero => exact Int.one_pos
  | succ n => exact (stg hr n).q0
theorem q_dvd (hr : Rt D r) (n : Nat) : (P D r n).2 ∣ D - (P D r n).1 * (P D r n).1 := by
  cases n with
  | zero => exact Int.one_dvd _
  | succ n => exact (stg hr n).dv
theorem q_mul (hr : Rt D r) (n : Nat) : (P D r n).2 * (P D r (n + 1)).2 = D - (P D r (n + 1)).1 * (P D r (n + 1)).1 := nq_mul (q_pos hr n) (q_dvd hr n)
theorem p_add (n : Nat) : (P D r n).1 + (P D r (n + 1)).1 = A D r n * (P D r n).2 := by
  show (P D r n).1 + np r (P D r n).1 (P D r n).2 = _
  unfold np A; omega
/-- The element, from behind. -/
theorem A_back (hr : Rt D r) (n : Nat) : A D r (n + 1) = (r + (P D r (n + 2)).1) / (P D r (n + 1)).2 := by
  have h := stg hr n
  have e := p_add (D := D) (r := r) (n + 1)
  rw [show n + 1 + 1 = n + 2 from rfl] at e
  symm
  refine fl_uniq h.q0 ?_ ?_
  · rw [Int.mul_comm]; have := h.pr; omega
  · rw [Int.mul_comm]; have := h.lo; omega
theorem A_pos (hr : Rt D r) (n : Nat) : 1 ≤ A D r n := by
  cases n with
  | zero => rw [A_zero]; exact hr.pos
  | succ n =>
    have h := stg hr n
    rcases Int.lt_or_le 0 (A D r (n + 1)) with g | g
    · exact g
    · have ⟨g1, g2⟩ := fl_spec (x := r + (P D r (n + 1)).1) h.q0
      have := Int.mul_nonpos_of_nonneg_of_nonpos (Int.le_of_lt h.q0) g
      unfold A at *
      have := h.hi; omega
/-- The last element of a period. -/
theorem last_iff (hr : Rt D r) (n : Nat) : A D r (n + 1) = 2 * r ↔ (P D r (n + 1)).2 = 1 := by
  have h := stg hr n
  constructor
  · intro ha
    have ⟨g1, g2⟩ := fl_spec (x := r + (P D r (n + 1)).1) h.q0
    unfold A at ha
    rw [ha] at g1 g2
    have h1 := h.pr
    have h2 := hr.pos
    rcases Int.lt_or_le 1 (P D r (n + 1)).2 with g | g
    · have := Int.mul_le_mul_of_nonneg_right (show 2 ≤ (P D r (n + 1)).2 by omega) (show 0 ≤ 2 * r by omega)
      omega
    · have := h.q0; omega
  · intro hq
    have hp : (P D r (n + 1)).1 = r := by have h1 := h.pr; have h2 := h.lo; omega
    unfold A
    rw [hq, hp, Int.ediv_one]; omega
theorem last_p (hr : Rt D r) {n : Nat} (hq : (P D r (n + 1)).2 = 1) : (P D r (n + 1)).1 = r := by
  have h := stg hr n
  have h1 := h.pr; have h2 := h.lo; omega
/-- Behind the last element the stages begin anew. -/
theorem again_iff (hr : Rt D r) (n : Nat) : P D r (n + 2) = P D r 1 ↔ (P D r (n + 1)).2 = 1 := by
  have hm := q_mul hr (n + 1)
  have h1 := P_one hr
  constructor
  · intro h
    rw [h, h1] at hm
    dsimp only at hm
    have h2 := (first_stg hr).2.2.q0
    have : (P D r (n + 1)).2 * (D - r * r) = 1 * (D - r * r) := by rw [hm, Int.one_mul]
    exact Int.eq_of_mul_eq_mul_right (by omega) this
  · intro h
    have hp := last_p hr h
    have e := p_add (D := D) (r := r) (n + 1)
    have ha := (last_iff hr n).2 h
    rw [ha, h, hp] at e
    rw [h] at hm
    have e1 : (P D r (n + 2)).1 = r := by have : (P D r (n + 1 + 1)).1 = (P D r (n + 2)).1 := rfl; omega
    have e2 : (P D r (n + 2)).2 = D - r * r := by
      rw [show n + 1 + 1 = n + 2 from rfl, e1, Int.one_mul] at hm
      exact hm
    rw [h1]
    exact Prod.ext e1 e2
/-- One stage tells the one before. -/
theorem back (hr : Rt D r) {m n : Nat} (h : P D r (m + 2) = P D r (n + 2)) : P D r (m + 1) = P D r (n + 1) := by
  have h1 := q_mul hr (m + 1)
  have h2 := q_mul hr (n + 1)
  have hq := (stg hr (n + 1)).q0
  have e1 : P D r (m + 1 + 1) = P D r (n + 1 + 1) := h
  rw [e1] at h1
  have eq : (P D r (m + 1)).2 = (P D r (n + 1)).2 := by
    have : (P D r (m + 1)).2 * (P D r (n + 1 + 1)).2 = (P D r (n + 1)).2 * (P D r (n + 1 + 1)).2 := by rw [h1, h2]
    exact Int.eq_of_mul_eq_mul_right (by omega) this
  have a1 := A_back hr m
  have a2 := A_back hr n
  rw [h, eq] at a1
  have s1 := p_add (D := D) (r := r) (m + 1)
  have s2 := p_add (D := D) (r := r) (n + 1)
  rw [a1, ← a2, eq, e1] at s1
  exact Prod.ext (by omega) eq
theorem back_all (hr : Rt D r) : ∀ (m n : Nat), P D r (m + 1) = P D r (m + n + 1) → P D r 1 = P D r (n + 1)
  | 0, n, h => by rw [Nat.zero_add] at h; rwa [Nat.zero_add] at h
  | m + 1, n, h => back_all hr m n (back hr (m := m) (n := m + n) (by rw [show m + n + 2 = m + 1 + n + 1 by omega]; exact h))
end Pel

/- Plain mathematics for chapter 7: the period, its symmetry, the convergents. (Own work of this repo.) -/
namespace Pel

theorem mmmc (a b c d : Int) : a * b * (c * d) = a * c * (b * d) := by rw [Int.mul_assoc, Int.mul_left_comm b, ← Int.mul_assoc]
/-- A list without repetitions is not longer than one that holds it. -/
theorem nodup_len {α : Type} [DecidableEq α] : ∀ (l m : List α), l.Nodup → (∀ x ∈ l, x ∈ m) → l.length ≤ m.length
  | [], m, _, _ => Nat.zero_le _
  | x :: l, m, hn, h => by
    obtain ⟨n1, n2⟩ := List.nodup_cons.1 hn
    have hx : x ∈ m := h x List.mem_cons_self
    have := nodup_len l (m.erase x) n2 fun y hy => (List.mem_erase_of_ne (fun e => n1 (by rw [← e]; exact hy))).2 (h y (List.mem_cons_of_mem _ hy))
    have h2 := List.length_erase_of_mem hx
    have h3 := List.length_pos_of_mem hx
    simp only [List.length_cons]
    omega
theorem nodup_map {α β : Type} (f : α → β) : ∀ (l : List α), l.Nodup → (∀ x ∈ l, ∀ y ∈ l, f x = f y → x = y) → (l.map f).Nodup
  | [], _, _ => List.nodup_nil
  | x :: l, hn, h => by
    obtain ⟨n1, n2⟩ := List.nodup_cons.1 hn
    rw [List.map_cons, List.nodup_cons]
    refine ⟨fun hm => ?_, nodup_map f l n2 fun y hy z hz => h y (List.mem_cons_of_mem _ hy) z (List.mem_cons_of_mem _ hz)⟩
    obtain ⟨y, hy, e⟩ := List.mem_map.1 hm
    exact n1 (by rw [← h y (List.mem_cons_of_mem _ hy) x List.mem_cons_self e]; exact hy)
variable {D r : Int}
theorem stage_code (hr : Rt D r) (n : Nat) : ((P D r (n + 1)).1 * (2 * r + 1) + (P D r (n + 1)).2).toNat ∈ List.range ((r + 1) * (2 * r + 1)).toNat := by
  have h := stg hr n
  have h1 := h.pr
  have h2 := h.hi
  have h3 := h.q0
  have h4 := h.p0
  have h5 := hr.pos
  have e1 : (P D r (n + 1)).1 * (2 * r + 1) ≤ r * (2 * r + 1) := Int.mul_le_mul_of_nonneg_right h1 (by omega)
  have e2 : (r + 1) * (2 * r + 1) = r * (2 * r + 1) + (2 * r + 1) := by rw [Int.add_mul, Int.one_mul]
  have e3 : 0 ≤ (P D r (n + 1)).1 * (2 * r + 1) := Int.mul_nonneg (by omega) (by omega)
  rw [List.mem_range]
  omega
theorem stage_inj (hr : Rt D r) {m n : Nat} (h : ((P D r (m + 1)).1 * (2 * r + 1) + (P D r (m + 1)).2).toNat = ((P D r (n + 1)).1 * (2 * r + 1) + (P D r (n + 1)).2).toNat) : P D r (m + 1) = P D r (n + 1) := by
  have a := stg hr m
  have b := stg hr n
  have a1 := a.pr; have a2 := a.hi; have a3 := a.q0; have a4 := a.p0
  have b1 := b.pr; have b2 := b.hi; have b3 := b.q0; have b4 := b.p0
  have h5 := hr.pos
  have e3 : 0 ≤ (P D r (m + 1)).1 * (2 * r + 1) := Int.mul_nonneg (by omega) (by omega)
  have e4 : 0 ≤ (P D r (n + 1)).1 * (2 * r + 1) := Int.mul_nonneg (by omega) (by omega)
  have hz : (P D r (m + 1)).1 * (2 * r + 1) + (P D r (m + 1)).2 = (P D r (n + 1)).1 * (2 * r + 1) + (P D r (n + 1)).2 := by omega
  generalize P D r (m + 1) = x at *
  generalize P D r (n + 1) = y at *
  obtain ⟨p, q⟩ := x
  obtain ⟨p', q'⟩ := y
  dsimp only at *
  have hp : p = p' := by
    rcases Int.lt_trichotomy p p' with g | g | g
    · have := Int.mul_le_mul_of_nonneg_right (show p + 1 ≤ p' by omega) (show 0 ≤ 2 * r + 1 by omega)
      rw [Int.add_mul] at this; omega
    · exact g
    · have := Int.mul_le_mul_of_nonneg_right (show p' + 1 ≤ p by omega) (show 0 ≤ 2 * r + 1 by omega)
      rw [Int.add_mul] at this; omega
  subst hp
  rw [show q = q' by omega]
/-- Some stage has q = 1 again. -/
theorem ends (hr : Rt D r) : ∃ n, (P D r (n + 1)).2 = 1 := by
  have hN : ∃ m n, m < n ∧ P D r (m + 1) = P D r (n + 1) := by
    refine Classical.byContradiction fun hno => ?_
    have hinj : ∀ m n, P D r (m + 1) = P D r (n + 1) → m = n := fun m n h => by
      rcases Nat.lt_trichotomy m n with g | g | g
      · exact absurd ⟨m, n, g, h⟩ hno
      · exact g
      · exact absurd ⟨n, m, g, h.symm⟩ hno
    have := nodup_len ((List.range (((r + 1) * (2 * r + 1)).toNat + 1)).map fun n => ((P D r (n + 1)).1 * (2 * r + 1) + (P D r (n + 1)).2).toNat) (List.range ((r + 1) * (2 * r + 1)).toNat)
      (nodup_map _ _ List.nodup_range fun x _ y _ e => hinj x y (stage_inj hr e)) (fun x hx => by obtain ⟨n, _, rfl⟩ := List.mem_map.1 hx; exact stage_code hr n)
    simp at this
    omega
  obtain ⟨m, n, hlt, h⟩ := hN
  obtain ⟨k, rfl⟩ : ∃ k, n = m + (k + 1) := ⟨n - m - 1, by omega⟩
  have := back_all hr m (k + 1) h
  exact ⟨k, (again_iff hr k).1 this.symm⟩
theorem least_nat {p : Nat → Prop} [DecidablePred p] (h : ∃ n, p n) : ∃ n, p n ∧ ∀ m, m < n → ¬ p m := by
  obtain ⟨n, hn⟩ := h
  induction n using Nat.strongRecOn with
  | _ n ih =>
    by_cases hm : ∃ m, m < n ∧ p m
    · obtain ⟨m, h1, h2⟩ := hm
      exact ih m h1 h2
    · exact ⟨n, hn, fun m h1 h2 => hm ⟨m, h1, h2⟩⟩
/-- The length of the period. -/
def Per (D r : Int) (L : Nat) : Prop := 1 ≤ L ∧ (P D r L).2 = 1 ∧ ∀ n, 1 ≤ n → n < L → (P D r n).2 ≠ 1
theorem per_ex (hr : Rt D r) : ∃ L, Per D r L := by
  obtain ⟨n, h1, h2⟩ := least_nat (ends hr)
  exact ⟨n + 1, by omega, h1, fun m h3 h4 => by obtain ⟨k, rfl⟩ : ∃ k, m = k + 1 := ⟨m - 1, by omega⟩; exact h2 k (by omega)⟩
theorem per_uniq {L L' : Nat} (h : Per D r L) (h' : Per D r L') : L = L' := by
  rcases Nat.lt_trichotomy L L' with g | g | g
  · exact absurd h.2.1 (h'.2.2 L h.1 g)
  · exact g
  · exact absurd h'.2.1 (h.2.2 L' h'.1 g)
/-- Within the period no stage comes twice. -/
theorem per_inj (hr : Rt D r) {L : Nat} (hL : Per D r L) {m n : Nat} (hm : m < n) (hn : n < L) : P D r (m + 1) ≠ P D r (n + 1) := by
  intro h
  obtain ⟨k, rfl⟩ : ∃ k, n = m + (k + 1) := ⟨n - m - 1, by omega⟩
  have := back_all hr m (k + 1) h
  exact hL.2.2 (k + 1) (by omega) (by omega) ((again_iff hr k).1 this.symm)
/-- The stages, from both ends. -/
theorem mirror (hr : Rt D r) {L : Nat} (hL : Per D r L) : ∀ i, i < L → (P D r i).2 = (P D r (L - i)).2 ∧ (P D r (i + 1)).1 = (P D r (L - i)).1
  | 0, h => by
    obtain ⟨k, rfl⟩ : ∃ k, L = k + 1 := ⟨L - 1, by omega⟩
    refine ⟨hL.2.1.symm, ?_⟩
    rw [Nat.zero_add, P_one hr, Nat.sub_zero, last_p hr hL.2.1]
  | i + 1, h => by
    obtain ⟨h1, h2⟩ := mirror hr hL i (by omega)
    obtain ⟨k, hk⟩ : ∃ k, L - i = k + 2 := ⟨L - i - 2, by omega⟩
    have hk' : L - (i + 1) = k + 1 := by omega
    rw [hk] at h1 h2
    rw [hk']
    have m1 := q_mul hr i
    have m2 := q_mul hr (k + 1)
    have hq : (P D r (i + 1)).2 = (P D r (k + 1)).2 := by
      rw [h2, h1] at m1
      rw [show k + 1 + 1 = k + 2 from rfl, Int.mul_comm] at m2
      have := q_pos hr (k + 2)
      exact Int.eq_of_mul_eq_mul_left (by omega) (m1.trans m2.symm)
    refine ⟨hq, ?_⟩
    have a1 : A D r (i + 1) = A D r (k + 1) := by
      rw [A_back hr k]
      unfold A
      rw [h2, hq]
    have s1 := p_add (D := D) (r := r) (i + 1)
    have s2 := p_add (D := D) (r := r) (k + 1)
    rw [a1, hq] at s1
    rw [show i + 1 + 1 = i + 2 from rfl] at s1 ⊢
    rw [show k + 1 + 1 = k + 2 from rfl] at s2
    omega
theorem palin (hr : Rt D r) {L : Nat} (hL : Per D r L) {i : Nat} (h0 : 1 ≤ i) (h : i < L) : A D r i = A D r (L - i) := by
  obtain ⟨m1, m2⟩ := mirror hr hL i h
  obtain ⟨m3, m4⟩ := mirror hr hL (i - 1) (by omega)
  obtain ⟨k, hk⟩ : ∃ k, L - i = k + 1 := ⟨L - i - 1, by omega⟩
  obtain ⟨j, hj⟩ : ∃ j, i = j + 1 := ⟨i - 1, by omega⟩
  subst hj
  rw [show j + 1 - 1 = j from rfl, show L - j = k + 2 by omega] at m4
  rw [hk] at m1 m2 ⊢
  rw [A_back hr k]
  unfold A
  rw [m4, m1]
/-! #### convergents -/
/-- The convergents: h, k and the ones before. -/
def H (D r : Int) : Nat → (Int × Int) × (Int × Int)
  | 0 => ((r, 1), (1, 0))
  | n + 1 => ((A D r (n + 1) * (H D r n).1.1 + (H D r n).2.1, A D r (n + 1) * (H D r n).1.2 + (H D r n).2.2), (H D r n).1)
theorem H_succ (n : Nat) : H D r (n + 1) = ((A D r (n + 1) * (H D r n).1.1 + (H D r n).2.1, A D r (n + 1) * (H D r n).1.2 + (H D r n).2.2), (H D r n).1) := rfl
def sgn : Nat → Int
  | 0 => 1
  | n + 1 => - sgn n
theorem sgn_sq (n : Nat) : sgn n * sgn n = 1 := by
  induction n with
  | zero => rfl
  | succ n ih => show -sgn n * -sgn n = 1; rw [Int.neg_mul_neg]; exact ih
theorem sgn_cases (n : Nat) : (n % 2 = 0 ∧ sgn n = 1) ∨ (n % 2 = 1 ∧ sgn n = -1) := by
  induction n with
  | zero => exact .inl ⟨rfl, rfl⟩
  | succ n ih =>
    rcases ih with ⟨h1, h2⟩ | ⟨h1, h2⟩
    · exact .inr ⟨by omega, by show -sgn n = -1; rw [h2]⟩
    · exact .inl ⟨by omega, by show -sgn n = 1; rw [h2]; rfl⟩
/-- What a convergent solves. -/
theorem norms (hr : Rt D r) : ∀ n, (H D r n).1.1 * (H D r n).1.1 - D * ((H D r n).1.2 * (H D r n).1.2) = sgn (n + 1) * (P D r (n + 1)).2 ∧
    (H D r n).1.1 * (H D r n).2.1 - D * ((H D r n).1.2 * (H D r n).2.2) = sgn n * (P D r (n + 1)).1 ∧
    (H D r n).2.1 * (H D r n).2.1 - D * ((H D r n).2.2 * (H D r n).2.2) = sgn n * (P D r n).2
  | 0 => by
    rw [P_one hr]
    refine ⟨?_, ?_, ?_⟩
    · show r * r - D * (1 * 1) = -1 * (D - r * r); omega
    · show r * 1 - D * (1 * 0) = 1 * r; omega
    · show (1 : Int) * 1 - D * (0 * 0) = 1 * 1; omega
  | n + 1 => by
    obtain ⟨h1, h2, h3⟩ := norms hr n
    have s1 := p_add (D := D) (r := r) (n + 1)
    have m1 := q_mul hr (n + 1)
    have m0 := q_mul hr n
    rw [H_succ]
    generalize H D r n = z at *
    obtain ⟨⟨h, k⟩, ⟨h', k'⟩⟩ := z
    dsimp only at *
    rw [show n + 1 + 1 = n + 2 from rfl] at *
    generalize A D r (n + 1) = a at *
    generalize hP1 : P D r (n + 1) = z1 at *
    generalize hP2 : P D r (n + 2) = z2 at *
    generalize hP0 : P D r n = z0 at *
    obtain ⟨p1, q1⟩ := z1
    obtain ⟨p2, q2⟩ := z2
    obtain ⟨p0, q0⟩ := z0
    dsimp only at *
    have e0 : sgn (n + 1) = - sgn n := rfl
    have e1 : sgn (n + 2) = sgn n := by show - - sgn n = sgn n; omega
    rw [e0] at h1 ⊢
    rw [e1]
    generalize sgn n = s at *
    -- h1: h² - D k² = -s q1; h2: h h' - D k k' = s p1; h3: h'² - D k'² = s q0
    refine ⟨?_, ?_, h1⟩
    · have ex : (a * h + h') * (a * h + h') - D * ((a * k + k') * (a * k + k')) = a * a * (h * h - D * (k * k)) + 2 * a * (h * h' - D * (k * k')) + (h' * h' - D * (k' * k')) := by
        have x1 : (a * h + h') * (a * h + h') = a * a * (h * h) + 2 * a * (h * h') + h' * h' := by
          rw [Int.add_mul, Int.mul_add, Int.mul_add]
          have y1 : a * h * (a * h) = a * a * (h * h) := by rw [mmmc]
          have y2 : h' * (a * h) = a * (h * h') := by rw [Int.mul_comm, Int.mul_assoc]
          have y3 : a * h * h' = a * (h * h') := Int.mul_assoc _ _ _
          have y4 : 2 * a * (h * h') = 2 * (a * (h * h')) := Int.mul_assoc _ _ _
          rw [y1, y2, y3, y4]; omega
        have x2 : D * ((a * k + k') * (a * k + k')) = a * a * (D * (k * k)) + 2 * a * (D * (k * k')) + D * (k' * k') := by
          have y0 : (a * k + k') * (a * k + k') = a * a * (k * k) + 2 * a * (k * k') + k' * k' := by
            rw [Int.add_mul, Int.mul_add, Int.mul_add]
            have y1 : a * k * (a * k) = a * a * (k * k) := by rw [mmmc]
            have y2 : k' * (a * k) = a * (k * k') := by rw [Int.mul_comm, Int.mul_assoc]
            have y3 : a * k * k' = a * (k * k') := Int.mul_assoc _ _ _
            have y4 : 2 * a * (k * k') = 2 * (a * (k * k')) := Int.mul_assoc _ _ _
            rw [y1, y2, y3, y4]; omega
          rw [y0, Int.mul_add, Int.mul_add, Int.mul_left_comm D (a * a), Int.mul_left_comm D (2 * a)]
        rw [x1, x2, Int.mul_sub, Int.mul_sub]; omega
      rw [ex, h1, h2, h3]
      -- s (q0 + 2 a p1 - a² q1) = s q2
      have g : q0 + 2 * a * p1 - a * a * q1 = q2 := by
        have hq1 : q1 ≠ 0 := by have := (stg hr n).q0; rw [hP1] at this; dsimp only at this; omega
        have g1 : q1 * q2 = D - p2 * p2 := m1
        have g2 : q0 * q1 = D - p1 * p1 := m0
        have g3 : p2 = a * q1 - p1 := by omega
        refine Int.eq_of_mul_eq_mul_left hq1 ?_
        rw [g1, g3, Int.mul_sub, Int.mul_add]
        have y1 : q1 * q0 = D - p1 * p1 := by rw [Int.mul_comm]; exact g2
        have y2 : (a * q1 - p1) * (a * q1 - p1) = a * q1 * (a * q1) - 2 * (a * q1 * p1) + p1 * p1 := by
          rw [Int.sub_mul, Int.mul_sub, Int.mul_sub, Int.mul_comm p1 (a * q1)]; omega
        have y3 : q1 * (2 * a * p1) = 2 * (a * q1 * p1) := by
          rw [Int.mul_assoc 2, Int.mul_left_comm q1 2, ← Int.mul_assoc q1, Int.mul_comm q1 a]
        have y4 : q1 * (a * a * q1) = a * q1 * (a * q1) := by
          rw [Int.mul_comm q1, Int.mul_assoc (a * a), mmmc]
        rw [y1, y2, y3, y4]; omega
      rw [← g, Int.mul_sub, Int.mul_add]
      have z1 : a * a * (-s * q1) = - (s * (a * a * q1)) := by rw [Int.neg_mul, Int.mul_neg, Int.mul_left_comm]
      have z2 : 2 * a * (s * p1) = s * (2 * a * p1) := Int.mul_left_comm _ _ _
      rw [z1, z2]; omega
    · have ex : (a * h + h') * h - D * ((a * k + k') * k) = a * (h * h - D * (k * k)) + (h * h' - D * (k * k')) := by
        have x1 : (a * h + h') * h = a * (h * h) + h * h' := by rw [Int.add_mul, Int.mul_assoc, Int.mul_comm h' h]
        have x2 : D * ((a * k + k') * k) = a * (D * (k * k)) + D * (k * k') := by rw [Int.add_mul, Int.mul_assoc, Int.mul_comm k' k, Int.mul_add, Int.mul_left_comm]
        rw [x1, x2, Int.mul_sub]; omega
      rw [ex, h1, h2]
      have g3 : p2 = a * q1 - p1 := by omega
      have z1 : a * (-s * q1) = - (s * (a * q1)) := by rw [Int.neg_mul, Int.mul_neg, Int.mul_left_comm]
      rw [z1, g3, Int.neg_mul, Int.mul_sub]; omega
/-- The unit. -/
theorem unit_norm (hr : Rt D r) {L : Nat} (hL : Per D r L) : (H D r (L - 1)).1.1 * (H D r (L - 1)).1.1 - D * ((H D r (L - 1)).1.2 * (H D r (L - 1)).1.2) = sgn L := by
  have h := (norms hr (L - 1)).1
  rw [show L - 1 + 1 = L by have := hL.1; omega, hL.2.1, Int.mul_one] at h
  exact h
theorem H_pos (hr : Rt D r) : ∀ n, 1 ≤ (H D r n).1.1 ∧ 1 ≤ (H D r n).1.2 ∧ 0 ≤ (H D r n).2.1 ∧ 0 ≤ (H D r n).2.2 ∧ (H D r n).2.1 ≤ (H D r n).1.1 ∧ (H D r n).2.2 ≤ (H D r n).1.2
  | 0 => by
    have := hr.pos
    show 1 ≤ r ∧ 1 ≤ (1 : Int) ∧ 0 ≤ (1 : Int) ∧ 0 ≤ (0 : Int) ∧ 1 ≤ r ∧ (0 : Int) ≤ 1
    omega
  | n + 1 => by
    obtain ⟨h1, h2, h3, h4, _, _⟩ := H_pos hr n
    have ha := A_pos hr (n + 1)
    rw [H_succ]
    have e1 := Int.mul_le_mul_of_nonneg_right ha (show 0 ≤ (H D r n).1.1 by omega)
    have e2 := Int.mul_le_mul_of_nonneg_right ha (show 0 ≤ (H D r n).1.2 by omega)
    dsimp only
    omega
end Pel

/- Walks: the expansion of a root. (Own work of this repo.) -/
namespace Go.Proofs.Ytiglncbaomoceaa
open Vm Pel
set_option maxRecDepth 10000

theorem root_ex (n : Int) (h0 : 0 ≤ n) : ∃ r : Int, 0 ≤ r ∧ r * r ≤ n ∧ n < (r + 1) * (r + 1) := by
  obtain ⟨k, hk⟩ := Int.eq_ofNat_of_zero_le h0
  obtain ⟨m, hm, hl⟩ := least_nat (p := fun m : Nat => k < (m + 1) * (m + 1)) ⟨k, by
    have : k + 1 ≤ (k + 1) * (k + 1) := Nat.le_mul_of_pos_left _ (by omega)
    omega⟩
  refine ⟨m, by omega, ?_, ?_⟩
  · cases m with
    | zero => simpa using h0
    | succ m =>
      have := hl m (by omega)
      have h : (m + 1) * (m + 1) ≤ k := by omega
      rw [hk]
      exact_mod_cast h
  · rw [hk]
    exact_mod_cast hm
theorem pell_root (n r : Int) (hn : n ≤ 1000000) (h0 : 0 ≤ r) (h1 : r * r ≤ n) (h2 : n < (r + 1) * (r + 1)) : denP E 64 [.int .i64 n] = some (.ret (.int .i64 r)) := by
  refine denP_eq E64 rfl (by simp [AV.pureL, AV.pure, pure_wd]) ?_
  have hr : r < 1001 := by
    rcases Int.lt_or_le r 1001 with g | g
    · exact g
    · have : 1001 * 1001 ≤ r * r := Int.mul_le_mul g g (by omega) (by omega)
      omega
  simp (maxSteps := 4000000) only [go_sem, ↓reduceIte, Nat.reduceAdd, Nat.reduceSub, Nat.reduceMul, Nat.reduceEqDiff, reduceCtorEq, Int.reduceAdd, Int.reduceLT, Int.reduceLE, Int.reduceToNat, Int.reduceNeg, Int.reduceSub, ← List.map_take, ← List.map_drop, ne_eq, Nat.reduceLeDiff, Nat.reduceLT, Nat.zero_le, Nat.le_refl, wrap64, wrapu64, wrapu32, ← Int.natCast_add, ← Int.natCast_mul, cast_succ, wrapu32_nat, shr32, reps_wd, map_set_wd, List.length_set, zs_len, Try.f64]
  refine W_loopS (fun k sl h nn => ∃ i : Int, (∃ g : Nat → AV, sl = [.int .i64 n, g 1, g 2, .int .i64 i, g 4, g 5, g 6, g 7, g 8, g 9, g 10, g 11, g 12, g 13]) ∧ 0 ≤ i ∧ i + k = r) r.toNat ⟨0, garb rfl, by omega, by omega⟩ ?_
  rintro k _ h nn ⟨i, ⟨g, rfl⟩, hi, hk⟩
  have b1 : (i + 1) * (i + 1) ≤ 1002 * 1002 := Int.mul_le_mul (by omega) (by omega) (by omega) (by omega)
  have b2 : 0 ≤ (i + 1) * (i + 1) := Int.mul_nonneg (by omega) (by omega)
  have w1 : IntKind.i64.wrap (i + 1) = i + 1 := wrap64 (by omega) (by omega)
  have w2 : IntKind.i64.wrap ((i + 1) * (i + 1)) = (i + 1) * (i + 1) := wrap64 (by omega) (by omega)
  by_cases hk0 : k = 0
  · obtain rfl : i = r := by omega
    have z1 : ((i + 1) * (i + 1) ≤ n) = False := eq_false (by omega)
    simp (maxSteps := 4000000) only [go_sem, ↓reduceIte, Nat.reduceAdd, Nat.reduceSub, Nat.reduceMul, Nat.reduceEqDiff, reduceCtorEq, Int.reduceAdd, Int.reduceLT, Int.reduceLE, Int.reduceToNat, Int.reduceNeg, Int.reduceSub, ← List.map_take, ← List.map_drop, ne_eq, Nat.reduceLeDiff, Nat.reduceLT, Nat.zero_le, Nat.le_refl, wrap64, wrapu64, wrapu32, ← Int.natCast_add, ← Int.natCast_mul, cast_succ, wrapu32_nat, shr32, reps_wd, map_set_wd, List.length_set, zs_len, w1, w2, z1]
  · have z1 : ((i + 1) * (i + 1) ≤ n) = True := eq_true (by
      have : (i + 1) * (i + 1) ≤ r * r := Int.mul_le_mul (by omega) (by omega) (by omega) (by omega)
      omega)
    simp (maxSteps := 4000000) only [go_sem, ↓reduceIte, Nat.reduceAdd, Nat.reduceSub, Nat.reduceMul, Nat.reduceEqDiff, reduceCtorEq, Int.reduceAdd, Int.reduceLT, Int.reduceLE, Int.reduceToNat, Int.reduceNeg, Int.reduceSub, ← List.map_take, ← List.map_drop, ne_eq, Nat.reduceLeDiff, Nat.reduceLT, Nat.zero_le, Nat.le_refl, wrap64, wrapu64, wrapu32, ← Int.natCast_add, ← Int.natCast_mul, cast_succ, wrapu32_nat, shr32, reps_wd, map_set_wd, List.length_set, zs_len, w1, w2, z1]
    exact ⟨k - 1, by omega, i + 1, garb rfl, by omega, by omega⟩
theorem arithmancyref07_root (n r : Int) (hn : n ≤ 1000000) (h0 : 0 ≤ r) (h1 : r * r ≤ n) (h2 : n < (r + 1) * (r + 1)) : denP E 44 [.int .i64 n] = some (.ret (.int .i64 r)) := by
  refine denP_eq E44 rfl (by simp [AV.pureL, AV.pure, pure_wd]) ?_
  have hr : r < 1001 := by
    rcases Int.lt_or_le r 1001 with g | g
    · exact g
    · have : 1001 * 1001 ≤ r * r := Int.mul_le_mul g g (by omega) (by omega)
      omega
  simp (maxSteps := 4000000) only [go_sem, ↓reduceIte, Nat.reduceAdd, Nat.reduceSub, Nat.reduceMul, Nat.reduceEqDiff, reduceCtorEq, Int.reduceAdd, Int.reduceLT, Int.reduceLE, Int.reduceToNat, Int.reduceNeg, Int.reduceSub, ← List.map_take, ← List.map_drop, ne_eq, Nat.reduceLeDiff, Nat.reduceLT, Nat.zero_le, Nat.le_refl, wrap64, wrapu64, wrapu32, ← Int.natCast_add, ← Int.natCast_mul, cast_succ, wrapu32_nat, shr32, reps_wd, map_set_wd, List.length_set, zs_len, Try.f44]
  refine W_loopS (fun k sl h nn => ∃ i : Int, (∃ g : Nat → AV, sl = [.int .i64 n, g 1, g 2, .int .i64 i, g 4, g 5, g 6, g 7, g 8, g 9, g 10, g 11, g 12, g 13]) ∧ 0 ≤ i ∧ i + k = r) r.toNat ⟨0, garb rfl, by omega, by omega⟩ ?_
  rintro k _ h nn ⟨i, ⟨g, rfl⟩, hi, hk⟩
  have b1 : (i + 1) * (i + 1) ≤ 1002 * 1002 := Int.mul_le_mul (by omega) (by omega) (by omega) (by omega)
  have b2 : 0 ≤ (i + 1) * (i + 1) := Int.mul_nonneg (by omega) (by omega)
  have w1 : IntKind.i64.wrap (i + 1) = i + 1 := wrap64 (by omega) (by omega)
  have w2 : IntKind.i64.wrap ((i + 1) * (i + 1)) = (i + 1) * (i + 1) := wrap64 (by omega) (by omega)
  by_cases hk0 : k = 0
  · obtain rfl : i = r := by omega
    have z1 : ((i + 1) * (i + 1) ≤ n) = False := eq_false (by omega)
    simp (maxSteps := 4000000) only [go_sem, ↓reduceIte, Nat.reduceAdd, Nat.reduceSub, Nat.reduceMul, Nat.reduceEqDiff, reduceCtorEq, Int.reduceAdd, Int.reduceLT, Int.reduceLE, Int.reduceToNat, Int.reduceNeg, Int.reduceSub, ← List.map_take, ← List.map_drop, ne_eq, Nat.reduceLeDiff, Nat.reduceLT, Nat.zero_le, Nat.le_refl, wrap64, wrapu64, wrapu32, ← Int.natCast_add, ← Int.natCast_mul, cast_succ, wrapu32_nat, shr32, reps_wd, map_set_wd, List.length_set, zs_len, w1, w2, z1]
  · have z1 : ((i + 1) * (i + 1) ≤ n) = True := eq_true (by
      have : (i + 1) * (i + 1) ≤ r * r := Int.mul_le_mul (by omega) (by omega) (by omega) (by omega)
      omega)
    simp (maxSteps := 4000000) only [go_sem, ↓reduceIte, Nat.reduceAdd, Nat.reduceSub, Nat.reduceMul, Nat.reduceEqDiff, reduceCtorEq, Int.reduceAdd, Int.reduceLT, Int.reduceLE, Int.reduceToNat, Int.reduceNeg, Int.reduceSub, ← List.map_take, ← List.map_drop, ne_eq, Nat.reduceLeDiff, Nat.reduceLT, Nat.zero_le, Nat.le_refl, wrap64, wrapu64, wrapu32, ← Int.natCast_add, ← Int.natCast_mul, cast_succ, wrapu32_nat, shr32, reps_wd, map_set_wd, List.length_set, zs_len, w1, w2, z1]
    exact ⟨k - 1, by omega, i + 1, garb rfl, by omega, by omega⟩
theorem pell_fits (n r : Int) (h0 : 0 ≤ r) (h1 : r * r ≤ n) (h2 : n < (r + 1) * (r + 1)) : denP E 36 [.int .i64 n] = some (.ret (.bool (decide (2 ≤ n ∧ n ≤ 1000000 ∧ r * r ≠ n)))) := by
  refine denP_eq E36 rfl (by simp [AV.pureL, AV.pure, pure_wd]) ?_
  by_cases hn : n ≤ 1000000
  · have o := pell_root n r hn h0 h1 h2
    have w1 : IntKind.i64.wrap (r * r) = r * r := wrap64 (by have := Int.mul_nonneg h0 h0; omega) (by omega)
    have z1 : (n ≤ 1000000) = True := eq_true hn
    by_cases hn2 : 2 ≤ n
    · have z2 : (2 ≤ n) = True := eq_true hn2
      simp (maxSteps := 4000000) only [go_sem, ↓reduceIte, Nat.reduceAdd, Nat.reduceSub, Nat.reduceMul, Nat.reduceEqDiff, reduceCtorEq, Int.reduceAdd, Int.reduceLT, Int.reduceLE, Int.reduceToNat, Int.reduceNeg, Int.reduceSub, ← List.map_take, ← List.map_drop, ne_eq, Nat.reduceLeDiff, Nat.reduceLT, Nat.zero_le, Nat.le_refl, wrap64, wrapu64, wrapu32, ← Int.natCast_add, ← Int.natCast_mul, cast_succ, wrapu32_nat, shr32, reps_wd, map_set_wd, List.length_set, zs_len, Try.f36, o, w1, z1, z2, places, fillAll]
      simp
    · have z2 : (2 ≤ n) = False := eq_false hn2
      simp (maxSteps := 4000000) only [go_sem, ↓reduceIte, Nat.reduceAdd, Nat.reduceSub, Nat.reduceMul, Nat.reduceEqDiff, reduceCtorEq, Int.reduceAdd, Int.reduceLT, Int.reduceLE, Int.reduceToNat, Int.reduceNeg, Int.reduceSub, ← List.map_take, ← List.map_drop, ne_eq, Nat.reduceLeDiff, Nat.reduceLT, Nat.zero_le, Nat.le_refl, wrap64, wrapu64, wrapu32, ← Int.natCast_add, ← Int.natCast_mul, cast_succ, wrapu32_nat, shr32, reps_wd, map_set_wd, List.length_set, zs_len, Try.f36, o, w1, z1, z2, places, fillAll]
      simp
  · have z1 : (n ≤ 1000000) = False := eq_false hn
    by_cases hn2 : 2 ≤ n
    · have z2 : (2 ≤ n) = True := eq_true hn2
      simp (maxSteps := 4000000) only [go_sem, ↓reduceIte, Nat.reduceAdd, Nat.reduceSub, Nat.reduceMul, Nat.reduceEqDiff, reduceCtorEq, Int.reduceAdd, Int.reduceLT, Int.reduceLE, Int.reduceToNat, Int.reduceNeg, Int.reduceSub, ← List.map_take, ← List.map_drop, ne_eq, Nat.reduceLeDiff, Nat.reduceLT, Nat.zero_le, Nat.le_refl, wrap64, wrapu64, wrapu32, ← Int.natCast_add, ← Int.natCast_mul, cast_succ, wrapu32_nat, shr32, reps_wd, map_set_wd, List.length_set, zs_len, Try.f36, z1, z2, places, fillAll]
      simp
    · have z2 : (2 ≤ n) = False := eq_false hn2
      simp (maxSteps := 4000000) only [go_sem, ↓reduceIte, Nat.reduceAdd, Nat.reduceSub, Nat.reduceMul, Nat.reduceEqDiff, reduceCtorEq, Int.reduceAdd, Int.reduceLT, Int.reduceLE, Int.reduceToNat, Int.reduceNeg, Int.reduceSub, ← List.map_take, ← List.map_drop, ne_eq, Nat.reduceLeDiff, Nat.reduceLT, Nat.zero_le, Nat.le_refl, wrap64, wrapu64, wrapu32, ← Int.natCast_add, ← Int.natCast_mul, cast_succ, wrapu32_nat, shr32, reps_wd, map_set_wd, List.length_set, zs_len, Try.f36, z1, z2, places, fillAll]
      simp
theorem pell_fits_neg (n : Int) (hn : n < 0) : denP E 36 [.int .i64 n] = some (.ret (.bool false)) := by
  refine denP_eq E36 rfl (by simp [AV.pureL, AV.pure, pure_wd]) ?_
  have z2 : (2 ≤ n) = False := eq_false (by omega)
  simp (maxSteps := 4000000) only [go_sem, ↓reduceIte, Nat.reduceAdd, Nat.reduceSub, Nat.reduceMul, Nat.reduceEqDiff, reduceCtorEq, Int.reduceAdd, Int.reduceLT, Int.reduceLE, Int.reduceToNat, Int.reduceNeg, Int.reduceSub, ← List.map_take, ← List.map_drop, ne_eq, Nat.reduceLeDiff, Nat.reduceLT, Nat.zero_le, Nat.le_refl, wrap64, wrapu64, wrapu32, ← Int.natCast_add, ← Int.natCast_mul, cast_succ, wrapu32_nat, shr32, reps_wd, map_set_wd, List.length_set, zs_len, Try.f36, z2, places, fillAll]
  try rfl
theorem rpell_fits (n r : Int) (h0 : 0 ≤ r) (h1 : r * r ≤ n) (h2 : n < (r + 1) * (r + 1)) : denP E 12 [.int .i64 n] = some (.ret (.bool (decide (2 ≤ n ∧ n ≤ 1000000 ∧ r * r ≠ n)))) := by
  refine denP_eq E12 rfl (by simp [AV.pureL, AV.pure, pure_wd]) ?_
  by_cases hn : n ≤ 1000000
  · have o := arithmancyref07_root n r hn h0 h1 h2
    have w1 : IntKind.i64.wrap (r * r) = r * r := wrap64 (by have := Int.mul_nonneg h0 h0; omega) (by omega)
    have z1 : (n ≤ 1000000) = True := eq_true hn
    by_cases hn2 : 2 ≤ n
    · have z2 : (2 ≤ n) = True := eq_true hn2
      simp (maxSteps := 4000000) only [go_sem, ↓reduceIte, Nat.reduceAdd, Nat.reduceSub, Nat.reduceMul, Nat.reduceEqDiff, reduceCtorEq, Int.reduceAdd, Int.reduceLT, Int.reduceLE, Int.reduceToNat, Int.reduceNeg, Int.reduceSub, ← List.map_take, ← List.map_drop, ne_eq, Nat.reduceLeDiff, Nat.reduceLT, Nat.zero_le, Nat.le_refl, wrap64, wrapu64, wrapu32, ← Int.natCast_add, ← Int.natCast_mul, cast_succ, wrapu32_nat, shr32, reps_wd, map_set_wd, List.length_set, zs_len, Try.f12, o, w1, z1, z2, places, fillAll]
      simp
    · have z2 : (2 ≤ n) = False := eq_false hn2
      simp (maxSteps := 4000000) only [go_sem, ↓reduceIte, Nat.reduceAdd, Nat.reduceSub, Nat.reduceMul, Nat.reduceEqDiff, reduceCtorEq, Int.reduceAdd, Int.reduceLT, Int.reduceLE, Int.reduceToNat, Int.reduceNeg, Int.reduceSub, ← List.map_take, ← List.map_drop, ne_eq, Nat.reduceLeDiff, Nat.reduceLT, Nat.zero_le, Nat.le_refl, wrap64, wrapu64, wrapu32, ← Int.natCast_add, ← Int.natCast_mul, cast_succ, wrapu32_nat, shr32, reps_wd, map_set_wd, List.length_set, zs_len, Try.f12, o, w1, z1, z2, places, fillAll]
      simp
  · have z1 : (n ≤ 1000000) = False := eq_false hn
    by_cases hn2 : 2 ≤ n
    · have z2 : (2 ≤ n) = True := eq_true hn2
      simp (maxSteps := 4000000) only [go_sem, ↓reduceIte, Nat.reduceAdd, Nat.reduceSub, Nat.reduceMul, Nat.reduceEqDiff, reduceCtorEq, Int.reduceAdd, Int.reduceLT, Int.reduceLE, Int.reduceToNat, Int.reduceNeg, Int.reduceSub, ← List.map_take, ← List.map_drop, ne_eq, Nat.reduceLeDiff, Nat.reduceLT, Nat.zero_le, Nat.le_refl, wrap64, wrapu64, wrapu32, ← Int.natCast_add, ← Int.natCast_mul, cast_succ, wrapu32_nat, shr32, reps_wd, map_set_wd, List.length_set, zs_len, Try.f12, z1, z2, places, fillAll]
      simp
    · have z2 : (2 ≤ n) = False := eq_false hn2
      simp (maxSteps := 4000000) only [go_sem, ↓reduceIte, Nat.reduceAdd, Nat.reduceSub, Nat.reduceMul, Nat.reduceEqDiff, reduceCtorEq, Int.reduceAdd, Int.reduceLT, Int.reduceLE, Int.reduceToNat, Int.reduceNeg, Int.reduceSub, ← List.map_take, ← List.map_drop, ne_eq, Nat.reduceLeDiff, Nat.reduceLT, Nat.zero_le, Nat.le_refl, wrap64, wrapu64, wrapu32, ← Int.natCast_add, ← Int.natCast_mul, cast_succ, wrapu32_nat, shr32, reps_wd, map_set_wd, List.length_set, zs_len, Try.f12, z1, z2, places, fillAll]
      simp
theorem rpell_fits_neg (n : Int) (hn : n < 0) : denP E 12 [.int .i64 n] = some (.ret (.bool false)) := by
  refine denP_eq E12 rfl (by simp [AV.pureL, AV.pure, pure_wd]) ?_
  have z2 : (2 ≤ n) = False := eq_false (by omega)
  simp (maxSteps := 4000000) only [go_sem, ↓reduceIte, Nat.reduceAdd, Nat.reduceSub, Nat.reduceMul, Nat.reduceEqDiff, reduceCtorEq, Int.reduceAdd, Int.reduceLT, Int.reduceLE, Int.reduceToNat, Int.reduceNeg, Int.reduceSub, ← List.map_take, ← List.map_drop, ne_eq, Nat.reduceLeDiff, Nat.reduceLT, Nat.zero_le, Nat.le_refl, wrap64, wrapu64, wrapu32, ← Int.natCast_add, ← Int.natCast_mul, cast_succ, wrapu32_nat, shr32, reps_wd, map_set_wd, List.length_set, zs_len, Try.f12, z2, places, fillAll]
  try rfl
theorem expansion_open (d : Int) (h : Heap) (nx : Nat) :
    ∃ h', denO E 37 [.int .i64 d] h nx = some (.ret (.fn 65 [] [.ptr nx 0]), h', nx + 1) ∧ h' nx = some ⟨[.int .i64 d], false, 1, false⟩ ∧ ∀ i, i < nx → h' i = h i := by
  have key : ∃ v h' n', denO E 37 [.int .i64 d] h nx = some (.ret v, h', n') ∧ v = .fn 65 [] [.ptr nx 0] ∧ n' = nx + 1 ∧ h' nx = some ⟨[.int .i64 d], false, 1, false⟩ ∧ ∀ i, i < nx → h' i = h i := by
    refine denO_intro E37 rfl ?_
    simp (maxSteps := 4000000) only [go_sem, ↓reduceIte, Nat.reduceAdd, Nat.reduceSub, Nat.reduceMul, Nat.reduceEqDiff, reduceCtorEq, Int.reduceAdd, Int.reduceLT, Int.reduceLE, Int.reduceToNat, Int.reduceNeg, Int.reduceSub, ← List.map_take, ← List.map_drop, ne_eq, Nat.reduceLeDiff, Nat.reduceLT, Nat.zero_le, Nat.le_refl, wrap64, wrapu64, wrapu32, ← Int.natCast_add, ← Int.natCast_mul, cast_succ, wrapu32_nat, shr32, reps_wd, map_set_wd, List.length_set, zs_len, Try.f37, Nat.add_assoc, off_ne, ne_off]
    intro i hi
    (repeat rw [if_neg (by omega)])
  obtain ⟨v, h', n', h1, rfl, rfl, h2⟩ := key
  exact ⟨h', h1, h2⟩
end Go.Proofs.Ytiglncbaomoceaa

/- Walks: the expansion of a root, element by element. (Own work of this repo.) -/
namespace Go.Proofs.Ytiglncbaomoceaa
open Vm Pel
set_option maxRecDepth 10000

theorem A_small {D r : Int} (hr : Rt D r) (hD : D ≤ 1000000) (n : Nat) : r ≤ 1000 ∧ 0 ≤ (P D r n).1 ∧ (P D r n).1 ≤ r ∧ 1 ≤ (P D r n).2 ∧ (P D r n).2 ≤ 2 * r ∧ 1 ≤ A D r n ∧ A D r n ≤ 2 * r ∧ A D r n * (P D r n).2 - (P D r n).1 = (P D r (n + 1)).1 := by
  have h1 : r ≤ 1000 := by
    rcases Int.lt_or_le r 1001 with g | g
    · omega
    · have : 1001 * 1001 ≤ r * r := Int.mul_le_mul g g (by omega) (by omega)
      have := hr.lo
      omega
  have hp := hr.pos
  have h2 : 0 ≤ (P D r n).1 ∧ (P D r n).1 ≤ r ∧ 1 ≤ (P D r n).2 ∧ (P D r n).2 ≤ 2 * r := by
    cases n with
    | zero => rw [P_zero]; dsimp only; omega
    | succ n =>
      have h := stg hr n
      have a1 := h.p0; have a2 := h.pr; have a3 := h.q0; have a4 := h.hi
      omega
  have h3 := A_pos hr n
  have h4 := p_add (D := D) (r := r) n
  have h5 := (stg hr n).pr
  have h6 : A D r n ≤ A D r n * (P D r n).2 := by
    have : A D r n * 1 ≤ A D r n * (P D r n).2 := Int.mul_le_mul_of_nonneg_left (by omega) (by omega)
    omega
  refine ⟨h1, h2.1, h2.2.1, h2.2.2.1, h2.2.2.2, h3, by omega, by omega⟩
set_option maxHeartbeats 2000000 in
theorem expansion1_open (D r0 : Int) (hr : Rt D r0) (hD : D ≤ 1000000) (L : Nat) (hL : Per D r0 L) (pd r nx : Nat) (h : Heap) (ld : pd < nx) (Y : Nat → Heap → Nat → Prop)
    (hYs : ∀ n h h' m m', Y n h m → m ≤ m' → (∀ i, i ≠ nx → i ≠ nx + 1 → h' i = h i) → Y n h' m')
    (hYr : ∀ n h m, Y n h m → h pd = some ⟨[.int .i64 D], false, 1, false⟩)
    (hY : ∀ n h n0, n < L → nx + 2 ≤ n0 → Y n h n0 → ∃ h' n', denO E 1000003 [.int .i64 (A D r0 (n + 1)), .ref r 0 0] h n0 = some (.ret (.bool true), h', n') ∧ n0 ≤ n' ∧ h' nx = h nx ∧ h' (nx + 1) = h (nx + 1) ∧ Y (n + 1) h' n')
    (h0 : Y 0 h nx) : ∃ h' n', denO E 65 [.fn 1000003 [] [.ref r 0 0], .ptr pd 0] h nx = some (.ret (.tup []), h', n') ∧ nx ≤ n' ∧ Y L h' n' := by
  have key : ∃ v h' n', denO E 65 [.fn 1000003 [] [.ref r 0 0], .ptr pd 0] h nx = some (.ret v, h', n') ∧ v = .tup [] ∧ nx ≤ n' ∧ Y L h' n' := by
    have hp := hr.pos
    obtain ⟨s1, -⟩ := A_small hr hD 0
    have g1 := hYr 0 h nx h0
    have o1 := pell_root D r0 hD (by omega) (by have := hr.lo; omega) hr.hi
    refine denO_intro E65 rfl ?_
    have ipdnx0 : (pd = nx) = False := eq_false (by omega); have jpdnx0 : (nx = pd) = False := eq_false (by omega); have ipdnx1 : (pd = nx + 1) = False := eq_false (by omega); have jpdnx1 : (nx + 1 = pd) = False := eq_false (by omega); have ipdnx2 : (pd = nx + 2) = False := eq_false (by omega); have jpdnx2 : (nx + 2 = pd) = False := eq_false (by omega); have ipdnx3 : (pd = nx + 3) = False := eq_false (by omega); have jpdnx3 : (nx + 3 = pd) = False := eq_false (by omega); have ipdnx4 : (pd = nx + 4) = False := eq_false (by omega); have jpdnx4 : (nx + 4 = pd) = False := eq_false (by omega); have ipdnx5 : (pd = nx + 5) = False := eq_false (by omega); have jpdnx5 : (nx + 5 = pd) = False := eq_false (by omega); have ipdnx6 : (pd = nx + 6) = False := eq_false (by omega); have jpdnx6 : (nx + 6 = pd) = False := eq_false (by omega)
    simp (maxSteps := 4000000) only [go_sem, ↓reduceIte, Nat.reduceAdd, Nat.reduceSub, Nat.reduceMul, Nat.reduceEqDiff, reduceCtorEq, Int.reduceAdd, Int.reduceLT, Int.reduceLE, Int.reduceToNat, Int.reduceNeg, Int.reduceSub, ← List.map_take, ← List.map_drop, ne_eq, Nat.reduceLeDiff, Nat.reduceLT, Nat.zero_le, Nat.le_refl, wrap64, wrapu64, wrapu32, ← Int.natCast_add, ← Int.natCast_mul, cast_succ, wrapu32_nat, shr32, reps_wd, map_set_wd, List.length_set, zs_len, Try.f65, g1, o1, Nat.add_assoc, off_ne, ne_off, ipdnx0, jpdnx0, ipdnx1, jpdnx1, ipdnx2, jpdnx2, ipdnx3, jpdnx3, ipdnx4, jpdnx4, ipdnx5, jpdnx5, ipdnx6, jpdnx6, places, fillAll]
    have hn1 : nx ≠ nx + 1 := by omega
    refine W_loopS (fun k sl h nn => ∃ i : Nat, (∃ g : Nat → AV, sl = [.fn 1000003 [] [.ref r 0 0], .ptr pd 0, g 2, .int .i64 r0, .ptr nx 0, .int .i64 (A D r0 i), .ptr (nx + 1) 0, g 7, g 8, g 9, g 10, g 11, g 12, g 13, g 14, g 15, g 16, g 17, g 18, g 19, g 20, g 21, g 22, g 23, g 24, g 25, g 26, g 27, g 28, g 29, g 30, g 31, g 32, g 33, g 34, g 35, g 36, g 37, g 38, g 39, g 40, g 41, g 42, g 43, g 44, g 45, g 46, g 47]) ∧ nx + 2 ≤ nn ∧ h nx = some ⟨[.int .i64 (P D r0 i).1, .int .i64 (P D r0 i).2], true, 2, false⟩ ∧
      h (nx + 1) = some ⟨[.int .i64 (if i = 0 then 0 else (P D r0 1).1), .int .i64 (if i = 0 then 0 else (P D r0 1).2)], true, 2, false⟩ ∧ Y i h nn ∧ i + k = L) L ⟨0, garb ?_, Nat.le_refl _, ?_, ?_, ?_, by omega⟩ ?_
    · rw [A_zero]; rfl
    · simp only [upd_apply, ↓reduceIte, Nat.reduceEqDiff, off_ne, ne_off, P_zero]
    · simp only [upd_apply, ↓reduceIte, Nat.reduceEqDiff, off_ne, ne_off, if_pos]
    · refine hYs 0 h _ nx _ h0 (by show nx ≤ nx + 2; omega) fun i hi1 hi2 => ?_
      simp only [upd_apply, ↓reduceIte, Nat.reduceEqDiff, hi1, hi2, if_neg]
    clear g1 o1
    rintro k _ H nn ⟨i, ⟨g, rfl⟩, hnn, k1, k2, hy, hk⟩
    have g1 := hYr i H nn hy
    obtain ⟨-, b1, b2, b3, b4, b5, b6, b7⟩ := A_small hr hD i
    obtain ⟨-, c1, c2, c3, c4, c5, c6, c7⟩ := A_small hr hD (i + 1)
    have hq := q_mul hr i
    have hp1 : (P D r0 1).1 = r0 := by rw [P_one hr]
    have e2 : (D - (P D r0 (i + 1)).1 * (P D r0 (i + 1)).1).tdiv (P D r0 i).2 = (P D r0 (i + 1)).2 := by
      rw [← hq, Int.mul_tdiv_cancel_left _ (by omega)]
    have e3 : (r0 + (P D r0 (i + 1)).1).tdiv (P D r0 (i + 1)).2 = A D r0 (i + 1) := by
      rw [Int.tdiv_eq_ediv_of_nonneg (by omega)]
      rfl
    have hend : P D r0 (i + 1) = P D r0 1 ↔ i = 0 ∨ i = L := by
      cases i with
      | zero => simp
      | succ j =>
        rw [again_iff hr j]
        constructor
        · intro h1
          refine .inr (Classical.byContradiction fun h2 => ?_)
          exact hL.2.2 (j + 1) (by omega) (by omega) h1
        · rintro (h1 | h1)
          · omega
          · rw [h1]; exact hL.2.1
    have m1 : (P D r0 (i + 1)).1 * (P D r0 (i + 1)).1 ≤ 1000 * 1000 := Int.mul_le_mul (by omega) (by omega) (by omega) (by omega)
    have m0 : 0 ≤ (P D r0 (i + 1)).1 * (P D r0 (i + 1)).1 := Int.mul_nonneg (by omega) (by omega)
    have hlo := hr.lo
    have m2 : 0 ≤ r0 * r0 := Int.mul_nonneg (by omega) (by omega)
    have w1 : IntKind.i64.wrap (A D r0 i * (P D r0 i).2) = A D r0 i * (P D r0 i).2 := wrap64 (by omega) (by omega)
    have w2 : IntKind.i64.wrap ((P D r0 (i + 1)).1) = (P D r0 (i + 1)).1 := wrap64 (by omega) (by omega)
    have w3 : IntKind.i64.wrap ((P D r0 (i + 1)).1 * (P D r0 (i + 1)).1) = (P D r0 (i + 1)).1 * (P D r0 (i + 1)).1 := wrap64 (by omega) (by omega)
    have w4 : IntKind.i64.wrap (D - (P D r0 (i + 1)).1 * (P D r0 (i + 1)).1) = D - (P D r0 (i + 1)).1 * (P D r0 (i + 1)).1 := wrap64 (by omega) (by omega)
    have w5 : IntKind.i64.wrap ((P D r0 (i + 1)).2) = (P D r0 (i + 1)).2 := wrap64 (by omega) (by omega)
    have w6 : IntKind.i64.wrap (r0 + (P D r0 (i + 1)).1) = r0 + (P D r0 (i + 1)).1 := wrap64 (by omega) (by omega)
    have w7 : IntKind.i64.wrap (A D r0 (i + 1)) = A D r0 (i + 1) := wrap64 (by omega) (by omega)
    have z1 : ((P D r0 i).2 = 0) = False := eq_false (by omega)
    have z2 : ((P D r0 (i + 1)).2 = 0) = False := eq_false (by omega)
    have z3 : (r0 = 0) = False := eq_false (by omega)
    have ipdnx0 : (pd = nx) = False := eq_false (by omega); have jpdnx0 : (nx = pd) = False := eq_false (by omega); have ipdnx1 : (pd = nx + 1) = False := eq_false (by omega); have jpdnx1 : (nx + 1 = pd) = False := eq_false (by omega)
    have hne : ((P D r0 1).1 = 0) = False := eq_false (by omega)
    have hcmp : ((P D r0 (i + 1)).1 = (P D r0 1).1 ∧ (P D r0 (i + 1)).2 = (P D r0 1).2) ↔ i = 0 ∨ i = L := by
      rw [← hend, Prod.ext_iff]
    have x0 : ((P D r0 (i + 1)).1 = 0) = False ∨ 1 ≤ i := by
      by_cases h : 1 ≤ i
      · exact .inr h
      · obtain rfl : i = 0 := by omega
        exact .inl hne
    have hi0 : i = 0 → (P D r0 1).1 = (P D r0 (i + 1)).1 ∧ (P D r0 1).2 = (P D r0 (i + 1)).2 := fun h => by rw [h]; exact ⟨rfl, rfl⟩
    generalize hP1 : (P D r0 1).1 = u1 at *
    generalize hP2 : (P D r0 1).2 = u2 at *
    generalize hp0 : (P D r0 i).1 = p0 at *
    generalize hq0 : (P D r0 i).2 = q0 at *
    generalize hpn : (P D r0 (i + 1)).1 = pn at *
    generalize hqn : (P D r0 (i + 1)).2 = qn at *
    clear c7 hend
    have hyield : i < L → ∀ H2 : Heap, (∀ j, j ≠ nx → j ≠ nx + 1 → H2 j = H j) → ∃ h' n', denO E 1000003 [.int .i64 (A D r0 (i + 1)), .ref r 0 0] H2 nn = some (.ret (.bool true), h', n') ∧ nn ≤ n' ∧ h' nx = H2 nx ∧ h' (nx + 1) = H2 (nx + 1) ∧ Y (i + 1) h' n' := fun h1 H2 h2 => hY i H2 nn h1 (by omega) (hYs i H H2 nn nn hy (Nat.le_refl _) h2)
    generalize A D r0 i = a0 at *
    generalize hAn : A D r0 (i + 1) = an at *
    have y1 : (u1 == 0) = false := beq_eq_false_iff_ne.2 (by omega)
    by_cases h1 : i = 0
    · obtain ⟨rfl, rfl⟩ := hi0 h1
      rw [if_pos h1, if_pos h1] at k2
      have hL1 := hL.1
      simp (maxSteps := 4000000) only [go_sem, ↓reduceIte, Nat.reduceAdd, Nat.reduceSub, Nat.reduceMul, Nat.reduceEqDiff, reduceCtorEq, Int.reduceAdd, Int.reduceLT, Int.reduceLE, Int.reduceToNat, Int.reduceNeg, Int.reduceSub, ← List.map_take, ← List.map_drop, ne_eq, Nat.reduceLeDiff, Nat.reduceLT, Nat.zero_le, Nat.le_refl, wrap64, wrapu64, wrapu32, ← Int.natCast_add, ← Int.natCast_mul, cast_succ, wrapu32_nat, shr32, reps_wd, map_set_wd, List.length_set, zs_len, g1, k1, k2, w1, b7, w2, w3, w4, w5, w6, w7, e2, e3, z1, z2, y1, Bool.false_and, beq_self_eq_true, Bool.and_true, hne, Nat.add_assoc, off_ne, ne_off, ipdnx0, jpdnx0, ipdnx1, jpdnx1, eqAgg, eqFs, eqSc, places, fillAll, opn_eq, T1, T2, T3, T4, T5, T6, T9, T10, T11, T12, T15, T16, T17, T20, T21, T22, T23, T25, T26, T27, T28, T30, T31, T32, T33, T34, T36, T37, T38, T39, T40, T41, T43, T44, T46, T47, T48, T49, T50, T51, T52, T53, T54, T55, T56, T57, T58, T59, T60, T61, T62, T63, T64, T65, T67, T68, T69, T70, T71, T72, T73, T74, T75, T76, T77, T78, T80, T81, T83, T84, T86, T87, T88, T89, T90, T91, T93, T94, T95, T96, T98, T99, T100, T101, T103, T105, T106, T107, T108, T109, T110, T111, T112, T113, T114, T117, T120, T121, T122, T123, T124, T125, T126]
      obtain ⟨h', n', d1, d2, q1, q2, d4⟩ := hyield (by omega) (((H.upd nx (some ⟨[.int .i64 u1, .int .i64 u2], true, 2, false⟩)).upd (nx + 1) (some ⟨[.int .i64 u1, .int .i64 u2], true, 2, false⟩))) (fun j hj1 hj2 => by simp only [upd_apply, ↓reduceIte, Nat.reduceEqDiff, hj1, hj2, if_neg])
      refine openK_any d1 ?_
      simp (maxSteps := 4000000) only [go_sem, ↓reduceIte, Nat.reduceAdd, Nat.reduceSub, Nat.reduceMul, Nat.reduceEqDiff, reduceCtorEq, Int.reduceAdd, Int.reduceLT, Int.reduceLE, Int.reduceToNat, Int.reduceNeg, Int.reduceSub, ← List.map_take, ← List.map_drop, ne_eq, Nat.reduceLeDiff, Nat.reduceLT, Nat.zero_le, Nat.le_refl, wrap64, wrapu64, wrapu32, ← Int.natCast_add, ← Int.natCast_mul, cast_succ, wrapu32_nat, shr32, reps_wd, map_set_wd, List.length_set, zs_len, Int.reduceEq]
      simp only [upd_apply, ↓reduceIte, Nat.reduceEqDiff, off_ne, ne_off, if_pos] at q1 q2
      exact ⟨k - 1, by omega, i + 1, by rw [hAn]; exact garb rfl, by omega, by rw [hpn, hqn]; exact q1, by rw [if_neg (by omega), if_neg (by omega)]; exact q2, d4, by omega⟩
    · rw [if_neg h1, if_neg h1] at k2
      by_cases h2 : i = L
      · obtain ⟨rfl, rfl⟩ := hcmp.2 (.inr h2)
        simp (maxSteps := 4000000) only [go_sem, ↓reduceIte, Nat.reduceAdd, Nat.reduceSub, Nat.reduceMul, Nat.reduceEqDiff, reduceCtorEq, Int.reduceAdd, Int.reduceLT, Int.reduceLE, Int.reduceToNat, Int.reduceNeg, Int.reduceSub, ← List.map_take, ← List.map_drop, ne_eq, Nat.reduceLeDiff, Nat.reduceLT, Nat.zero_le, Nat.le_refl, wrap64, wrapu64, wrapu32, ← Int.natCast_add, ← Int.natCast_mul, cast_succ, wrapu32_nat, shr32, reps_wd, map_set_wd, List.length_set, zs_len, g1, k1, k2, w1, b7, w2, w3, w4, w5, w6, w7, e2, e3, z1, z2, y1, Bool.false_and, beq_self_eq_true, Bool.and_true, hne, Nat.add_assoc, off_ne, ne_off, ipdnx0, jpdnx0, ipdnx1, jpdnx1, eqAgg, eqFs, eqSc, places, fillAll, opn_eq, T1, T2, T3, T4, T5, T6, T9, T10, T11, T12, T15, T16, T17, T20, T21, T22, T23, T25, T26, T27, T28, T30, T31, T32, T33, T34, T36, T37, T38, T39, T40, T41, T43, T44, T46, T47, T48, T49, T50, T51, T52, T53, T54, T55, T56, T57, T58, T59, T60, T61, T62, T63, T64, T65, T67, T68, T69, T70, T71, T72, T73, T74, T75, T76, T77, T78, T80, T81, T83, T84, T86, T87, T88, T89, T90, T91, T93, T94, T95, T96, T98, T99, T100, T101, T103, T105, T106, T107, T108, T109, T110, T111, T112, T113, T114, T117, T120, T121, T122, T123, T124, T125, T126]
        refine ⟨by omega, h2 ▸ hYs i H _ nn _ hy (by omega) fun j hj1 hj2 => ?_⟩
        simp only [upd_apply, ↓reduceIte, Nat.reduceEqDiff, hj1, hj2, if_neg]
      · have h3 : ¬ (pn = u1 ∧ qn = u2) := fun h => (hcmp.1 h).elim h1 h2
        have z4 : ((pn == u1) && (qn == u2)) = false := by
          cases hb : ((pn == u1) && (qn == u2)) with
          | false => rfl
          | true =>
            simp only [Bool.and_eq_true, beq_iff_eq] at hb
            exact absurd hb h3
        simp (maxSteps := 4000000) only [go_sem, ↓reduceIte, Nat.reduceAdd, Nat.reduceSub, Nat.reduceMul, Nat.reduceEqDiff, reduceCtorEq, Int.reduceAdd, Int.reduceLT, Int.reduceLE, Int.reduceToNat, Int.reduceNeg, Int.reduceSub, ← List.map_take, ← List.map_drop, ne_eq, Nat.reduceLeDiff, Nat.reduceLT, Nat.zero_le, Nat.le_refl, wrap64, wrapu64, wrapu32, ← Int.natCast_add, ← Int.natCast_mul, cast_succ, wrapu32_nat, shr32, reps_wd, map_set_wd, List.length_set, zs_len, g1, k1, k2, w1, b7, w2, w3, w4, w5, w6, w7, e2, e3, z1, z2, z4, y1, Bool.false_and, beq_self_eq_true, Bool.and_true, hne, Nat.add_assoc, off_ne, ne_off, ipdnx0, jpdnx0, ipdnx1, jpdnx1, eqAgg, eqFs, eqSc, places, fillAll, opn_eq, T1, T2, T3, T4, T5, T6, T9, T10, T11, T12, T15, T16, T17, T20, T21, T22, T23, T25, T26, T27, T28, T30, T31, T32, T33, T34, T36, T37, T38, T39, T40, T41, T43, T44, T46, T47, T48, T49, T50, T51, T52, T53, T54, T55, T56, T57, T58, T59, T60, T61, T62, T63, T64, T65, T67, T68, T69, T70, T71, T72, T73, T74, T75, T76, T77, T78, T80, T81, T83, T84, T86, T87, T88, T89, T90, T91, T93, T94, T95, T96, T98, T99, T100, T101, T103, T105, T106, T107, T108, T109, T110, T111, T112, T113, T114, T117, T120, T121, T122, T123, T124, T125, T126]
        obtain ⟨h', n', d1, d2, q1, q2, d4⟩ := hyield (by omega) (H.upd nx (some ⟨[.int .i64 pn, .int .i64 qn], true, 2, false⟩)) (fun j hj1 hj2 => by simp only [upd_apply, ↓reduceIte, Nat.reduceEqDiff, hj1, hj2, if_neg])
        refine openK_any d1 ?_
        simp (maxSteps := 4000000) only [go_sem, ↓reduceIte, Nat.reduceAdd, Nat.reduceSub, Nat.reduceMul, Nat.reduceEqDiff, reduceCtorEq, Int.reduceAdd, Int.reduceLT, Int.reduceLE, Int.reduceToNat, Int.reduceNeg, Int.reduceSub, ← List.map_take, ← List.map_drop, ne_eq, Nat.reduceLeDiff, Nat.reduceLT, Nat.zero_le, Nat.le_refl, wrap64, wrapu64, wrapu32, ← Int.natCast_add, ← Int.natCast_mul, cast_succ, wrapu32_nat, shr32, reps_wd, map_set_wd, List.length_set, zs_len, Int.reduceEq]
        simp only [upd_apply, ↓reduceIte, Nat.reduceEqDiff, off_ne, ne_off, if_pos, k2] at q1 q2
        exact ⟨k - 1, by omega, i + 1, by rw [hAn]; exact garb rfl, by omega, by rw [hpn, hqn]; exact q1, by rw [if_neg (by omega), if_neg (by omega)]; exact q2, d4, by omega⟩
  obtain ⟨v, h', n', h1, rfl, h2⟩ := key
  exact ⟨h', n', h1, h2⟩
end Go.Proofs.Ytiglncbaomoceaa

/- Walks: the period of a root. (Own work of this repo.) -/
namespace Go.Proofs.Ytiglncbaomoceaa
open Vm Pel
set_option maxRecDepth 10000

def As (D r : Int) (n : Nat) : List AV := (List.range n).map fun i => .int .i64 (A D r (i + 1))
theorem As_succ (D r : Int) (n : Nat) : As D r (n + 1) = As D r n ++ [.int .i64 (A D r (n + 1))] := by
  unfold As
  rw [List.range_succ, List.map_append]
  rfl
theorem As_len (D r : Int) (n : Nat) : (As D r n).length = n := by unfold As; rw [List.length_map, List.length_range]
theorem As_get (D r : Int) (n i : Nat) (h : i < n) : (As D r n)[i]? = some (.int .i64 (A D r (i + 1))) := by
  unfold As
  rw [List.getElem?_map, List.getElem?_range h]
  rfl
theorem per_len {D r : Int} (hr : Rt D r) (hr2 : r ≤ 1000) {L : Nat} (hL : Per D r L) : L ≤ 4000000 := by
  have h1 : ((List.range L).map fun n => ((P D r (n + 1)).1 * (2 * r + 1) + (P D r (n + 1)).2).toNat).Nodup := by
    refine nodup_map _ _ List.nodup_range fun x hx y hy h => ?_
    have hx' := List.mem_range.1 hx
    have hy' := List.mem_range.1 hy
    have h2 := stage_inj hr h
    rcases Nat.lt_trichotomy x y with g | g | g
    · exact absurd h2 (per_inj hr hL g hy')
    · exact g
    · exact absurd h2.symm (per_inj hr hL g hx')
  have h2 := nodup_len _ (List.range ((r + 1) * (2 * r + 1)).toNat) h1 (fun x hx => by
    obtain ⟨n, -, rfl⟩ := List.mem_map.1 hx
    exact stage_code hr n)
  rw [List.length_map, List.length_range, List.length_range] at h2
  have := hr.pos
  have h3 : (r + 1) * (2 * r + 1) ≤ 1001 * 2001 := Int.mul_le_mul (by omega) (by omega) (by omega) (by omega)
  omega
theorem As_pure (D r : Int) (n : Nat) : AV.pureL (As D r n) = true := by
  unfold As
  generalize List.range n = l
  induction l with
  | nil => rfl
  | cons x l ih => simpa [AV.pureL, AV.pure] using ih
theorem mapL_ints {n : Nat} {H : Heap} {α : Type} (f : α → Int) (l : List α) : mapL (purify (n + 1) H) (l.map fun i => .int .i64 (f i)) = some (l.map (fun i => .int .i64 (f i)), []) := by
  induction l with
  | nil => rfl
  | cons x l ih => simp only [List.map_cons, mapL_cons, purify_int, ih, List.append_nil]
theorem mapL_As (n : Nat) (H : Heap) (D r : Int) (L : Nat) : mapL (purify (n + 1) H) (As D r L) = some (As D r L, []) := mapL_ints _ _
theorem Period_no (D : Int) (h : denP E 36 [.int .i64 D] = some (.ret (.bool false))) : denP E 9 [.int .i64 D] = some (.ret (.tup [.lst true [], .int .i64 2])) := by
  refine denP_eq E9 rfl (by simp [AV.pureL, AV.pure, pure_wd]) ?_
  simp (maxSteps := 4000000) only [go_sem, ↓reduceIte, Nat.reduceAdd, Nat.reduceSub, Nat.reduceMul, Nat.reduceEqDiff, reduceCtorEq, Int.reduceAdd, Int.reduceLT, Int.reduceLE, Int.reduceToNat, Int.reduceNeg, Int.reduceSub, ← List.map_take, ← List.map_drop, ne_eq, Nat.reduceLeDiff, Nat.reduceLT, Nat.zero_le, Nat.le_refl, wrap64, wrapu64, wrapu32, ← Int.natCast_add, ← Int.natCast_mul, cast_succ, wrapu32_nat, shr32, reps_wd, map_set_wd, List.length_set, zs_len, Try.f9, h, places, fillAll]
set_option maxHeartbeats 2000000 in
theorem Period_yes (D r : Int) (hr : Rt D r) (hD : D ≤ 1000000) (L : Nat) (hL : Per D r L) (hf : denP E 36 [.int .i64 D] = some (.ret (.bool true))) :
    denP E 9 [.int .i64 D] = some (.ret (.tup [.lst false (As D r L), .int .i64 0])) := by
  refine denP_eq E9 rfl (by simp [AV.pureL, AV.pure, pure_wd]) ?_
  simp (maxSteps := 4000000) only [go_sem, ↓reduceIte, Nat.reduceAdd, Nat.reduceSub, Nat.reduceMul, Nat.reduceEqDiff, reduceCtorEq, Int.reduceAdd, Int.reduceLT, Int.reduceLE, Int.reduceToNat, Int.reduceNeg, Int.reduceSub, ← List.map_take, ← List.map_drop, ne_eq, Nat.reduceLeDiff, Nat.reduceLT, Nat.zero_le, Nat.le_refl, wrap64, wrapu64, wrapu32, ← Int.natCast_add, ← Int.natCast_mul, cast_succ, wrapu32_nat, shr32, reps_wd, map_set_wd, List.length_set, zs_len, Try.f9, hf, places, fillAll]
  obtain ⟨H, d1, k1, k2⟩ := expansion_open D (Heap.empty.upd 0 (some ⟨[.lst true []], false, 1, false⟩)) 1
  refine openK_any d1 ?_
  have q0 := k2 0 (by decide)
  simp only [upd_apply, ↓reduceIte, Nat.reduceEqDiff, if_pos] at q0
  clear d1 k2
  simp (maxSteps := 4000000) only [go_sem, ↓reduceIte, Nat.reduceAdd, Nat.reduceSub, Nat.reduceMul, Nat.reduceEqDiff, reduceCtorEq, Int.reduceAdd, Int.reduceLT, Int.reduceLE, Int.reduceToNat, Int.reduceNeg, Int.reduceSub, ← List.map_take, ← List.map_drop, ne_eq, Nat.reduceLeDiff, Nat.reduceLT, Nat.zero_le, Nat.le_refl, wrap64, wrapu64, wrapu32, ← Int.natCast_add, ← Int.natCast_mul, cast_succ, wrapu32_nat, shr32, reps_wd, map_set_wd, List.length_set, zs_len, q0]
  refine W_rangeFunc fun L' hL' => ?_
  refine ⟨by decide, ?_⟩
  dsimp only
  have hr2 := (A_small hr hD 0).1
  have hlen := per_len hr hr2 hL
  obtain ⟨Y, hYd⟩ : ∃ Y : Nat → Heap → Nat → Prop, Y = fun n h m => (h 0 = some ⟨[.lst true []], false, 1, false⟩ ∧ n = 0 ∨ ∃ q, 5 ≤ q ∧ q < m ∧ h 0 = some ⟨[.ref q 0 n], false, 1, false⟩ ∧ h q = some ⟨As D r n, false, 1, false⟩ ∧ 1 ≤ n) ∧ h 1 = some ⟨[.int .i64 D], false, 1, false⟩ ∧ h 2 = some (L' 0) := ⟨_, rfl⟩
  have hmain := expansion1_open D r hr hD L hL 1 2 3 (H.upd 2 (some (L' 0))) (by decide) Y ?_ ?_ ?_ ?_
  · obtain ⟨h', n', d1, hn', hy⟩ := hmain
    rw [hYd] at hy
    obtain ⟨e1 | ⟨q, hq1, hq2, e1, e4, e5⟩, e2, e3⟩ := hy
    · have := hL.1
      omega
    · refine ⟨_, h', n', 0, .norm, d1, e3, rfl, ?_⟩
      have y1 : (q = 2) = False := eq_false (by omega)
      have m1 := fun n => mapL_As n (h'.upd 2 none) D r L
      have l1 := As_len D r L
      have t1 : List.take L (As D r L) = As D r L := List.take_of_length_le (by omega)
      clear d1 hL' hYd
      simp (maxSteps := 4000000) only [go_sem, ↓reduceIte, Nat.reduceAdd, Nat.reduceSub, Nat.reduceMul, Nat.reduceEqDiff, reduceCtorEq, Int.reduceAdd, Int.reduceLT, Int.reduceLE, Int.reduceToNat, Int.reduceNeg, Int.reduceSub, ← List.map_take, ← List.map_drop, ne_eq, Nat.reduceLeDiff, Nat.reduceLT, Nat.zero_le, Nat.le_refl, wrap64, wrapu64, wrapu32, ← Int.natCast_add, ← Int.natCast_mul, cast_succ, wrapu32_nat, shr32, reps_wd, map_set_wd, List.length_set, zs_len, e1, e4, y1, purify_ref, refP, m1, l1, t1, elems, Nat.mul_one, List.drop_zero]
      rw [elems_one _ _ l1]
  · rw [hYd]
    rintro n h h' m m' ⟨e1, e2, e3⟩ hm hh
    refine ⟨?_, (hh _ (by decide) (by decide)).trans e2, (hh _ (by decide) (by decide)).trans e3⟩
    rcases e1 with ⟨e1, e4⟩ | ⟨q, hq1, hq2, e1, e4, e5⟩
    · exact .inl ⟨(hh _ (by decide) (by decide)).trans e1, e4⟩
    · exact .inr ⟨q, hq1, by omega, (hh _ (by decide) (by decide)).trans e1, (hh q (by omega) (by omega)).trans e4, e5⟩
  · rw [hYd]
    rintro n h m ⟨e1, e2, e3⟩
    exact e2
  · intro n h n0 hn hn0 hy
    have hy' := hy
    rw [hYd] at hy'
    obtain ⟨e1, e2, e3⟩ := hy'
    have hfin : ∃ b h' n', denO E 1000003 ([.int .i64 (A D r (n + 1))] ++ [.ref 2 0 0]) h n0 = some (.ret (.bool b), h', n') ∧ (b = true ∧ n0 ≤ n' ∧ h' 3 = h 3 ∧ h' (3 + 1) = h (3 + 1) ∧ Y (n + 1) h' n') := by
      refine denO_yield (args := [.int .i64 (A D r (n + 1))]) (R := fun b h' n' => b = true ∧ n0 ≤ n' ∧ h' 3 = h 3 ∧ h' (3 + 1) = h (3 + 1) ∧ Y (n + 1) h' n') hL' eok.yf e3 rfl ?_
      have hY2 : ∀ h' m q, 5 ≤ q → q < m → h' 0 = some ⟨[.ref q 0 (n + 1)], false, 1, false⟩ → h' q = some ⟨As D r n ++ [.int .i64 (A D r (n + 1))], false, 1, false⟩ → h' 1 = some ⟨[.int .i64 D], false, 1, false⟩ → h' 2 = some (L' 0) → Y (n + 1) h' m := fun h' m q a1 a2 a3 a4 a5 a6 => by
        rw [hYd]; exact ⟨.inr ⟨q, a1, a2, a3, by rw [As_succ]; exact a4, by omega⟩, a5, a6⟩
      clear hL' hy hYd
      have l1 := As_len D r n
      have y0 : (n0 = 0) = False := eq_false (by omega)
      have y1 : (n0 = 1) = False := eq_false (by omega)
      have y2 : (n0 = 2) = False := eq_false (by omega)
      have x0 : (0 = n0) = False := eq_false (by omega)
      have x1 : (1 = n0) = False := eq_false (by omega)
      have x2 : (2 = n0) = False := eq_false (by omega)
      have v0 : (n0 = n0 + 1) = False := eq_false (by omega)
      have v1 : (n0 + 1 = n0) = False := eq_false (by omega)
      have v2 : (n0 + 1 = 0) = False := eq_false (by omega)
      have v3 : (n0 + 1 = 1) = False := eq_false (by omega)
      have v4 : (n0 + 1 = 2) = False := eq_false (by omega)
      have v5 : (0 = n0 + 1) = False := eq_false (by omega)
      have v6 : (1 = n0 + 1) = False := eq_false (by omega)
      have v7 : (2 = n0 + 1) = False := eq_false (by omega)
      rcases e1 with ⟨e1, e4⟩ | ⟨q, hq1, hq2, e1, e4, e5⟩
      · subst e4
        simp (maxSteps := 4000000) only [go_sem, ↓reduceIte, Nat.reduceAdd, Nat.reduceSub, Nat.reduceMul, Nat.reduceEqDiff, reduceCtorEq, Int.reduceAdd, Int.reduceLT, Int.reduceLE, Int.reduceToNat, Int.reduceNeg, Int.reduceSub, ← List.map_take, ← List.map_drop, ne_eq, Nat.reduceLeDiff, Nat.reduceLT, Nat.zero_le, Nat.le_refl, wrap64, wrapu64, wrapu32, ← Int.natCast_add, ← Int.natCast_mul, cast_succ, wrapu32_nat, shr32, reps_wd, map_set_wd, List.length_set, zs_len, e1, e2, e3, y0, y1, y2, x0, x1, x2, v0, v1, v2, v3, v4, v5, v6, v7, reps, List.set, List.all, places, fillAll, appendEff, srcCells, opn_eq, T1, T2, T3, T4, T5, T6, T9, T10, T11, T12, T15, T16, T17, T20, T21, T22, T23, T25, T26, T27, T28, T30, T31, T32, T33, T34, T36, T37, T38, T39, T40, T41, T43, T44, T46, T47, T48, T49, T50, T51, T52, T53, T54, T55, T56, T57, T58, T59, T60, T61, T62, T63, T64, T65, T67, T68, T69, T70, T71, T72, T73, T74, T75, T76, T77, T78, T80, T81, T83, T84, T86, T87, T88, T89, T90, T91, T93, T94, T95, T96, T98, T99, T100, T101, T103, T105, T106, T107, T108, T109, T110, T111, T112, T113, T114, T117, T120, T121, T122, T123, T124, T125, T126]
        refine ⟨by omega, if_neg (by omega), by rw [if_neg (by omega), if_neg (by omega)], hY2 _ _ (n0 + 1) (by omega) (by omega) ?_ ?_ ?_ ?_⟩
        · simp only [upd_apply, ↓reduceIte, Nat.reduceEqDiff, y0, y1, y2, x0, x1, x2, v0, v1, v2, v3, v4, v5, v6, v7]
        · simp only [upd_apply, ↓reduceIte, Nat.reduceEqDiff, y0, y1, y2, x0, x1, x2, v0, v1, v2, v3, v4, v5, v6, v7]
          rfl
        · simp only [upd_apply, ↓reduceIte, Nat.reduceEqDiff, y0, y1, y2, x0, x1, x2, v0, v1, v2, v3, v4, v5, v6, v7, e2]
        · simp only [upd_apply, ↓reduceIte, Nat.reduceEqDiff, y0, y1, y2, x0, x1, x2, v0, v1, v2, v3, v4, v5, v6, v7, if_pos]
      · have u0 : (q = n0) = False := eq_false (by omega)
        have u1 : (q = n0 + 1) = False := eq_false (by omega)
        have u2 : (q = 2) = False := eq_false (by omega)
        have u3 : (q = 0) = False := eq_false (by omega)
        have u4 : (q = 1) = False := eq_false (by omega)
        have u5 : (n0 = q) = False := eq_false (by omega)
        have u6 : (n0 + 1 = q) = False := eq_false (by omega)
        have u7 : (2 = q) = False := eq_false (by omega)
        have u8 : (0 = q) = False := eq_false (by omega)
        have u9 : (1 = q) = False := eq_false (by omega)
        have ub : ((2 * (n + 1) + 1000) * 8 ≤ 281474976710656) = True := eq_true (by omega)
        simp (maxSteps := 4000000) only [go_sem, ↓reduceIte, Nat.reduceAdd, Nat.reduceSub, Nat.reduceMul, Nat.reduceEqDiff, reduceCtorEq, Int.reduceAdd, Int.reduceLT, Int.reduceLE, Int.reduceToNat, Int.reduceNeg, Int.reduceSub, ← List.map_take, ← List.map_drop, ne_eq, Nat.reduceLeDiff, Nat.reduceLT, Nat.zero_le, Nat.le_refl, wrap64, wrapu64, wrapu32, ← Int.natCast_add, ← Int.natCast_mul, cast_succ, wrapu32_nat, shr32, reps_wd, map_set_wd, List.length_set, zs_len, e1, e2, e3, e4, l1, u0, u1, u2, u3, u4, u5, u6, u7, u8, u9, ub, Nat.mul_one, y0, y1, y2, x0, x1, x2, v0, v1, v2, v3, v4, v5, v6, v7, reps, List.set, List.all, places, fillAll, appendEff, srcCells, opn_eq, T1, T2, T3, T4, T5, T6, T9, T10, T11, T12, T15, T16, T17, T20, T21, T22, T23, T25, T26, T27, T28, T30, T31, T32, T33, T34, T36, T37, T38, T39, T40, T41, T43, T44, T46, T47, T48, T49, T50, T51, T52, T53, T54, T55, T56, T57, T58, T59, T60, T61, T62, T63, T64, T65, T67, T68, T69, T70, T71, T72, T73, T74, T75, T76, T77, T78, T80, T81, T83, T84, T86, T87, T88, T89, T90, T91, T93, T94, T95, T96, T98, T99, T100, T101, T103, T105, T106, T107, T108, T109, T110, T111, T112, T113, T114, T117, T120, T121, T122, T123, T124, T125, T126]
        refine ⟨by omega, by rw [if_neg (by omega), if_neg (by omega)], by rw [if_neg (by omega), if_neg (by omega), if_neg (by omega)], hY2 _ _ (n0 + 1) (by omega) (by omega) ?_ ?_ ?_ ?_⟩
        · simp only [upd_apply, ↓reduceIte, Nat.reduceEqDiff, y0, y1, y2, x0, x1, x2, v0, v1, v2, v3, v4, v5, v6, v7, u0, u1, u2, u3, u4, u5, u6, u7, u8, u9]
        · simp only [upd_apply, ↓reduceIte, Nat.reduceEqDiff, y0, y1, y2, x0, x1, x2, v0, v1, v2, v3, v4, v5, v6, v7, u0, u1, u2, u3, u4, u5, u6, u7, u8, u9]
        · simp only [upd_apply, ↓reduceIte, Nat.reduceEqDiff, y0, y1, y2, x0, x1, x2, v0, v1, v2, v3, v4, v5, v6, v7, e2, u0, u1, u2, u3, u4, u5, u6, u7, u8, u9]
        · simp only [upd_apply, ↓reduceIte, Nat.reduceEqDiff, y0, y1, y2, x0, x1, x2, v0, v1, v2, v3, v4, v5, v6, v7, if_pos, u0, u1, u2, u3, u4, u5, u6, u7, u8, u9]
    obtain ⟨b, h', n', h1, rfl, h2⟩ := hfin
    exact ⟨h', n', h1, h2⟩
  · rw [hYd]
    refine ⟨.inl ⟨?_, rfl⟩, ?_, ?_⟩
    · simp only [upd_apply, ↓reduceIte, Nat.reduceEqDiff, q0]
    · simp only [upd_apply, ↓reduceIte, Nat.reduceEqDiff, k1]
    · simp only [upd_apply, ↓reduceIte, Nat.reduceEqDiff, if_pos]
set_option maxHeartbeats 2000000 in
theorem rPeriod (D r0 : Int) (hr : Rt D r0) (hD : D ≤ 1000000) (L : Nat) (hL : Per D r0 L) : denP E 15 [.int .i64 D] = some (.ret (.lst false (As D r0 L))) := by
  refine denP_eq E15 rfl (by simp [AV.pureL, AV.pure, pure_wd]) ?_
  obtain ⟨s1, -⟩ := A_small hr hD 0
  have hp := hr.pos
  have hlen := per_len hr s1 hL
  have o1 := arithmancyref07_root D r0 hD (by omega) (by have := hr.lo; omega) hr.hi
  simp (maxSteps := 4000000) only [go_sem, ↓reduceIte, Nat.reduceAdd, Nat.reduceSub, Nat.reduceMul, Nat.reduceEqDiff, reduceCtorEq, Int.reduceAdd, Int.reduceLT, Int.reduceLE, Int.reduceToNat, Int.reduceNeg, Int.reduceSub, ← List.map_take, ← List.map_drop, ne_eq, Nat.reduceLeDiff, Nat.reduceLT, Nat.zero_le, Nat.le_refl, wrap64, wrapu64, wrapu32, ← Int.natCast_add, ← Int.natCast_mul, cast_succ, wrapu32_nat, shr32, reps_wd, map_set_wd, List.length_set, zs_len, Try.f15, o1]
  refine W_loopS (fun k sl h nn => ∃ (i : Nat) (out : AV), (∃ g : Nat → AV, sl = [.int .i64 D, g 1, g 2, .int .i64 r0, out, .int .i64 (P D r0 i).1, .int .i64 (P D r0 i).2, .int .i64 (A D r0 i), g 8, g 9, g 10, g 11, g 12, g 13, g 14, g 15, g 16, g 17, g 18, g 19, g 20, g 21, g 22, g 23, g 24, g 25, g 26, g 27, g 28, g 29, g 30, g 31, g 32, g 33, g 34, g 35, g 36]) ∧
    (out = .lst true [] ∧ i = 0 ∨ ∃ q, q < nn ∧ out = .ref q 0 i ∧ h q = some ⟨As D r0 i, false, 1, false⟩ ∧ 1 ≤ i) ∧ i + k + 1 = L) (L - 1) ⟨0, .lst true [], garb ?_, .inl ⟨rfl, rfl⟩, by have := hL.1; omega⟩ ?_
  · rw [A_zero]; rfl
  rintro k _ H nn ⟨i, out, ⟨g, rfl⟩, hout, hk⟩
  obtain ⟨-, b1, b2, b3, b4, b5, b6, b7⟩ := A_small hr hD i
  obtain ⟨-, c1, c2, c3, c4, c5, c6, c7⟩ := A_small hr hD (i + 1)
  have hq := q_mul hr i
  have e2 : (D - (P D r0 (i + 1)).1 * (P D r0 (i + 1)).1).tdiv (P D r0 i).2 = (P D r0 (i + 1)).2 := by
    rw [← hq, Int.mul_tdiv_cancel_left _ (by omega)]
  have e3 : (r0 + (P D r0 (i + 1)).1).tdiv (P D r0 (i + 1)).2 = A D r0 (i + 1) := by
    rw [Int.tdiv_eq_ediv_of_nonneg (by omega)]
    rfl
  have hend : A D r0 (i + 1) = 2 * r0 ↔ i + 1 = L := by
    rw [last_iff hr i]
    constructor
    · intro h1
      refine Classical.byContradiction fun h2 => ?_
      exact hL.2.2 (i + 1) (by omega) (by omega) h1
    · intro h1
      rw [h1]; exact hL.2.1
  have m1 : (P D r0 (i + 1)).1 * (P D r0 (i + 1)).1 ≤ 1000 * 1000 := Int.mul_le_mul (by omega) (by omega) (by omega) (by omega)
  have m0 : 0 ≤ (P D r0 (i + 1)).1 * (P D r0 (i + 1)).1 := Int.mul_nonneg (by omega) (by omega)
  have hlo := hr.lo
  have m2 : 0 ≤ r0 * r0 := Int.mul_nonneg (by omega) (by omega)
  have w1 : IntKind.i64.wrap (A D r0 i * (P D r0 i).2) = A D r0 i * (P D r0 i).2 := wrap64 (by omega) (by omega)
  have w2 : IntKind.i64.wrap ((P D r0 (i + 1)).1) = (P D r0 (i + 1)).1 := wrap64 (by omega) (by omega)
  have w3 : IntKind.i64.wrap ((P D r0 (i + 1)).1 * (P D r0 (i + 1)).1) = (P D r0 (i + 1)).1 * (P D r0 (i + 1)).1 := wrap64 (by omega) (by omega)
  have w4 : IntKind.i64.wrap (D - (P D r0 (i + 1)).1 * (P D r0 (i + 1)).1) = D - (P D r0 (i + 1)).1 * (P D r0 (i + 1)).1 := wrap64 (by omega) (by omega)
  have w5 : IntKind.i64.wrap ((P D r0 (i + 1)).2) = (P D r0 (i + 1)).2 := wrap64 (by omega) (by omega)
  have w6 : IntKind.i64.wrap (r0 + (P D r0 (i + 1)).1) = r0 + (P D r0 (i + 1)).1 := wrap64 (by omega) (by omega)
  have w7 : IntKind.i64.wrap (A D r0 (i + 1)) = A D r0 (i + 1) := wrap64 (by omega) (by omega)
  have w8 : IntKind.i64.wrap (2 * r0) = 2 * r0 := wrap64 (by omega) (by omega)
  have z1 : ((P D r0 i).2 = 0) = False := eq_false (by omega)
  have z2 : ((P D r0 (i + 1)).2 = 0) = False := eq_false (by omega)
  have v0 : (nn = nn + 1) = False := eq_false (by omega)
  have v1 : (nn + 1 = nn) = False := eq_false (by omega)
  have l1 := As_len D r0 i
  have hA1 := As_succ D r0 i
  generalize hp0 : (P D r0 i).1 = p0 at *
  generalize hq0 : (P D r0 i).2 = q0 at *
  generalize hpn : (P D r0 (i + 1)).1 = pn at *
  generalize hqn : (P D r0 (i + 1)).2 = qn at *
  generalize A D r0 i = a0 at *
  generalize hAn : A D r0 (i + 1) = an at *
  clear hq c7
  have hres : ∀ (h : Heap) (q : Nat), i + 1 = L → purK (fun x => x = .lst false (As D r0 L)) (refP 4 h q 0 (i + 1) (some ⟨As D r0 i ++ [.int .i64 an], false, 1, false⟩)) := fun h q h2 => by
    rw [← hA1, ← h2]
    have l2 := As_len D r0 (i + 1)
    have t1 : List.take (i + 1) (As D r0 (i + 1)) = As D r0 (i + 1) := List.take_of_length_le (by omega)
    simp [refP, mapL_As, l2, t1, elems_one, purK]
  by_cases h1 : i + 1 = L
  · have z3 : (an = 2 * r0) = True := eq_true (hend.2 h1)
    rcases hout with ⟨rfl, h2⟩ | ⟨q, hq2, rfl, h3, h4⟩
    · subst h2
      simp (maxSteps := 4000000) only [go_sem, ↓reduceIte, Nat.reduceAdd, Nat.reduceSub, Nat.reduceMul, Nat.reduceEqDiff, reduceCtorEq, Int.reduceAdd, Int.reduceLT, Int.reduceLE, Int.reduceToNat, Int.reduceNeg, Int.reduceSub, ← List.map_take, ← List.map_drop, ne_eq, Nat.reduceLeDiff, Nat.reduceLT, Nat.zero_le, Nat.le_refl, wrap64, wrapu64, wrapu32, ← Int.natCast_add, ← Int.natCast_mul, cast_succ, wrapu32_nat, shr32, reps_wd, map_set_wd, List.length_set, zs_len, w1, b7, w2, w3, w4, w5, w6, w7, w8, e2, e3, z1, z2, z3, v0, v1, reps, List.set, List.all, places, fillAll, appendEff, srcCells, opn_eq, T1, T2, T3, T4, T5, T6, T9, T10, T11, T12, T15, T16, T17, T20, T21, T22, T23, T25, T26, T27, T28, T30, T31, T32, T33, T34, T36, T37, T38, T39, T40, T41, T43, T44, T46, T47, T48, T49, T50, T51, T52, T53, T54, T55, T56, T57, T58, T59, T60, T61, T62, T63, T64, T65, T67, T68, T69, T70, T71, T72, T73, T74, T75, T76, T77, T78, T80, T81, T83, T84, T86, T87, T88, T89, T90, T91, T93, T94, T95, T96, T98, T99, T100, T101, T103, T105, T106, T107, T108, T109, T110, T111, T112, T113, T114, T117, T120, T121, T122, T123, T124, T125, T126]
      exact hres _ _ h1
    · have u0 : (q = nn) = False := eq_false (by omega)
      have u1 : (q = nn + 1) = False := eq_false (by omega)
      have ub : ((2 * (i + 1) + 1000) * 8 ≤ 281474976710656) = True := eq_true (by omega)
      simp (maxSteps := 4000000) only [go_sem, ↓reduceIte, Nat.reduceAdd, Nat.reduceSub, Nat.reduceMul, Nat.reduceEqDiff, reduceCtorEq, Int.reduceAdd, Int.reduceLT, Int.reduceLE, Int.reduceToNat, Int.reduceNeg, Int.reduceSub, ← List.map_take, ← List.map_drop, ne_eq, Nat.reduceLeDiff, Nat.reduceLT, Nat.zero_le, Nat.le_refl, wrap64, wrapu64, wrapu32, ← Int.natCast_add, ← Int.natCast_mul, cast_succ, wrapu32_nat, shr32, reps_wd, map_set_wd, List.length_set, zs_len, w1, b7, w2, w3, w4, w5, w6, w7, w8, e2, e3, z1, z2, z3, v0, v1, u0, u1, ub, h3, l1, Nat.mul_one, reps, List.set, List.all, places, fillAll, appendEff, srcCells, opn_eq, T1, T2, T3, T4, T5, T6, T9, T10, T11, T12, T15, T16, T17, T20, T21, T22, T23, T25, T26, T27, T28, T30, T31, T32, T33, T34, T36, T37, T38, T39, T40, T41, T43, T44, T46, T47, T48, T49, T50, T51, T52, T53, T54, T55, T56, T57, T58, T59, T60, T61, T62, T63, T64, T65, T67, T68, T69, T70, T71, T72, T73, T74, T75, T76, T77, T78, T80, T81, T83, T84, T86, T87, T88, T89, T90, T91, T93, T94, T95, T96, T98, T99, T100, T101, T103, T105, T106, T107, T108, T109, T110, T111, T112, T113, T114, T117, T120, T121, T122, T123, T124, T125, T126]
      exact hres _ _ h1
  · have z3 : (an = 2 * r0) = False := eq_false (fun h => h1 (hend.1 h))
    rcases hout with ⟨rfl, h2⟩ | ⟨q, hq2, rfl, h3, h4⟩
    · subst h2
      simp (maxSteps := 4000000) only [go_sem, ↓reduceIte, Nat.reduceAdd, Nat.reduceSub, Nat.reduceMul, Nat.reduceEqDiff, reduceCtorEq, Int.reduceAdd, Int.reduceLT, Int.reduceLE, Int.reduceToNat, Int.reduceNeg, Int.reduceSub, ← List.map_take, ← List.map_drop, ne_eq, Nat.reduceLeDiff, Nat.reduceLT, Nat.zero_le, Nat.le_refl, wrap64, wrapu64, wrapu32, ← Int.natCast_add, ← Int.natCast_mul, cast_succ, wrapu32_nat, shr32, reps_wd, map_set_wd, List.length_set, zs_len, w1, b7, w2, w3, w4, w5, w6, w7, w8, e2, e3, z1, z2, z3, v0, v1, reps, List.set, List.all, places, fillAll, appendEff, srcCells, opn_eq, T1, T2, T3, T4, T5, T6, T9, T10, T11, T12, T15, T16, T17, T20, T21, T22, T23, T25, T26, T27, T28, T30, T31, T32, T33, T34, T36, T37, T38, T39, T40, T41, T43, T44, T46, T47, T48, T49, T50, T51, T52, T53, T54, T55, T56, T57, T58, T59, T60, T61, T62, T63, T64, T65, T67, T68, T69, T70, T71, T72, T73, T74, T75, T76, T77, T78, T80, T81, T83, T84, T86, T87, T88, T89, T90, T91, T93, T94, T95, T96, T98, T99, T100, T101, T103, T105, T106, T107, T108, T109, T110, T111, T112, T113, T114, T117, T120, T121, T122, T123, T124, T125, T126]
      refine ⟨k - 1, by omega, 0 + 1, _, by rw [hAn, hpn, hqn]; exact garb rfl, .inr ⟨nn + 1, by omega, rfl, ?_, by omega⟩, by omega⟩
      simp only [upd_apply, ↓reduceIte, Nat.reduceEqDiff, if_pos]
      rw [hA1]
      rfl
    · have u0 : (q = nn) = False := eq_false (by omega)
      have u1 : (q = nn + 1) = False := eq_false (by omega)
      have ub : ((2 * (i + 1) + 1000) * 8 ≤ 281474976710656) = True := eq_true (by omega)
      simp (maxSteps := 4000000) only [go_sem, ↓reduceIte, Nat.reduceAdd, Nat.reduceSub, Nat.reduceMul, Nat.reduceEqDiff, reduceCtorEq, Int.reduceAdd, Int.reduceLT, Int.reduceLE, Int.reduceToNat, Int.reduceNeg, Int.reduceSub, ← List.map_take, ← List.map_drop, ne_eq, Nat.reduceLeDiff, Nat.reduceLT, Nat.zero_le, Nat.le_refl, wrap64, wrapu64, wrapu32, ← Int.natCast_add, ← Int.natCast_mul, cast_succ, wrapu32_nat, shr32, reps_wd, map_set_wd, List.length_set, zs_len, w1, b7, w2, w3, w4, w5, w6, w7, w8, e2, e3, z1, z2, z3, v0, v1, u0, u1, ub, h3, l1, Nat.mul_one, reps, List.set, List.all, places, fillAll, appendEff, srcCells, opn_eq, T1, T2, T3, T4, T5, T6, T9, T10, T11, T12, T15, T16, T17, T20, T21, T22, T23, T25, T26, T27, T28, T30, T31, T32, T33, T34, T36, T37, T38, T39, T40, T41, T43, T44, T46, T47, T48, T49, T50, T51, T52, T53, T54, T55, T56, T57, T58, T59, T60, T61, T62, T63, T64, T65, T67, T68, T69, T70, T71, T72, T73, T74, T75, T76, T77, T78, T80, T81, T83, T84, T86, T87, T88, T89, T90, T91, T93, T94, T95, T96, T98, T99, T100, T101, T103, T105, T106, T107, T108, T109, T110, T111, T112, T113, T114, T117, T120, T121, T122, T123, T124, T125, T126]
      refine ⟨k - 1, by omega, i + 1, _, by rw [hAn, hpn, hqn]; exact garb rfl, .inr ⟨nn + 1, by omega, rfl, ?_, by omega⟩, by omega⟩
      simp only [upd_apply, ↓reduceIte, Nat.reduceEqDiff, if_pos]
      rw [hA1]
end Go.Proofs.Ytiglncbaomoceaa

/- Plain mathematics for chapter 7: how great the unit is. (Own work of this repo.) -/
namespace Pel

/-- The weight of a divisor. -/
def wt (N q : Nat) : Nat := (N / q).log2 + 1
def rowS (N u : Nat) : Nat → Nat
  | 0 => 0
  | n + 1 => rowS N u n + Nat.gcd u (n + 1) * wt N (u * (n + 1))
def allS (N : Nat) : Nat → Nat
  | 0 => 0
  | n + 1 => allS N n + rowS N (n + 1) (N / (n + 1))
set_option maxRecDepth 100000 in
theorem allS_bound : allS 2000 2000 ≤ 52000 := by decide +kernel
/-- The same as lists. -/
def TR (u : Nat) : Nat → List (Nat × Nat × Nat)
  | 0 => []
  | n + 1 => TR u n ++ (List.range (Nat.gcd u (n + 1))).map fun t => (u, n + 1, t)
def TT (N : Nat) : Nat → List (Nat × Nat × Nat)
  | 0 => []
  | n + 1 => TT N n ++ TR (n + 1) (N / (n + 1))
def sumF {α : Type} (f : α → Nat) : List α → Nat
  | [] => 0
  | x :: l => f x + sumF f l
theorem sumF_app {α : Type} (f : α → Nat) : ∀ (l m : List α), sumF f (l ++ m) = sumF f l + sumF f m
  | [], m => by simp [sumF]
  | x :: l, m => by simp only [List.cons_append, sumF, sumF_app f l m]; omega
theorem sumF_map {α β : Type} (f : β → Nat) (g : α → β) : ∀ l : List α, sumF f (l.map g) = sumF (fun x => f (g x)) l
  | [] => rfl
  | x :: l => by simp only [List.map_cons, sumF, sumF_map f g l]
theorem sumF_const {α : Type} (c : Nat) : ∀ l : List α, sumF (fun _ => c) l = l.length * c
  | [] => by simp [sumF]
  | x :: l => by simp only [sumF, sumF_const c l, List.length_cons, Nat.add_mul, Nat.one_mul]; omega
theorem sumF_erase {α : Type} [DecidableEq α] (f : α → Nat) : ∀ (l : List α) (x : α), x ∈ l → f x + sumF f (l.erase x) = sumF f l
  | [], x, h => by cases h
  | y :: l, x, h => by
    by_cases e : y = x
    · subst e
      rw [List.erase_cons_head]; rfl
    · rw [List.erase_cons_tail (by simpa using e)]
      have hm : x ∈ l := (List.mem_cons.1 h).resolve_left (fun h => e h.symm)
      have := sumF_erase f l x hm
      simp only [sumF]; omega
theorem sumF_sub {α : Type} [DecidableEq α] (f : α → Nat) : ∀ (l m : List α), l.Nodup → (∀ x ∈ l, x ∈ m) → sumF f l ≤ sumF f m
  | [], m, _, _ => Nat.zero_le _
  | x :: l, m, hn, h => by
    obtain ⟨n1, n2⟩ := List.nodup_cons.1 hn
    have hx : x ∈ m := h x List.mem_cons_self
    have := sumF_sub f l (m.erase x) n2 fun y hy => (List.mem_erase_of_ne (fun e => n1 (by rw [← e]; exact hy))).2 (h y (List.mem_cons_of_mem _ hy))
    have h2 := sumF_erase f m x hx
    simp only [sumF]; omega
theorem TR_mem {u v t : Nat} (hv : 1 ≤ v) (ht : t < Nat.gcd u v) : ∀ n, v ≤ n → (u, v, t) ∈ TR u n
  | 0, h => by omega
  | n + 1, h => by
    simp only [TR, List.mem_append, List.mem_map, List.mem_range]
    rcases Nat.lt_or_ge n v with g | g
    · right
      obtain rfl : v = n + 1 := by omega
      exact ⟨t, ht, rfl⟩
    · exact .inl (TR_mem hv ht n g)
theorem TT_mem {N u v t : Nat} (hu : 1 ≤ u) (hv : 1 ≤ v) (huv : u * v ≤ N) (ht : t < Nat.gcd u v) : ∀ n, u ≤ n → (u, v, t) ∈ TT N n
  | 0, h => by omega
  | n + 1, h => by
    simp only [TT, List.mem_append]
    rcases Nat.lt_or_ge n u with g | g
    · right
      obtain rfl : u = n + 1 := by omega
      exact TR_mem hv ht _ ((Nat.le_div_iff_mul_le (by omega)).2 (by rw [Nat.mul_comm]; exact huv))
    · exact .inl (TT_mem hu hv huv ht n g)
theorem TR_sum (N u : Nat) : ∀ n, sumF (fun x : Nat × Nat × Nat => wt N (x.1 * x.2.1)) (TR u n) = rowS N u n
  | 0 => rfl
  | n + 1 => by
    simp only [TR, rowS, sumF_app, sumF_map, TR_sum N u n]
    rw [sumF_const, List.length_range]
theorem TT_sum (N : Nat) : ∀ n, sumF (fun x : Nat × Nat × Nat => wt N (x.1 * x.2.1)) (TT N n) = allS N n
  | 0 => rfl
  | n + 1 => by simp only [TT, allS, sumF_app, TT_sum N n, TR_sum]
/-- Two numbers with the same rests modulo u and v, and the same place, have the same rest modulo u v. -/
theorem place_eq {u v x y : Nat} (hu : 0 < u) (hv : 0 < v) (h1 : x % u = y % u) (h2 : x % v = y % v) (h3 : x % (u * v) / Nat.lcm u v = y % (u * v) / Nat.lcm u v) : x % (u * v) = y % (u * v) := by
  have hl : Nat.lcm u v ∣ u * v := ⟨Nat.gcd u v, (Nat.gcd_mul_lcm u v).symm.trans (Nat.mul_comm _ _)⟩
  have key : ∀ x y : Nat, x ≤ y → x % u = y % u → x % v = y % v → x % Nat.lcm u v = y % Nat.lcm u v := by
    intro x y hxy h1 h2
    have d1 : u ∣ y - x := (Nat.dvd_iff_mod_eq_zero).2 (by rw [← Nat.sub_mod_eq_zero_of_mod_eq h1.symm])
    have d2 : v ∣ y - x := (Nat.dvd_iff_mod_eq_zero).2 (by rw [← Nat.sub_mod_eq_zero_of_mod_eq h2.symm])
    obtain ⟨c, hc⟩ := Nat.lcm_dvd d1 d2
    have : y = x + Nat.lcm u v * c := by omega
    rw [this, Nat.add_mul_mod_self_left]
  have hm : x % Nat.lcm u v = y % Nat.lcm u v := by
    rcases Nat.le_total x y with h | h
    · exact key x y h h1 h2
    · exact (key y x h h1.symm h2.symm).symm
  have e1 := Nat.div_add_mod (x % (u * v)) (Nat.lcm u v)
  have e2 := Nat.div_add_mod (y % (u * v)) (Nat.lcm u v)
  rw [Nat.mod_mod_of_dvd _ hl] at e1 e2
  rw [h3, hm] at e1
  omega
theorem place_lt {u v x : Nat} (hu : 0 < u) (hv : 0 < v) : x % (u * v) / Nat.lcm u v < Nat.gcd u v := by
  have h := Nat.gcd_mul_lcm u v
  have hp : 0 < u * v := Nat.mul_pos hu hv
  have hlp : 0 < Nat.lcm u v := Nat.lcm_pos hu hv
  rw [Nat.div_lt_iff_lt_mul hlp, h]
  exact Nat.mod_lt _ hp
/-! #### the stages with one q -/
variable {D r : Int}
def pn (D r : Int) (n : Nat) : Nat := (P D r (n + 1)).1.toNat
def qn (D r : Int) (n : Nat) : Nat := (P D r (n + 1)).2.toNat
open Classical in
/-- One solution for each q. -/
noncomputable def rho (D r : Int) (q : Nat) : Nat := if h : ∃ n, qn D r n = q then pn D r h.choose else 0
theorem q_sq (hr : Rt D r) (n : Nat) : (qn D r n : Int) ∣ D - (pn D r n : Int) * (pn D r n : Int) := by
  have h := stg hr n
  have h1 := h.q0
  have h2 := h.p0
  have e1 : (qn D r n : Int) = (P D r (n + 1)).2 := by unfold qn; omega
  have e2 : (pn D r n : Int) = (P D r (n + 1)).1 := by unfold pn; omega
  rw [e1, e2]
  exact h.dv
theorem rho_sq (hr : Rt D r) (n : Nat) : (qn D r n : Int) ∣ D - (rho D r (qn D r n) : Int) * (rho D r (qn D r n) : Int) := by
  unfold rho
  have hex : ∃ m, qn D r m = qn D r n := ⟨n, rfl⟩
  rw [dif_pos hex]
  have := q_sq hr hex.choose
  rwa [hex.choose_spec] at this
noncomputable def un (D r : Int) (n : Nat) : Nat := Nat.gcd (qn D r n) ((pn D r n : Int) - (rho D r (qn D r n) : Int)).natAbs
noncomputable def vn (D r : Int) (n : Nat) : Nat := qn D r n / un D r n
theorem q_pos' (hr : Rt D r) (n : Nat) : 0 < qn D r n := by have := (stg hr n).q0; unfold qn; omega
theorem un_pos (hr : Rt D r) (n : Nat) : 0 < un D r n := Nat.gcd_pos_of_pos_left _ (q_pos' hr n)
theorem uv_mul (n : Nat) : un D r n * vn D r n = qn D r n := Nat.mul_div_cancel' (Nat.gcd_dvd_left _ _)
theorem vn_pos (hr : Rt D r) (n : Nat) : 0 < vn D r n := by
  rcases Nat.eq_zero_or_pos (vn D r n) with h | h
  · have := uv_mul (D := D) (r := r) n
    rw [h, Nat.mul_zero] at this
    have := q_pos' hr n; omega
  · exact h
theorem vn_dvd (hr : Rt D r) (n : Nat) : vn D r n ∣ pn D r n + rho D r (qn D r n) := by
  have h1 := q_sq hr n
  have h2 := rho_sq hr n
  have h3 := Int.dvd_sub h2 h1
  unfold vn un
  have hq := q_pos' hr n
  generalize rho D r (qn D r n) = s at *
  generalize pn D r n = p at *
  generalize qn D r n = q at *
  have e : D - (s : Int) * s - (D - (p : Int) * p) = ((p : Int) - s) * ((p : Int) + s) := by rw [Int.sub_mul, Int.mul_add, Int.mul_add, Int.mul_comm (s : Int) p]; omega
  rw [e] at h3
  have h4 : q ∣ ((p : Int) - s).natAbs * (p + s) := by
    have := Int.natAbs_dvd_natAbs.2 h3
    rw [Int.natAbs_mul] at this
    have e2 : ((p : Int) + s).natAbs = p + s := by omega
    rwa [e2, Int.natAbs_natCast] at this
  generalize ((p : Int) - s).natAbs = d at *
  have hg := Nat.gcd_pos_of_pos_left d hq
  have hc := Nat.coprime_div_gcd_div_gcd hg
  refine hc.dvd_of_dvd_mul_left ?_
  obtain ⟨c, hc⟩ := h4
  have d1 := Nat.mul_div_cancel' (Nat.gcd_dvd_left q d)
  have d2 := Nat.mul_div_cancel' (Nat.gcd_dvd_right q d)
  refine ⟨c, Nat.eq_of_mul_eq_mul_left hg ?_⟩
  rw [← Nat.mul_assoc, d2, ← Nat.mul_assoc, d1]
  exact hc
theorem un_mod (n : Nat) : pn D r n % un D r n = rho D r (qn D r n) % un D r n := by
  have h : un D r n ∣ ((pn D r n : Int) - (rho D r (qn D r n) : Int)).natAbs := Nat.gcd_dvd_right _ _
  generalize un D r n = u at *
  generalize rho D r (qn D r n) = s at *
  generalize pn D r n = p at *
  have h1 : (u : Int) ∣ (p : Int) - s := Int.natAbs_dvd_natAbs.1 (by rwa [Int.natAbs_natCast])
  have h2 := Int.emod_eq_emod_iff_emod_sub_eq_zero.2 (Int.emod_eq_zero_of_dvd h1)
  omega
noncomputable def phi (D r : Int) (n : Nat) : Nat × Nat × Nat := (un D r n, vn D r n, pn D r n % (un D r n * vn D r n) / Nat.lcm (un D r n) (vn D r n))
theorem phi_inj (hr : Rt D r) {m n : Nat} (h : phi D r m = phi D r n) : P D r (m + 1) = P D r (n + 1) := by
  unfold phi at h
  have e1 : un D r m = un D r n := congrArg (·.1) h
  have e2 : vn D r m = vn D r n := congrArg (·.2.1) h
  have e3 := congrArg (·.2.2) h
  dsimp only at e3
  rw [e1, e2] at e3
  have hq : qn D r m = qn D r n := by rw [← uv_mul m, ← uv_mul n, e1, e2]
  have m1 := un_mod (D := D) (r := r) m
  have m2 := un_mod (D := D) (r := r) n
  rw [e1, hq] at m1
  have v1 := vn_dvd hr m
  have v2 := vn_dvd hr n
  rw [e2, hq] at v1
  have hv : pn D r m % vn D r n = pn D r n % vn D r n := by
    generalize vn D r n = v at *
    generalize rho D r (qn D r n) = s at *
    generalize pn D r m = x at *
    generalize pn D r n = y at *
    have d : (v : Int) ∣ (x : Int) - y := by
      have a1 : (v : Int) ∣ ((x + s : Nat) : Int) := Int.natCast_dvd_natCast.2 v1
      have a2 : (v : Int) ∣ ((y + s : Nat) : Int) := Int.natCast_dvd_natCast.2 v2
      have := Int.dvd_sub a1 a2
      rwa [show ((x + s : Nat) : Int) - ((y + s : Nat) : Int) = (x : Int) - y by omega] at this
    have := Int.emod_eq_emod_iff_emod_sub_eq_zero.2 (Int.emod_eq_zero_of_dvd d)
    omega
  have hp := place_eq (un_pos hr n) (vn_pos hr n) (m1.trans m2.symm) hv e3
  rw [uv_mul] at hp
  have a := stg hr m
  have b := stg hr n
  have a1 := a.pr; have a2 := a.lo; have a3 := a.p0; have a4 := a.q0
  have b1 := b.pr; have b2 := b.lo; have b3 := b.p0; have b4 := b.q0
  have hQ : (P D r (m + 1)).2 = (P D r (n + 1)).2 := by unfold qn at hq; omega
  refine Prod.ext ?_ hQ
  have c1 : (pn D r m : Int) = (P D r (m + 1)).1 := by unfold pn; omega
  have c2 : (pn D r n : Int) = (P D r (n + 1)).1 := by unfold pn; omega
  have c3 : (qn D r n : Int) = (P D r (n + 1)).2 := by unfold qn; omega
  rw [hQ] at a2
  rw [← c1] at a1 a2 ⊢
  rw [← c2] at b1 b2 ⊢
  rw [← c3] at a2 b2
  generalize pn D r m = x at *
  generalize pn D r n = y at *
  generalize qn D r n = q at *
  clear h e1 e2 e3 hq m1 m2 v1 v2 hv a b a3 a4 b3 b4 hQ c1 c2 c3
  have d1 := Nat.div_add_mod x q
  have d2 := Nat.div_add_mod y q
  rw [hp] at d1
  have : x / q = y / q := by
    rcases Nat.lt_trichotomy (x / q) (y / q) with g | g | g
    · have := Nat.mul_le_mul_left q (show x / q + 1 ≤ y / q by omega)
      rw [Nat.mul_add] at this; omega
    · exact g
    · have := Nat.mul_le_mul_left q (show y / q + 1 ≤ x / q by omega)
      rw [Nat.mul_add] at this; omega
  rw [this] at d1
  omega
/-- The weights of all stages within the period. -/
theorem weights (hr : Rt D r) (hr2 : r ≤ 1000) {L : Nat} (hL : Per D r L) : sumF (fun n => wt 2000 (qn D r n)) (List.range (L - 1)) ≤ 52000 := by
  have h1 := sumF_sub (fun x : Nat × Nat × Nat => wt 2000 (x.1 * x.2.1)) ((List.range (L - 1)).map (phi D r)) (TT 2000 2000)
    (nodup_map _ _ List.nodup_range fun x hx y hy e => by
      have e := phi_inj hr e
      rw [List.mem_range] at hx hy
      rcases Nat.lt_trichotomy x y with g | g | g
      · exact absurd e (per_inj hr hL g (by omega))
      · exact g
      · exact absurd e.symm (per_inj hr hL g (by omega)))
    (fun x hx => by
      obtain ⟨n, _, rfl⟩ := List.mem_map.1 hx
      have hq : qn D r n ≤ 2000 := by
        have h := stg hr n
        have h1 := h.hi; have h2 := h.pr; unfold qn; omega
      have huv := uv_mul (D := D) (r := r) n
      refine TT_mem (un_pos hr n) (vn_pos hr n) (by rw [huv]; exact hq) (place_lt (un_pos hr n) (vn_pos hr n)) 2000 ?_
      have := Nat.le_mul_of_pos_right (un D r n) (vn_pos hr n)
      omega)
  rw [TT_sum, sumF_map] at h1
  refine Nat.le_trans ?_ (Nat.le_trans h1 allS_bound)
  have : (fun n => wt 2000 (qn D r n)) = fun x => wt 2000 ((phi D r x).1 * (phi D r x).2.1) := by
    funext n
    show _ = wt 2000 (un D r n * vn D r n)
    rw [uv_mul]
  rw [this]
  exact Nat.le_refl _
theorem A_le (hr : Rt D r) (hr2 : r ≤ 1000) (n : Nat) : A D r (n + 1) + 1 ≤ ((2 ^ wt 2000 (qn D r n) : Nat) : Int) := by
  have h := stg hr n
  have ⟨g1, _⟩ := fl_spec (x := r + (P D r (n + 1)).1) h.q0
  have h1 := h.pr
  have hq := h.q0
  have ha := A_pos hr (n + 1)
  have e1 : (qn D r n : Int) = (P D r (n + 1)).2 := by unfold qn; omega
  have e2 : ((A D r (n + 1)).toNat : Int) = A D r (n + 1) := by omega
  have hle : (A D r (n + 1)).toNat ≤ 2000 / qn D r n := by
    rw [Nat.le_div_iff_mul_le (q_pos' hr n)]
    have : (((A D r (n + 1)).toNat * qn D r n : Nat) : Int) ≤ 2000 := by
      rw [Int.natCast_mul, e1, e2, Int.mul_comm]
      unfold A
      omega
    omega
  have := Nat.lt_log2_self (n := 2000 / qn D r n)
  unfold wt
  generalize (2 : Nat) ^ ((2000 / qn D r n).log2 + 1) = w at *
  omega
theorem H_bound (hr : Rt D r) (hr2 : r ≤ 1000) : ∀ n, (H D r n).1.1 ≤ (r + 1) * ((2 ^ sumF (fun n => wt 2000 (qn D r n)) (List.range n) : Nat) : Int)
  | 0 => by
    show r ≤ (r + 1) * ((2 ^ 0 : Nat) : Int)
    simp; omega
  | n + 1 => by
    have ih := H_bound hr hr2 n
    have ha := A_le hr hr2 n
    obtain ⟨h1, h2, h3, h4, h5, h6⟩ := H_pos hr n
    rw [List.range_succ, sumF_app]
    have es : sumF (fun n => wt 2000 (qn D r n)) [n] = wt 2000 (qn D r n) := by simp [sumF]
    rw [es, Nat.pow_add, Int.natCast_mul, ← Int.mul_assoc]
    rw [H_succ]
    dsimp only
    have e1 : A D r (n + 1) * (H D r n).1.1 + (H D r n).2.1 ≤ (A D r (n + 1) + 1) * (H D r n).1.1 := by rw [Int.add_mul, Int.one_mul]; omega
    refine Int.le_trans e1 ?_
    rw [Int.mul_comm]
    have hA := A_pos hr (n + 1)
    exact Int.mul_le_mul ih ha (by omega) (by omega)
/-- How great the unit is. -/
theorem unit_bound (hr : Rt D r) (hr2 : r ≤ 1000) {L : Nat} (hL : Per D r L) : ∀ n, n < L → ∃ b : Nat, b ≤ 52010 ∧ (H D r n).1.1 < ((2 ^ b : Nat) : Int) := by
  intro n hn
  have h1 := H_bound hr hr2 n
  have h2 := weights hr hr2 hL
  have h3 : sumF (fun n => wt 2000 (qn D r n)) (List.range n) ≤ 52000 := by
    refine Nat.le_trans ?_ h2
    have : List.range (L - 1) = List.range n ++ (List.range (L - 1 - n)).map (n + ·) := by
      rw [← List.range_add]
      congr 1; omega
    rw [this, sumF_app]; omega
  generalize sumF (fun n => wt 2000 (qn D r n)) (List.range n) = w at *
  refine ⟨w + 10, by omega, ?_⟩
  rw [Nat.pow_add, Int.natCast_mul]
  have h4 : 0 < ((2 ^ w : Nat) : Int) := by have := Nat.pow_pos (n := w) (show 0 < 2 by decide); omega
  generalize ((2 ^ w : Nat) : Int) = z at *
  have h5 : (r + 1) * z ≤ 1001 * z := Int.mul_le_mul_of_nonneg_right (by omega) (by omega)
  show _ < z * ((2 ^ 10 : Nat) : Int)
  have : ((2 ^ 10 : Nat) : Int) = 1024 := rfl
  rw [this]; omega
end Pel

/- Walks: the convergent before the end of the period. (Own work of this repo.) -/
namespace Go.Proofs.Ytiglncbaomoceaa
open Vm
open Pel hiding allS
set_option maxRecDepth 10000

theorem len_pow {z : Int} {b k : Nat} (h : z.natAbs < 2 ^ b) (hb : b ≤ 32 * k) : (dg z).length ≤ k := by
  refine dg_len.2 (Nat.lt_of_lt_of_le h ?_)
  have : BB = 2 ^ 32 := rfl
  rw [this, ← Nat.pow_mul]
  exact Nat.pow_le_pow_right (by decide) hb
theorem H_le {D r : Int} (hr : Rt D r) : ∀ n, (H D r n).1.2 ≤ (H D r n).1.1 ∧ (H D r n).2.2 ≤ (H D r n).2.1
  | 0 => by
    have := hr.pos
    show (1 : Int) ≤ r ∧ (0 : Int) ≤ 1
    omega
  | n + 1 => by
    obtain ⟨h1, h2⟩ := H_le hr n
    have h3 : A D r (n + 1) * (H D r n).1.2 ≤ A D r (n + 1) * (H D r n).1.1 := Int.mul_le_mul_of_nonneg_left h1 (by have := A_pos hr (n + 1); omega)
    rw [H_succ]
    dsimp only
    exact ⟨by omega, h1⟩
theorem H_len {D r : Int} (hr : Rt D r) (hr2 : r ≤ 1000) {L : Nat} (hL : Per D r L) : ∀ n, n ≤ L → (dg (H D r n).1.1).length ≤ 1630 ∧ (dg (H D r n).1.2).length ≤ 1630 := by
  have key : ∀ n, n < L → (dg (H D r n).1.1).length ≤ 1626 := fun n hn => by
    obtain ⟨b, hb, h1⟩ := unit_bound hr hr2 hL n hn
    have h2 := (H_pos hr n).1
    exact len_pow (b := b) (by omega) (by omega)
  intro n hn
  have hk := (H_le hr n).1
  have hp := H_pos hr n
  have hm : (dg (H D r n).1.2).length ≤ (dg (H D r n).1.1).length := dg_mono (by omega)
  by_cases h : n < L
  · have := key n h
    omega
  · obtain ⟨m, rfl⟩ : ∃ m, n = m + 1 := ⟨n - 1, by have := hL.1; omega⟩
    have h1 := key m (by omega)
    have h2 := H_pos hr m
    have h3 : (dg (H D r m).2.1).length ≤ (dg (H D r m).1.1).length := dg_mono (by omega)
    have h4 : A D r (m + 1) ≤ 2 * r := by
      have h5 := stg hr m
      have h6 := p_add (D := D) (r := r) (m + 1)
      have h7 := (stg hr (m + 1)).pr
      have h8 : A D r (m + 1) * 1 ≤ A D r (m + 1) * (P D r (m + 1)).2 := Int.mul_le_mul_of_nonneg_left (by have := h5.q0; omega) (by have := A_pos hr (m + 1); omega)
      have := h5.pr
      omega
    have h9 := A_pos hr (m + 1)
    have h5 := dg_small (z := A D r (m + 1)) (by omega)
    have h6 : (dg (H D r (m + 1)).1.1).length ≤ 1630 := by
      rw [H_succ]
      have a1 := dg_mul (A D r (m + 1)) (H D r m).1.1
      have a2 := dg_add (A D r (m + 1) * (H D r m).1.1) (H D r m).2.1
      dsimp only
      omega
    omega
theorem openK_exp {Q : Ex → St → Prop} {σ : St} {all os : List Go.Oper} {dst : Option Nat} {d : Int} {h : Heap} {nx : Nat} (k : ∀ H, H nx = some ⟨[.int .i64 d], false, 1, false⟩ → (∀ i, i < nx → H i = h i) → Rg E all os ⟨put σ.sl dst (.fn 65 [] [.ptr nx 0]), H, nx + 1⟩ Q) :
    openK E all os dst Q σ (denO E 37 [.int .i64 d] h nx) := by
  obtain ⟨H, d1, k1, k2⟩ := expansion_open d h nx
  exact openK_any d1 (k H k1 k2)
abbrev zrow : Blk := ⟨[.bool false, .lst true [], .bool false, .lst true []], true, 4, false⟩
def YC (D r : Int) (L0 : Blk) (n : Nat) (h : Heap) (_ : Nat) : Prop := h 0 = some zrow ∧ h 1 = some (pqrow false (H D r n).1.1 false (H D r n).1.2) ∧ h 2 = some (pqrow false (H D r n).2.1 false (H D r n).2.2) ∧ h 3 = some ⟨[.int .i64 (n : Int)], false, 1, false⟩ ∧
  (h 4 = some zrow ∧ n = 0 ∨ 1 ≤ n ∧ h 4 = some (pqrow false (H D r (n - 1)).1.1 false (H D r (n - 1)).1.2)) ∧ h 5 = some ⟨[.int .i64 D], false, 1, false⟩ ∧ h 6 = some L0
set_option maxHeartbeats 2000000 in
theorem convergent_spec (D r : Int) (hr : Rt D r) (hD : D ≤ 1000000) (L : Nat) (hL : Per D r L) :
    denP E 42 [.int .i64 D] = some (.ret (.tup [pq false (H D r (L - 1)).1.1 false (H D r (L - 1)).1.2, .int .i64 (L : Int)])) := by
  refine denP_eq E42 rfl (by simp [AV.pureL, AV.pure, pure_wd]) ?_
  have hr2 := (A_small hr hD 0).1
  have hp := hr.pos
  have hlen := per_len hr hr2 hL
  have o1 := pell_root D r hD (by omega) (by have := hr.lo; omega) hr.hi
  have o2 := of_spec r (by omega) (by omega)
  have o3 := of_spec 1 (by decide) (by decide)
  have o4 := of_spec 0 (by decide) (by decide)
  simp (maxSteps := 4000000) only [go_sem, ↓reduceIte, Nat.reduceAdd, Nat.reduceSub, Nat.reduceMul, Nat.reduceEqDiff, reduceCtorEq, Int.reduceAdd, Int.reduceLT, Int.reduceLE, Int.reduceToNat, Int.reduceNeg, Int.reduceSub, ← List.map_take, ← List.map_drop, ne_eq, Nat.reduceLeDiff, Nat.reduceLT, Nat.zero_le, Nat.le_refl, wrap64, wrapu64, wrapu32, ← Int.natCast_add, ← Int.natCast_mul, cast_succ, wrapu32_nat, shr32, reps_wd, map_set_wd, List.length_set, zs_len, Try.f42, o1, o2, o3, o4, places, fillAll]
  refine openK_exp fun H0 k1 k2 => ?_
  have q0 := k2 0 (by decide)
  have q1 := k2 1 (by decide)
  have q2 := k2 2 (by decide)
  have q3 := k2 3 (by decide)
  have q4 := k2 4 (by decide)
  simp only [upd_apply, ↓reduceIte, Nat.reduceEqDiff, if_pos] at q0 q1 q2 q3 q4
  clear k2 o2 o3 o4
  simp (maxSteps := 4000000) only [go_sem, ↓reduceIte, Nat.reduceAdd, Nat.reduceSub, Nat.reduceMul, Nat.reduceEqDiff, reduceCtorEq, Int.reduceAdd, Int.reduceLT, Int.reduceLE, Int.reduceToNat, Int.reduceNeg, Int.reduceSub, ← List.map_take, ← List.map_drop, ne_eq, Nat.reduceLeDiff, Nat.reduceLT, Nat.zero_le, Nat.le_refl, wrap64, wrapu64, wrapu32, ← Int.natCast_add, ← Int.natCast_mul, cast_succ, wrapu32_nat, shr32, reps_wd, map_set_wd, List.length_set, zs_len, q0]
  refine W_rangeFunc fun L' hL' => ?_
  refine ⟨by decide, ?_⟩
  dsimp only
  have hmain := expansion1_open D r hr hD L hL 5 6 7 (H0.upd 6 (some (L' 0))) (by decide) (YC D r (L' 0)) ?_ ?_ ?_ ?_
  · obtain ⟨h', n', d1, hn', e0, e1, e2, e3, e4, e5, e6⟩ := hmain
    have hL1 := hL.1
    refine ⟨_, h', n', 0, .norm, d1, e6, rfl, ?_⟩
    rcases e4 with ⟨-, e4⟩ | ⟨-, e4⟩
    · omega
    clear d1 hL' q0 q1 q2 q3 q4
    simp (maxSteps := 4000000) only [go_sem, ↓reduceIte, Nat.reduceAdd, Nat.reduceSub, Nat.reduceMul, Nat.reduceEqDiff, reduceCtorEq, Int.reduceAdd, Int.reduceLT, Int.reduceLE, Int.reduceToNat, Int.reduceNeg, Int.reduceSub, ← List.map_take, ← List.map_drop, ne_eq, Nat.reduceLeDiff, Nat.reduceLT, Nat.zero_le, Nat.le_refl, wrap64, wrapu64, wrapu32, ← Int.natCast_add, ← Int.natCast_mul, cast_succ, wrapu32_nat, shr32, reps_wd, map_set_wd, List.length_set, zs_len, Int.reduceEq]
    refine W_drawn ?_
    simp (maxSteps := 4000000) only [go_sem, ↓reduceIte, Nat.reduceAdd, Nat.reduceSub, Nat.reduceMul, Nat.reduceEqDiff, reduceCtorEq, Int.reduceAdd, Int.reduceLT, Int.reduceLE, Int.reduceToNat, Int.reduceNeg, Int.reduceSub, ← List.map_take, ← List.map_drop, ne_eq, Nat.reduceLeDiff, Nat.reduceLT, Nat.zero_le, Nat.le_refl, wrap64, wrapu64, wrapu32, ← Int.natCast_add, ← Int.natCast_mul, cast_succ, wrapu32_nat, shr32, reps_wd, map_set_wd, List.length_set, zs_len, e0, e1, e2, e3, e4, e5]
    refine okR_pairs ?_; (repeat ((with_unfolding_all refine And.intro ?_ ?_); (focus (rw [free_mk] <;> (try simp) <;> (try omega))))); (with_unfolding_all exact True.intro)
  · rintro n h h' m m' ⟨e0, e1, e2, e3, e4, e5, e6⟩ hm hh
    rw [← hh _ (by decide) (by decide)] at e0 e1 e2 e3 e5 e6
    exact ⟨e0, e1, e2, e3, by rw [hh 4 (by decide) (by decide)]; exact e4, e5, e6⟩
  · rintro n h m ⟨e0, e1, e2, e3, e4, e5, e6⟩
    exact e5
  · intro n h n0 hn hn0 hy
    obtain ⟨e0, e1, e2, e3, e4, e5, e6⟩ := hy
    have hfin : ∃ b h' n', denO E 1000003 ([.int .i64 (A D r (n + 1))] ++ [.ref 6 0 0]) h n0 = some (.ret (.bool b), h', n') ∧ (b = true ∧ n0 ≤ n' ∧ h' 7 = h 7 ∧ h' (7 + 1) = h (7 + 1) ∧ YC D r (L' 0) (n + 1) h' n') := by
      refine denO_yield (args := [.int .i64 (A D r (n + 1))]) (R := fun b h' n' => b = true ∧ n0 ≤ n' ∧ h' 7 = h 7 ∧ h' (7 + 1) = h (7 + 1) ∧ YC D r (L' 0) (n + 1) h' n') hL' eok.yf e6 rfl ?_
      have hYn : ∀ h' m, h' 0 = some zrow → h' 1 = some (pqrow false (H D r (n + 1)).1.1 false (H D r (n + 1)).1.2) → h' 2 = some (pqrow false (H D r n).1.1 false (H D r n).1.2) → h' 3 = some ⟨[.int .i64 ((n : Int) + 1)], false, 1, false⟩ → h' 4 = some (pqrow false (H D r n).1.1 false (H D r n).1.2) → h' 5 = some ⟨[.int .i64 D], false, 1, false⟩ → h' 6 = some (L' 0) → YC D r (L' 0) (n + 1) h' m := fun h' m a0 a1 a2 a3 a4 a5 a6 =>
        ⟨a0, a1, a2, by rw [show ((n + 1 : Nat) : Int) = (n : Int) + 1 by omega]; exact a3, .inr ⟨by omega, a4⟩, a5, a6⟩
      clear hL' q0 q1 q2 q3 q4 k1 o1
      obtain ⟨c1, c2, c3, c4, e4⟩ : ∃ c1 c2 c3 c4, h 4 = some ⟨[c1, c2, c3, c4], true, 4, false⟩ := by
        rcases e4 with ⟨e4, -⟩ | ⟨-, e4⟩
        · exact ⟨_, _, _, _, e4⟩
        · exact ⟨_, _, _, _, e4⟩
      have hA := A_pos hr (n + 1)
      have hA2 := (A_small hr hD (n + 1)).2.2.2.2.2.2.1
      have hP := H_pos hr n
      have l1 := H_len hr hr2 hL n (by omega)
      have l2 := H_len hr hr2 hL (n + 1) (by omega)
      have l3 : (dg (H D r n).2.1).length ≤ 1630 := Nat.le_trans (dg_mono (by omega)) l1.1
      have l4 : (dg (H D r n).2.2).length ≤ 1630 := Nat.le_trans (dg_mono (by omega)) l1.2
      have o1 := of_spec (A D r (n + 1)) (by omega) (by omega)
      have wN : IntKind.i64.wrap ((n + 1 : Nat) : Int) = (n : Int) + 1 := wrap64 (by omega) (by omega)
      have la := dg_small (z := A D r (n + 1)) (by omega)
      rw [H_succ] at l2 hYn
      dsimp only at l2 hYn
      generalize (H D r n).1.1 = x at *
      generalize (H D r n).1.2 = y at *
      generalize (H D r n).2.1 = u at *
      generalize (H D r n).2.2 = v at *
      generalize A D r (n + 1) = a at *
      have lx := dg_mul a x
      have ly := dg_mul a y
      have z1 : mz a x = false := by unfold mz; simp; omega
      have z2 : mz a y = false := by unfold mz; simp; omega
      have M1 := exMul_ret false false a x (by omega) (by omega) (by omega)
      have M2 := exMul_ret false false a y (by omega) (by omega) (by omega)
      have S1 := exAdd_ret false false (a * x) u (by omega) (by omega) (by omega)
      have S2 := exAdd_ret false false (a * y) v (by omega) (by omega) (by omega)
      rw [z1] at M1
      rw [z2] at M2
      clear z1 z2 lx ly l1 l2 l3 l4 la hA2 hA hP
      generalize a * x + u = xn at *
      generalize a * y + v = yn at *
      generalize a * x = ax at *
      generalize a * y = ay at *
      have y0 : (n0 = 0) = False := eq_false (by omega)
      have x0 : (0 = n0) = False := eq_false (by omega)
      have y1 : (n0 = 1) = False := eq_false (by omega)
      have x1 : (1 = n0) = False := eq_false (by omega)
      have y2 : (n0 = 2) = False := eq_false (by omega)
      have x2 : (2 = n0) = False := eq_false (by omega)
      have y3 : (n0 = 3) = False := eq_false (by omega)
      have x3 : (3 = n0) = False := eq_false (by omega)
      have y4 : (n0 = 4) = False := eq_false (by omega)
      have x4 : (4 = n0) = False := eq_false (by omega)
      have y5 : (n0 = 5) = False := eq_false (by omega)
      have x5 : (5 = n0) = False := eq_false (by omega)
      have y6 : (n0 = 6) = False := eq_false (by omega)
      have x6 : (6 = n0) = False := eq_false (by omega)
      have y7 : (n0 = 7) = False := eq_false (by omega)
      have x7 : (7 = n0) = False := eq_false (by omega)
      have y8 : (n0 = 8) = False := eq_false (by omega)
      have x8 : (8 = n0) = False := eq_false (by omega)
      simp (maxSteps := 4000000) only [go_sem, ↓reduceIte, Nat.reduceAdd, Nat.reduceSub, Nat.reduceMul, Nat.reduceEqDiff, reduceCtorEq, Int.reduceAdd, Int.reduceLT, Int.reduceLE, Int.reduceToNat, Int.reduceNeg, Int.reduceSub, ← List.map_take, ← List.map_drop, ne_eq, Nat.reduceLeDiff, Nat.reduceLT, Nat.zero_le, Nat.le_refl, wrap64, wrapu64, wrapu32, ← Int.natCast_add, ← Int.natCast_mul, cast_succ, wrapu32_nat, shr32, reps_wd, map_set_wd, List.length_set, zs_len, e0, e1, e2, e3, e4, e5, e6, o1, y0, x0, y1, x1, y2, x2, y3, x3, y4, x4, y5, x5, y6, x6, y7, x7, y8, x8, places, fillAll]
      obtain ⟨QQ, hQQ⟩ : ∃ QQ : Ex → St → Prop, QQ = fun ex τ => ex = .norm ∧ (∃ g : Nat → AV, τ.sl = [.int .i64 D, g 1, .ptr 0 0, g 3, .ptr 1 0, .ptr 2 0, .ptr 3 0, .ptr 4 0, g 8, g 9, g 10, g 11, g 12, g 13, g 14, g 15, g 16, g 17, g 18, g 19, g 20, g 21, g 22, g 23, g 24, g 25, g 26, g 27, g 28, g 29, g 30, g 31, g 32, g 33, g 34, g 35, g 36, g 37, g 38, g 39, g 40, g 41, g 42, g 43]) ∧ n0 ≤ τ.nx ∧ τ.h 0 = some zrow ∧ τ.h 1 = some (pqrow false xn false yn) ∧ τ.h 2 = some (pqrow false x false y) ∧ τ.h 3 = some ⟨[.int .i64 (n : Int)], false, 1, false⟩ ∧ τ.h 4 = some (pqrow false x false y) ∧ τ.h 5 = some ⟨[.int .i64 D], false, 1, false⟩ ∧ τ.h 6 = some (L' 1) ∧ τ.h 7 = h 7 ∧ τ.h 8 = h 8 := ⟨_, rfl⟩
      refine W_mono (Q := QQ) ?_ ?_
      · refine W_drawn2 ?_
        simp (maxSteps := 4000000) only [go_sem, ↓reduceIte, Nat.reduceAdd, Nat.reduceSub, Nat.reduceMul, Nat.reduceEqDiff, reduceCtorEq, Int.reduceAdd, Int.reduceLT, Int.reduceLE, Int.reduceToNat, Int.reduceNeg, Int.reduceSub, ← List.map_take, ← List.map_drop, ne_eq, Nat.reduceLeDiff, Nat.reduceLT, Nat.zero_le, Nat.le_refl, wrap64, wrapu64, wrapu32, ← Int.natCast_add, ← Int.natCast_mul, cast_succ, wrapu32_nat, shr32, reps_wd, map_set_wd, List.length_set, zs_len, e0, e1, e2, e3, e4, e5, M1, M2, S1, S2, y0, x0, y1, x1, y2, x2, y3, x3, y4, x4, y5, x5, y6, x6, y7, x7, y8, x8, places, fillAll]
        refine ⟨by exact allW_of [] [0, 0, 2, 7, 0, 16, 63, 0, 0, 256, 1023, 0, 2048, 8191, 16383, 0, 65535, 131071] (by kernel_rfl) (by ((simp only [List.flatMap_cons, List.flatMap_nil, cr, List.append_nil, List.nil_append, List.cons_append]); rfl)) (by ((simp (disch := omega) [sts, stB, allS, stOk, cr, Dep.ok, loadEff, upd_apply, if_neg, T1, T2, T3, T4, T5, T6, T9, T10, T11, T12, T15, T16, T17, T20, T21, T22, T23, T25, T26, T27, T28, T30, T31, T32, T33, T34, T36, T37, T38, T39, T40, T41, T43, T44, T46, T47, T48, T49, T50, T51, T52, T53, T54, T55, T56, T57, T58, T59, T60, T61, T62, T63, T64, T65, T67, T68, T69, T70, T71, T72, T73, T74, T75, T76, T77, T78, T80, T81, T83, T84, T86, T87, T88, T89, T90, T91, T93, T94, T95, T96, T98, T99, T100, T101, T103, T105, T106, T107, T108, T109, T110, T111, T112, T113, T114, T117, T120, T121, T122, T123, T124, T125, T126, e0, e1, e2, e3, e4, e5]) <;> (repeat (any_goals apply And.intro)) <;> (first | omega | rfl | (intro hx; first | omega | rfl)))) (by ((repeat ((with_unfolding_all refine And.intro ?_ ?_); (focus ((with_unfolding_all refine ⟨?_, ?_, ?_⟩) <;> ((intro i hi hj); (simp only [cr, Rec.ids, List.map_cons, List.map_nil, List.mem_cons, List.not_mem_nil, or_false, false_or] at hi hj); (first | done | omega)))))); (with_unfolding_all exact True.intro))), ?_⟩
        rw [hQQ]
        refine ⟨rfl, garb rfl, by dsimp only; omega, ?_, ?_, ?_, ?_, ?_, ?_, ?_, ?_, ?_⟩
        · simp only [upd_apply, ↓reduceIte, Nat.reduceEqDiff, e0, y0, x0, y1, x1, y2, x2, y3, x3, y4, x4, y5, x5, y6, x6, y7, x7, y8, x8]
        · simp only [upd_apply, ↓reduceIte, Nat.reduceEqDiff, y0, x0, y1, x1, y2, x2, y3, x3, y4, x4, y5, x5, y6, x6, y7, x7, y8, x8]
        · simp only [upd_apply, ↓reduceIte, Nat.reduceEqDiff, y0, x0, y1, x1, y2, x2, y3, x3, y4, x4, y5, x5, y6, x6, y7, x7, y8, x8]
        · simp only [upd_apply, ↓reduceIte, Nat.reduceEqDiff, e3, y0, x0, y1, x1, y2, x2, y3, x3, y4, x4, y5, x5, y6, x6, y7, x7, y8, x8]
        · simp only [upd_apply, ↓reduceIte, Nat.reduceEqDiff, y0, x0, y1, x1, y2, x2, y3, x3, y4, x4, y5, x5, y6, x6, y7, x7, y8, x8]
        · simp only [upd_apply, ↓reduceIte, Nat.reduceEqDiff, e5, y0, x0, y1, x1, y2, x2, y3, x3, y4, x4, y5, x5, y6, x6, y7, x7, y8, x8]
        · simp only [upd_apply, ↓reduceIte, Nat.reduceEqDiff, if_pos, y0, x0, y1, x1, y2, x2, y3, x3, y4, x4, y5, x5, y6, x6, y7, x7, y8, x8]
        · simp only [upd_apply, ↓reduceIte, Nat.reduceEqDiff, y0, x0, y1, x1, y2, x2, y3, x3, y4, x4, y5, x5, y6, x6, y7, x7, y8, x8]
        · simp only [upd_apply, ↓reduceIte, Nat.reduceEqDiff, y0, x0, y1, x1, y2, x2, y3, x3, y4, x4, y5, x5, y6, x6, y7, x7, y8, x8]
      · rw [hQQ]
        rintro ex ⟨sl, H', m⟩ ⟨rfl, ⟨g', rfl⟩, hm, k0, k1, k2, k3, k4, k5, k6, k7, k8⟩
        dsimp only at hm k0 k1 k2 k3 k4 k5 k6 k7 k8
        simp (maxSteps := 4000000) only [go_sem, ↓reduceIte, Nat.reduceAdd, Nat.reduceSub, Nat.reduceMul, Nat.reduceEqDiff, reduceCtorEq, Int.reduceAdd, Int.reduceLT, Int.reduceLE, Int.reduceToNat, Int.reduceNeg, Int.reduceSub, ← List.map_take, ← List.map_drop, ne_eq, Nat.reduceLeDiff, Nat.reduceLT, Nat.zero_le, Nat.le_refl, wrap64, wrapu64, wrapu32, ← Int.natCast_add, ← Int.natCast_mul, cast_succ, wrapu32_nat, shr32, reps_wd, map_set_wd, List.length_set, zs_len, k3, k6, wN]
        refine ⟨hm, k7, k8, hYn _ _ ?_ ?_ ?_ ?_ ?_ ?_ ?_⟩
        · simp only [upd_apply, ↓reduceIte, Nat.reduceEqDiff, k0]
        · simp only [upd_apply, ↓reduceIte, Nat.reduceEqDiff, k1]
        · simp only [upd_apply, ↓reduceIte, Nat.reduceEqDiff, k2]
        · simp only [upd_apply, ↓reduceIte, Nat.reduceEqDiff, if_pos]
          rfl
        · simp only [upd_apply, ↓reduceIte, Nat.reduceEqDiff, k4]
        · simp only [upd_apply, ↓reduceIte, Nat.reduceEqDiff, k5]
        · simp only [upd_apply, ↓reduceIte, Nat.reduceEqDiff, if_pos]
    obtain ⟨b, h', n', h1, rfl, h2⟩ := hfin
    exact ⟨h', n', h1, h2⟩
  · refine ⟨?_, ?_, ?_, ?_, .inl ⟨?_, rfl⟩, ?_, ?_⟩
    · simp only [upd_apply, ↓reduceIte, Nat.reduceEqDiff, q0]
    · simp only [upd_apply, ↓reduceIte, Nat.reduceEqDiff, q1]
      rfl
    · simp only [upd_apply, ↓reduceIte, Nat.reduceEqDiff, q2]
      rfl
    · simp only [upd_apply, ↓reduceIte, Nat.reduceEqDiff, q3]
      rfl
    · simp only [upd_apply, ↓reduceIte, Nat.reduceEqDiff, q4]
    · simp only [upd_apply, ↓reduceIte, Nat.reduceEqDiff, k1]
    · simp only [upd_apply, ↓reduceIte, Nat.reduceEqDiff, if_pos]
end Go.Proofs.Ytiglncbaomoceaa

/- Walks: products of pairs, the least solutions. (Own work of this repo.) -/
namespace Go.Proofs.Ytiglncbaomoceaa
open Vm
open Pel hiding allS
set_option maxRecDepth 10000

set_option maxHeartbeats 2000000 in
theorem pairTimes_spec (D x y u v : Int) (fx fy fu fv : Bool) (hD : 1 ≤ D ∧ D ≤ 1000000) (lx : (dg x).length ≤ 4096) (ly : (dg y).length ≤ 4096) (lu : (dg u).length ≤ 4096) (lv : (dg v).length ≤ 4096)
    (l1 : (dg (x * u)).length ≤ 4096) (l2 : (dg (y * v)).length ≤ 4096) (l3 : (dg (D * (y * v))).length ≤ 4096) (l4 : (dg (x * u + D * (y * v))).length ≤ 4096) (l5 : (dg (x * v)).length ≤ 4096) (l6 : (dg (y * u)).length ≤ 4096) (l7 : (dg (x * v + y * u)).length ≤ 4096) :
    denP E 50 [pq fx x fy y, pq fu u fv v, .int .i64 D] = some (.ret (pq false (x * u + D * (y * v)) false (x * v + y * u))) := by
  refine denP_eq E50 rfl (by simp [AV.pureL, AV.pure, pure_wd]) ?_
  have o1 := of_spec D (by omega) (by omega)
  have lD := dg_small (z := D) (by omega)
  have M1 := exMul_ret fx fu x u lx lu l1
  have M2 := exMul_ret fy fv y v ly lv l2
  have M3 := exMul_ret false (mz y v) D (y * v) (by omega) l2 l3
  have M4 := exMul_ret fx fv x v lx lv l5
  have M5 := exMul_ret fy fu y u ly lu l6
  have S1 := exAdd_ret (mz x u) (mz D (y * v)) (x * u) (D * (y * v)) l1 l3 l4
  have S2 := exAdd_ret (mz x v) (mz y u) (x * v) (y * u) l5 l6 l7
  clear lx ly lu lv l1 l2 l3 l4 l5 l6 l7 lD
  generalize x * u + D * (y * v) = a1 at *
  generalize x * v + y * u = a2 at *
  generalize mz x u = f1 at *
  generalize mz D (y * v) = f2 at *
  generalize mz y v = f3 at *
  generalize mz x v = f4 at *
  generalize mz y u = f5 at *
  generalize D * (y * v) = a3 at *
  generalize y * v = a4 at *
  generalize x * u = a5 at *
  generalize x * v = a6 at *
  generalize y * u = a7 at *
  simp (maxSteps := 4000000) only [go_sem, ↓reduceIte, Nat.reduceAdd, Nat.reduceSub, Nat.reduceMul, Nat.reduceEqDiff, reduceCtorEq, Int.reduceAdd, Int.reduceLT, Int.reduceLE, Int.reduceToNat, Int.reduceNeg, Int.reduceSub, ← List.map_take, ← List.map_drop, ne_eq, Nat.reduceLeDiff, Nat.reduceLT, Nat.zero_le, Nat.le_refl, wrap64, wrapu64, wrapu32, ← Int.natCast_add, ← Int.natCast_mul, cast_succ, wrapu32_nat, shr32, reps_wd, map_set_wd, List.length_set, zs_len, Try.f50, places, fillAll]
  refine W_drawn ?_
  simp (maxSteps := 4000000) only [go_sem, ↓reduceIte, Nat.reduceAdd, Nat.reduceSub, Nat.reduceMul, Nat.reduceEqDiff, reduceCtorEq, Int.reduceAdd, Int.reduceLT, Int.reduceLE, Int.reduceToNat, Int.reduceNeg, Int.reduceSub, ← List.map_take, ← List.map_drop, ne_eq, Nat.reduceLeDiff, Nat.reduceLT, Nat.zero_le, Nat.le_refl, wrap64, wrapu64, wrapu32, ← Int.natCast_add, ← Int.natCast_mul, cast_succ, wrapu32_nat, shr32, reps_wd, map_set_wd, List.length_set, zs_len, o1, M1, M2, M3, M4, M5, S1, S2, places, fillAll]
  refine okR_pairs ?_; (repeat ((with_unfolding_all refine And.intro ?_ ?_); (focus (rw [free_mk] <;> (try simp) <;> (try omega))))); (with_unfolding_all exact True.intro)
/-- The least solution with norm one. -/
def LX (D r : Int) (L : Nat) : Int := if L % 2 = 1 then (H D r (L - 1)).1.1 * (H D r (L - 1)).1.1 + D * ((H D r (L - 1)).1.2 * (H D r (L - 1)).1.2) else (H D r (L - 1)).1.1
def LY (D r : Int) (L : Nat) : Int := if L % 2 = 1 then (H D r (L - 1)).1.1 * (H D r (L - 1)).1.2 + (H D r (L - 1)).1.2 * (H D r (L - 1)).1.1 else (H D r (L - 1)).1.2
theorem odd_int (L : Nat) : (((L : Int).tmod 2 = 1) ↔ L % 2 = 1) ∧ (((L : Int).tmod 2 = 0) ↔ L % 2 = 0) := by
  have h : ((L : Int).tmod 2) = ((L % 2 : Nat) : Int) := by rw [Int.tmod_eq_emod_of_nonneg (by omega)]; rfl
  omega
theorem least_spec (D r : Int) (hr : Rt D r) (hD : D ≤ 1000000) (L : Nat) (hL : Per D r L) : denP E 40 [.int .i64 D] = some (.ret (pq false (LX D r L) false (LY D r L))) := by
  refine denP_eq E40 rfl (by simp [AV.pureL, AV.pure, pure_wd]) ?_
  have hr2 := (A_small hr hD 0).1
  have hp := hr.pos
  have hlo := hr.lo
  have hrr : 1 ≤ r * r := Int.mul_le_mul (a := 1) (b := 1) (c := r) (d := r) hp hp (by omega) (by omega)
  have c1 := convergent_spec D r hr hD L hL
  have hl := H_len hr hr2 hL (L - 1) (by omega)
  have hlen := per_len hr hr2 hL
  unfold LX LY
  generalize (H D r (L - 1)).1.1 = x at *
  generalize (H D r (L - 1)).1.2 = y at *
  have a1 := dg_mul x x
  have a2 := dg_mul y y
  have a3 := dg_mul D (y * y)
  have a4 := dg_add (x * x) (D * (y * y))
  have a5 := dg_mul x y
  have a6 := dg_mul y x
  have a7 := dg_add (x * y) (y * x)
  have lD := dg_small (z := D) (by omega)
  have t1 := pairTimes_spec D x y x y false false false false (by omega) (by omega) (by omega) (by omega) (by omega) (by omega) (by omega) (by omega) (by omega) (by omega) (by omega) (by omega)
  have w1 : IntKind.i64.wrap ((L : Int).tmod 2) = (L : Int).tmod 2 := wrap64 (by have := odd_int L; omega) (by have := odd_int L; omega)
  by_cases h : L % 2 = 1
  · rw [if_pos h, if_pos h]
    have z1 : ((L : Int).tmod 2 = 1) = True := eq_true ((odd_int L).1.2 h)
    simp (maxSteps := 4000000) only [go_sem, ↓reduceIte, Nat.reduceAdd, Nat.reduceSub, Nat.reduceMul, Nat.reduceEqDiff, reduceCtorEq, Int.reduceAdd, Int.reduceLT, Int.reduceLE, Int.reduceToNat, Int.reduceNeg, Int.reduceSub, ← List.map_take, ← List.map_drop, ne_eq, Nat.reduceLeDiff, Nat.reduceLT, Nat.zero_le, Nat.le_refl, wrap64, wrapu64, wrapu32, ← Int.natCast_add, ← Int.natCast_mul, cast_succ, wrapu32_nat, shr32, reps_wd, map_set_wd, List.length_set, zs_len, Try.f40, c1, t1, w1, z1, Int.reduceEq, places, fillAll]
  · rw [if_neg h, if_neg h]
    have z1 : ((L : Int).tmod 2 = 1) = False := eq_false fun h1 => h ((odd_int L).1.1 h1)
    simp (maxSteps := 4000000) only [go_sem, ↓reduceIte, Nat.reduceAdd, Nat.reduceSub, Nat.reduceMul, Nat.reduceEqDiff, reduceCtorEq, Int.reduceAdd, Int.reduceLT, Int.reduceLE, Int.reduceToNat, Int.reduceNeg, Int.reduceSub, ← List.map_take, ← List.map_drop, ne_eq, Nat.reduceLeDiff, Nat.reduceLT, Nat.zero_le, Nat.le_refl, wrap64, wrapu64, wrapu32, ← Int.natCast_add, ← Int.natCast_mul, cast_succ, wrapu32_nat, shr32, reps_wd, map_set_wd, List.length_set, zs_len, Try.f40, c1, w1, z1, Int.reduceEq, places, fillAll]
theorem least1_calm (D r : Int) (hr : Rt D r) (hD : D ≤ 1000000) (L : Nat) (hL : Per D r L) (p : Nat) (h : Heap) (nx : Nat) (hp : p < nx) (hh : h p = some ⟨[.int .i64 D], false, 1, false⟩) : Calm 39 [.ptr p 0] (.ret (pq false (LX D r L) false (LY D r L))) h nx := by
  intro H N hN hH
  have q := (hH p hp).trans hh
  have c1 := least_spec D r hr hD L hL
  have key : ∃ v h' n', denO E 39 [.ptr p 0] H N = some (.ret v, h', n') ∧ v = pq false (LX D r L) false (LY D r L) ∧ N ≤ n' ∧ ∀ i, i < N → h' i = H i := by
    refine denO_intro E39 rfl ?_
    generalize LX D r L = x at *
    generalize LY D r L = y at *
    have y0 : (p = N) = False := eq_false (by omega)
    simp (maxSteps := 4000000) only [go_sem, ↓reduceIte, Nat.reduceAdd, Nat.reduceSub, Nat.reduceMul, Nat.reduceEqDiff, reduceCtorEq, Int.reduceAdd, Int.reduceLT, Int.reduceLE, Int.reduceToNat, Int.reduceNeg, Int.reduceSub, ← List.map_take, ← List.map_drop, ne_eq, Nat.reduceLeDiff, Nat.reduceLT, Nat.zero_le, Nat.le_refl, wrap64, wrapu64, wrapu32, ← Int.natCast_add, ← Int.natCast_mul, cast_succ, wrapu32_nat, shr32, reps_wd, map_set_wd, List.length_set, zs_len, Try.f39, q, c1, y0, places, fillAll]
    refine ⟨by omega, fun i hi => ?_⟩
    (repeat rw [if_neg (by omega)])
  obtain ⟨v, h', n', h1, rfl, h2⟩ := key
  exact ⟨h', n', h1, h2⟩
theorem minus1_odd (D r : Int) (hr : Rt D r) (hD : D ≤ 1000000) (L : Nat) (hL : Per D r L) (ho : L % 2 = 1) (p : Nat) (h : Heap) (nx : Nat) (hp : p < nx) (hh : h p = some ⟨[.int .i64 D], false, 1, false⟩) : Calm 41 [.ptr p 0] (.ret (pq false (H D r (L - 1)).1.1 false (H D r (L - 1)).1.2)) h nx := by
  intro HH N hN hH
  have q := (hH p hp).trans hh
  have c1 := convergent_spec D r hr hD L hL
  have hlen := per_len hr (A_small hr hD 0).1 hL
  have w1 : IntKind.i64.wrap ((L : Int).tmod 2) = (L : Int).tmod 2 := wrap64 (by have := odd_int L; omega) (by have := odd_int L; omega)
  have z1 : ((L : Int).tmod 2 = 0) = False := eq_false fun h1 => by have := (odd_int L).2.1 h1; omega
  generalize (H D r (L - 1)).1.1 = x at *
  generalize (H D r (L - 1)).1.2 = y at *
  have key : ∃ v h' n', denO E 41 [.ptr p 0] HH N = some (.ret v, h', n') ∧ v = pq false x false y ∧ N ≤ n' ∧ ∀ i, i < N → h' i = HH i := by
    refine denO_intro E41 rfl ?_
    have y0 : (p = N) = False := eq_false (by omega)
    simp (maxSteps := 4000000) only [go_sem, ↓reduceIte, Nat.reduceAdd, Nat.reduceSub, Nat.reduceMul, Nat.reduceEqDiff, reduceCtorEq, Int.reduceAdd, Int.reduceLT, Int.reduceLE, Int.reduceToNat, Int.reduceNeg, Int.reduceSub, ← List.map_take, ← List.map_drop, ne_eq, Nat.reduceLeDiff, Nat.reduceLT, Nat.zero_le, Nat.le_refl, wrap64, wrapu64, wrapu32, ← Int.natCast_add, ← Int.natCast_mul, cast_succ, wrapu32_nat, shr32, reps_wd, map_set_wd, List.length_set, zs_len, Try.f41, q, c1, y0, w1, z1, Int.reduceEq, places, fillAll, off_ne, ne_off]
    refine ⟨by omega, fun i hi => ?_⟩
    (repeat rw [if_neg (by omega)])
  obtain ⟨v, h', n', h1, rfl, h2⟩ := key
  exact ⟨h', n', h1, h2⟩
theorem minus1_even (D r : Int) (hr : Rt D r) (hD : D ≤ 1000000) (L : Nat) (hL : Per D r L) (ho : L % 2 = 0) (p : Nat) (h : Heap) (nx : Nat) (hp : p < nx) (hh : h p = some ⟨[.int .i64 D], false, 1, false⟩) : Calm 41 [.ptr p 0] (.panic (Thr 6)) h nx := by
  intro HH N hN hH
  have q := (hH p hp).trans hh
  have c1 := convergent_spec D r hr hD L hL
  have t1 := throw_pan 6
  have hlen := per_len hr (A_small hr hD 0).1 hL
  have w1 : IntKind.i64.wrap ((L : Int).tmod 2) = (L : Int).tmod 2 := wrap64 (by have := odd_int L; omega) (by have := odd_int L; omega)
  have z1 : ((L : Int).tmod 2 = 0) = True := eq_true ((odd_int L).2.2 ho)
  generalize (H D r (L - 1)).1.1 = x at *
  generalize (H D r (L - 1)).1.2 = y at *
  have key : ∃ v h' n', denO E 41 [.ptr p 0] HH N = some (.panic v, h', n') ∧ v = Thr 6 ∧ N ≤ n' ∧ ∀ i, i < N → h' i = HH i := by
    refine denO_pan E41 rfl ?_
    have y0 : (p = N) = False := eq_false (by omega)
    simp (maxSteps := 4000000) only [go_sem, ↓reduceIte, Nat.reduceAdd, Nat.reduceSub, Nat.reduceMul, Nat.reduceEqDiff, reduceCtorEq, Int.reduceAdd, Int.reduceLT, Int.reduceLE, Int.reduceToNat, Int.reduceNeg, Int.reduceSub, ← List.map_take, ← List.map_drop, ne_eq, Nat.reduceLeDiff, Nat.reduceLT, Nat.zero_le, Nat.le_refl, wrap64, wrapu64, wrapu32, ← Int.natCast_add, ← Int.natCast_mul, cast_succ, wrapu32_nat, shr32, reps_wd, map_set_wd, List.length_set, zs_len, Try.f41, q, c1, t1, y0, w1, z1, Int.reduceEq, places, fillAll, off_ne, ne_off]
    refine ⟨by omega, fun i hi => ?_⟩
    (repeat rw [if_neg (by omega)])
  obtain ⟨v, h', n', h1, rfl, h2⟩ := key
  exact ⟨h', n', h1, h2⟩
end Go.Proofs.Ytiglncbaomoceaa

/- Walks: Least and Minus. (Own work of this repo.) -/
namespace Go.Proofs.Ytiglncbaomoceaa
open Vm
open Pel hiding allS
set_option maxRecDepth 10000

theorem openK_see {Q : Ex → St → Prop} {σ : St} {all os : List Go.Oper} {dst : Option Nat} {x : Option (Res × Heap × Nat)} {v : AV} {h : Heap} {n : Nat} (hx : ∃ H' N', x = some (.ret v, H', N') ∧ n ≤ N' ∧ ∀ i, i < n → H' i = h i)
    (k : ∀ H' N', n ≤ N' → (∀ i, i < n → H' i = h i) → Rg E all os ⟨put σ.sl dst v, H', N'⟩ Q) : openK E all os dst Q σ x := openK_get hx k
abbrev RP3 (a b : AV) (e : Int) : AV := .tup [a, b, .int .i64 e]
theorem Least_no (D : Int) (h : denP E 36 [.int .i64 D] = some (.ret (.bool false))) : denP E 10 [.int .i64 D] = some (.ret (RP3 (I true 0) (I true 0) 2)) := by
  refine denP_eq E10 rfl (by simp [AV.pureL, AV.pure, pure_wd]) ?_
  have q0 := ng_zero
  have q1 := dg_zero
  simp (maxSteps := 4000000) only [go_sem, ↓reduceIte, Nat.reduceAdd, Nat.reduceSub, Nat.reduceMul, Nat.reduceEqDiff, reduceCtorEq, Int.reduceAdd, Int.reduceLT, Int.reduceLE, Int.reduceToNat, Int.reduceNeg, Int.reduceSub, ← List.map_take, ← List.map_drop, ne_eq, Nat.reduceLeDiff, Nat.reduceLT, Nat.zero_le, Nat.le_refl, wrap64, wrapu64, wrapu32, ← Int.natCast_add, ← Int.natCast_mul, cast_succ, wrapu32_nat, shr32, reps_wd, map_set_wd, List.length_set, zs_len, Try.f10, h, places, fillAll, ng_zero, dg_zero, List.map_nil]
theorem Least_ret (D x y : Int) (f g : Bool) (h : denP E 36 [.int .i64 D] = some (.ret (.bool true))) (hc : ∀ (p : Nat) (H : Heap) (nx : Nat), p < nx → H p = some ⟨[.int .i64 D], false, 1, false⟩ → Calm 39 [.ptr p 0] (.ret (pq f x g y)) H nx) : denP E 10 [.int .i64 D] = some (.ret (RP3 (I f x) (I g y) 0)) := by
  refine denP_eq E10 rfl (by simp [AV.pureL, AV.pure, pure_wd]) ?_
  simp (maxSteps := 4000000) only [go_sem, ↓reduceIte, Nat.reduceAdd, Nat.reduceSub, Nat.reduceMul, Nat.reduceEqDiff, reduceCtorEq, Int.reduceAdd, Int.reduceLT, Int.reduceLE, Int.reduceToNat, Int.reduceNeg, Int.reduceSub, ← List.map_take, ← List.map_drop, ne_eq, Nat.reduceLeDiff, Nat.reduceLT, Nat.zero_le, Nat.le_refl, wrap64, wrapu64, wrapu32, ← Int.natCast_add, ← Int.natCast_mul, cast_succ, wrapu32_nat, shr32, reps_wd, map_set_wd, List.length_set, zs_len, Try.f10, h, places, fillAll]
  refine openK_get (tried_ret 39 [] [.ptr 0 0] rfl f g x y _ 3 (hc 0 _ 3 (by decide) ?_)) ?_
  · simp only [upd_apply, ↓reduceIte, Nat.reduceEqDiff, if_pos]
  intro H' N' k1 k2
  have q0 := k2 0 (by decide)
  have q1 := k2 1 (by decide)
  have q2 := k2 2 (by decide)
  simp only [upd_apply, ↓reduceIte, Nat.reduceEqDiff, if_pos] at q0 q1 q2
  clear k2 hc
  simp (maxSteps := 4000000) only [go_sem, ↓reduceIte, Nat.reduceAdd, Nat.reduceSub, Nat.reduceMul, Nat.reduceEqDiff, reduceCtorEq, Int.reduceAdd, Int.reduceLT, Int.reduceLE, Int.reduceToNat, Int.reduceNeg, Int.reduceSub, ← List.map_take, ← List.map_drop, ne_eq, Nat.reduceLeDiff, Nat.reduceLT, Nat.zero_le, Nat.le_refl, wrap64, wrapu64, wrapu32, ← Int.natCast_add, ← Int.natCast_mul, cast_succ, wrapu32_nat, shr32, reps_wd, map_set_wd, List.length_set, zs_len, q0, q1, q2]
theorem Least_pan (D e : Int) (he : e ≠ 0) (h : denP E 36 [.int .i64 D] = some (.ret (.bool true))) (hc : ∀ (p : Nat) (H : Heap) (nx : Nat), p < nx → H p = some ⟨[.int .i64 D], false, 1, false⟩ → Calm 39 [.ptr p 0] (.panic (Thr e)) H nx) : denP E 10 [.int .i64 D] = some (.ret (RP3 (I true 0) (I true 0) e)) := by
  refine denP_eq E10 rfl (by simp [AV.pureL, AV.pure, pure_wd]) ?_
  simp (maxSteps := 4000000) only [go_sem, ↓reduceIte, Nat.reduceAdd, Nat.reduceSub, Nat.reduceMul, Nat.reduceEqDiff, reduceCtorEq, Int.reduceAdd, Int.reduceLT, Int.reduceLE, Int.reduceToNat, Int.reduceNeg, Int.reduceSub, ← List.map_take, ← List.map_drop, ne_eq, Nat.reduceLeDiff, Nat.reduceLT, Nat.zero_le, Nat.le_refl, wrap64, wrapu64, wrapu32, ← Int.natCast_add, ← Int.natCast_mul, cast_succ, wrapu32_nat, shr32, reps_wd, map_set_wd, List.length_set, zs_len, Try.f10, h, places, fillAll]
  refine openK_get (tried_pan 39 [] [.ptr 0 0] rfl e he _ 3 (hc 0 _ 3 (by decide) ?_)) ?_
  · simp only [upd_apply, ↓reduceIte, Nat.reduceEqDiff, if_pos]
  intro H' N' k1 k2
  have q0 := k2 0 (by decide)
  have q1 := k2 1 (by decide)
  have q2 := k2 2 (by decide)
  simp only [upd_apply, ↓reduceIte, Nat.reduceEqDiff, if_pos] at q0 q1 q2
  clear k2 hc
  simp (maxSteps := 4000000) only [go_sem, ↓reduceIte, Nat.reduceAdd, Nat.reduceSub, Nat.reduceMul, Nat.reduceEqDiff, reduceCtorEq, Int.reduceAdd, Int.reduceLT, Int.reduceLE, Int.reduceToNat, Int.reduceNeg, Int.reduceSub, ← List.map_take, ← List.map_drop, ne_eq, Nat.reduceLeDiff, Nat.reduceLT, Nat.zero_le, Nat.le_refl, wrap64, wrapu64, wrapu32, ← Int.natCast_add, ← Int.natCast_mul, cast_succ, wrapu32_nat, shr32, reps_wd, map_set_wd, List.length_set, zs_len, q0, q1, q2]
theorem Minus_no (D : Int) (h : denP E 36 [.int .i64 D] = some (.ret (.bool false))) : denP E 11 [.int .i64 D] = some (.ret (RP3 (I true 0) (I true 0) 2)) := by
  refine denP_eq E11 rfl (by simp [AV.pureL, AV.pure, pure_wd]) ?_
  have q0 := ng_zero
  have q1 := dg_zero
  simp (maxSteps := 4000000) only [go_sem, ↓reduceIte, Nat.reduceAdd, Nat.reduceSub, Nat.reduceMul, Nat.reduceEqDiff, reduceCtorEq, Int.reduceAdd, Int.reduceLT, Int.reduceLE, Int.reduceToNat, Int.reduceNeg, Int.reduceSub, ← List.map_take, ← List.map_drop, ne_eq, Nat.reduceLeDiff, Nat.reduceLT, Nat.zero_le, Nat.le_refl, wrap64, wrapu64, wrapu32, ← Int.natCast_add, ← Int.natCast_mul, cast_succ, wrapu32_nat, shr32, reps_wd, map_set_wd, List.length_set, zs_len, Try.f11, h, places, fillAll, ng_zero, dg_zero, List.map_nil]
theorem Minus_ret (D x y : Int) (f g : Bool) (h : denP E 36 [.int .i64 D] = some (.ret (.bool true))) (hc : ∀ (p : Nat) (H : Heap) (nx : Nat), p < nx → H p = some ⟨[.int .i64 D], false, 1, false⟩ → Calm 41 [.ptr p 0] (.ret (pq f x g y)) H nx) : denP E 11 [.int .i64 D] = some (.ret (RP3 (I f x) (I g y) 0)) := by
  refine denP_eq E11 rfl (by simp [AV.pureL, AV.pure, pure_wd]) ?_
  simp (maxSteps := 4000000) only [go_sem, ↓reduceIte, Nat.reduceAdd, Nat.reduceSub, Nat.reduceMul, Nat.reduceEqDiff, reduceCtorEq, Int.reduceAdd, Int.reduceLT, Int.reduceLE, Int.reduceToNat, Int.reduceNeg, Int.reduceSub, ← List.map_take, ← List.map_drop, ne_eq, Nat.reduceLeDiff, Nat.reduceLT, Nat.zero_le, Nat.le_refl, wrap64, wrapu64, wrapu32, ← Int.natCast_add, ← Int.natCast_mul, cast_succ, wrapu32_nat, shr32, reps_wd, map_set_wd, List.length_set, zs_len, Try.f11, h, places, fillAll]
  refine openK_get (tried_ret 41 [] [.ptr 0 0] rfl f g x y _ 3 (hc 0 _ 3 (by decide) ?_)) ?_
  · simp only [upd_apply, ↓reduceIte, Nat.reduceEqDiff, if_pos]
  intro H' N' k1 k2
  have q0 := k2 0 (by decide)
  have q1 := k2 1 (by decide)
  have q2 := k2 2 (by decide)
  simp only [upd_apply, ↓reduceIte, Nat.reduceEqDiff, if_pos] at q0 q1 q2
  clear k2 hc
  simp (maxSteps := 4000000) only [go_sem, ↓reduceIte, Nat.reduceAdd, Nat.reduceSub, Nat.reduceMul, Nat.reduceEqDiff, reduceCtorEq, Int.reduceAdd, Int.reduceLT, Int.reduceLE, Int.reduceToNat, Int.reduceNeg, Int.reduceSub, ← List.map_take, ← List.map_drop, ne_eq, Nat.reduceLeDiff, Nat.reduceLT, Nat.zero_le, Nat.le_refl, wrap64, wrapu64, wrapu32, ← Int.natCast_add, ← Int.natCast_mul, cast_succ, wrapu32_nat, shr32, reps_wd, map_set_wd, List.length_set, zs_len, q0, q1, q2]
theorem Minus_pan (D e : Int) (he : e ≠ 0) (h : denP E 36 [.int .i64 D] = some (.ret (.bool true))) (hc : ∀ (p : Nat) (H : Heap) (nx : Nat), p < nx → H p = some ⟨[.int .i64 D], false, 1, false⟩ → Calm 41 [.ptr p 0] (.panic (Thr e)) H nx) : denP E 11 [.int .i64 D] = some (.ret (RP3 (I true 0) (I true 0) e)) := by
  refine denP_eq E11 rfl (by simp [AV.pureL, AV.pure, pure_wd]) ?_
  simp (maxSteps := 4000000) only [go_sem, ↓reduceIte, Nat.reduceAdd, Nat.reduceSub, Nat.reduceMul, Nat.reduceEqDiff, reduceCtorEq, Int.reduceAdd, Int.reduceLT, Int.reduceLE, Int.reduceToNat, Int.reduceNeg, Int.reduceSub, ← List.map_take, ← List.map_drop, ne_eq, Nat.reduceLeDiff, Nat.reduceLT, Nat.zero_le, Nat.le_refl, wrap64, wrapu64, wrapu32, ← Int.natCast_add, ← Int.natCast_mul, cast_succ, wrapu32_nat, shr32, reps_wd, map_set_wd, List.length_set, zs_len, Try.f11, h, places, fillAll]
  refine openK_get (tried_pan 41 [] [.ptr 0 0] rfl e he _ 3 (hc 0 _ 3 (by decide) ?_)) ?_
  · simp only [upd_apply, ↓reduceIte, Nat.reduceEqDiff, if_pos]
  intro H' N' k1 k2
  have q0 := k2 0 (by decide)
  have q1 := k2 1 (by decide)
  have q2 := k2 2 (by decide)
  simp only [upd_apply, ↓reduceIte, Nat.reduceEqDiff, if_pos] at q0 q1 q2
  clear k2 hc
  simp (maxSteps := 4000000) only [go_sem, ↓reduceIte, Nat.reduceAdd, Nat.reduceSub, Nat.reduceMul, Nat.reduceEqDiff, reduceCtorEq, Int.reduceAdd, Int.reduceLT, Int.reduceLE, Int.reduceToNat, Int.reduceNeg, Int.reduceSub, ← List.map_take, ← List.map_drop, ne_eq, Nat.reduceLeDiff, Nat.reduceLT, Nat.zero_le, Nat.le_refl, wrap64, wrapu64, wrapu32, ← Int.natCast_add, ← Int.natCast_mul, cast_succ, wrapu32_nat, shr32, reps_wd, map_set_wd, List.length_set, zs_len, q0, q1, q2]
theorem fits_yes (D r : Int) (hr : Rt D r) (hD : D ≤ 1000000) : denP E 36 [.int .i64 D] = some (.ret (.bool true)) := by
  have hp := hr.pos
  have hlo := hr.lo
  have hrr : 1 ≤ r * r := Int.mul_le_mul (a := 1) (b := 1) (c := r) (d := r) hp hp (by omega) (by omega)
  rw [pell_fits D r (by omega) (by omega) hr.hi, decide_eq_true]
  exact ⟨by omega, hD, by omega⟩
theorem Least_yes (D r : Int) (hr : Rt D r) (hD : D ≤ 1000000) (L : Nat) (hL : Per D r L) : denP E 10 [.int .i64 D] = some (.ret (RP3 (I false (LX D r L)) (I false (LY D r L)) 0)) :=
  Least_ret D _ _ _ _ (fits_yes D r hr hD) fun p H nx h1 h2 => least1_calm D r hr hD L hL p H nx h1 h2
theorem Minus_odd (D r : Int) (hr : Rt D r) (hD : D ≤ 1000000) (L : Nat) (hL : Per D r L) (ho : L % 2 = 1) : denP E 11 [.int .i64 D] = some (.ret (RP3 (I false (H D r (L - 1)).1.1) (I false (H D r (L - 1)).1.2) 0)) :=
  Minus_ret D _ _ _ _ (fits_yes D r hr hD) fun p H nx h1 h2 => minus1_odd D r hr hD L hL ho p H nx h1 h2
theorem Minus_even (D r : Int) (hr : Rt D r) (hD : D ≤ 1000000) (L : Nat) (hL : Per D r L) (ho : L % 2 = 0) : denP E 11 [.int .i64 D] = some (.ret (RP3 (I true 0) (I true 0) 6)) :=
  Minus_pan D 6 (by decide) (fits_yes D r hr hD) fun p H nx h1 h2 => minus1_even D r hr hD L hL ho p H nx h1 h2
end Go.Proofs.Ytiglncbaomoceaa
