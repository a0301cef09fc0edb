/- The machine over pure values and the rows: what the arguments of a row are as values of the machine. (Own work of this repo.) -/
import Derived.Test.YtpfcijgcjghgeaaVm22
import Derived.OpenShut
import Derived.Carry
import Derived.Deep.Slices
set_option linter.unusedVariables false
set_option linter.unusedSimpArgs false
namespace Vm
open Go Go.RowKit

def FitS (E : Env) (F : TypeId → List AV → Prop) : List (Nat × TypeId) → List AV → Prop
  | [], as => as = []
  | (_, u) :: fs, as => ∃ x y, as = x ++ y ∧ F u x ∧ FitS E F fs y
/-- A row's element. -/
def elm (ti : TI) (cs : List AV) : AV := if ti.agg then .agg cs else cs.headD undef
def FitD (E : Env) (F : TypeId → List AV → Prop) (as : List AV) : TD → Prop
  | .int k => ∃ i, as = [.int k i] ∧ (Lit.int k i).wf = true
  | .bool => ∃ b, as = [.bool b]
  | .str => ∃ s, as = [.str s] ∧ s.size ≤ maxLen
  | .slice e => match E.T e with
    | none => False
    | some te => as = [.lst true []] ∨ ∃ xs, as = [.lst false xs] ∧ xs.length ≤ maxLen ∧ ∀ x ∈ xs, ∃ cs, x = elm te cs ∧ cs.length = te.size ∧ F e cs
  | .struct fs => FitS E F fs as
  | .array n e => ∃ xs : List (List AV), xs.length = n ∧ as = xs.flatten ∧ ∀ x ∈ xs, F e x
  | _ => False
/-- What cells of a type are. -/
def Fit (E : Env) : Nat → TypeId → List AV → Prop
  | 0 => fun _ _ => False
  | m + 1 => fun t as => match E.T t with
    | none => False
    | some ti => as.length = ti.size ∧ FitD E (Fit E m) as ti.desc
def FitArgs (E : Env) : List TypeId → List AV → Prop
  | [], as => as = []
  | t :: ts, as => ∃ cs x ys, as = x :: ys ∧ (match E.T t with | none => False | some ti => x = elm ti cs ∧ Fit E 6 t cs) ∧ FitArgs E ts ys

/-- Do the fields lie one behind the other? -/
def tiles (E : Env) (S : TypeId → Bool) : List (Nat × TypeId) → Nat → Nat → Bool
  | [], o, size => o == size
  | (o', u) :: fs, o, size => o' == o && S u && (match E.T u with | some tu => tiles E S fs (o + tu.size) size | none => false)
def Sup (E : Env) : Nat → TypeId → Bool
  | 0, _ => false
  | m + 1, t => match E.T t with
    | none => false
    | some ti => (match ti.desc with
      | .int _ | .bool | .str => ti.size == 1 && !ti.agg
      | .slice e => ti.size == 1 && !ti.agg && Sup E m e && (match E.T e with | some te => te.size != 0 | none => false)
      | .struct fs => ti.agg && tiles E (Sup E m) fs 0 ti.size
      | .array n e => ti.agg && Sup E m e && (match E.T e with | some te => ti.size == n * te.size | none => false)
      | _ => false)

section
variable {P : Program} {E : Env} {H : Type} {enc : TypeId × Value → H} {w : World} {base : Nat} {sp : Nat → Bool} {held : Bool}

theorem cells_of (hE : EOk P E) {t : TypeId} {ti : TI} (h : E.T t = some ti) : P.cellsOf t = ti.size := by
  obtain ⟨i, d, z, F⟩ := tiOf_facts (hE.ty _ _ h)
  rw [Program.cellsOf, F.info]
  exact F.size

/-- The cells stand for values of the machine, one for one. -/
def Cel (w : World) (cs : List Value) (as : List AV) : Prop := as.length = cs.length ∧ ∀ (j : Nat) (v : Value) (a : AV), cs[j]? = some v → as[j]? = some a → Rep (C0 w) v a ∧ v.oneCell' = true ∧ a.scal = true ∧ a.pure = true
theorem Cel.nil : Cel w [] [] := ⟨rfl, fun j v a h => by simp at h⟩
theorem Cel.one {v : Value} {a : AV} (h : Rep (C0 w) v a) (h1 : v.oneCell' = true) (h2 : a.scal = true) (h3 : a.pure = true) : Cel w [v] [a] := by
  refine ⟨rfl, fun j v' a' hv ha => ?_⟩
  match j with
  | 0 => simp at hv ha; subst hv; subst ha; exact ⟨h, h1, h2, h3⟩
  | j + 1 => simp at hv
theorem Cel.app {cs ds : List Value} {as bs : List AV} (h : Cel w cs as) (g : Cel w ds bs) : Cel w (cs ++ ds) (as ++ bs) := by
  refine ⟨by rw [List.length_append, List.length_append, h.1, g.1], fun j v a hv ha => ?_⟩
  by_cases hj : j < cs.length
  · rw [List.getElem?_append_left hj] at hv
    rw [List.getElem?_append_left (by rw [h.1]; exact hj)] at ha
    exact h.2 j v a hv ha
  · rw [List.getElem?_append_right (by omega)] at hv
    rw [List.getElem?_append_right (by rw [h.1]; omega), h.1] at ha
    exact g.2 _ v a hv ha
theorem pureL_ofm {as : List AV} : (∀ a ∈ as, a.pure = true) → AV.pureL as = true := by
  induction as with
  | nil => intro _; rfl
  | cons x xs ih => intro h; simp only [AV.pureL, Bool.and_eq_true]; exact ⟨h x (by simp), ih fun a ha => h a (by simp [ha])⟩
theorem Cel.pureL {cs : List Value} {as : List AV} (h : Cel w cs as) : AV.pureL as = true := pureL_ofm fun a ha => by
  obtain ⟨j, hj, rfl⟩ := List.getElem_of_mem ha
  have hj' : j < cs.length := by rw [← h.1]; exact hj
  exact (h.2 j _ _ (List.getElem?_eq_getElem hj') (List.getElem?_eq_getElem hj)).2.2.2

theorem add_at {a : Addr} {x y : Nat} {v : Value} (h : w.cell? ((a.add x).add y) = some v) : w.cell? ⟨a.block, a.off + (x + y), none⟩ = some v ∧ a.block < w.heap.size ∧ (x + y = 0 → a.spot = none) := by
  have hb : ((a.add x).add y).block = a.block := by unfold Addr.add; split <;> split <;> rfl
  have h1 := World.block_lt_of_cell? w _ h
  rw [hb] at h1
  by_cases h0 : x + y = 0
  · obtain rfl : x = 0 := by omega
    obtain rfl : y = 0 := by omega
    have e : (a.add 0).add 0 = a := by simp [Addr.add]
    rw [e] at h
    have hs : a.spot = none := by
      cases hsp : a.spot with
      | none => rfl
      | some k =>
        simp only [World.cell?, hsp] at h
        split at h <;> simp at h
    refine ⟨?_, h1, fun _ => hs⟩
    have e2 : a = ⟨a.block, a.off + (0 + 0), none⟩ := by cases a; simp_all
    rw [e2] at h; exact h
  · refine ⟨?_, h1, fun h => absurd h h0⟩
    have e : (a.add x).add y = ⟨a.block, a.off + (x + y), none⟩ := by
      unfold Addr.add
      by_cases hx : x = 0
      · subst hx; simp only [if_true]; rw [if_neg (by omega)]; simp
      · rw [if_neg hx]
        by_cases hy : y = 0
        · subst hy; simp
        · rw [if_neg hy]; simp [Nat.add_assoc]
    rw [e] at h; exact h

theorem elm_cells {ti : TI} {cs : List AV} (hl : cs.length = ti.size) (h : ti.agg = false → ti.size = 1) (hs : ∀ a ∈ cs, a.scal = true) : (elm ti cs).cells = cs := by
  unfold elm
  cases ha : ti.agg with
  | true => rfl
  | false =>
    have := h ha
    match cs, hl with
    | [], hl => simp at hl; omega
    | [c], _ =>
      have := hs c (by simp)
      cases c <;> simp_all [AV.scal, AV.cells]
    | _ :: _ :: _, hl => simp at hl; omega
theorem sup_one {m : Nat} {t : TypeId} {ti : TI} (h : Sup E m t = true) (ht : E.T t = some ti) (ha : ti.agg = false) : ti.size = 1 := by
  cases m with
  | zero => simp [Sup] at h
  | succ m =>
    simp only [Sup, ht] at h
    split at h <;> simp_all

theorem open_cells (hE : EOk P E) : ∀ (m : Nat) (t : TypeId), Sup E m t = true → ∀ (n : Nat) (cs : List Value) (x : DataW H × List MemPlace), DataW.trod enc P w base sp held n t cs = some x → ∃ as, Cel w cs as ∧ Fit E m t as
  | 0, t, hs, _, _, _, _ => by simp [Sup] at hs
  | m + 1, t, hs, n, cs, x, h => by
    have ih := open_cells hE m
    simp only [Sup] at hs
    split at hs
    · cases hs
    · rename_i ti ht
      obtain ⟨i, d, z, F⟩ := tiOf_facts (hE.ty _ _ ht)
      have hsz := cells_of hE ht
      have had := F.ad
      have hund := F.und
      simp only [Fit, ht]
      split at hs
      · -- int
        rename_i k hd
        rw [hd] at had ⊢
        simp only [Bool.and_eq_true, beq_iff_eq] at hs
        obtain rfl : d = .int k := by cases d <;> simp_all [dOf]
        obtain ⟨q, rfl, _, hw⟩ := DataW.trod_int hund h
        exact ⟨[.int k q], Cel.one (.int _ _) rfl rfl rfl, by simp [hs.1], q, rfl, hw⟩
      · rename_i hd
        rw [hd] at had ⊢
        simp only [Bool.and_eq_true, beq_iff_eq] at hs
        obtain rfl : d = .bool := by cases d <;> simp_all [dOf]
        obtain ⟨q, rfl, _⟩ := DataW.trod_bool hund h
        exact ⟨[.bool q], Cel.one (.bool _) rfl rfl rfl, by simp [hs.1], q, rfl⟩
      · rename_i hd
        rw [hd] at had ⊢
        simp only [Bool.and_eq_true, beq_iff_eq] at hs
        obtain rfl : d = .string := by cases d <;> simp_all [dOf]
        obtain ⟨q, rfl, _, hw⟩ := DataW.trod_string hund h
        exact ⟨[.str q], Cel.one (.str _) rfl rfl rfl, by simp [hs.1], q, rfl, hw⟩
      · -- slice
        rename_i e hd
        rw [hd] at had ⊢
        simp only [Bool.and_eq_true, beq_iff_eq] at hs
        obtain ⟨⟨⟨hs1, _⟩, hse⟩, hsz0⟩ := hs
        obtain rfl : d = .slice e := by cases d <;> simp_all [dOf]
        split at hsz0
        · rename_i te hte
          have hesz := cells_of hE hte
          have hpos : te.size ≠ 0 := by simpa using hsz0
          simp only [FitD, hte]
          rcases Go.Deep.open_slice hund h with ⟨rfl, _⟩ | ⟨a, len, cap, mm, n', D, Pl, rfl, _, hl, hm, hmm, _, hx⟩
          · exact ⟨[.lst true []], Cel.one .lnil rfl rfl rfl, by simp [hs1], .inl rfl⟩
          · have hmm' : len ≤ mm := by rw [hmm]; split <;> omega
            have each : ∀ i, i < len → ∃ (cs' : List Value) (as : List AV), w.cells? base (a.add (i * P.cellsOf e)) (P.cellsOf e) = some cs' ∧ Cel w cs' as ∧ Fit E m e as := fun i hi => by
              obtain ⟨cs', h1, h2⟩ := hx i (by omega)
              obtain ⟨as, h3, h4⟩ := ih e hse n' cs' _ h2
              exact ⟨cs', as, h1, h3, h4⟩
            let U : Nat → List Value := fun i => if hi : i < len then (each i hi).choose else []
            let A : Nat → List AV := fun i => if hi : i < len then (each i hi).choose_spec.choose else []
            have hUA : ∀ i, i < len → w.cells? base (a.add (i * P.cellsOf e)) (P.cellsOf e) = some (U i) ∧ Cel w (U i) (A i) ∧ Fit E m e (A i) := fun i hi => by
              simp only [U, A, dif_pos hi]
              exact (each i hi).choose_spec.choose_spec
            have hUl : ∀ i, i < len → (U i).length = te.size := fun i hi => by rw [(World.cells?_some (hUA i hi).1).2.1, hesz]
            have hAl : ∀ i, i < len → (A i).length = te.size := fun i hi => by rw [(hUA i hi).2.1.1, hUl i hi]
            have hsc : ∀ i, i < len → ∀ c ∈ A i, c.scal = true ∧ c.pure = true := fun i hi c hc => by
              obtain ⟨j, hj, rfl⟩ := List.getElem_of_mem hc
              have hj' : j < (U i).length := by rw [← (hUA i hi).2.1.1]; exact hj
              exact ((hUA i hi).2.1.2 j _ _ (List.getElem?_eq_getElem hj') (List.getElem?_eq_getElem hj)).2.2
            have hec : ∀ i, i < len → (elm te (A i)).cells = A i := fun i hi => elm_cells (hAl i hi) (fun ha => sup_one hse hte ha) fun a ha => (hsc i hi a ha).1
            have hep : ∀ i, i < len → (elm te (A i)).pure = true := fun i hi => by
              unfold elm
              split
              · simp only [AV.pure]; exact pureL_ofm fun a ha => (hsc i hi a ha).2
              · have := hAl i hi
                cases hA : A i with
                | nil => rfl
                | cons c cs => exact (hsc i hi c (by rw [hA]; simp)).2
            have hel : ∀ i v, ((List.range len).map fun i => elm te (A i))[i]? = some v → i < len ∧ v = elm te (A i) := fun i v h => by
              rw [List.getElem?_map] at h
              by_cases hi : i < len
              · rw [List.getElem?_range hi] at h; simp at h; exact ⟨hi, h.symm⟩
              · rw [List.getElem?_eq_none (by simpa using hi)] at h; simp at h
            have hat : ∀ i j c, i < len → (A i)[j]? = some c → ∃ v, (U i)[j]? = some v ∧ w.cell? ((a.add (i * te.size)).add j) = some v := fun i j c hi hc => by
              have hj : j < te.size := by rw [← hAl i hi]; exact (List.getElem?_eq_some_iff.1 hc).1
              have := (World.cells?_some (hUA i hi).1).2.2 j (by rw [hesz]; exact hj)
              rw [hesz] at this
              have hv : (U i)[j]? = some ((U i)[j]'(by rw [hUl i hi]; exact hj)) := List.getElem?_eq_getElem _
              exact ⟨_, hv, by rw [this, hv]⟩
            refine ⟨[.lst false ((List.range len).map fun i => elm te (A i))], ?_, by simp [hs1], .inr ⟨_, rfl, by simp; omega, fun x hx => ?_⟩⟩
            · have hlen : ((List.range len).map fun i => elm te (A i)).length = len := by simp
              have hrep : Rep (C0 w) (.slice (some a) ((List.range len).map fun i => elm te (A i)).length cap) (.lst false ((List.range len).map fun i => elm te (A i))) := by
                refine .lst a cap te.size _ (fun i j => ((U i)[j]?).getD (.bool true)) (by rw [hlen]; exact hl) (fun x hx => ?_) (fun hne => ?_) (fun i x hx j c hc => ?_) (fun i x hx j c hc => ?_) (fun i x hx j c hc => ?_)
                · obtain ⟨i, hi, rfl⟩ := List.mem_map.1 hx
                  have hi := List.mem_range.1 hi
                  rw [hec i hi, hAl i hi]
                · have h0 : 0 < len := by
                    rcases Nat.eq_zero_or_pos len with h | h
                    · subst h; exact absurd rfl hne
                    · exact h
                  obtain ⟨c, hc⟩ : ∃ c, (A 0)[0]? = some c := ⟨(A 0)[0]'(by rw [hAl 0 h0]; omega), List.getElem?_eq_getElem _⟩
                  obtain ⟨v, _, hv⟩ := hat 0 0 c h0 hc
                  have := add_at hv
                  exact ⟨this.2.2 (by simp), this.2.1, C0_wr w _⟩
                · obtain ⟨hi, rfl⟩ := hel i x hx
                  rw [hec i hi] at hc
                  obtain ⟨v, hv, hcell⟩ := hat i j c hi hc
                  rw [hv]
                  exact (add_at hcell).1
                · obtain ⟨hi, rfl⟩ := hel i x hx
                  rw [hec i hi] at hc
                  obtain ⟨v, hv, hcell⟩ := hat i j c hi hc
                  rw [hv]
                  exact ((hUA i hi).2.1.2 j v c hv hc).2.1
                · obtain ⟨hi, rfl⟩ := hel i x hx
                  rw [hec i hi] at hc
                  obtain ⟨v, hv, hcell⟩ := hat i j c hi hc
                  rw [hv]
                  exact ((hUA i hi).2.1.2 j v c hv hc).1
              rw [hlen] at hrep
              refine Cel.one hrep rfl rfl ?_
              simp only [AV.pure]
              exact pureL_ofm fun x hx => by
                obtain ⟨i, hi, rfl⟩ := List.mem_map.1 hx
                exact hep i (List.mem_range.1 hi)
            · obtain ⟨i, hi, rfl⟩ := List.mem_map.1 hx
              have hi := List.mem_range.1 hi
              exact ⟨A i, rfl, hAl i hi, (hUA i hi).2.2⟩
        · cases hsz0
      · -- struct
        rename_i fs hd
        rw [hd] at had ⊢
        simp only [Bool.and_eq_true] at hs
        obtain ⟨_, hs⟩ := hs
        obtain ⟨gs, rfl⟩ : ∃ gs, d = .struct gs := by cases d <;> simp_all [dOf]
        simp only [dOf, Option.some.injEq, TD.struct.injEq] at had
        obtain ⟨xs, n', _, _, hl, _, hf⟩ := DataW.trod_struct hund h
        have key : ∀ (l : List Field) (o : Nat) (cs : List Value), (∀ f ∈ l, ∃ y, DataW.trod enc P w base sp held n' f.type ((cs.drop (f.offset - o)).take (P.cellsOf f.type)) = some y) → tiles E (Sup E m) (l.map fun f => (f.offset, f.type)) o ti.size = true → cs.length + o = ti.size →
            ∃ as, Cel w cs as ∧ FitS E (Fit E m) (l.map fun f => (f.offset, f.type)) as := by
          intro l
          induction l with
          | nil =>
            intro o cs _ ht' hcl
            simp only [List.map_nil, tiles, beq_iff_eq] at ht'
            have : cs = [] := List.length_eq_zero_iff.1 (by omega)
            subst this
            exact ⟨[], Cel.nil, rfl⟩
          | cons f l ihl =>
            intro o cs hall ht' hcl
            simp only [List.map_cons, tiles, Bool.and_eq_true, beq_iff_eq] at ht'
            obtain ⟨⟨ho, hsu⟩, hrest⟩ := ht'
            split at hrest
            · rename_i tu htu
              have hu := cells_of hE htu
              obtain ⟨y, hy⟩ := hall f (by simp)
              rw [ho, Nat.sub_self, List.drop_zero, hu] at hy
              obtain ⟨as1, h1, h2⟩ := ih f.type hsu n' _ _ hy
              have hlen1 : as1.length = tu.size := by
                cases m with
                | zero => simp [Sup] at hsu
                | succ m => simp only [Fit, htu] at h2; exact h2.1
              have hcs : tu.size ≤ cs.length := by
                have := h1.1
                rw [hlen1, List.length_take] at this
                omega
              have hle : ∀ (l' : List (Nat × TypeId)) (o' : Nat), tiles E (Sup E m) l' o' ti.size = true → ∀ q ∈ l', o' ≤ q.1 := by
                intro l'
                induction l' with
                | nil => intro _ _ q hq; cases hq
                | cons p l' ihp =>
                  intro o' hp q hq
                  obtain ⟨p1, p2⟩ := p
                  simp only [tiles, Bool.and_eq_true, beq_iff_eq] at hp
                  obtain ⟨⟨hp1, _⟩, hp3⟩ := hp
                  split at hp3
                  · rcases List.mem_cons.1 hq with rfl | hq
                    · exact Nat.le_of_eq hp1.symm
                    · have := ihp _ hp3 q hq; omega
                  · cases hp3
              obtain ⟨as2, h3, h4⟩ := ihl (o + tu.size) (cs.drop tu.size) (fun g hg => by
                obtain ⟨y, hy⟩ := hall g (by simp [hg])
                refine ⟨y, ?_⟩
                have hge := hle _ _ hrest (g.offset, g.type) (List.mem_map.2 ⟨g, hg, rfl⟩)
                have hge' : o + tu.size ≤ g.offset := hge
                rw [List.drop_drop, show tu.size + (g.offset - (o + tu.size)) = g.offset - o by omega]
                exact hy) hrest (by rw [List.length_drop]; omega)
              refine ⟨as1 ++ as2, ?_, as1, as2, rfl, h2, h4⟩
              have := h1.app h3
              rwa [List.take_append_drop] at this
            · cases hrest
        rw [← had] at hs
        obtain ⟨as, h1, h2⟩ := key gs.toList 0 cs (fun f hf' => by
          obtain ⟨i, hi, rfl⟩ := List.getElem_of_mem hf'
          have hi' : i < gs.size := by simpa using hi
          have := hf i gs[i] (Array.getElem?_eq_getElem hi')
          have hx : i < xs.length := by omega
          rw [List.getElem?_eq_getElem hx] at this
          simp only [Nat.sub_zero, Array.getElem_toList]
          exact ⟨_, this⟩) hs (by omega)
        refine ⟨as, h1, by rw [h1.1, hl, hsz], ?_⟩
        simp only [FitD]
        rw [← had]
        exact h2
      · -- array
        rename_i k e hd
        rw [hd] at had ⊢
        simp only [Bool.and_eq_true] at hs
        obtain ⟨⟨_, hse⟩, hs⟩ := hs
        obtain rfl : d = .array k e := by cases d <;> simp_all [dOf]
        split at hs
        · rename_i te hte
          have hesz := cells_of hE hte
          simp only [beq_iff_eq] at hs
          obtain ⟨xs, n', _, _, hl, hxl, hf⟩ := DataW.trod_array hund h
          have key : ∀ (q : Nat) (cs : List Value), (∀ i, i < q → ∃ y, DataW.trod enc P w base sp held n' e ((cs.drop (i * te.size)).take te.size) = some y) → cs.length = q * te.size → ∃ ys : List (List AV), ys.length = q ∧ Cel w cs ys.flatten ∧ ∀ y ∈ ys, Fit E m e y := by
            intro q
            induction q with
            | zero =>
              intro cs _ hcl
              have : cs = [] := List.length_eq_zero_iff.1 (by omega)
              subst this
              exact ⟨[], rfl, Cel.nil, fun y hy => by cases hy⟩
            | succ q ihq =>
              intro cs hall hcl
              rw [Nat.add_mul, Nat.one_mul] at hcl
              obtain ⟨y, hy⟩ := hall 0 (by omega)
              rw [Nat.zero_mul, List.drop_zero] at hy
              obtain ⟨as1, h1, h2⟩ := ih e hse n' _ _ hy
              obtain ⟨ys, h3, h4, h5⟩ := ihq (cs.drop te.size) (fun i hi => by
                obtain ⟨y, hy⟩ := hall (i + 1) (by omega)
                refine ⟨y, ?_⟩
                rw [List.drop_drop, show te.size + i * te.size = (i + 1) * te.size by rw [Nat.add_mul]; omega]
                exact hy) (by rw [List.length_drop]; omega)
              refine ⟨as1 :: ys, by simp [h3], ?_, fun y hy => ?_⟩
              · have := h1.app h4
                rwa [List.take_append_drop] at this
              · rcases List.mem_cons.1 hy with rfl | hy
                · exact h2
                · exact h5 y hy
          obtain ⟨ys, h1, h2, h3⟩ := key k cs (fun i hi => by
            have := hf i hi
            have hx : i < xs.length := by omega
            rw [List.getElem?_eq_getElem hx, hesz] at this
            exact ⟨_, this⟩) (by rw [hl, hsz, hs])
          exact ⟨ys.flatten, h2, by rw [h2.1, hl, hsz], ys, h1, rfl, h3⟩
        · cases hs
      · cases hs

theorem okWide_form (hE : EOk P E) {m : Nat} {t : TypeId} {ti : TI} {r : Reach} {b : Nat} {v : Value} (ht : E.T t = some ti) (hs : Sup E m t = true) (h : Value.okWide P w r b t v) : (ti.agg = true ∧ ∃ vs : Array Value, v = .agg vs) ∨ (ti.agg = false ∧ v.oneCell' = true) := by
  obtain ⟨i, d, z, F⟩ := tiOf_facts (hE.ty _ _ ht)
  have had := F.ad
  have hag := F.agg
  cases m with
  | zero => simp [Sup] at hs
  | succ m =>
    simp only [Sup, ht] at hs
    unfold Value.okWide at h
    rw [F.und] at h
    cases d with
    | struct gs => left; refine ⟨by rw [hag]; rfl, ?_⟩; obtain ⟨cs, rfl, _⟩ := h; exact ⟨cs, rfl⟩
    | array n e => left; refine ⟨by rw [hag]; rfl, ?_⟩; obtain ⟨cs, rfl, _⟩ := h; exact ⟨cs, rfl⟩
    | int k => right; refine ⟨by rw [hag]; rfl, ?_⟩; cases v <;> first | rfl | (simp [Cell.okWide, Cell.ok, F.und] at h)
    | bool => right; refine ⟨by rw [hag]; rfl, ?_⟩; cases v <;> first | rfl | (simp [Cell.okWide, Cell.ok, F.und] at h)
    | string => right; refine ⟨by rw [hag]; rfl, ?_⟩; cases v <;> first | rfl | (simp [Cell.okWide, Cell.ok, F.und] at h)
    | slice e => right; refine ⟨by rw [hag]; rfl, ?_⟩; cases v <;> first | rfl | (simp [Cell.okWide, Cell.ok, F.und] at h)
    | _ =>
      have hd : ∀ x, dOf _ = some x → x = ti.desc := fun x hx => by rw [had] at hx; cases hx; rfl
      simp only [dOf] at had
      first
        | (cases had; done)
        | (simp only [Option.some.injEq] at had; rw [← had] at hs; simp at hs)

/-- The arguments of a row: what they are to the machine; and that they read the same wherever nothing old has turned. -/
theorem open_args (hE : EOk P E) (hl : laidOutB P = true) : ∀ (ts : List TypeId) (vs : List Value) (ds : List (DataW H)) (ps : List MemPlace), ts.all (fun t => Sup E 6 t && P.readableRec t && decide (t < P.types.size)) = true → DataW.TrodAll enc P w 0 (fun _ => true) true ts vs ds ps →
    (∀ (j : Nat) (t : TypeId) (v : Value), ts[j]? = some t → vs[j]? = some v → ∃ r b, Value.okWide P w r b t v) →
    ∃ as, FitArgs E ts as ∧ RepL (C0 w) vs as ∧ AV.pureL as = true ∧ ∀ w', Below w.heap.size w w' → DataW.TrodAll enc P w' 0 (fun b => decide (b < w.heap.size)) true ts vs ds ps
  | [], vs, ds, ps, _, h, _ => by
    obtain ⟨rfl, rfl, rfl⟩ := ChangeShapes.trodAll_nil h
    exact ⟨[], rfl, trivial, rfl, fun w' _ => rfl⟩
  | t :: ts, vs, ds, ps, hs, h, hv => by
    obtain ⟨v, vs, d, ds, p, q, rfl, rfl, rfl, h0, h1⟩ := ChangeShapes.trodAll_cons h
    simp only [List.all_cons, Bool.and_eq_true, decide_eq_true_eq] at hs
    obtain ⟨⟨⟨hs0, hr⟩, hlt⟩, hs1⟩ := hs
    obtain ⟨as, g1, g2, g3, g4⟩ := open_args hE hl ts vs ds q (by simpa using hs1) h1 fun j t v ht hv' => hv (j + 1) t v (by simpa using ht) (by simpa using hv')
    obtain ⟨fuel, h0'⟩ := h0
    obtain ⟨cs, k1, k2⟩ := open_cells hE 6 t hs0 fuel _ _ h0'
    obtain ⟨ti, hti⟩ : ∃ ti, E.T t = some ti := by
      cases hh : E.T t with
      | none => simp [Fit, hh] at k2
      | some ti => exact ⟨ti, rfl⟩
    have hcl : cs.length = ti.size := by simp only [Fit, hti] at k2; exact k2.1
    obtain ⟨r, b, hok⟩ := hv 0 t v rfl rfl
    have hrep : Rep (C0 w) v (elm ti cs) ∧ (elm ti cs).pure = true := by
      have hp := k1.pureL
      rcases okWide_form hE hti hs0 hok with ⟨ha, us, rfl⟩ | ⟨ha, h1c⟩
      · unfold elm
        rw [if_pos ha]
        refine ⟨.agg us cs ?_ fun j v x hv hx => ?_, by simpa [AV.pure] using hp⟩
        · have := k1.1; simpa [Value.cells] using this.symm
        · exact (k1.2 j v x (by simpa [Value.cells] using hv) hx).1
      · have h1 := sup_one hs0 hti ha
        have hc : v.cells.toList = [v] := by cases v <;> first | rfl | (simp [Value.oneCell'] at h1c)
        rw [hc] at k1
        obtain ⟨a, rfl⟩ : ∃ a, cs = [a] := List.length_eq_one_iff.1 (by rw [hcl, h1])
        unfold elm
        simp only [ha, Bool.false_eq_true, if_false, List.headD_cons]
        have := k1.2 0 v a rfl rfl
        exact ⟨this.1, this.2.2.2⟩
    refine ⟨elm ti cs :: as, ⟨cs, _, as, rfl, by rw [hti]; exact ⟨rfl, k2⟩, g1⟩, ⟨hrep.1, g2⟩, by simp only [AV.pureL, hrep.2, g3]; rfl, fun w' hb => ?_⟩
    refine ⟨p, q, ?_, g4 w' hb, rfl⟩
    refine Below.trod hl hr hlt ⟨fuel, h0'⟩ hb fun x hx => ?_
    exact DataW.trod_lt _ _ _ _ h0' x hx
theorem trodAll_len : ∀ {ts : List TypeId} {vs : List Value} {ds : List (DataW H)} {ps : List MemPlace}, DataW.TrodAll enc P w base sp held ts vs ds ps → ds.length = ts.length
  | [], vs, ds, ps, h => by obtain ⟨rfl, rfl, rfl⟩ := ChangeShapes.trodAll_nil h; rfl
  | t :: ts, vs, ds, ps, h => by
    obtain ⟨v, vs, d, ds, p, q, rfl, rfl, rfl, h0, h1⟩ := ChangeShapes.trodAll_cons h
    simp [trodAll_len h1]
end
end Vm
