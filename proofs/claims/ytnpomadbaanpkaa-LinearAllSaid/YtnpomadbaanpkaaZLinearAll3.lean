/- Part 3 of a proof about this seat: Of, Row, Law1, Pan, Ex1, BitLen, Sh1, Sh2, Knuth, Digit, Bit1, Div1, Div2, Div3, Stat, Exa, Lis, Gos, Cel, Sys, Rf, Wid, Sy2. (Own work of this repo.) -/
import Derived.Test.YtnpomadbaanpkaaZLinearAll2
import Derived.OpenShut
import Derived.Carry
import Derived.Deep.Slices
set_option linter.unusedVariables false
set_option linter.unusedSimpArgs false
/- Walks: an int as a number. (Own work of this repo.) -/
namespace Go.Proofs.Ytnpomadbaanpkaa
open Vm
set_option maxRecDepth 10000

theorem val_two (m : Nat) : val [m % 4294967296, m / 4294967296] = m := by
  rw [val_cons, val_cons, val_nil, show BB = 4294967296 from rfl]; omega
theorem inR_two {m : Nat} (h : m < 18446744073709551616) : InR [m % 4294967296, m / 4294967296] := by
  intro x hx; simp at hx; rcases hx with rfl | rfl <;> (show _ < 4294967296; omega)
theorem dg_small {z : Int} (h : z.natAbs < 18446744073709551616) : (dg z).length ≤ 2 := by rw [dg_len]; exact h
theorem sg_abs_dec (n : Int) : sg (decide (n < 0)) n.natAbs = n := sg_ng n
theorem of_spec (n : Int) (h1 : -9223372036854775808 ≤ n) (h2 : n < 9223372036854775808) : denP E 47 [.int .i64 n] = some (.ret (I false n)) := by
  obtain ⟨m, hm⟩ : ∃ m : Nat, m = n.natAbs := ⟨_, rfl⟩
  have hd : (dg n).length ≤ 4096 := by have := dg_small (z := n) (by omega); omega
  have hmade := made_spec (decide (n < 0)) false [m % 4294967296, m / 4294967296] (inR_two (by omega)) (by simp) (by simp)
  rw [val_two, hm, sg_abs_dec, ← hm] at hmade
  simp only [RI, fm_of hd, fit_of hd, er_of hd, List.map_cons, List.map_nil, wd] at hmade
  refine denP_eq E47 rfl (by simp [AV.pureL, AV.pure]) ?_
  have e2 : IntKind.u32.wrap (((m : Nat) : Int).fdiv (2 ^ min 32 (kb .u64))) = ((m / 4294967296 : Nat) : Int) := by
    rw [shr32, wrapu32_nat]; omega
  by_cases hn : n < 0
  · have e0 : IntKind.u64.wrap (0 - IntKind.u64.wrap n) = (m : Int) := by rw [IntKind.wrap_u64, IntKind.wrap_u64]; omega
    rw [decide_eq_true hn] at hmade
    simp (maxSteps := 4000000) (disch := omega) only [go_sem, seval, ↓reduceIte, reduceCtorEq, ← List.map_take, ← List.map_drop, wrap64, wrapu64, wrapu32, Try.f47, reps, fillAll, refP, elems, List.headD, e0, e2, wrapu32_nat, hmade]
  · have e0 : IntKind.u64.wrap n = (m : Int) := by rw [IntKind.wrap_u64]; omega
    rw [decide_eq_false hn] at hmade
    simp (maxSteps := 4000000) (disch := omega) only [go_sem, seval, ↓reduceIte, reduceCtorEq, ← List.map_take, ← List.map_drop, wrap64, wrapu64, wrapu32, Try.f47, reps, fillAll, refP, elems, List.headD, e0, e2, wrapu32_nat, hmade]
theorem rOf_spec (n : Int) (h1 : -9223372036854775808 ≤ n) (h2 : n < 9223372036854775808) : denP E 20 [.int .i64 n] = some (.ret (RM n)) := by
  obtain ⟨m, hm⟩ : ∃ m : Nat, m = n.natAbs := ⟨_, rfl⟩
  have hmake := rMake_z (neg := decide (n < 0)) (nl := false) (w := [m % 4294967296, m / 4294967296]) (z := n) (inR_two (by omega)) (by simp) (by rw [val_two, hm, sg_abs_dec])
  simp only [List.map_cons, List.map_nil, wd] at hmake
  refine denP_eq E20 rfl (by simp [AV.pureL, AV.pure]) ?_
  have e2 : IntKind.u32.wrap (((m : Nat) : Int).fdiv (2 ^ min 32 (kb .u64))) = ((m / 4294967296 : Nat) : Int) := by
    rw [shr32, wrapu32_nat]; omega
  have e3 := and_low (n := m) (by omega)
  have e4 : IntKind.u32.wrap ((m % 4294967296 : Nat) : Int) = ((m % 4294967296 : Nat) : Int) := by rw [wrapu32_nat]; omega
  by_cases hn : n < 0
  · have e0 : (0 : Int) - (n + 1) + 1 = (m : Int) := by omega
    rw [decide_eq_true hn] at hmake
    simp (maxSteps := 4000000) (disch := omega) only [go_sem, seval, ↓reduceIte, reduceCtorEq, ← List.map_take, ← List.map_drop, wrap64, wrapu64, wrapu32, Try.f20, reps, fillAll, refP, elems, List.headD, e0, e2, e3, e4, hmake]
  · have e0 : IntKind.u64.wrap n = (m : Int) := by rw [IntKind.wrap_u64]; omega
    rw [decide_eq_false hn] at hmake
    simp (maxSteps := 4000000) (disch := omega) only [go_sem, seval, ↓reduceIte, reduceCtorEq, ← List.map_take, ← List.map_drop, wrap64, wrapu64, wrapu32, Try.f20, reps, fillAll, refP, elems, List.headD, e0, e2, e3, e4, hmake]
end Go.Proofs.Ytnpomadbaanpkaa

/- The machine over pure values and the rows: what the arguments of a row are as values of the machine. (Own work of this repo.) -/
namespace Vm
open Go Go.RowKit

def FitS (E : Env) (F : TypeId → List AV → Prop) : List (Nat × TypeId) → List AV → Prop
  | [], avs => avs = []
  | (_, u) :: fs, avs => ∃ x y, avs = x ++ y ∧ F u x ∧ FitS E F fs y
/-- A row's element. -/
def elm (ti : TI) (cs : List AV) : AV := if ti.agg then .agg cs else cs.headD undef
def FitD (E : Env) (F : TypeId → List AV → Prop) (avs : List AV) : TD → Prop
  | .int k => ∃ i, avs = [.int k i] ∧ (Lit.int k i).wf = true
  | .bool => ∃ b, avs = [.bool b]
  | .str => ∃ s, avs = [.str s] ∧ s.size ≤ maxLen
  | .slice e => match E.T e with
    | none => False
    | some te => avs = [.lst true []] ∨ ∃ xs, avs = [.lst false xs] ∧ xs.length ≤ maxLen ∧ ∀ x ∈ xs, ∃ cs, x = elm te cs ∧ cs.length = te.size ∧ F e cs
  | .struct fs => FitS E F fs avs
  | .array n e => ∃ xs : List (List AV), xs.length = n ∧ avs = xs.flatten ∧ ∀ x ∈ xs, F e x
  | _ => False
/-- What cells of a type are. -/
def Fit (E : Env) : Nat → TypeId → List AV → Prop
  | 0 => fun _ _ => False
  | m + 1 => fun t avs => match E.T t with
    | none => False
    | some ti => avs.length = ti.size ∧ FitD E (Fit E m) avs ti.desc
def FitArgs (E : Env) : List TypeId → List AV → Prop
  | [], avs => avs = []
  | t :: ts, avs => ∃ cs x ys, avs = x :: ys ∧ (match E.T t with | none => False | some ti => x = elm ti cs ∧ Fit E 6 t cs) ∧ FitArgs E ts ys

/-- Do the fields lie one behind the other? -/
def tiles (E : Env) (S : TypeId → Bool) : List (Nat × TypeId) → Nat → Nat → Bool
  | [], o, size => o == size
  | (o', u) :: fs, o, size => o' == o && S u && (match E.T u with | some tu => tiles E S fs (o + tu.size) size | none => false)
def Sup (E : Env) : Nat → TypeId → Bool
  | 0, _ => false
  | m + 1, t => match E.T t with
    | none => false
    | some ti => (match ti.desc with
      | .int _ | .bool | .str => ti.size == 1 && !ti.agg
      | .slice e => ti.size == 1 && !ti.agg && Sup E m e && (match E.T e with | some te => te.size != 0 | none => false)
      | .struct fs => ti.agg && tiles E (Sup E m) fs 0 ti.size
      | .array n e => ti.agg && Sup E m e && (match E.T e with | some te => ti.size == n * te.size | none => false)
      | _ => false)

section
variable {P : Program} {E : Env} {H : Type} {enc : TypeId × Value → H} {w : World} {base : Nat} {sp : Nat → Bool} {held : Bool}

theorem cells_of (hE : EOk P E) {t : TypeId} {ti : TI} (h : E.T t = some ti) : P.cellsOf t = ti.size := by
  obtain ⟨i, d, z, F⟩ := tiOf_facts (hE.ty _ _ h)
  rw [Program.cellsOf, F.info]
  exact F.size

/-- The cells stand for values of the machine, one for one. -/
def Cel (w : World) (cs : List Value) (avs : List AV) : Prop := avs.length = cs.length ∧ ∀ (j : Nat) (v : Value) (a : AV), cs[j]? = some v → avs[j]? = some a → Rep (C0 w) v a ∧ v.oneCell' = true ∧ a.scal = true ∧ a.pure = true
theorem Cel.nil : Cel w [] [] := ⟨rfl, fun j v a h => by simp at h⟩
theorem Cel.one {v : Value} {a : AV} (h : Rep (C0 w) v a) (h1 : v.oneCell' = true) (h2 : a.scal = true) (h3 : a.pure = true) : Cel w [v] [a] := by
  refine ⟨rfl, fun j v' a' hv ha => ?_⟩
  match j with
  | 0 => simp at hv ha; subst hv; subst ha; exact ⟨h, h1, h2, h3⟩
  | j + 1 => simp at hv
theorem Cel.app {cs ds : List Value} {avs bs : List AV} (h : Cel w cs avs) (g : Cel w ds bs) : Cel w (cs ++ ds) (avs ++ bs) := by
  refine ⟨by rw [List.length_append, List.length_append, h.1, g.1], fun j v a hv ha => ?_⟩
  by_cases hj : j < cs.length
  · rw [List.getElem?_append_left hj] at hv
    rw [List.getElem?_append_left (by rw [h.1]; exact hj)] at ha
    exact h.2 j v a hv ha
  · rw [List.getElem?_append_right (by omega)] at hv
    rw [List.getElem?_append_right (by rw [h.1]; omega), h.1] at ha
    exact g.2 _ v a hv ha
theorem pureL_ofm {avs : List AV} : (∀ a ∈ avs, a.pure = true) → AV.pureL avs = true := by
  induction avs with
  | nil => intro _; rfl
  | cons x xs ih => intro h; simp only [AV.pureL, Bool.and_eq_true]; exact ⟨h x (by simp), ih fun a ha => h a (by simp [ha])⟩
theorem Cel.pureL {cs : List Value} {avs : List AV} (h : Cel w cs avs) : AV.pureL avs = true := pureL_ofm fun a ha => by
  obtain ⟨j, hj, rfl⟩ := List.getElem_of_mem ha
  have hj' : j < cs.length := by rw [← h.1]; exact hj
  exact (h.2 j _ _ (List.getElem?_eq_getElem hj') (List.getElem?_eq_getElem hj)).2.2.2

theorem add_at {a : Addr} {x y : Nat} {v : Value} (h : w.cell? ((a.add x).add y) = some v) : w.cell? ⟨a.block, a.off + (x + y), none⟩ = some v ∧ a.block < w.heap.size ∧ (x + y = 0 → a.spot = none) := by
  have hb : ((a.add x).add y).block = a.block := by unfold Addr.add; split <;> split <;> rfl
  have h1 := World.block_lt_of_cell? w _ h
  rw [hb] at h1
  by_cases h0 : x + y = 0
  · obtain rfl : x = 0 := by omega
    obtain rfl : y = 0 := by omega
    have e : (a.add 0).add 0 = a := by simp [Addr.add]
    rw [e] at h
    have hs : a.spot = none := by
      cases hsp : a.spot with
      | none => rfl
      | some k =>
        simp only [World.cell?, hsp] at h
        split at h <;> simp at h
    refine ⟨?_, h1, fun _ => hs⟩
    have e2 : a = ⟨a.block, a.off + (0 + 0), none⟩ := by cases a; simp_all
    rw [e2] at h; exact h
  · refine ⟨?_, h1, fun h => absurd h h0⟩
    have e : (a.add x).add y = ⟨a.block, a.off + (x + y), none⟩ := by
      unfold Addr.add
      by_cases hx : x = 0
      · subst hx; simp only [if_true]; rw [if_neg (by omega)]; simp
      · rw [if_neg hx]
        by_cases hy : y = 0
        · subst hy; simp
        · rw [if_neg hy]; simp [Nat.add_assoc]
    rw [e] at h; exact h

theorem elm_cells {ti : TI} {cs : List AV} (hl : cs.length = ti.size) (h : ti.agg = false → ti.size = 1) (hs : ∀ a ∈ cs, a.scal = true) : (elm ti cs).cells = cs := by
  unfold elm
  cases ha : ti.agg with
  | true => rfl
  | false =>
    have := h ha
    match cs, hl with
    | [], hl => simp at hl; omega
    | [c], _ =>
      have := hs c (by simp)
      cases c <;> simp_all [AV.scal, AV.cells]
    | _ :: _ :: _, hl => simp at hl; omega
theorem sup_one {m : Nat} {t : TypeId} {ti : TI} (h : Sup E m t = true) (ht : E.T t = some ti) (ha : ti.agg = false) : ti.size = 1 := by
  cases m with
  | zero => simp [Sup] at h
  | succ m =>
    simp only [Sup, ht] at h
    split at h <;> simp_all

theorem open_cells (hE : EOk P E) : ∀ (m : Nat) (t : TypeId), Sup E m t = true → ∀ (n : Nat) (cs : List Value) (x : DataW H × List MemPlace), DataW.trod enc P w base sp held n t cs = some x → ∃ avs, Cel w cs avs ∧ Fit E m t avs
  | 0, t, hs, _, _, _, _ => by simp [Sup] at hs
  | m + 1, t, hs, n, cs, x, h => by
    have ih := open_cells hE m
    simp only [Sup] at hs
    split at hs
    · cases hs
    · rename_i ti ht
      obtain ⟨i, d, z, F⟩ := tiOf_facts (hE.ty _ _ ht)
      have hsz := cells_of hE ht
      have had := F.ad
      have hund := F.und
      simp only [Fit, ht]
      split at hs
      · -- int
        rename_i k hd
        rw [hd] at had ⊢
        simp only [Bool.and_eq_true, beq_iff_eq] at hs
        obtain rfl : d = .int k := by cases d <;> simp_all [dOf]
        obtain ⟨q, rfl, _, hw⟩ := DataW.trod_int hund h
        exact ⟨[.int k q], Cel.one (.int _ _) rfl rfl rfl, by simp [hs.1], q, rfl, hw⟩
      · rename_i hd
        rw [hd] at had ⊢
        simp only [Bool.and_eq_true, beq_iff_eq] at hs
        obtain rfl : d = .bool := by cases d <;> simp_all [dOf]
        obtain ⟨q, rfl, _⟩ := DataW.trod_bool hund h
        exact ⟨[.bool q], Cel.one (.bool _) rfl rfl rfl, by simp [hs.1], q, rfl⟩
      · rename_i hd
        rw [hd] at had ⊢
        simp only [Bool.and_eq_true, beq_iff_eq] at hs
        obtain rfl : d = .string := by cases d <;> simp_all [dOf]
        obtain ⟨q, rfl, _, hw⟩ := DataW.trod_string hund h
        exact ⟨[.str q], Cel.one (.str _) rfl rfl rfl, by simp [hs.1], q, rfl, hw⟩
      · -- slice
        rename_i e hd
        rw [hd] at had ⊢
        simp only [Bool.and_eq_true, beq_iff_eq] at hs
        obtain ⟨⟨⟨hs1, _⟩, hse⟩, hsz0⟩ := hs
        obtain rfl : d = .slice e := by cases d <;> simp_all [dOf]
        split at hsz0
        · rename_i te hte
          have hesz := cells_of hE hte
          have hpos : te.size ≠ 0 := by simpa using hsz0
          simp only [FitD, hte]
          rcases Go.Deep.open_slice hund h with ⟨rfl, _⟩ | ⟨a, len, cap, mm, n', D, Pl, rfl, _, hl, hm, hmm, _, hx⟩
          · exact ⟨[.lst true []], Cel.one .lnil rfl rfl rfl, by simp [hs1], .inl rfl⟩
          · have hmm' : len ≤ mm := by rw [hmm]; split <;> omega
            have each : ∀ i, i < len → ∃ (cs' : List Value) (avs : List AV), w.cells? base (a.add (i * P.cellsOf e)) (P.cellsOf e) = some cs' ∧ Cel w cs' avs ∧ Fit E m e avs := fun i hi => by
              obtain ⟨cs', h1, h2⟩ := hx i (by omega)
              obtain ⟨avs, h3, h4⟩ := ih e hse n' cs' _ h2
              exact ⟨cs', avs, h1, h3, h4⟩
            let U : Nat → List Value := fun i => if hi : i < len then (each i hi).choose else []
            let A : Nat → List AV := fun i => if hi : i < len then (each i hi).choose_spec.choose else []
            have hUA : ∀ i, i < len → w.cells? base (a.add (i * P.cellsOf e)) (P.cellsOf e) = some (U i) ∧ Cel w (U i) (A i) ∧ Fit E m e (A i) := fun i hi => by
              simp only [U, A, dif_pos hi]
              exact (each i hi).choose_spec.choose_spec
            have hUl : ∀ i, i < len → (U i).length = te.size := fun i hi => by rw [(World.cells?_some (hUA i hi).1).2.1, hesz]
            have hAl : ∀ i, i < len → (A i).length = te.size := fun i hi => by rw [(hUA i hi).2.1.1, hUl i hi]
            have hsc : ∀ i, i < len → ∀ c ∈ A i, c.scal = true ∧ c.pure = true := fun i hi c hc => by
              obtain ⟨j, hj, rfl⟩ := List.getElem_of_mem hc
              have hj' : j < (U i).length := by rw [← (hUA i hi).2.1.1]; exact hj
              exact ((hUA i hi).2.1.2 j _ _ (List.getElem?_eq_getElem hj') (List.getElem?_eq_getElem hj)).2.2
            have hec : ∀ i, i < len → (elm te (A i)).cells = A i := fun i hi => elm_cells (hAl i hi) (fun ha => sup_one hse hte ha) fun a ha => (hsc i hi a ha).1
            have hep : ∀ i, i < len → (elm te (A i)).pure = true := fun i hi => by
              unfold elm
              split
              · simp only [AV.pure]; exact pureL_ofm fun a ha => (hsc i hi a ha).2
              · have := hAl i hi
                cases hA : A i with
                | nil => rfl
                | cons c cs => exact (hsc i hi c (by rw [hA]; simp)).2
            have hel : ∀ i v, ((List.range len).map fun i => elm te (A i))[i]? = some v → i < len ∧ v = elm te (A i) := fun i v h => by
              rw [List.getElem?_map] at h
              by_cases hi : i < len
              · rw [List.getElem?_range hi] at h; simp at h; exact ⟨hi, h.symm⟩
              · rw [List.getElem?_eq_none (by simpa using hi)] at h; simp at h
            have hat : ∀ i j c, i < len → (A i)[j]? = some c → ∃ v, (U i)[j]? = some v ∧ w.cell? ((a.add (i * te.size)).add j) = some v := fun i j c hi hc => by
              have hj : j < te.size := by rw [← hAl i hi]; exact (List.getElem?_eq_some_iff.1 hc).1
              have := (World.cells?_some (hUA i hi).1).2.2 j (by rw [hesz]; exact hj)
              rw [hesz] at this
              have hv : (U i)[j]? = some ((U i)[j]'(by rw [hUl i hi]; exact hj)) := List.getElem?_eq_getElem _
              exact ⟨_, hv, by rw [this, hv]⟩
            refine ⟨[.lst false ((List.range len).map fun i => elm te (A i))], ?_, by simp [hs1], .inr ⟨_, rfl, by simp; omega, fun x hx => ?_⟩⟩
            · have hlen : ((List.range len).map fun i => elm te (A i)).length = len := by simp
              have hrep : Rep (C0 w) (.slice (some a) ((List.range len).map fun i => elm te (A i)).length cap) (.lst false ((List.range len).map fun i => elm te (A i))) := by
                refine .lst a cap te.size _ (fun i j => ((U i)[j]?).getD (.bool true)) (by rw [hlen]; exact hl) (fun x hx => ?_) (fun hne => ?_) (fun i x hx j c hc => ?_) (fun i x hx j c hc => ?_) (fun i x hx j c hc => ?_)
                · obtain ⟨i, hi, rfl⟩ := List.mem_map.1 hx
                  have hi := List.mem_range.1 hi
                  rw [hec i hi, hAl i hi]
                · have h0 : 0 < len := by
                    rcases Nat.eq_zero_or_pos len with h | h
                    · subst h; exact absurd rfl hne
                    · exact h
                  obtain ⟨c, hc⟩ : ∃ c, (A 0)[0]? = some c := ⟨(A 0)[0]'(by rw [hAl 0 h0]; omega), List.getElem?_eq_getElem _⟩
                  obtain ⟨v, _, hv⟩ := hat 0 0 c h0 hc
                  have := add_at hv
                  exact ⟨this.2.2 (by simp), this.2.1, C0_wr w _⟩
                · obtain ⟨hi, rfl⟩ := hel i x hx
                  rw [hec i hi] at hc
                  obtain ⟨v, hv, hcell⟩ := hat i j c hi hc
                  rw [hv]
                  exact (add_at hcell).1
                · obtain ⟨hi, rfl⟩ := hel i x hx
                  rw [hec i hi] at hc
                  obtain ⟨v, hv, hcell⟩ := hat i j c hi hc
                  rw [hv]
                  exact ((hUA i hi).2.1.2 j v c hv hc).2.1
                · obtain ⟨hi, rfl⟩ := hel i x hx
                  rw [hec i hi] at hc
                  obtain ⟨v, hv, hcell⟩ := hat i j c hi hc
                  rw [hv]
                  exact ((hUA i hi).2.1.2 j v c hv hc).1
              rw [hlen] at hrep
              refine Cel.one hrep rfl rfl ?_
              simp only [AV.pure]
              exact pureL_ofm fun x hx => by
                obtain ⟨i, hi, rfl⟩ := List.mem_map.1 hx
                exact hep i (List.mem_range.1 hi)
            · obtain ⟨i, hi, rfl⟩ := List.mem_map.1 hx
              have hi := List.mem_range.1 hi
              exact ⟨A i, rfl, hAl i hi, (hUA i hi).2.2⟩
        · cases hsz0
      · -- struct
        rename_i fs hd
        rw [hd] at had ⊢
        simp only [Bool.and_eq_true] at hs
        obtain ⟨_, hs⟩ := hs
        obtain ⟨gs, rfl⟩ : ∃ gs, d = .struct gs := by cases d <;> simp_all [dOf]
        simp only [dOf, Option.some.injEq, TD.struct.injEq] at had
        obtain ⟨xs, n', _, _, hl, _, hf⟩ := DataW.trod_struct hund h
        have key : ∀ (l : List Field) (o : Nat) (cs : List Value), (∀ f ∈ l, ∃ y, DataW.trod enc P w base sp held n' f.type ((cs.drop (f.offset - o)).take (P.cellsOf f.type)) = some y) → tiles E (Sup E m) (l.map fun f => (f.offset, f.type)) o ti.size = true → cs.length + o = ti.size →
            ∃ avs, Cel w cs avs ∧ FitS E (Fit E m) (l.map fun f => (f.offset, f.type)) avs := by
          intro l
          induction l with
          | nil =>
            intro o cs _ ht' hcl
            simp only [List.map_nil, tiles, beq_iff_eq] at ht'
            have : cs = [] := List.length_eq_zero_iff.1 (by omega)
            subst this
            exact ⟨[], Cel.nil, rfl⟩
          | cons f l ihl =>
            intro o cs hall ht' hcl
            simp only [List.map_cons, tiles, Bool.and_eq_true, beq_iff_eq] at ht'
            obtain ⟨⟨ho, hsu⟩, hrest⟩ := ht'
            split at hrest
            · rename_i tu htu
              have hu := cells_of hE htu
              obtain ⟨y, hy⟩ := hall f (by simp)
              rw [ho, Nat.sub_self, List.drop_zero, hu] at hy
              obtain ⟨as1, h1, h2⟩ := ih f.type hsu n' _ _ hy
              have hlen1 : as1.length = tu.size := by
                cases m with
                | zero => simp [Sup] at hsu
                | succ m => simp only [Fit, htu] at h2; exact h2.1
              have hcs : tu.size ≤ cs.length := by
                have := h1.1
                rw [hlen1, List.length_take] at this
                omega
              have hle : ∀ (l' : List (Nat × TypeId)) (o' : Nat), tiles E (Sup E m) l' o' ti.size = true → ∀ q ∈ l', o' ≤ q.1 := by
                intro l'
                induction l' with
                | nil => intro _ _ q hq; cases hq
                | cons p l' ihp =>
                  intro o' hp q hq
                  obtain ⟨p1, p2⟩ := p
                  simp only [tiles, Bool.and_eq_true, beq_iff_eq] at hp
                  obtain ⟨⟨hp1, _⟩, hp3⟩ := hp
                  split at hp3
                  · rcases List.mem_cons.1 hq with rfl | hq
                    · exact Nat.le_of_eq hp1.symm
                    · have := ihp _ hp3 q hq; omega
                  · cases hp3
              obtain ⟨as2, h3, h4⟩ := ihl (o + tu.size) (cs.drop tu.size) (fun g hg => by
                obtain ⟨y, hy⟩ := hall g (by simp [hg])
                refine ⟨y, ?_⟩
                have hge := hle _ _ hrest (g.offset, g.type) (List.mem_map.2 ⟨g, hg, rfl⟩)
                have hge' : o + tu.size ≤ g.offset := hge
                rw [List.drop_drop, show tu.size + (g.offset - (o + tu.size)) = g.offset - o by omega]
                exact hy) hrest (by rw [List.length_drop]; omega)
              refine ⟨as1 ++ as2, ?_, as1, as2, rfl, h2, h4⟩
              have := h1.app h3
              rwa [List.take_append_drop] at this
            · cases hrest
        rw [← had] at hs
        obtain ⟨avs, h1, h2⟩ := key gs.toList 0 cs (fun f hf' => by
          obtain ⟨i, hi, rfl⟩ := List.getElem_of_mem hf'
          have hi' : i < gs.size := by simpa using hi
          have := hf i gs[i] (Array.getElem?_eq_getElem hi')
          have hx : i < xs.length := by omega
          rw [List.getElem?_eq_getElem hx] at this
          simp only [Nat.sub_zero, Array.getElem_toList]
          exact ⟨_, this⟩) hs (by omega)
        refine ⟨avs, h1, by rw [h1.1, hl, hsz], ?_⟩
        simp only [FitD]
        rw [← had]
        exact h2
      · -- array
        rename_i k e hd
        rw [hd] at had ⊢
        simp only [Bool.and_eq_true] at hs
        obtain ⟨⟨_, hse⟩, hs⟩ := hs
        obtain rfl : d = .array k e := by cases d <;> simp_all [dOf]
        split at hs
        · rename_i te hte
          have hesz := cells_of hE hte
          simp only [beq_iff_eq] at hs
          obtain ⟨xs, n', _, _, hl, hxl, hf⟩ := DataW.trod_array hund h
          have key : ∀ (q : Nat) (cs : List Value), (∀ i, i < q → ∃ y, DataW.trod enc P w base sp held n' e ((cs.drop (i * te.size)).take te.size) = some y) → cs.length = q * te.size → ∃ ys : List (List AV), ys.length = q ∧ Cel w cs ys.flatten ∧ ∀ y ∈ ys, Fit E m e y := by
            intro q
            induction q with
            | zero =>
              intro cs _ hcl
              have : cs = [] := List.length_eq_zero_iff.1 (by omega)
              subst this
              exact ⟨[], rfl, Cel.nil, fun y hy => by cases hy⟩
            | succ q ihq =>
              intro cs hall hcl
              rw [Nat.add_mul, Nat.one_mul] at hcl
              obtain ⟨y, hy⟩ := hall 0 (by omega)
              rw [Nat.zero_mul, List.drop_zero] at hy
              obtain ⟨as1, h1, h2⟩ := ih e hse n' _ _ hy
              obtain ⟨ys, h3, h4, h5⟩ := ihq (cs.drop te.size) (fun i hi => by
                obtain ⟨y, hy⟩ := hall (i + 1) (by omega)
                refine ⟨y, ?_⟩
                rw [List.drop_drop, show te.size + i * te.size = (i + 1) * te.size by rw [Nat.add_mul]; omega]
                exact hy) (by rw [List.length_drop]; omega)
              refine ⟨as1 :: ys, by simp [h3], ?_, fun y hy => ?_⟩
              · have := h1.app h4
                rwa [List.take_append_drop] at this
              · rcases List.mem_cons.1 hy with rfl | hy
                · exact h2
                · exact h5 y hy
          obtain ⟨ys, h1, h2, h3⟩ := key k cs (fun i hi => by
            have := hf i hi
            have hx : i < xs.length := by omega
            rw [List.getElem?_eq_getElem hx, hesz] at this
            exact ⟨_, this⟩) (by rw [hl, hsz, hs])
          exact ⟨ys.flatten, h2, by rw [h2.1, hl, hsz], ys, h1, rfl, h3⟩
        · cases hs
      · cases hs

theorem okWide_form (hE : EOk P E) {m : Nat} {t : TypeId} {ti : TI} {r : Reach} {b : Nat} {v : Value} (ht : E.T t = some ti) (hs : Sup E m t = true) (h : Value.okWide P w r b t v) : (ti.agg = true ∧ ∃ vs : Array Value, v = .agg vs) ∨ (ti.agg = false ∧ v.oneCell' = true) := by
  obtain ⟨i, d, z, F⟩ := tiOf_facts (hE.ty _ _ ht)
  have had := F.ad
  have hag := F.agg
  cases m with
  | zero => simp [Sup] at hs
  | succ m =>
    simp only [Sup, ht] at hs
    unfold Value.okWide at h
    rw [F.und] at h
    cases d with
    | struct gs => left; refine ⟨by rw [hag]; rfl, ?_⟩; obtain ⟨cs, rfl, _⟩ := h; exact ⟨cs, rfl⟩
    | array n e => left; refine ⟨by rw [hag]; rfl, ?_⟩; obtain ⟨cs, rfl, _⟩ := h; exact ⟨cs, rfl⟩
    | int k => right; refine ⟨by rw [hag]; rfl, ?_⟩; cases v <;> first | rfl | (simp [Cell.okWide, Cell.ok, F.und] at h)
    | bool => right; refine ⟨by rw [hag]; rfl, ?_⟩; cases v <;> first | rfl | (simp [Cell.okWide, Cell.ok, F.und] at h)
    | string => right; refine ⟨by rw [hag]; rfl, ?_⟩; cases v <;> first | rfl | (simp [Cell.okWide, Cell.ok, F.und] at h)
    | slice e => right; refine ⟨by rw [hag]; rfl, ?_⟩; cases v <;> first | rfl | (simp [Cell.okWide, Cell.ok, F.und] at h)
    | _ =>
      have hd : ∀ x, dOf _ = some x → x = ti.desc := fun x hx => by rw [had] at hx; cases hx; rfl
      simp only [dOf] at had
      first
        | (cases had; done)
        | (simp only [Option.some.injEq] at had; rw [← had] at hs; simp at hs)

/-- The arguments of a row: what they are to the machine; and that they read the same wherever nothing old has turned. -/
theorem open_args (hE : EOk P E) (hl : laidOutB P = true) : ∀ (ts : List TypeId) (vs : List Value) (ds : List (DataW H)) (ps : List MemPlace), ts.all (fun t => Sup E 6 t && P.readableRec t && decide (t < P.types.size)) = true → DataW.TrodAll enc P w 0 (fun _ => true) true ts vs ds ps →
    (∀ (j : Nat) (t : TypeId) (v : Value), ts[j]? = some t → vs[j]? = some v → ∃ r b, Value.okWide P w r b t v) →
    ∃ avs, FitArgs E ts avs ∧ RepL (C0 w) vs avs ∧ AV.pureL avs = true ∧ ∀ w', Below w.heap.size w w' → DataW.TrodAll enc P w' 0 (fun b => decide (b < w.heap.size)) true ts vs ds ps
  | [], vs, ds, ps, _, h, _ => by
    obtain ⟨rfl, rfl, rfl⟩ := ChangeShapes.trodAll_nil h
    exact ⟨[], rfl, trivial, rfl, fun w' _ => rfl⟩
  | t :: ts, vs, ds, ps, hs, h, hv => by
    obtain ⟨v, vs, d, ds, p, q, rfl, rfl, rfl, h0, h1⟩ := ChangeShapes.trodAll_cons h
    simp only [List.all_cons, Bool.and_eq_true, decide_eq_true_eq] at hs
    obtain ⟨⟨⟨hs0, hr⟩, hlt⟩, hs1⟩ := hs
    obtain ⟨avs, g1, g2, g3, g4⟩ := open_args hE hl ts vs ds q (by simpa using hs1) h1 fun j t v ht hv' => hv (j + 1) t v (by simpa using ht) (by simpa using hv')
    obtain ⟨fuel, h0'⟩ := h0
    obtain ⟨cs, k1, k2⟩ := open_cells hE 6 t hs0 fuel _ _ h0'
    obtain ⟨ti, hti⟩ : ∃ ti, E.T t = some ti := by
      cases hh : E.T t with
      | none => simp [Fit, hh] at k2
      | some ti => exact ⟨ti, rfl⟩
    have hcl : cs.length = ti.size := by simp only [Fit, hti] at k2; exact k2.1
    obtain ⟨r, b, hok⟩ := hv 0 t v rfl rfl
    have hrep : Rep (C0 w) v (elm ti cs) ∧ (elm ti cs).pure = true := by
      have hp := k1.pureL
      rcases okWide_form hE hti hs0 hok with ⟨ha, us, rfl⟩ | ⟨ha, h1c⟩
      · unfold elm
        rw [if_pos ha]
        refine ⟨.agg us cs ?_ fun j v x hv hx => ?_, by simpa [AV.pure] using hp⟩
        · have := k1.1; simpa [Value.cells] using this.symm
        · exact (k1.2 j v x (by simpa [Value.cells] using hv) hx).1
      · have h1 := sup_one hs0 hti ha
        have hc : v.cells.toList = [v] := by cases v <;> first | rfl | (simp [Value.oneCell'] at h1c)
        rw [hc] at k1
        obtain ⟨a, rfl⟩ : ∃ a, cs = [a] := List.length_eq_one_iff.1 (by rw [hcl, h1])
        unfold elm
        simp only [ha, Bool.false_eq_true, if_false, List.headD_cons]
        have := k1.2 0 v a rfl rfl
        exact ⟨this.1, this.2.2.2⟩
    refine ⟨elm ti cs :: avs, ⟨cs, _, avs, rfl, by rw [hti]; exact ⟨rfl, k2⟩, g1⟩, ⟨hrep.1, g2⟩, by simp only [AV.pureL, hrep.2, g3]; rfl, fun w' hb => ?_⟩
    refine ⟨p, q, ?_, g4 w' hb, rfl⟩
    refine Below.trod hl hr hlt ⟨fuel, h0'⟩ hb fun x hx => ?_
    exact DataW.trod_lt _ _ _ _ h0' x hx
theorem trodAll_len : ∀ {ts : List TypeId} {vs : List Value} {ds : List (DataW H)} {ps : List MemPlace}, DataW.TrodAll enc P w base sp held ts vs ds ps → ds.length = ts.length
  | [], vs, ds, ps, h => by obtain ⟨rfl, rfl, rfl⟩ := ChangeShapes.trodAll_nil h; rfl
  | t :: ts, vs, ds, ps, h => by
    obtain ⟨v, vs, d, ds, p, q, rfl, rfl, rfl, h0, h1⟩ := ChangeShapes.trodAll_cons h
    simp [trodAll_len h1]
end
end Vm

/- Walks of the laws of chapter 1: their helpers. (Own work of this repo.) -/
namespace Go.Proofs.Ytnpomadbaanpkaa
open Vm
set_option maxRecDepth 10000

/-- Numbers as they come: sign, words. -/
abbrev Raw := Bool × Bool × List Nat
abbrev ivr (q : Raw) : AV := iv q.1 q.2.1 q.2.2
def lightW (most : Nat) (q : Raw) : Bool := decide (q.2.2.length ≤ most) && rvalidW q.1 q.2.2
theorem get_ivr {L : List Raw} {i : Nat} (h : i < L.length) : (L.map ivr)[i]? = some (.agg [.bool (L.getD i default).1, .lst (L.getD i default).2.1 ((L.getD i default).2.2.map wd)]) := by
  simp [h]
theorem pure_ivr (L : List Raw) : AV.pureL (L.map ivr) = true := by
  induction L with
  | nil => rfl
  | cons q L ih => simp only [List.map_cons, AV.pureL, AV.pure, ih, pure_wd]; rfl
/-- Light numbers are numbers. -/
theorem light_norm {most : Nat} {q : Raw} (hr : InR q.2.2) (h : lightW most q = true) : q.2.2.length ≤ most ∧ q.2.2.length ≤ 4096 ∧ ∃ z : Int, ivr q = I q.2.1 z ∧ dg z = q.2.2 := by
  unfold lightW at h
  rw [Bool.and_eq_true, decide_eq_true_eq] at h
  obtain ⟨h1, z, h2, h3⟩ := rvalid_norm hr h.2
  exact ⟨h.1, h1, z, by rw [I, h2, h3], h3⟩
/-- What an argument of the numbers' type is. -/
theorem fit_raw {m : Nat} {cs : List AV} (h : Fit E (m + 3) 26 cs) : ∃ q : Raw, cs = [.bool q.1, .lst q.2.1 (q.2.2.map wd)] ∧ InR q.2.2 ∧ (q.2.1 = true → q.2.2 = []) ∧ q.2.2.length ≤ maxLen := by
  simp only [Fit, opn_eq, T1, T2, T3, T4, T5, T6, T9, T10, T11, T12, T15, T16, T17, T20, T21, T22, T23, T24, T25, T26, T27, T28, T29, T31, T32, T34, T35, T37, T38, T39, T40, T41, T42, T43, T44, T45, T46, T47, T48, T49, T50, T51, T52, T53, T54, T56, T57, T59, T60, T61, T62, T63, T64, T65, T66, T67, T69, T70, T71, T72, T73, T74, T75, T76, T77, T78, T80, T81, T82, T83, T84, T85, T86, T88, T89, T90, T91, T92, T93, T94, T95, T96, T98, T99, T100, T101, T102, T103, T104, T106, T107, T108, T109, T110, T111, T112, T113, T115, T116, T117, T118, T119, T120, T122, T123, T125, T126, T127, T128, T129, T131, T132, T133, T134, T135, T136, T137, T140, T143, T144, T145, T146, T147, T148, T149, FitD, FitS] at h
  obtain ⟨_, x, y, rfl, ⟨_, b, rfl⟩, x2, y2, rfl, ⟨_, h2⟩, rfl⟩ := h
  rcases h2 with rfl | ⟨xs, rfl, hl, hx⟩
  · exact ⟨(b, true, []), rfl, fun x hx => by (cases hx), fun _ => rfl, by simp⟩
  · have key : ∀ (xs : List AV), (∀ x ∈ xs, ∃ cs, x = elm ⟨1, 4, false, .int .u32 0, .int .u32⟩ cs ∧ cs.length = 1 ∧ cs.length = 1 ∧ ∃ i, cs = [.int .u32 i] ∧ (Lit.int .u32 i).wf = true) → ∃ l : List Nat, xs = l.map wd ∧ InR l := by
      intro xs
      induction xs with
      | nil => intro _; exact ⟨[], rfl, fun x hx => by (cases hx)⟩
      | cons x xs ih =>
        intro h
        obtain ⟨l, rfl, hl⟩ := ih fun y hy => h y (by simp [hy])
        obtain ⟨cs, rfl, _, _, i, rfl, hi⟩ := h x (by simp)
        have hi' : 0 ≤ i ∧ i < 4294967296 := by simp [Lit.wf, IntKind.max, IntKind.min, IntKind.bits, IntKind.signed] at hi; omega
        refine ⟨i.toNat :: l, ?_, fun y hy => ?_⟩
        · have : ((i.toNat : Nat) : Int) = i := by omega
          simp [elm, wd, this]
        · rcases List.mem_cons.1 hy with rfl | hy
          · show i.toNat < 4294967296; omega
          · exact hl y hy
    obtain ⟨l, rfl, hr⟩ := key xs hx
    exact ⟨(b, false, l), rfl, hr, fun h => by simp at h, by simpa using hl⟩
end Go.Proofs.Ytnpomadbaanpkaa

/- The machine over pure values: how one walks through functions that panic, and through those that defer a closure which recovers. (Own work of this repo.) -/
namespace Vm
open Go
section
variable {E : Env} {σ : St}
def panK (v : AV) : Ex → St → Prop
  | .panic x, _ => x = v
  | _, _ => False
theorem panK_panic {v x : AV} : panK v (.panic x) σ = (x = v) := rfl
theorem denP_pan {f : FuncId} {fn : Func} {c : Code} {args : List AV} {t : TypeId} {k : IntKind} {n : Int} (hf : E.fn f = some fn) (hb : fn.body = some c) (hp : AV.pureL args = true)
    (hw : W E c ⟨args ++ List.replicate (fn.ntmps - args.length) undef, Heap.empty, 0⟩ (panK (.iface t (.int k n)))) : denP E f args = some (.panic (.iface t (.int k n))) := by
  obtain ⟨e, σ', hd, hq⟩ := hw
  unfold denP bodyP
  rw [if_pos hp]
  simp only [body, hf, hb, hd]
  cases e with
  | panic v =>
    obtain rfl : v = _ := hq
    simp [purify, deep, AV.pure]
  | norm => exact hq.elim
  | ret => exact hq.elim
  | exit i => exact hq.elim
def panO (R : AV → Heap → Nat → Prop) : Ex → St → Prop
  | .panic x, σ => R x σ.h σ.nx
  | _, _ => False
theorem panO_panic {R : AV → Heap → Nat → Prop} {x : AV} : panO R (.panic x) σ = R x σ.h σ.nx := rfl
theorem denO_pan {f : FuncId} {fn : Func} {c : Code} {args : List AV} {h : Heap} {nx : Nat} {R : AV → Heap → Nat → Prop} (hf : E.fn f = some fn) (hb : fn.body = some c)
    (hw : W E c ⟨args ++ List.replicate (fn.ntmps - args.length) undef, h, nx⟩ (panO R)) : ∃ v h' nx', denO E f args h nx = some (.panic v, h', nx') ∧ R v h' nx' := by
  obtain ⟨e, σ', hd, hq⟩ := hw
  unfold denO
  simp only [body, hf, hb, hd]
  cases e with
  | panic v => exact ⟨v, _, _, rfl, hq⟩
  | norm => exact hq.elim
  | ret => exact hq.elim
  | exit i => exact hq.elim
/-- The way out of a function that defers. -/
def lvK (E : Env) (fn : Func) (g : FuncId) (x : List AV) (R : AV → Heap → Nat → Prop) (m : Option AV) (σ : St) : Prop :=
  ∃ h' n' vs, callD E g x m σ.h σ.nx = some (h', n') ∧ resOf E h' σ.sl fn.results.toList = some vs ∧ R (one vs) h' n'
def endD (E : Env) (fn : Func) (g : FuncId) (x : List AV) (R : AV → Heap → Nat → Prop) : Ex → St → Prop
  | .norm, σ => lvK E fn g x R none σ
  | .ret, σ => lvK E fn g x R none σ
  | _, _ => False
def defK (E : Env) (fn : Func) (g : FuncId) (x : List AV) (c2 : Code) (R : AV → Heap → Nat → Prop) : Ex → St → Prop
  | .norm, σ => W E c2 σ (endD E fn g x R)
  | .panic v, σ => lvK E fn g x R (some v) σ
  | _, _ => False
variable {fn : Func} {g : FuncId} {x : List AV} {c2 : Code} {R : AV → Heap → Nat → Prop}
theorem endD_norm : endD E fn g x R .norm σ = lvK E fn g x R none σ := rfl
theorem endD_ret : endD E fn g x R .ret σ = lvK E fn g x R none σ := rfl
theorem defK_norm : defK E fn g x c2 R .norm σ = W E c2 σ (endD E fn g x R) := rfl
theorem defK_panic {v : AV} : defK E fn g x c2 R (.panic v) σ = lvK E fn g x R (some v) σ := rfl
theorem denO_defer {f : FuncId} {c c1 : Code} {pre : List (Array Oper)} {ops : Array Oper} {k : Nat} {args : List AV} {h : Heap} {nx : Nat} {σ0 σ1 : St} (hf : E.fn f = none ∧ E.df f = some fn) (hb : fn.body = some c) (hs : splitD c = some (pre, ops, k, c1, c2))
    (hp : runPre E pre ⟨args ++ List.replicate (fn.ntmps - args.length) undef, h, nx⟩ = some σ0) (hl : runPl E ops.toList ops.toList.dropLast σ0 = some σ1) (hc : clOf σ1.sl[k]? = some (g, x))
    (hw : W E c1 σ1 (defK E fn g x c2 R)) : ∃ v h' n', denO E f args h nx = some (.ret v, h', n') ∧ R v h' n' := by
  have lv : ∀ (m : Option AV) (σ2 : St), restD (den E) c1 c2 σ1 = some (m, σ2) → lvK E fn g x R m σ2 → ∃ v h' n', denO E f args h nx = some (.ret v, h', n') ∧ R v h' n' := by
    rintro m σ2 hr ⟨h', n', vs, h1, h2, h3⟩
    refine ⟨one vs, h', n', ?_, h3⟩
    unfold denO body
    rw [hf.1]
    dsimp only
    rw [hf.2]
    simp only [bodyD, hb, hs, hp, hl, hc, hr, leaveD, h1, h2]
  obtain ⟨e, σ', hd, hq⟩ := hw
  cases e with
  | norm =>
    obtain ⟨e2, σ2, hd2, hq2⟩ := hq
    cases e2 with
    | norm => exact lv none σ2 (by simp only [restD, hd, hd2]) hq2
    | ret => exact lv none σ2 (by simp only [restD, hd, hd2]) hq2
    | exit i => exact hq2.elim
    | panic v => exact hq2.elim
  | panic v => exact lv (some v) σ' (by simp only [restD, hd]) hq
  | ret => exact hq.elim
  | exit i => exact hq.elim
end
attribute [go_sem] panK_panic panO_panic endD_norm endD_ret defK_norm defK_panic
end Vm

/- Walks: operations that throw an error. (Own work of this repo.) -/
namespace Go.Proofs.Ytnpomadbaanpkaa
open Vm
theorem openK_any {Q : Ex → St → Prop} {σ : St} {all os : List Go.Oper} {dst : Option Nat} {x : Option (Res × Heap × Nat)} {v : AV} {h : Heap} {n : Nat} (hx : x = some (.ret v, h, n)) (k : Rg E all os ⟨put σ.sl dst v, h, n⟩ Q) : openK E all os dst Q σ x := by
  subst hx; exact k
set_option maxRecDepth 10000

/-- An error that is thrown. -/
abbrev Thr (e : Int) : AV := .iface 78 (.int .i64 e)
theorem throw_pan (e : Int) : denP E 82 [.int .i64 e] = some (.panic (Thr e)) := by
  refine denP_pan E82 rfl rfl ?_
  simp (maxSteps := 4000000) only [go_sem, seval, ↓reduceIte, reduceCtorEq, ← List.map_take, ← List.map_drop, ne_eq, Nat.zero_le, Nat.le_refl, wrap64, wrapu64, wrapu32, ← Int.natCast_add, ← Int.natCast_mul, cast_succ, wrapu32_nat, shr32, reps_wd, map_set_wd, List.length_set, zs_len, Try.f82]
theorem exOk_ret (f : Bool) (z : Int) : denP E 79 [I f z, .int .i64 0] = some (.ret (I f z)) := by
  refine denP_eq E79 rfl (by simp [AV.pureL, AV.pure, pure_wd]) ?_
  simp (maxSteps := 4000000) only [go_sem, seval, ↓reduceIte, reduceCtorEq, ← List.map_take, ← List.map_drop, ne_eq, Nat.zero_le, Nat.le_refl, wrap64, wrapu64, wrapu32, ← Int.natCast_add, ← Int.natCast_mul, cast_succ, wrapu32_nat, shr32, reps_wd, map_set_wd, List.length_set, zs_len, Try.f79, Int.reduceEq, places, fillAll]
theorem exOk_pan (f : Bool) (z e : Int) (he : e ≠ 0) : denP E 79 [I f z, .int .i64 e] = some (.panic (Thr e)) := by
  refine denP_pan E79 rfl (by simp [AV.pureL, AV.pure, pure_wd]) ?_
  have z1 : (e = 0) = False := eq_false he
  have h1 := throw_pan e
  simp (maxSteps := 4000000) only [go_sem, seval, ↓reduceIte, reduceCtorEq, ← List.map_take, ← List.map_drop, ne_eq, Nat.zero_le, Nat.le_refl, wrap64, wrapu64, wrapu32, ← Int.natCast_add, ← Int.natCast_mul, cast_succ, wrapu32_nat, shr32, reps_wd, map_set_wd, List.length_set, zs_len, Try.f79, z1, h1, Int.reduceEq, places, fillAll]
theorem exAdd_ret (f g : Bool) (x y : Int) (hx : (dg x).length ≤ 4096) (hy : (dg y).length ≤ 4096) (h : (dg (x + y)).length ≤ 4096) : denP E 65 [I f x, I g y] = some (.ret (I false (x + y))) := by
  refine denP_eq E65 rfl (by simp [AV.pureL, AV.pure, pure_wd]) ?_
  have h1 := add_spec f x g y hx hy
  rw [RI, fit_of h, fm_of h, er_of h] at h1
  have h2 := exOk_ret false (x + y)
  generalize x + y = z at *
  simp (maxSteps := 4000000) only [go_sem, seval, ↓reduceIte, reduceCtorEq, ← List.map_take, ← List.map_drop, ne_eq, Nat.zero_le, Nat.le_refl, wrap64, wrapu64, wrapu32, ← Int.natCast_add, ← Int.natCast_mul, cast_succ, wrapu32_nat, shr32, reps_wd, map_set_wd, List.length_set, zs_len, Try.f65, h1, h2, places, fillAll]
theorem exAdd_pan (f g : Bool) (x y : Int) (hx : (dg x).length ≤ 4096) (hy : (dg y).length ≤ 4096) (h : ¬ (dg (x + y)).length ≤ 4096) : denP E 65 [I f x, I g y] = some (.panic (Thr 4)) := by
  refine denP_pan E65 rfl (by simp [AV.pureL, AV.pure, pure_wd]) ?_
  have h1 := add_spec f x g y hx hy
  rw [RI, er_no h] at h1
  have h2 := exOk_pan (fm false (x + y)) (fit (x + y)) 4 (by decide)
  generalize fit (x + y) = z at *
  generalize fm false (x + y) = fl at *
  simp (maxSteps := 4000000) only [go_sem, seval, ↓reduceIte, reduceCtorEq, ← List.map_take, ← List.map_drop, ne_eq, Nat.zero_le, Nat.le_refl, wrap64, wrapu64, wrapu32, ← Int.natCast_add, ← Int.natCast_mul, cast_succ, wrapu32_nat, shr32, reps_wd, map_set_wd, List.length_set, zs_len, Try.f65, h1, h2, places, fillAll]
theorem exMul_ret (f g : Bool) (x y : Int) (hx : (dg x).length ≤ 4096) (hy : (dg y).length ≤ 4096) (h : (dg (x * y)).length ≤ 4096) : denP E 59 [I f x, I g y] = some (.ret (I (mz x y) (x * y))) := by
  refine denP_eq E59 rfl (by simp [AV.pureL, AV.pure, pure_wd]) ?_
  have h1 := mul_spec f x g y hx hy
  rw [RI, fit_of h, fm_of h, er_of h] at h1
  have h2 := exOk_ret (mz x y) (x * y)
  generalize x * y = z at *
  simp (maxSteps := 4000000) only [go_sem, seval, ↓reduceIte, reduceCtorEq, ← List.map_take, ← List.map_drop, ne_eq, Nat.zero_le, Nat.le_refl, wrap64, wrapu64, wrapu32, ← Int.natCast_add, ← Int.natCast_mul, cast_succ, wrapu32_nat, shr32, reps_wd, map_set_wd, List.length_set, zs_len, Try.f59, h1, h2, places, fillAll]
theorem exMul_pan (f g : Bool) (x y : Int) (hx : (dg x).length ≤ 4096) (hy : (dg y).length ≤ 4096) (h : ¬ (dg (x * y)).length ≤ 4096) : denP E 59 [I f x, I g y] = some (.panic (Thr 4)) := by
  refine denP_pan E59 rfl (by simp [AV.pureL, AV.pure, pure_wd]) ?_
  have h1 := mul_spec f x g y hx hy
  rw [RI, er_no h] at h1
  have h2 := exOk_pan (fm (mz x y) (x * y)) (fit (x * y)) 4 (by decide)
  generalize fit (x * y) = z at *
  generalize fm (mz x y) (x * y) = fl at *
  simp (maxSteps := 4000000) only [go_sem, seval, ↓reduceIte, reduceCtorEq, ← List.map_take, ← List.map_drop, ne_eq, Nat.zero_le, Nat.le_refl, wrap64, wrapu64, wrapu32, ← Int.natCast_add, ← Int.natCast_mul, cast_succ, wrapu32_nat, shr32, reps_wd, map_set_wd, List.length_set, zs_len, Try.f59, h1, h2, places, fillAll]
theorem exCmp_ret (f g : Bool) (x y : Int) (hx : (dg x).length ≤ 4096) (hy : (dg y).length ≤ 4096) : denP E 74 [I f x, I g y] = some (.ret (.int .i64 (cmpI x y))) := by
  refine denP_eq E74 rfl (by simp [AV.pureL, AV.pure, pure_wd]) ?_
  have h1 := cmp_spec f x g y hx hy
  simp (maxSteps := 4000000) only [go_sem, seval, ↓reduceIte, reduceCtorEq, ← List.map_take, ← List.map_drop, ne_eq, Nat.zero_le, Nat.le_refl, wrap64, wrapu64, wrapu32, ← Int.natCast_add, ← Int.natCast_mul, cast_succ, wrapu32_nat, shr32, reps_wd, map_set_wd, List.length_set, zs_len, Try.f74, h1, Int.reduceEq, places, fillAll]
theorem callD_none (p n : Nat) (h : Heap) : callD E 56 [.ptr p 0] none h n = some (h, n) := rfl
theorem callD_some (p n : Nat) (e x : Int) (h : Heap) (hk : h p = some ⟨[.int .i64 x], false, 1, false⟩) : callD E 56 [.ptr p 0] (some (Thr e)) h n = some (h.upd p (some ⟨[.int .i64 e], false, 1, false⟩), n) := by
  simp (maxSteps := 4000000) only [go_sem, seval, ↓reduceIte, reduceCtorEq, ← List.map_take, ← List.map_drop, ne_eq, Nat.zero_le, Nat.le_refl, wrap64, wrapu64, wrapu32, ← Int.natCast_add, ← Int.natCast_mul, cast_succ, wrapu32_nat, shr32, reps_wd, map_set_wd, List.length_set, zs_len, callD, E56, Try.f56, splitR, isRec, runPl, runS, St.put, St.eff, hk, opn_eq, T1, T2, T3, T4, T5, T6, T9, T10, T11, T12, T15, T16, T17, T20, T21, T22, T23, T24, T25, T26, T27, T28, T29, T31, T32, T34, T35, T37, T38, T39, T40, T41, T42, T43, T44, T45, T46, T47, T48, T49, T50, T51, T52, T53, T54, T56, T57, T59, T60, T61, T62, T63, T64, T65, T66, T67, T69, T70, T71, T72, T73, T74, T75, T76, T77, T78, T80, T81, T82, T83, T84, T85, T86, T88, T89, T90, T91, T92, T93, T94, T95, T96, T98, T99, T100, T101, T102, T103, T104, T106, T107, T108, T109, T110, T111, T112, T113, T115, T116, T117, T118, T119, T120, T122, T123, T125, T126, T127, T128, T129, T131, T132, T133, T134, T135, T136, T137, T140, T143, T144, T145, T146, T147, T148, T149, nilEff, Option.getD_some]
/-- Try: what is done returns. -/
theorem try_ret (g : Nat) (a b : List AV) (hg : E.opn g = true) (v : AV) (h h' : Heap) (nx n' : Nat) (hd : denO E g (a ++ b) (h.upd nx (some ⟨[.int .i64 0], false, 1, false⟩)) (nx + 1) = some (.ret v, h', n')) (hk : h' nx = some ⟨[.int .i64 0], false, 1, false⟩) (hn : nx < n') :
    ∃ h2 n2, denO E 28 [.fn g a b] h nx = some (.ret (.int .i64 0), h2, n2) ∧ n' ≤ n2 ∧ ∀ i, i ≠ nx → i < n' → h2 i = h' i := by
  have key : ∃ v2 h2 n2, denO E 28 [.fn g a b] h nx = some (.ret v2, h2, n2) ∧ v2 = .int .i64 0 ∧ n' ≤ n2 ∧ ∀ i, i ≠ nx → i < n' → h2 i = h' i := by
    refine denO_defer (σ0 := ⟨[.fn g a b, Vm.undef, .ptr nx 0, Vm.undef, Vm.undef, Vm.undef], h.upd nx (some ⟨[.int .i64 0], false, 1, false⟩), nx + 1⟩) (σ1 := ⟨[.fn g a b, Vm.undef, .ptr nx 0, .fn 56 [] [.ptr nx 0], Vm.undef, Vm.undef], h.upd nx (some ⟨[.int .i64 0], false, 1, false⟩), nx + 1⟩) D28 rfl rfl ?_ ?_ rfl ?_
    · rfl
    · rfl
    · simp (maxSteps := 4000000) only [go_sem, seval, ↓reduceIte, reduceCtorEq, ← List.map_take, ← List.map_drop, ne_eq, Nat.zero_le, Nat.le_refl, wrap64, wrapu64, wrapu32, ← Int.natCast_add, ← Int.natCast_mul, cast_succ, wrapu32_nat, shr32, reps_wd, map_set_wd, List.length_set, zs_len, hg]
      refine openK_any hd ?_
      simp (maxSteps := 4000000) only [go_sem, seval, ↓reduceIte, reduceCtorEq, ← List.map_take, ← List.map_drop, ne_eq, Nat.zero_le, Nat.le_refl, wrap64, wrapu64, wrapu32, ← Int.natCast_add, ← Int.natCast_mul, cast_succ, wrapu32_nat, shr32, reps_wd, map_set_wd, List.length_set, zs_len, hk]
      refine ⟨_, _, [.int .i64 0], callD_none _ _ _, ?_, ?_⟩
      · simp (maxSteps := 4000000) only [go_sem, seval, ↓reduceIte, reduceCtorEq, ← List.map_take, ← List.map_drop, ne_eq, Nat.zero_le, Nat.le_refl, wrap64, wrapu64, wrapu32, ← Int.natCast_add, ← Int.natCast_mul, cast_succ, wrapu32_nat, shr32, reps_wd, map_set_wd, List.length_set, zs_len, Try.f28, resOf]
      · refine ⟨rfl, Nat.le_refl _, fun i h1 h2 => ?_⟩
        simp only [upd_apply, if_neg h1]
  obtain ⟨v2, h2, n2, e1, rfl, e2⟩ := key
  exact ⟨h2, n2, e1, e2⟩
/-- Try: an error is thrown. -/
theorem try_pan (g : Nat) (a b : List AV) (hg : E.opn g = true) (e : Int) (h h' : Heap) (nx n' : Nat) (hd : denO E g (a ++ b) (h.upd nx (some ⟨[.int .i64 0], false, 1, false⟩)) (nx + 1) = some (.panic (Thr e), h', n')) (hk : h' nx = some ⟨[.int .i64 0], false, 1, false⟩) (hn : nx < n') :
    ∃ h2 n2, denO E 28 [.fn g a b] h nx = some (.ret (.int .i64 e), h2, n2) ∧ n' ≤ n2 ∧ ∀ i, i ≠ nx → i < n' → h2 i = h' i := by
  have key : ∃ v2 h2 n2, denO E 28 [.fn g a b] h nx = some (.ret v2, h2, n2) ∧ v2 = .int .i64 e ∧ n' ≤ n2 ∧ ∀ i, i ≠ nx → i < n' → h2 i = h' i := by
    refine denO_defer (σ0 := ⟨[.fn g a b, Vm.undef, .ptr nx 0, Vm.undef, Vm.undef, Vm.undef], h.upd nx (some ⟨[.int .i64 0], false, 1, false⟩), nx + 1⟩) (σ1 := ⟨[.fn g a b, Vm.undef, .ptr nx 0, .fn 56 [] [.ptr nx 0], Vm.undef, Vm.undef], h.upd nx (some ⟨[.int .i64 0], false, 1, false⟩), nx + 1⟩) D28 rfl rfl ?_ ?_ rfl ?_
    · rfl
    · rfl
    · simp (maxSteps := 4000000) only [go_sem, seval, ↓reduceIte, reduceCtorEq, ← List.map_take, ← List.map_drop, ne_eq, Nat.zero_le, Nat.le_refl, wrap64, wrapu64, wrapu32, ← Int.natCast_add, ← Int.natCast_mul, cast_succ, wrapu32_nat, shr32, reps_wd, map_set_wd, List.length_set, zs_len, hg]
      rw [hd]
      simp only [openK_panic, thenK_panic, defK_panic]
      refine ⟨h'.upd nx (some ⟨[.int .i64 e], false, 1, false⟩), n', [.int .i64 e], ?_, ?_, ?_⟩
      · exact callD_some _ _ _ 0 _ hk
      · simp (maxSteps := 4000000) only [go_sem, seval, ↓reduceIte, reduceCtorEq, ← List.map_take, ← List.map_drop, ne_eq, Nat.zero_le, Nat.le_refl, wrap64, wrapu64, wrapu32, ← Int.natCast_add, ← Int.natCast_mul, cast_succ, wrapu32_nat, shr32, reps_wd, map_set_wd, List.length_set, zs_len, Try.f28, resOf]
      · refine ⟨rfl, Nat.le_refl _, fun i h1 h2 => ?_⟩
        simp only [upd_apply, if_neg h1]
  obtain ⟨v2, h2, n2, e1, rfl, e2⟩ := key
  exact ⟨h2, n2, e1, e2⟩
end Go.Proofs.Ytnpomadbaanpkaa

/- Plain facts: numbers of binary digits, shifts of rows of words. (Own work of this repo.) -/
namespace Vm

/-- How many binary digits. -/
def bl (n : Nat) : Nat := if h : n = 0 then 0 else bl (n / 2) + 1
termination_by n
decreasing_by omega
theorem bl_zero : bl 0 = 0 := by rw [bl]; simp
theorem bl_pos {n : Nat} (h : n ≠ 0) : bl n = bl (n / 2) + 1 := by rw [bl, dif_neg h]
theorem bl_lt (n : Nat) : n < 2 ^ bl n := by
  induction n using Nat.strongRecOn with
  | _ n ih =>
    by_cases h : n = 0
    · subst h; rw [bl_zero]; decide
    · have := ih (n / 2) (by omega)
      rw [bl_pos h, Nat.pow_succ]; omega
theorem bl_ge {n : Nat} (h : n ≠ 0) : 2 ^ (bl n - 1) ≤ n := by
  induction n using Nat.strongRecOn with
  | _ n ih =>
    rw [bl_pos h, Nat.add_sub_cancel]
    by_cases h2 : n / 2 = 0
    · rw [h2, bl_zero]; simp; omega
    · have := ih (n / 2) (by omega) h2
      have h3 : bl (n / 2) = bl (n / 2) - 1 + 1 := by rw [bl_pos h2]; omega
      rw [h3, Nat.pow_succ]; omega
theorem bl_le {n k : Nat} : bl n ≤ k ↔ n < 2 ^ k := by
  constructor
  · intro h
    exact Nat.lt_of_lt_of_le (bl_lt n) (Nat.pow_le_pow_right (by decide) h)
  · intro h
    by_cases h0 : n = 0
    · subst h0; rw [bl_zero]; omega
    · have h1 := bl_ge h0
      have h2 : 2 ^ (bl n - 1) < 2 ^ k := by omega
      have := (Nat.pow_lt_pow_iff_right (by decide : 1 < 2)).1 h2
      omega
theorem bl_eq {n k : Nat} (h1 : n < 2 ^ k) (h2 : k = 0 ∨ 2 ^ (k - 1) ≤ n) : bl n = k := by
  have h3 := bl_le.2 h1
  rcases h2 with rfl | h2
  · omega
  · rcases Nat.lt_or_ge (bl n) k with h | h
    · have h4 : n < 2 ^ (k - 1) := bl_le.1 (by omega)
      omega
    · omega
theorem bl_mono {a b : Nat} (h : a ≤ b) : bl a ≤ bl b := bl_le.2 (Nat.lt_of_le_of_lt h (bl_lt b))
theorem bl_nz {n : Nat} (h : n ≠ 0) : 0 < bl n := by rw [bl_pos h]; omega
/-- A number's binary digits, from its words. -/
theorem bl_val {l : List Nat} (hr : InR l) (h : l.getD (l.length - 1) 0 ≠ 0) : bl (val l) = 32 * (l.length - 1) + bl (l.getD (l.length - 1) 0) := by
  have hl : l.length ≠ 0 := fun e => by rw [List.length_eq_zero_iff] at e; subst e; simp at h
  obtain ⟨k, hk⟩ : ∃ k, l.length = k + 1 := ⟨l.length - 1, by omega⟩
  rw [hk, Nat.add_sub_cancel] at h ⊢
  have e : val l = vp l k + l.getD k 0 * BB ^ k := by rw [val, hk, vp]
  have h1 := vp_lt hr k
  have hp : BB ^ k = 2 ^ (32 * k) := by rw [Nat.pow_mul]
  generalize l.getD k 0 = t at *
  have h2 := bl_lt t
  have h3 := bl_ge h
  have h4 := bl_nz h
  refine bl_eq ?_ (.inr ?_)
  · rw [e, Nat.pow_add, ← hp]
    have : (t + 1) * BB ^ k ≤ 2 ^ bl t * BB ^ k := Nat.mul_le_mul_right _ h2
    rw [Nat.add_mul] at this
    rw [Nat.mul_comm (BB ^ k)]
    omega
  · rw [e, show 32 * k + bl t - 1 = 32 * k + (bl t - 1) by omega, Nat.pow_add, ← hp, Nat.mul_comm]
    have : 2 ^ (bl t - 1) * BB ^ k ≤ t * BB ^ k := Nat.mul_le_mul_right _ h3
    omega
/-- The table of the library. -/
def lenTab (x : Nat) : Nat := bl x
theorem bl_shift16 {x : Nat} (h : 65536 ≤ x) : bl x = 16 + bl (x / 65536) := by
  refine bl_eq ?_ (.inr ?_)
  · have := bl_lt (x / 65536)
    rw [Nat.pow_add]
    have h2 : (x / 65536 + 1) * 65536 ≤ 2 ^ bl (x / 65536) * 65536 := Nat.mul_le_mul_right _ this
    omega
  · have h0 : x / 65536 ≠ 0 := by omega
    have := bl_ge h0
    have h4 := bl_nz h0
    rw [show 16 + bl (x / 65536) - 1 = 16 + (bl (x / 65536) - 1) by omega, Nat.pow_add]
    have h2 : 2 ^ (bl (x / 65536) - 1) * 65536 ≤ x / 65536 * 65536 := Nat.mul_le_mul_right _ this
    omega
theorem bl_shift8 {x : Nat} (h : 256 ≤ x) : bl x = 8 + bl (x / 256) := by
  refine bl_eq ?_ (.inr ?_)
  · have := bl_lt (x / 256)
    rw [Nat.pow_add]
    have h2 : (x / 256 + 1) * 256 ≤ 2 ^ bl (x / 256) * 256 := Nat.mul_le_mul_right _ this
    omega
  · have h0 : x / 256 ≠ 0 := by omega
    have := bl_ge h0
    have h4 := bl_nz h0
    rw [show 8 + bl (x / 256) - 1 = 8 + (bl (x / 256) - 1) by omega, Nat.pow_add]
    have h2 : 2 ^ (bl (x / 256) - 1) * 256 ≤ x / 256 * 256 := Nat.mul_le_mul_right _ this
    omega

/-! #### shifts -/
theorem pow_split {k : Nat} (h : k < 32) : 2 ^ k * 2 ^ (32 - k) = 4294967296 := by
  rw [← Nat.pow_add, show k + (32 - k) = 32 by omega]
theorem pow_lt32 {k : Nat} (h : k < 32) : 2 ^ k ≤ 2147483648 := by
  have : 2 ^ k ≤ 2 ^ 31 := Nat.pow_le_pow_right (by decide) (by omega)
  exact this
/-- A word moved to the left: what is carried, and what stays has zeros. -/
theorem left_word {x k : Nat} (hk : k < 32) (hx : x < 4294967296) : x * 2 ^ k / 4294967296 < 2 ^ k ∧ x * 2 ^ k % 4294967296 = (x % 2 ^ (32 - k)) * 2 ^ k := by
  have hp := pow_split hk
  have h0 : 0 < 2 ^ k := Nat.pow_pos (by decide)
  constructor
  · rw [Nat.div_lt_iff_lt_mul (by decide), Nat.mul_comm]
    exact Nat.mul_lt_mul_of_pos_left hx h0
  · rw [← hp, Nat.mul_comm (2 ^ k), Nat.mul_mod_mul_right]
theorem left_step {o a : List Nat} {q i k h : Nat} (hk : k < 32) (ha : a.getD i 0 < 4294967296) (ho : q + i + 1 < o.length) (hh : o.getD (q + i) 0 = h) (hv : vp o (q + i + 1) = vp a i * (2 ^ k * BB ^ q)) :
    vp ((o.set (q + i) (h + a.getD i 0 * 2 ^ k % 4294967296)).set (q + i + 1) (a.getD i 0 * 2 ^ k / 4294967296)) (q + (i + 1) + 1) = vp a (i + 1) * (2 ^ k * BB ^ q) := by
  rw [show q + (i + 1) + 1 = q + i + 1 + 1 by omega, vp, lget_set_self (by rw [List.length_set]; omega), vp_set _ _ _ _ (Nat.le_refl _), vp, lget_set_self (by omega), vp_set _ _ _ _ (Nat.le_refl _)]
  rw [vp, hh] at hv
  rw [vp, Nat.add_mul, Nat.add_mul, ← hv, show BB ^ (q + i + 1) = BB ^ (q + i) * BB from Nat.pow_succ _ _]
  have h1 : a.getD i 0 * 2 ^ k % 4294967296 * BB ^ (q + i) + a.getD i 0 * 2 ^ k / 4294967296 * (BB ^ (q + i) * BB) = a.getD i 0 * 2 ^ k * BB ^ (q + i) := split_mul (a.getD i 0 * 2 ^ k) (BB ^ (q + i))
  have h2 : a.getD i 0 * BB ^ i * (2 ^ k * BB ^ q) = a.getD i 0 * 2 ^ k * BB ^ (q + i) := by
    rw [Nat.pow_add]; generalize a.getD i 0 = x; generalize BB ^ i = y; generalize BB ^ q = z; generalize 2 ^ k = w; grind
  rw [h2]
  omega
/-- A row's words moved to the right, each with the low part of the next one. -/
theorem right_word {x y k : Nat} (hk : k < 32) (hx : x < 4294967296) : (x + y * 4294967296) / 2 ^ k % 4294967296 = x / 2 ^ k + (y % 2 ^ k) * 2 ^ (32 - k) := by
  have hp := pow_split hk
  have h0 : 0 < 2 ^ k := Nat.pow_pos (by decide)
  have h0' : 0 < 2 ^ (32 - k) := Nat.pow_pos (by decide)
  have h1 : (x + y * 4294967296) / 2 ^ k = x / 2 ^ k + y * 2 ^ (32 - k) := by
    rw [← hp, show y * (2 ^ k * 2 ^ (32 - k)) = 2 ^ k * (y * 2 ^ (32 - k)) by grind, Nat.add_mul_div_left _ _ h0]
  have hlt : x / 2 ^ k < 2 ^ (32 - k) := by rw [Nat.div_lt_iff_lt_mul h0, Nat.mul_comm, hp]; exact hx
  rw [h1]
  have h2 : y * 2 ^ (32 - k) = (y % 2 ^ k) * 2 ^ (32 - k) + 4294967296 * (y / 2 ^ k) := by
    have := Nat.mod_add_div y (2 ^ k)
    generalize y / 2 ^ k = d at *
    rw [← hp]
    generalize hm : y % 2 ^ k = m at *
    rw [← this]; grind
  rw [h2, ← Nat.add_assoc, Nat.add_mul_mod_self_left, Nat.mod_eq_of_lt]
  have h3 : y % 2 ^ k < 2 ^ k := Nat.mod_lt _ h0
  have h4 : (y % 2 ^ k + 1) * 2 ^ (32 - k) ≤ 2 ^ k * 2 ^ (32 - k) := Nat.mul_le_mul_right _ h3
  rw [Nat.add_mul, hp] at h4
  omega
theorem right_inv {o b : List Nat} {k : Nat} (hk : k < 32) (hb : InR b) (h : ∀ i, i < b.length → o.getD i 0 = (b.getD i 0 + b.getD (i + 1) 0 * 4294967296) / 2 ^ k % 4294967296) : ∀ i, i ≤ b.length →
    vp b (i + 1) = 2 ^ k * (vp o i + b.getD i 0 / 2 ^ k * BB ^ i) + b.getD 0 0 % 2 ^ k := by
  have hp := pow_split hk
  intro i
  induction i with
  | zero =>
    intro _
    have := Nat.div_add_mod (b.getD 0 0) (2 ^ k)
    simp only [vp, Nat.pow_zero, Nat.mul_one, Nat.zero_add]
    omega
  | succ i ih =>
    intro hi
    have h1 := ih (by omega)
    have h2 := h i (by omega)
    rw [right_word hk (hb.get i)] at h2
    rw [vp, h1, vp, h2]
    have h3 := Nat.div_add_mod (b.getD (i + 1) 0) (2 ^ k)
    generalize b.getD (i + 1) 0 = y at *
    generalize y / 2 ^ k = d at *
    generalize y % 2 ^ k = m at *
    generalize b.getD i 0 / 2 ^ k = e at *
    generalize b.getD 0 0 % 2 ^ k = r at *
    rw [← h3, Nat.pow_succ, show BB = 2 ^ k * 2 ^ (32 - k) from hp.symm]
    generalize (2 ^ k * 2 ^ (32 - k)) ^ i = z
    grind
theorem right_val {o b : List Nat} {k : Nat} (hk : k < 32) (hb : InR b) (hl : o.length = b.length) (h : ∀ i, i < b.length → o.getD i 0 = (b.getD i 0 + b.getD (i + 1) 0 * 4294967296) / 2 ^ k % 4294967296) :
    val b = 2 ^ k * val o + b.getD 0 0 % 2 ^ k := by
  have := right_inv hk hb h b.length (Nat.le_refl _)
  rw [vp_ge b _ (by omega), getD_ge (Nat.le_refl _), Nat.zero_div, Nat.zero_mul, Nat.add_zero] at this
  rw [this, val, hl]
/-- A row, cut in two. -/
theorem vp_split (a : List Nat) (q : Nat) : ∀ n, vp a (q + n) = vp a q + BB ^ q * vp (a.drop q) n := by
  intro n
  induction n with
  | zero => simp [vp]
  | succ n ih =>
    rw [← Nat.add_assoc, vp, ih, vp, getD_drop, Nat.pow_add]
    generalize BB ^ q = x; generalize BB ^ n = y; generalize a.getD (q + n) 0 = z; grind
theorem val_split {a : List Nat} {q : Nat} (h : q ≤ a.length) : val a = vp a q + BB ^ q * val (a.drop q) := by
  have := vp_split a q (a.length - q)
  rw [show q + (a.length - q) = a.length by omega] at this
  rw [val, val, List.length_drop, this]
theorem vp_take {a : List Nat} {q : Nat} (h : q ≤ a.length) : val (a.take q) = vp a q := by
  rw [val, List.length_take, Nat.min_eq_left h]
  exact vp_congr _ fun i hi => getD_take hi
theorem vp_nz {a : List Nat} : ∀ n, vp a n = 0 ↔ ∀ i, i < n → a.getD i 0 = 0
  | 0 => by simp [vp]
  | n + 1 => by
    have h0 : 0 < BB ^ n := Nat.pow_pos (by decide)
    rw [vp, Nat.add_eq_zero_iff, vp_nz n, Nat.mul_eq_zero]
    constructor
    · rintro ⟨h1, h2⟩ i hi
      by_cases e : i = n
      · subst e; rcases h2 with h2 | h2
        · exact h2
        · omega
      · exact h1 i (by omega)
    · intro h
      exact ⟨fun i hi => h i (by omega), .inl (h n (by omega))⟩
end Vm

/- Walks: rows of words moved to the left. (Own work of this repo.) -/
namespace Go.Proofs.Ytnpomadbaanpkaa
open Vm
set_option maxRecDepth 10000

theorem pow32 (n : Nat) : 2 ^ n = 2 ^ (n % 32) * BB ^ (n / 32) := by
  rw [show BB = 2 ^ 32 from rfl, ← Nat.pow_mul, ← Nat.pow_add, Nat.mod_add_div]
theorem shl_nat {x k : Nat} (hk : k < 32) (hx : x < 4294967296) : IntKind.u64.wrap ((x : Int) * 2 ^ min k (kb .u64)) = ((x * 2 ^ k : Nat) : Int) := by
  have h1 := pow_lt32 hk
  have h2 : x * 2 ^ k ≤ 4294967296 * 2147483648 := Nat.mul_le_mul (Nat.le_of_lt hx) h1
  rw [show min k (kb .u64) = k from Nat.min_eq_left (by show k ≤ 64; omega)]
  have e : (x : Int) * 2 ^ k = ((x * 2 ^ k : Nat) : Int) := by push_cast; rfl
  rw [e]
  exact wrapu64 (by omega) (by omega)
theorem left_or {h x k : Nat} (hk : k < 32) (hx : x < 4294967296) (hh : h < 2 ^ k) : IntKind.u32.wrap ((BitVec.ofInt (kb .u32) (h : Int) ||| BitVec.ofInt (kb .u32) ((x * 2 ^ k % 4294967296 : Nat) : Int)).toNat : Int) = ((h + x * 2 ^ k % 4294967296 : Nat) : Int) := by
  have h1 := pow_lt32 hk
  rw [or32b (by omega) (Nat.mod_lt _ (by decide)), (left_word hk hx).2, or_add hh]
theorem left_sum {h x k : Nat} (hk : k < 32) (hx : x < 4294967296) (hh : h < 2 ^ k) : h + x * 2 ^ k % 4294967296 < 4294967296 := by
  rw [(left_word hk hx).2]
  have hp := pow_split hk
  have h3 : x % 2 ^ (32 - k) < 2 ^ (32 - k) := Nat.mod_lt _ (Nat.pow_pos (by decide))
  have h4 : (x % 2 ^ (32 - k) + 1) * 2 ^ k ≤ 2 ^ (32 - k) * 2 ^ k := Nat.mul_le_mul_right _ h3
  rw [Nat.add_mul, Nat.mul_comm (2 ^ (32 - k)), hp] at h4
  omega
theorem left_spec (m : Bool) (a : List Nat) (n : Nat) (ha : InR a) (la : a.length < 2 ^ 38) (hn : n < 2 ^ 38) : denP E 104 [.lst m (a.map wd), .int .i64 n] = some (.ret (.lst (decide (a.length = 0)) ((dig (val a * 2 ^ n)).map wd))) := by
  refine denP_eq E104 rfl (by simp [AV.pureL, AV.pure, pure_wd]) ?_
  by_cases h0 : a.length = 0
  · obtain rfl := List.length_eq_zero_iff.1 h0
    rw [val_nil, Nat.zero_mul, dig_zero]
    simp (maxSteps := 4000000) (disch := omega) only [go_sem, seval, ↓reduceIte, reduceCtorEq, ← List.map_take, ← List.map_drop, wrap64, wrapu64, wrapu32, ← Int.natCast_add, ← Int.natCast_mul, cast_succ, wrapu32_nat, shr32, reps_wd, map_set_wd, List.length_set, zs_len, Try.f104]
  · have e1 : (n : Int).tdiv 32 = ((n / 32 : Nat) : Int) := rfl
    have e2 : (n : Int).tmod 32 = ((n % 32 : Nat) : Int) := rfl
    have hpow := pow32 n
    generalize hq : n / 32 = q at *
    generalize hk : n % 32 = k at *
    have hk' : k < 32 := by omega
    have hq' : q < 2 ^ 38 := by omega
    rw [decide_eq_false h0]
    simp (maxSteps := 4000000) (disch := omega) only [go_sem, seval, ↓reduceIte, reduceCtorEq, ← List.map_take, ← List.map_drop, wrap64, wrapu64, wrapu32, ← Int.natCast_add, ← Int.natCast_mul, cast_succ, wrapu32_nat, shr32, reps_wd, map_set_wd, List.length_set, zs_len, Try.f104, e1, e2]
    refine W_loopS (fun j sl H nx => ∃ (i : Nat) (o : List Nat), (∃ g : Nat → AV, sl = [g 0, .int .i64 n, g 2, g 3, g 4, .ref 0 0 (q + a.length + 1), .int .u64 k, g 7, g 8, g 9, g 10, g 11, g 12, g 13, g 14, g 15, g 16, g 17, g 18, g 19, g 20, g 21, g 22, .lst m (a.map wd), .int .i64 a.length, .int .i64 i, g 26, g 27, g 28, g 29, g 30, g 31, g 32, g 33, g 34, g 35, g 36, g 37, g 38, g 39, g 40, g 41, g 42, g 43, g 44, g 45, g 46, g 47, g 48, g 49, g 50, g 51, g 52, g 53, g 54, g 55, g 56, g 57]) ∧ nx = 1 ∧
      H 0 = some ⟨o.map wd, false, 1, false⟩ ∧ o.length = q + a.length + 1 ∧ InR o ∧ i + j = a.length ∧ Hd (vp o (q + i + 1) = vp a i * (2 ^ k * BB ^ q)) ∧ Hd (o.getD (q + i) 0 < 2 ^ k) ∧ ∀ t, q + i < t → o.getD t 0 = 0) a.length
      ⟨0, _, garb rfl, rfl, rfl, zs_len _, zs_inR _, by omega, ⟨by rw [zs_vp]; simp [vp]⟩, ⟨by rw [zs_get]; exact Nat.pow_pos (by decide)⟩, fun t _ => zs_get _ t⟩ ?_
    rintro j _ H _ ⟨i, o, ⟨g, rfl⟩, rfl, hH, ho, hr, hi, hv, hh, hz⟩
    by_cases hj : j = 0
    · obtain rfl : i = a.length := by omega
      have hval : val o = val a * 2 ^ n := by rw [val, ho, hv.out, hpow]; rfl
      have ht := trim_spec false o hr (by omega)
      rw [hval] at ht
      clear hv hh hpow
      simp (maxSteps := 4000000) (disch := omega) only [go_sem, seval, ↓reduceIte, reduceCtorEq, ← List.map_take, ← List.map_drop, wrap64, wrapu64, wrapu32, ← Int.natCast_add, ← Int.natCast_mul, cast_succ, wrapu32_nat, shr32, reps_wd, map_set_wd, List.length_set, zs_len, hH, ho, List.take_of_length_le, ht]
    · have hx := ha.get i
      have e3 := left_or hk' hx hh.out
      have e4 := left_sum hk' hx hh.out
      have e5 := (left_word hk' hx).1
      have e6 := pow_lt32 hk'
      have e7 := shl_nat hk' hx
      have st := left_step (o := o) hk' hx (by omega) rfl hv.out
      have e8 : a.getD i 0 * 2 ^ k / 4294967296 % 4294967296 = a.getD i 0 * 2 ^ k / 4294967296 := Nat.mod_eq_of_lt (by omega)
      clear hv hh hpow
      simp (maxSteps := 4000000) (disch := omega) only [go_sem, seval, ↓reduceIte, reduceCtorEq, ← List.map_take, ← List.map_drop, wrap64, wrapu64, wrapu32, ← Int.natCast_add, ← Int.natCast_mul, cast_succ, wrapu32_nat, shr32, reps_wd, map_set_wd, List.length_set, zs_len, hH, ho, e1, e3, e7, e8]
      refine ⟨j - 1, by omega, i + 1, (o.set (q + i) (o.getD (q + i) 0 + a.getD i 0 * 2 ^ k % 4294967296)).set (q + i + 1) (a.getD i 0 * 2 ^ k / 4294967296), garb rfl, rfl, by rw [List.length_set, List.length_set, ho], (hr.set e4).set (Nat.lt_of_lt_of_le e5 (by show _ ≤ 4294967296; omega)), by omega, ⟨st⟩, ⟨?_⟩, fun t ht => ?_⟩
      · rw [show q + (i + 1) = q + i + 1 by omega, lget_set_self (by rw [List.length_set]; omega)]; exact e5
      · rw [lget_set_ne (by omega), lget_set_ne (by omega)]; exact hz t (by omega)
end Go.Proofs.Ytnpomadbaanpkaa

/- Walks: rows of words moved to the right. (Own work of this repo.) -/
namespace Go.Proofs.Ytnpomadbaanpkaa
open Vm
set_option maxRecDepth 10000

theorem right1_spec (x : Nat) : denP E 110 [.int .u32 x] = some (.ret (.bool (!decide (x = 0)))) := by
  refine denP_eq E110 rfl (by simp [AV.pureL, AV.pure]) ?_
  by_cases h : x = 0
  · subst h; simp (maxSteps := 4000000) (disch := omega) only [go_sem, seval, ↓reduceIte, reduceCtorEq, ← List.map_take, ← List.map_drop, wrap64, wrapu64, wrapu32, Try.f110]
  · simp (maxSteps := 4000000) (disch := omega) only [go_sem, seval, ↓reduceIte, reduceCtorEq, ← List.map_take, ← List.map_drop, wrap64, wrapu64, wrapu32, Try.f110]
theorem idx0_walk (m : Bool) (a : List Nat) (la : a.length < 2 ^ 60) : ∃ r : Int, denP E 111 [.lst m (a.map wd), .fn 110 [] []] = some (.ret (.int .i64 r)) ∧ (0 ≤ r ↔ vp a a.length ≠ 0) := by
  refine denP_ex E111 rfl (by simp [AV.pureL, AV.pure, pure_wd]) ?_
  simp (maxSteps := 4000000) (disch := omega) only [go_sem, seval, ↓reduceIte, reduceCtorEq, ← List.map_take, ← List.map_drop, wrap64, wrapu64, wrapu32, ← Int.natCast_add, ← Int.natCast_mul, cast_succ, wrapu32_nat, shr32, reps_wd, map_set_wd, List.length_set, zs_len, Try.f111]
  refine W_loopS (fun j sl H nx => ∃ i : Nat, (∃ g : Nat → AV, sl = [.lst m (a.map wd), .fn 110 [] [], g 2, g 3, g 4, g 5, g 6, .int .i64 a.length, .int .i64 i, g 9, g 10, g 11, g 12, g 13, g 14, g 15, g 16, g 17, g 18]) ∧ i + j = a.length ∧ ∀ t, t < i → a.getD t 0 = 0) a.length ⟨0, garb rfl, by omega, by omega⟩ ?_
  rintro j _ H nx ⟨i, ⟨g, rfl⟩, hi, hz⟩
  by_cases hj : j = 0
  · have h0 : vp a a.length = 0 := (vp_nz _).2 fun t ht => hz t (by omega)
    simp (maxSteps := 4000000) (disch := omega) only [go_sem, seval, ↓reduceIte, reduceCtorEq, ← List.map_take, ← List.map_drop, wrap64, wrapu64, wrapu32, ← Int.natCast_add, ← Int.natCast_mul, cast_succ, wrapu32_nat, shr32, reps_wd, map_set_wd, List.length_set, zs_len]
    exact ⟨-1, rfl, by omega, fun h => absurd h0 h⟩
  · by_cases h : a.getD i 0 = 0
    · have h1 := right1_spec (a.getD i 0)
      rw [decide_eq_true h, Bool.not_true] at h1
      simp (maxSteps := 4000000) (disch := omega) only [go_sem, seval, ↓reduceIte, reduceCtorEq, ← List.map_take, ← List.map_drop, wrap64, wrapu64, wrapu32, ← Int.natCast_add, ← Int.natCast_mul, cast_succ, wrapu32_nat, shr32, reps_wd, map_set_wd, List.length_set, zs_len, h1]
      refine ⟨j - 1, by omega, i + 1, garb rfl, by omega, fun t ht => ?_⟩
      by_cases hti : t = i
      · subst hti; exact h
      · exact hz t (by omega)
    · have h1 := right1_spec (a.getD i 0)
      rw [decide_eq_false h, Bool.not_false] at h1
      simp (maxSteps := 4000000) (disch := omega) only [go_sem, seval, ↓reduceIte, reduceCtorEq, ← List.map_take, ← List.map_drop, wrap64, wrapu64, wrapu32, ← Int.natCast_add, ← Int.natCast_mul, cast_succ, wrapu32_nat, shr32, reps_wd, map_set_wd, List.length_set, zs_len, h1]
      exact ⟨i, rfl, fun _ e => h ((vp_nz _).1 e i (by omega)), fun _ => by omega⟩
theorem contains_spec (m : Bool) (a : List Nat) (la : a.length < 2 ^ 60) : denP E 109 [.lst m (a.map wd), .fn 110 [] []] = some (.ret (.bool (!decide (vp a a.length = 0)))) := by
  obtain ⟨r, h1, h2⟩ := idx0_walk m a la
  refine denP_eq E109 rfl (by simp [AV.pureL, AV.pure, pure_wd]) ?_
  by_cases h : vp a a.length = 0
  · have : ¬ 0 ≤ r := fun h' => h2.1 h' h
    rw [decide_eq_true h]
    simp (maxSteps := 4000000) (disch := omega) only [go_sem, seval, ↓reduceIte, reduceCtorEq, ← List.map_take, ← List.map_drop, wrap64, wrapu64, wrapu32, ← Int.natCast_add, ← Int.natCast_mul, cast_succ, wrapu32_nat, shr32, reps_wd, map_set_wd, List.length_set, zs_len, Try.f109, h1]
  · have : 0 ≤ r := h2.2 h
    rw [decide_eq_false h]
    simp (maxSteps := 4000000) (disch := omega) only [go_sem, seval, ↓reduceIte, reduceCtorEq, ← List.map_take, ← List.map_drop, wrap64, wrapu64, wrapu32, ← Int.natCast_add, ← Int.natCast_mul, cast_succ, wrapu32_nat, shr32, reps_wd, map_set_wd, List.length_set, zs_len, Try.f109, h1]
theorem getD_range (f : Nat → Nat) {n i : Nat} (h : i < n) : ((List.range n).map f).getD i 0 = f i := by
  rw [List.getD_eq_getElem?_getD, List.getElem?_map, List.getElem?_range h]; rfl
/-- What the bits below a place are. -/
theorem mask_low {x k : Nat} (hk : k < 32) (hx : x < 4294967296) : IntKind.u32.wrap ((BitVec.ofInt (kb .u32) (x : Int) &&& BitVec.ofInt (kb .u32) (IntKind.u32.wrap (IntKind.u32.wrap (1 * 2 ^ min k (kb .u32)) - 1))).toNat : Int) = ((x % 2 ^ k : Nat) : Int) := by
  have h1 := pow_lt32 hk
  have h0 : 0 < 2 ^ k := Nat.pow_pos (by decide)
  rw [show min k (kb .u32) = k from Nat.min_eq_left (by show k ≤ 32; omega)]
  have e : (1 : Int) * 2 ^ k = ((2 ^ k : Nat) : Int) := by push_cast; rw [Int.one_mul]
  rw [e, wrapu32 (x := ((2 ^ k : Nat) : Int)) (by omega) (by omega)]
  have e2 : ((2 ^ k : Nat) : Int) - 1 = ((2 ^ k - 1 : Nat) : Int) := by omega
  rw [e2, wrapu32 (x := ((2 ^ k - 1 : Nat) : Int)) (by omega) (by omega), and32b hx (by omega), Nat.and_two_pow_sub_one_eq_mod]
theorem shl32 {y : Nat} (h : y < 4294967296) : IntKind.u64.wrap ((y : Int) * 2 ^ min 32 (kb .u64)) = ((y * 4294967296 : Nat) : Int) := by
  rw [show min 32 (kb .u64) = 32 from rfl, show (y : Int) * 2 ^ 32 = ((y * 4294967296 : Nat) : Int) by rw [Int.natCast_mul]; rfl]
  exact wrapu64 (by omega) (by omega)
theorem or_high {x y : Nat} (hx : x < 4294967296) (hy : y < 4294967296) : IntKind.u64.wrap ((BitVec.ofInt (kb .u64) (x : Int) ||| BitVec.ofInt (kb .u64) ((y * 4294967296 : Nat) : Int)).toNat : Int) = ((x + y * 4294967296 : Nat) : Int) := by
  rw [or64 (by omega) (by omega), show (4294967296 : Nat) = 2 ^ 32 from rfl, or_add hx]
theorem shr_k {x k : Nat} (hk : k < 32) : (x : Int).fdiv (2 ^ min k (kb .u64)) = ((x / 2 ^ k : Nat) : Int) := by
  rw [shr_nat, show min k (kb .u64) = k from Nat.min_eq_left (by show k ≤ 64; omega)]
theorem val_nz {a : List Nat} (h : Norm a) (h0 : a.length ≠ 0) : val a ≠ 0 := by
  have := norm_pos h (fun e => h0 (by rw [e]; rfl)); omega
theorem right_spec (m : Bool) (a : List Nat) (n : Nat) (hn : Norm a) (la : a.length < 2 ^ 38) (ln : n < 2 ^ 38) : denP E 106 [.lst m (a.map wd), .int .i64 n] = some (.ret (.tup [.lst (decide (a.length ≤ n / 32)) ((dig (val a / 2 ^ n)).map wd), .bool (!decide (val a % 2 ^ n = 0))])) := by
  have ha := hn.1
  refine denP_eq E106 rfl (by simp [AV.pureL, AV.pure, pure_wd]) ?_
  have e1 : (n : Int).tdiv 32 = ((n / 32 : Nat) : Int) := rfl
  have e2 : (n : Int).tmod 32 = ((n % 32 : Nat) : Int) := rfl
  have hpow := pow32 n
  generalize hq : n / 32 = q at *
  generalize hk : n % 32 = k at *
  have hk' : k < 32 := by omega
  have hq' : q < 2 ^ 38 := by omega
  by_cases hql : a.length ≤ q
  · have hlt : val a < 2 ^ n := by
      have h1 := val_lt ha
      have h2 : BB ^ a.length ≤ BB ^ q := Nat.pow_le_pow_right (by decide) hql
      have h3 : 1 * BB ^ q ≤ 2 ^ k * BB ^ q := Nat.mul_le_mul_right _ (Nat.pow_pos (by decide))
      rw [hpow]; omega
    rw [decide_eq_true hql, Nat.div_eq_of_lt hlt, Nat.mod_eq_of_lt hlt, dig_zero]
    by_cases h0 : a.length = 0
    · have : val a = 0 := by rw [List.length_eq_zero_iff.1 h0]; rfl
      rw [decide_eq_true this]
      simp (maxSteps := 4000000) (disch := omega) only [go_sem, seval, ↓reduceIte, reduceCtorEq, ← List.map_take, ← List.map_drop, wrap64, wrapu64, wrapu32, ← Int.natCast_add, ← Int.natCast_mul, cast_succ, wrapu32_nat, shr32, reps_wd, map_set_wd, List.length_set, zs_len, Try.f106, e1, e2]
    · rw [decide_eq_false (val_nz hn h0)]
      simp (maxSteps := 4000000) (disch := omega) only [go_sem, seval, ↓reduceIte, reduceCtorEq, ← List.map_take, ← List.map_drop, wrap64, wrapu64, wrapu32, ← Int.natCast_add, ← Int.natCast_mul, cast_succ, wrapu32_nat, shr32, reps_wd, map_set_wd, List.length_set, zs_len, Try.f106, e1, e2]
  · rw [decide_eq_false hql]
    obtain ⟨b, hb⟩ : ∃ b, b = a.drop q := ⟨_, rfl⟩
    have hbl : b.length = a.length - q := by rw [hb, List.length_drop]
    have hbr : InR b := by rw [hb]; exact ha.drop q
    have hsplit := val_split (a := a) (q := q) (by omega)
    rw [← hb] at hsplit
    have htl : (a.take q).length = q := by rw [List.length_take]; omega
    have hc := contains_spec m (a.take q) (by omega)
    rw [htl, vp_congr q (fun i hi => getD_take hi)] at hc
    have b0 := hbr.get 0
    have em := mask_low hk' b0
    have hb0 : b[0]? = some (b.getD 0 0) := by
      rw [List.getD_eq_getElem?_getD, List.getElem?_eq_getElem (by omega)]; rfl
    have hp0 : 0 < BB ^ q := Nat.pow_pos (by decide)
    have hp1 : 0 < 2 ^ k := Nat.pow_pos (by decide)
    have hvq := vp_lt ha q
    -- what is handed back
    have fin : ∀ o : List Nat, o.length = b.length → (∀ i, i < b.length → o.getD i 0 = (b.getD i 0 + b.getD (i + 1) 0 * 4294967296) / 2 ^ k % 4294967296) →
        val o = val a / 2 ^ n ∧ (val a % 2 ^ n = 0 ↔ vp a q = 0 ∧ b.getD 0 0 % 2 ^ k = 0) := by
      intro o ho hf
      have h1 := right_val hk' hbr ho hf
      have h2 : b.getD 0 0 % 2 ^ k < 2 ^ k := Nat.mod_lt _ hp1
      generalize b.getD 0 0 % 2 ^ k = r at *
      have h3 : val a = (vp a q + BB ^ q * r) + 2 ^ n * val o := by
        rw [hsplit, h1, hpow]; generalize BB ^ q = z; generalize 2 ^ k = w; generalize val o = v; grind
      have h4 : vp a q + BB ^ q * r < 2 ^ n := by
        have : BB ^ q * (r + 1) ≤ BB ^ q * 2 ^ k := Nat.mul_le_mul_left _ h2
        rw [hpow, Nat.mul_comm (2 ^ k)]
        rw [Nat.mul_add] at this; omega
      constructor
      · rw [h3, Nat.add_mul_div_left _ _ (Nat.pow_pos (by decide)), Nat.div_eq_of_lt h4, Nat.zero_add]
      · rw [h3, Nat.add_mul_mod_self_left, Nat.mod_eq_of_lt h4, Nat.add_eq_zero_iff, Nat.mul_eq_zero]
        constructor
        · rintro ⟨x, y⟩; exact ⟨x, y.resolve_left (by omega)⟩
        · rintro ⟨x, y⟩; exact ⟨x, .inr y⟩
    have hlost : val a % 2 ^ n = 0 ↔ vp a q = 0 ∧ b.getD 0 0 % 2 ^ k = 0 := by
      refine (fin ((List.range b.length).map fun i => (b.getD i 0 + b.getD (i + 1) 0 * 4294967296) / 2 ^ k % 4294967296) (by rw [List.length_map, List.length_range]) fun i hi => ?_).2
      exact getD_range _ hi
    have hb' : a.drop q = b := hb.symm
    have e3 : (a.length : Int) - q = (b.length : Int) := by omega
    simp (maxSteps := 4000000) (disch := omega) only [go_sem, seval, ↓reduceIte, reduceCtorEq, ← List.map_take, ← List.map_drop, wrap64, wrapu64, wrapu32, ← Int.natCast_add, ← Int.natCast_mul, cast_succ, wrapu32_nat, shr32, reps_wd, map_set_wd, List.length_set, zs_len, Try.f106, e1, e2, cutBounds, hc, List.take_of_length_le, hb']
    refine wantK_mono (Q := fun e σ => e = .norm ∧ (∃ g : Nat → AV, σ.sl = [.lst m (b.map wd), g 1, g 2, g 3, g 4, g 5, .bool (!decide (val a % 2 ^ n = 0)), .int .u64 k, g 8, g 9, g 10, g 11, g 12, g 13, g 14, g 15, g 16, g 17, g 18, g 19, g 20, g 21, g 22, g 23, g 24, g 25, g 26, g 27, g 28, g 29, g 30, g 31, g 32, g 33, g 34, g 35, g 36, g 37, g 38, g 39, g 40, g 41, g 42, g 43, g 44, g 45, g 46, g 47, g 48, g 49, g 50, g 51, g 52, g 53, g 54, g 55, g 56, g 57, g 58, g 59, g 60, g 61, g 62, g 63, g 64, g 65, g 66, g 67, g 68, g 69, g 70, g 71, g 72, g 73, g 74, g 75, g 76, g 77, g 78, g 79]) ∧ σ.nx = 0 ∧ σ.h = Heap.empty) ?_ ?_
    · rintro e ⟨sl, h, nx⟩ ⟨rfl, ⟨g, hs⟩, rfl, rfl⟩
      dsimp only at hs
      subst hs
      generalize (!decide (val a % 2 ^ n = 0)) = lost at *
      have hb2 := hbr
      clear hc em hlost e1 e2 e3 hpow hsplit hvq hn ha
      simp (maxSteps := 4000000) (disch := omega) only [go_sem, seval, ↓reduceIte, reduceCtorEq, ← List.map_take, ← List.map_drop, wrap64, wrapu64, wrapu32, ← Int.natCast_add, ← Int.natCast_mul, cast_succ, wrapu32_nat, shr32, reps_wd, map_set_wd, List.length_set, zs_len]
      refine W_loopS (fun j sl H nx => ∃ (i : Nat) (o : List Nat), (∃ g : Nat → AV, sl = [.lst m (b.map wd), g 1, g 2, g 3, g 4, g 5, .bool lost, .int .u64 k, .ref 0 0 b.length, g 9, g 10, g 11, g 12, g 13, g 14, g 15, g 16, g 17, g 18, g 19, g 20, g 21, g 22, g 23, g 24, g 25, g 26, g 27, g 28, g 29, g 30, g 31, g 32, g 33, g 34, g 35, g 36, g 37, g 38, g 39, g 40, g 41, g 42, g 43, g 44, g 45, .lst m (b.map wd), .int .i64 b.length, .int .i64 i, g 49, g 50, g 51, g 52, g 53, g 54, g 55, g 56, g 57, g 58, g 59, g 60, g 61, g 62, g 63, g 64, g 65, g 66, g 67, g 68, g 69, g 70, g 71, g 72, g 73, g 74, g 75, g 76, g 77, g 78, g 79]) ∧ nx = 1 ∧
        H 0 = some ⟨o.map wd, false, 1, false⟩ ∧ o.length = b.length ∧ InR o ∧ i + j = b.length ∧ Hd (∀ t, t < i → o.getD t 0 = (b.getD t 0 + b.getD (t + 1) 0 * 4294967296) / 2 ^ k % 4294967296)) b.length
        ⟨0, _, garb rfl, rfl, rfl, zs_len _, zs_inR _, by omega, ⟨fun t ht => by omega⟩⟩ ?_
      rintro j _ H _ ⟨i, o, ⟨g, rfl⟩, rfl, hH, ho, hr, hi, hv⟩
      by_cases hj : j = 0
      · obtain rfl : i = b.length := by omega
        have hval := (fin o ho hv.out).1
        have ht := trim_spec false o hr (by omega)
        rw [hval] at ht
        clear hv fin
        simp (maxSteps := 4000000) (disch := omega) only [go_sem, seval, ↓reduceIte, reduceCtorEq, ← List.map_take, ← List.map_drop, wrap64, wrapu64, wrapu32, ← Int.natCast_add, ← Int.natCast_mul, cast_succ, wrapu32_nat, shr32, reps_wd, map_set_wd, List.length_set, zs_len, hH, ho, List.take_of_length_le, ht]
      · have hx := hbr.get i
        have hy := hbr.get (i + 1)
        have e5 := or_high hx hy
        have e6 := shl32 hy
        obtain ⟨Y, hY⟩ : ∃ Y, Y = b.getD (i + 1) 0 * 4294967296 := ⟨_, rfl⟩
        obtain ⟨X, hX⟩ : ∃ X, X = b.getD i 0 + Y := ⟨_, rfl⟩
        rw [← hY, ← hX] at e5
        rw [← hY] at e6
        clear fin
        have stp : ∀ x : Nat, x = (b.getD i 0 + b.getD (i + 1) 0 * 4294967296) / 2 ^ k % 4294967296 → Hd (∀ t, t < i + 1 → (o.set i x).getD t 0 = (b.getD t 0 + b.getD (t + 1) 0 * 4294967296) / 2 ^ k % 4294967296) := by
          intro x hx
          refine ⟨fun t ht => ?_⟩
          by_cases hti : t = i
          · subst hti; rw [lget_set_self (by omega)]; exact hx
          · rw [lget_set_ne (by omega)]; exact hv.out t (by omega)
        by_cases hlast : i + 1 < b.length
        · simp (maxSteps := 4000000) (disch := omega) only [go_sem, seval, ↓reduceIte, reduceCtorEq, ← List.map_take, ← List.map_drop, wrap64, wrapu64, wrapu32, ← Int.natCast_add, ← Int.natCast_mul, cast_succ, wrapu32_nat, shr32, reps_wd, map_set_wd, List.length_set, zs_len, hH, ho, e5, e6, shr_k]
          exact ⟨j - 1, by omega, i + 1, o.set i (X / 2 ^ k % 4294967296), garb rfl, rfl, by rw [List.length_set, ho], hr.set (Nat.mod_lt _ (by decide)), by omega, stp _ (by rw [hX, hY])⟩
        · have h0 := getD_ge (l := b) (i := i + 1) (by omega)
          simp (maxSteps := 4000000) (disch := omega) only [go_sem, seval, ↓reduceIte, reduceCtorEq, ← List.map_take, ← List.map_drop, wrap64, wrapu64, wrapu32, ← Int.natCast_add, ← Int.natCast_mul, cast_succ, wrapu32_nat, shr32, reps_wd, map_set_wd, List.length_set, zs_len, hH, ho, shr_k]
          exact ⟨j - 1, by omega, i + 1, o.set i (b.getD i 0 / 2 ^ k % 4294967296), garb rfl, rfl, by rw [List.length_set, ho], hr.set (Nat.mod_lt _ (by decide)), by omega, stp _ (by rw [h0, Nat.zero_mul, Nat.add_zero])⟩
    · by_cases hl : vp a q = 0
      · rw [decide_eq_true hl]
        by_cases hr : b.getD 0 0 % 2 ^ k = 0
        · rw [decide_eq_true (hlost.2 ⟨hl, hr⟩)]
          rw [hr] at em
          clear fin hlost
          simp (maxSteps := 4000000) (disch := omega) only [go_sem, seval, ↓reduceIte, reduceCtorEq, ← List.map_take, ← List.map_drop, wrap64, wrapu64, wrapu32, ← Int.natCast_add, ← Int.natCast_mul, cast_succ, wrapu32_nat, shr32, reps_wd, map_set_wd, List.length_set, zs_len, em]
          exact garb rfl
        · rw [decide_eq_false (fun h => hr (hlost.1 h).2)]
          clear fin hlost
          simp (maxSteps := 4000000) (disch := omega) only [go_sem, seval, ↓reduceIte, reduceCtorEq, ← List.map_take, ← List.map_drop, wrap64, wrapu64, wrapu32, ← Int.natCast_add, ← Int.natCast_mul, cast_succ, wrapu32_nat, shr32, reps_wd, map_set_wd, List.length_set, zs_len, em]
          exact garb rfl
      · rw [decide_eq_false hl, decide_eq_false (fun h => hl (hlost.1 h).1)]
        clear fin hlost
        simp (maxSteps := 4000000) (disch := omega) only [go_sem, seval, ↓reduceIte, reduceCtorEq, ← List.map_take, ← List.map_drop, wrap64, wrapu64, wrapu32, ← Int.natCast_add, ← Int.natCast_mul, cast_succ, wrapu32_nat, shr32, reps_wd, map_set_wd, List.length_set, zs_len]
        exact garb rfl
end Go.Proofs.Ytnpomadbaanpkaa

/- Plain facts: dividing rows of words, word by word. (Own work of this repo.) -/
namespace Vm

/-- What n words from place j on are worth. -/
def wv (o : List Nat) (j : Nat) : Nat → Nat
  | 0 => 0
  | k + 1 => wv o j k + o.getD (j + k) 0 * BB ^ k
theorem vp_wv (o : List Nat) (j : Nat) : ∀ n, vp o (j + n) = vp o j + BB ^ j * wv o j n
  | 0 => by simp [wv]
  | n + 1 => by
    rw [← Nat.add_assoc, vp, vp_wv o j n, wv, Nat.mul_add, Nat.pow_add, Nat.add_assoc]
    congr 2
    rw [Nat.mul_comm (BB ^ j) (BB ^ n), ← Nat.mul_assoc, Nat.mul_comm (BB ^ j)]
theorem wv_lt {o : List Nat} (h : InR o) (j : Nat) : ∀ n, wv o j n < BB ^ n
  | 0 => by simp [wv]
  | n + 1 => by
    have h1 := wv_lt h j n
    have h2 := h.get (j + n)
    rw [wv, Nat.pow_succ, Nat.mul_comm (BB ^ n)]
    have h3 : (o.getD (j + n) 0 + 1) * BB ^ n ≤ BB * BB ^ n := Nat.mul_le_mul_right _ h2
    rw [Nat.add_mul] at h3
    omega
theorem wv_set (o : List Nat) (j i x : Nat) : ∀ n, n ≤ i → wv (o.set (j + i) x) j n = wv o j n
  | 0, _ => rfl
  | n + 1, h => by rw [wv, wv, wv_set o j i x n (by omega), lget_set_ne (by omega)]
theorem wv_congr {o p : List Nat} {j : Nat} : ∀ n, (∀ t, j ≤ t → t < j + n → o.getD t 0 = p.getD t 0) → wv o j n = wv p j n
  | 0, _ => rfl
  | n + 1, h => by rw [wv, wv, wv_congr n (fun t h1 h2 => h t h1 (by omega)), h (j + n) (by omega) (by omega)]
theorem split_mul' (s p : Nat) : s % 4294967296 * p + s / 4294967296 * (p * BB) = s * p := split_mul s p
/-- One word of a multiple is subtracted. -/
theorem ms_step {o p v : List Nat} {j i q c0 b0 b1 w x : Nat} (hp : j + i < p.length) (hv : wv p j i + q * vp v i = wv o j i + (c0 + b0) * BB ^ i) (hx : x = q * v.getD i 0 + c0)
    (hw : w + x % 4294967296 + b0 = o.getD (j + i) 0 + b1 * 4294967296) :
    wv (p.set (j + i) w) j (i + 1) + q * vp v (i + 1) = wv o j (i + 1) + (x / 4294967296 + b1) * BB ^ (i + 1) := by
  rw [wv, wv, vp, wv_set p j i w i (Nat.le_refl _), lget_set_self hp, Nat.pow_succ]
  have h1 := split_mul' x (BB ^ i)
  have e : BB = 4294967296 := rfl
  have h2 : w * BB ^ i + x % 4294967296 * BB ^ i + b0 * BB ^ i = o.getD (j + i) 0 * BB ^ i + b1 * (BB ^ i * BB) := by
    rw [← Nat.add_mul, ← Nat.add_mul, hw, Nat.add_mul, Nat.mul_assoc b1, Nat.mul_comm (BB ^ i)]
  have h3 : x * BB ^ i = q * (v.getD i 0 * BB ^ i) + c0 * BB ^ i := by rw [hx, Nat.add_mul, Nat.mul_assoc]
  rw [Nat.mul_add, Nat.add_mul]
  rw [Nat.add_mul] at hv
  omega
theorem ms_last {o p : List Nat} {j n c w b C : Nat} (hp : j + n < p.length) (hv : wv p j n + C = wv o j n + c * BB ^ n) (hw : w + c = o.getD (j + n) 0 + b * 4294967296) :
    wv (p.set (j + n) w) j (n + 1) + C = wv o j (n + 1) + b * BB ^ (n + 1) := by
  rw [wv, wv, wv_set p j n w n (Nat.le_refl _), lget_set_self hp, Nat.pow_succ]
  have e : BB = 4294967296 := rfl
  have h2 : w * BB ^ n + c * BB ^ n = o.getD (j + n) 0 * BB ^ n + b * (BB ^ n * BB) := by
    rw [← Nat.add_mul, hw, Nat.add_mul, Nat.mul_assoc b, Nat.mul_comm (BB ^ n)]
  omega
/-- One word is added. -/
theorem as_step {o p v : List Nat} {j i c s : Nat} (hp : j + i < p.length) (hv : wv p j i + c * BB ^ i = wv o j i + vp v i) (hs : s = c + o.getD (j + i) 0 + v.getD i 0) :
    wv (p.set (j + i) (s % 4294967296)) j (i + 1) + s / 4294967296 * BB ^ (i + 1) = wv o j (i + 1) + vp v (i + 1) := by
  have h := split_mul' s (BB ^ i)
  rw [wv, wv, vp, wv_set p j i _ i (Nat.le_refl _), lget_set_self hp, Nat.pow_succ]
  have h3 : s * BB ^ i = c * BB ^ i + o.getD (j + i) 0 * BB ^ i + v.getD i 0 * BB ^ i := by rw [hs, Nat.add_mul, Nat.add_mul]
  omega
theorem as_last {P p : List Nat} {j n c w V : Nat} (hp : j + n < p.length) (hv : wv p j n + c * BB ^ n = wv P j n + V) (hw : w = P.getD (j + n) 0 + c) :
    wv (p.set (j + n) (w % 4294967296)) j (n + 1) + w / 4294967296 * BB ^ (n + 1) = wv P j (n + 1) + V := by
  have h := split_mul' w (BB ^ n)
  rw [wv, wv, wv_set p j n _ n (Nat.le_refl _), lget_set_self hp, Nat.pow_succ]
  have h3 : w * BB ^ n = P.getD (j + n) 0 * BB ^ n + c * BB ^ n := by rw [hw, Nat.add_mul]
  omega
/-- The guess is too great: it may fall. -/
theorem kn_dec {q r v1 v2 u2 top U V p : Nat} (ht : q * v1 + r = top) (hV : (v1 * 4294967296 + v2) * p ≤ V) (hU : U < (top * 4294967296 + u2 + 1) * p) (hUV : U < V * 4294967296)
    (h : 4294967296 ≤ q ∨ r * 4294967296 + u2 < q * v2) : U < q * V := by
  rcases h with h | h
  · have : 4294967296 * V ≤ q * V := Nat.mul_le_mul_right _ h
    rw [Nat.mul_comm V] at hUV
    omega
  · have h1 : top * 4294967296 + u2 + 1 ≤ q * (v1 * 4294967296 + v2) := by
      rw [Nat.mul_add, ← Nat.mul_assoc, ← ht, Nat.add_mul]; omega
    have h2 := Nat.mul_le_mul_right p h1
    have h3 : q * (v1 * 4294967296 + v2) * p ≤ q * V := by rw [Nat.mul_assoc]; exact Nat.mul_le_mul_left _ hV
    omega
/-- The guess is one too great at most. -/
theorem kn_end {q r v1 v2 u2 top U V p : Nat} (ht : q * v1 + r = top) (hv1 : 1 ≤ v1) (hV : (v1 * 4294967296 + v2) * p ≤ V) (hV2 : V < (v1 * 4294967296 + v2 + 1) * p) (hU : (top * 4294967296 + u2) * p ≤ U)
    (hq : q < 4294967296) (hv2 : v2 < 4294967296) (h : q * v2 ≤ r * 4294967296 + u2 ∨ 4294967296 ≤ r) : q * V ≤ U + V := by
  have h0 : q * v2 ≤ r * 4294967296 + u2 := by
    rcases h with h | h
    · exact h
    · have := Nat.mul_le_mul (Nat.le_of_lt hq) (Nat.le_of_lt hv2)
      omega
  have h1 : q * (v1 * 4294967296 + v2 + 1) ≤ top * 4294967296 + u2 + q := by
    rw [Nat.mul_add, Nat.mul_add, ← Nat.mul_assoc, ← ht, Nat.add_mul]; omega
  have h2 := Nat.mul_le_mul_right p h1
  have h3 : q * V ≤ q * (v1 * 4294967296 + v2 + 1) * p := by rw [Nat.mul_assoc]; exact Nat.mul_le_mul_left _ (Nat.le_of_lt hV2)
  have h4 : q * p ≤ V := by
    refine Nat.le_trans ?_ hV
    refine Nat.mul_le_mul_right _ ?_
    have : 1 * 4294967296 ≤ v1 * 4294967296 := Nat.mul_le_mul_right _ hv1
    omega
  rw [Nat.add_mul] at h2
  omega
theorem kn_fin0 {q U V u' : Nat} (h1 : u' + q * V = U) (h2 : U < (q + 1) * V) : q = U / V ∧ u' = U % V := by
  have hV : 0 < V := by
    rcases Nat.eq_zero_or_pos V with h | h
    · subst h; simp at h2
    · exact h
  rw [Nat.add_mul, Nat.one_mul] at h2
  have h3 : u' < V := by omega
  constructor
  · symm; rw [← h1, Nat.add_mul_div_right _ _ hV, Nat.div_eq_of_lt h3, Nat.zero_add]
  · rw [← h1, Nat.add_mul_mod_self_right, Nat.mod_eq_of_lt h3]
theorem kn_fin0' {q U V u' b w : Nat} (h1 : u' + q * V = U + b * w) (hb : b = 0) (h2 : U < (q + 1) * V) : q = U / V ∧ u' = U % V := by
  rw [hb, Nat.zero_mul] at h1
  exact kn_fin0 h1 h2
theorem kn_one {A U b w : Nat} (h1 : A = U + b * w) (hb : b = 1) : A = U + w := by rw [h1, hb, Nat.one_mul]
theorem kn_fin1 {q U V u' : Nat} (h1 : U < q * V) (h2 : q * V ≤ U + V) (h3 : u' + q * V = U + V) : q - 1 = U / V ∧ u' = U % V ∧ 1 ≤ q := by
  have hq : 1 ≤ q := by
    rcases Nat.eq_zero_or_pos q with h | h
    · subst h; simp at h1
    · exact h
  obtain ⟨k, rfl⟩ : ∃ k, q = k + 1 := ⟨q - 1, by omega⟩
  rw [Nat.add_mul, Nat.one_mul] at h3 h1
  have := kn_fin0 (q := k) (U := U) (V := V) (u' := u') (by omega) (by rw [Nat.add_mul]; omega)
  exact ⟨by simpa using this.1, this.2, hq⟩
theorem kn_back {U V q P A t n : Nat} (hA : A + q * V = U + BB ^ n) (hP : P + t * BB ^ n = A + V) (hPl : P < BB ^ n) (h2 : q * V ≤ U + V) (hVl : V ≤ BB ^ n) (h1 : U < q * V) : P + q * V = U + V := by
  -- t is 1
  have h3 : P + t * BB ^ n + q * V = U + BB ^ n + V := by omega
  have ht : t = 1 := by
    rcases Nat.lt_or_ge t 1 with h | h
    · have : t = 0 := by omega
      subst this; omega
    · rcases Nat.lt_or_ge 1 t with h4 | h4
      · have : 2 * BB ^ n ≤ t * BB ^ n := Nat.mul_le_mul_right _ h4
        omega
      · omega
  subst ht
  omega
/-- The words of a number above its length are zeros. -/
theorem vp_val {o : List Nat} {m : Nat} (h : val o < BB ^ m) : vp o m = val o := by
  rcases Nat.lt_or_ge m o.length with hm | hm
  · have h1 := vp_wv o m (o.length - m)
    rw [show m + (o.length - m) = o.length by omega] at h1
    have h2 : wv o m (o.length - m) = 0 := by
      rcases Nat.eq_zero_or_pos (wv o m (o.length - m)) with h0 | h0
      · exact h0
      · have : BB ^ m * 1 ≤ BB ^ m * wv o m (o.length - m) := Nat.mul_le_mul_left _ h0
        rw [val] at h; omega
    rw [h2, Nat.mul_zero, Nat.add_zero] at h1
    exact h1.symm
  · exact vp_ge o m hm
theorem getD_of_lt {o : List Nat} {m i : Nat} (h : val o < BB ^ m) (hi : m ≤ i) : o.getD i 0 = 0 := by
  have h1 := vp_val h
  have h2 : vp o (i + 1) = val o := vp_val (Nat.lt_of_lt_of_le h (Nat.pow_le_pow_right (by decide) (by omega)))
  have h3 : vp o i = val o := vp_val (Nat.lt_of_lt_of_le h (Nat.pow_le_pow_right (by decide) hi))
  rw [vp, h3] at h2
  have h4 : o.getD i 0 * BB ^ i = 0 := by omega
  rcases Nat.mul_eq_zero.1 h4 with h5 | h5
  · exact h5
  · exact absurd h5 (Nat.ne_of_gt (Nat.pow_pos (by decide)))
theorem val_of_zero {o : List Nat} {m : Nat} (h : ∀ i, m ≤ i → o.getD i 0 = 0) : val o = vp o m := by
  rcases Nat.lt_or_ge m o.length with hm | hm
  · have h1 := vp_hi (a := o) (b := List.replicate m 0) (k := m) o.length (by omega) (fun t h2 h3 => by rw [h t h2, getD_replicate])
    rw [vp_replicate, vp_replicate] at h1
    rw [val]; omega
  · exact (vp_ge o m hm).symm
theorem val_set0 {o : List Nat} {j x : Nat} (hj : j < o.length) (h : o.getD j 0 = 0) : val (o.set j x) = val o + x * BB ^ j := by
  have h1 := vp_hi (a := o.set j x) (b := o) (k := j + 1) o.length (by omega) (fun t h2 h3 => by rw [lget_set_ne (by omega)])
  rw [vp, vp, vp_set o j x j (Nat.le_refl _), lget_set_self hj, h] at h1
  rw [val, val, List.length_set]; omega
/-- One word of the quotient. -/
theorem kn_outer {o p out : List Nat} {V X j n : Nat} (ho : InR o) (hVn : V < BB ^ n) (hj : j < out.length) (h1 : val o + val out * V = X) (h2 : val o < V * BB ^ (j + 1)) (h3 : out.getD j 0 = 0)
    (hp : wv p j (n + 1) = wv o j (n + 1) % V) (hs : ∀ t, t < j ∨ j + n + 1 ≤ t → p.getD t 0 = o.getD t 0) :
    val p + val (out.set j (wv o j (n + 1) / V)) * V = X ∧ val p < V * BB ^ j := by
  have hlt : val o < BB ^ (j + (n + 1)) := by
    refine Nat.lt_of_lt_of_le h2 ?_
    rw [show j + (n + 1) = n + (j + 1) by omega, Nat.pow_add BB n (j + 1)]
    exact Nat.mul_le_mul_right _ (Nat.le_of_lt hVn)
  have e1 : val o = vp o j + BB ^ j * wv o j (n + 1) := by rw [← vp_wv, vp_val hlt]
  have e2 : val p = vp o j + BB ^ j * (wv o j (n + 1) % V) := by
    rw [val_of_zero (m := j + (n + 1)) (fun i hi => by rw [hs i (.inr (by omega)), getD_of_lt hlt hi]), vp_wv, hp]
    congr 1
    exact vp_congr j fun i hi => hs i (.inl hi)
  have hV : 0 < V := by
    rcases Nat.eq_zero_or_pos V with h | h
    · subst h; simp at h2
    · exact h
  generalize wv o j (n + 1) = U at *
  have h4 := Nat.div_add_mod U V
  constructor
  · rw [val_set0 hj h3, Nat.add_mul, ← h1, e1, e2]
    have : BB ^ j * U = BB ^ j * (U % V) + U / V * BB ^ j * V := by
      conv => lhs; rw [← h4]
      rw [Nat.mul_add, Nat.add_comm, Nat.mul_comm (U / V), Nat.mul_assoc, Nat.mul_comm V]
    omega
  · rw [e2]
    have h5 := vp_lt ho j
    have h6 : BB ^ j * (U % V + 1) ≤ BB ^ j * V := Nat.mul_le_mul_left _ (Nat.mod_lt _ hV)
    rw [Nat.mul_add, Nat.mul_one] at h6
    rw [Nat.mul_comm V]
    omega
theorem kn_window {o : List Nat} {V j n : Nat} (hVn : V < BB ^ n) (h2 : val o < V * BB ^ (j + 1)) : wv o j (n + 1) < V * 4294967296 := by
  have hlt : val o < BB ^ (j + (n + 1)) := by
    refine Nat.lt_of_lt_of_le h2 ?_
    rw [show j + (n + 1) = n + (j + 1) by omega, Nat.pow_add BB n (j + 1)]
    exact Nat.mul_le_mul_right _ (Nat.le_of_lt hVn)
  have e1 : val o = vp o j + BB ^ j * wv o j (n + 1) := by rw [← vp_wv, vp_val hlt]
  rw [Nat.pow_succ, ← Nat.mul_assoc, Nat.mul_comm V, Nat.mul_assoc] at h2
  have h3 : BB ^ j * wv o j (n + 1) < BB ^ j * (V * BB) := by omega
  exact Nat.lt_of_mul_lt_mul_left h3
/-- What a row's three highest words and the row are worth. -/
theorem wv_top {o : List Nat} (h : InR o) {j n : Nat} : (o.getD (j + n + 2) 0 * 4294967296 * 4294967296 + o.getD (j + n + 1) 0 * 4294967296 + o.getD (j + n) 0) * BB ^ n ≤ wv o j (n + 3) ∧ wv o j (n + 3) < (o.getD (j + n + 2) 0 * 4294967296 * 4294967296 + o.getD (j + n + 1) 0 * 4294967296 + o.getD (j + n) 0 + 1) * BB ^ n := by
  have h1 := wv_lt h j n
  have e : wv o j (n + 3) = wv o j n + (o.getD (j + n + 2) 0 * 4294967296 * 4294967296 + o.getD (j + n + 1) 0 * 4294967296 + o.getD (j + n) 0) * BB ^ n := by
    rw [wv, wv, wv, Nat.pow_succ, Nat.pow_succ, Nat.pow_succ]
    have e : BB = 4294967296 := rfl
    simp only [← Nat.add_assoc, e]
    generalize (4294967296 : Nat) ^ n = P
    generalize o.getD (j + n + 2) 0 = a
    generalize o.getD (j + n + 1) 0 = b
    generalize o.getD (j + n) 0 = c
    grind
  rw [e, Nat.add_mul _ 1]
  omega
theorem vp_top {o : List Nat} (h : InR o) {n : Nat} : (o.getD (n + 1) 0 * 4294967296 + o.getD n 0) * BB ^ n ≤ vp o (n + 2) ∧ vp o (n + 2) < (o.getD (n + 1) 0 * 4294967296 + o.getD n 0 + 1) * BB ^ n := by
  have h1 := vp_lt h n
  have e : vp o (n + 2) = vp o n + (o.getD (n + 1) 0 * 4294967296 + o.getD n 0) * BB ^ n := by
    rw [vp, vp, Nat.pow_succ]
    have e : BB = 4294967296 := rfl
    simp only [e]
    generalize (4294967296 : Nat) ^ n = P
    generalize o.getD (n + 1) 0 = a
    generalize o.getD n 0 = c
    grind
  rw [e, Nat.add_mul _ 1]
  omega
theorem wv_cons (o : List Nat) (j : Nat) : ∀ n, wv o j (n + 1) = o.getD j 0 + BB * wv o (j + 1) n
  | 0 => by simp [wv]
  | n + 1 => by
    rw [wv, wv_cons o j n, wv, Nat.mul_add, show j + (n + 1) = j + 1 + n by omega, Nat.pow_succ, Nat.add_assoc]
    congr 2
    rw [Nat.mul_comm (BB ^ n), ← Nat.mul_assoc, ← Nat.mul_assoc, Nat.mul_comm BB]
theorem wv_zero (o : List Nat) : ∀ n, wv o 0 n = vp o n
  | 0 => rfl
  | n + 1 => by rw [wv, vp, wv_zero o n, Nat.zero_add]
theorem vp_succ0 {o : List Nat} {n : Nat} (h : o.getD n 0 = 0) : vp o (n + 1) = vp o n := by rw [vp, h]; omega
/-- One word of a quotient by a word. -/
theorem short_step {o a : List Nat} {i n b r T : Nat} (hi : i < o.length) (hr : r < b) (hT : T = a.getD i 0 + r * 4294967296) (hv : wv o (i + 1) n * b + r = wv a (i + 1) n) :
    wv (o.set i (T / b)) i (n + 1) * b + T % b = wv a i (n + 1) := by
  have e : wv (o.set i (T / b)) (i + 1) n = wv o (i + 1) n := wv_congr n fun t h1 h2 => by rw [lget_set_ne (by omega)]
  rw [wv_cons, wv_cons, lget_set_self hi, e, ← hv, Nat.add_mul, Nat.mul_add]
  have h1 := Nat.div_add_mod T b
  rw [Nat.mul_comm b] at h1
  have e2 : BB * r = r * 4294967296 := Nat.mul_comm _ _
  rw [e2, ← Nat.mul_assoc]
  omega
end Vm

/- Walks: one word of a quotient. (Own work of this repo.) -/
namespace Go.Proofs.Ytnpomadbaanpkaa
open Vm
set_option maxRecDepth 100000

theorem high_or {x y : Nat} (hx : x < 4294967296) (hy : y < 4294967296) : IntKind.u64.wrap ((BitVec.ofInt (kb .u64) ((y * 4294967296 : Nat) : Int) ||| BitVec.ofInt (kb .u64) (x : Int)).toNat : Int) = ((x + y * 4294967296 : Nat) : Int) := by
  rw [BitVec.or_comm]; exact or_high hx hy
theorem kn_init {v1 v2 u2 top U V p : Nat} (hv1 : 1 ≤ v1) (hu2 : u2 < 4294967296) (hV : (v1 * 4294967296 + v2) * p ≤ V) (hU : U < (top * 4294967296 + u2 + 1) * p) : U < (top / v1 + 1) * V := by
  have h1 : top + 1 ≤ (top / v1 + 1) * v1 := by
    have := Nat.lt_div_mul_add (a := top) (b := v1) (by omega)
    rw [Nat.add_mul]; omega
  have h2 : (top * 4294967296 + u2 + 1) * p ≤ (top / v1 + 1) * V := by
    refine Nat.le_trans (Nat.mul_le_mul_right p (show _ ≤ (top / v1 + 1) * (v1 * 4294967296) by rw [← Nat.mul_assoc]; omega)) ?_
    rw [Nat.mul_assoc]
    refine Nat.mul_le_mul_left _ (Nat.le_trans (Nat.mul_le_mul_right p ?_) hV)
    omega
  omega
theorem kn_htop {v1 v2 u2 top U V p : Nat} (hv2 : v2 < 4294967296) (hV2 : V < (v1 * 4294967296 + v2 + 1) * p) (hU : (top * 4294967296 + u2) * p ≤ U) (hUV : U < V * 4294967296) : top < (v1 + 1) * 4294967296 := by
  rcases Nat.lt_or_ge top ((v1 + 1) * 4294967296) with h | h
  · exact h
  · have h1 : (v1 * 4294967296 + v2 + 1) * 4294967296 ≤ top * 4294967296 + u2 := by
      have h3 : (v1 * 4294967296 + v2 + 1) * 4294967296 ≤ top * 4294967296 := Nat.mul_le_mul_right 4294967296 (by omega)
      exact Nat.le_trans h3 (Nat.le_add_right _ _)
    have h2 := Nat.mul_le_mul_right p h1
    have h3 : (v1 * 4294967296 + v2 + 1) * 4294967296 * p = (v1 * 4294967296 + v2 + 1) * p * 4294967296 := by rw [Nat.mul_assoc, Nat.mul_comm 4294967296, ← Nat.mul_assoc]
    omega
set_option maxHeartbeats 4000000 in
theorem digit_open (id off : Nat) (o v : List Nat) (mv : Bool) (h : Heap) (nx m : Nat) (hH : h id = some ⟨o.map wd, false, 1, false⟩) (ro : InR o) (rv : InR v) (hm : v.length = m + 2) (hv1 : 1 ≤ v.getD (m + 1) 0)
    (hl : off + m + 3 ≤ o.length) (lo : o.length < 2 ^ 40) (hU : wv o off (m + 3) < val v * 4294967296) :
    ∃ (p : List Nat) (h' : Heap), denO E 105 [.ref id off (m + 3), .lst mv (v.map wd)] h nx = some (.ret (.int .u32 (wv o off (m + 3) / val v : Nat)), h', nx) ∧
      h' id = some ⟨p.map wd, false, 1, false⟩ ∧ (∀ j, j ≠ id → h' j = h j) ∧ InR p ∧ p.length = o.length ∧ wv p off (m + 3) = wv o off (m + 3) % val v ∧ ∀ t, t < off ∨ off + m + 3 ≤ t → p.getD t 0 = o.getD t 0 := by
  have key : ∃ x h' n, denO E 105 [.ref id off (m + 3), .lst mv (v.map wd)] h nx = some (.ret x, h', n) ∧ ∃ p : List Nat, x = .int .u32 (wv o off (m + 3) / val v : Nat) ∧ n = nx ∧
      h' id = some ⟨p.map wd, false, 1, false⟩ ∧ (∀ j, j ≠ id → h' j = h j) ∧ InR p ∧ p.length = o.length ∧ wv p off (m + 3) = wv o off (m + 3) % val v ∧ ∀ t, t < off ∨ off + m + 3 ≤ t → p.getD t 0 = o.getD t 0 := by
    refine denO_intro E105 rfl ?_
    have hV0 : val v = vp v (m + 2) := by rw [val, hm]
    have hVt := vp_top rv (n := m)
    have hUt := wv_top ro (j := off) (n := m)
    have hVn : val v < BB ^ (m + 2) := by rw [hV0]; exact vp_lt rv _
    have bu2 := ro.get (off + m + 2)
    have bu1 := ro.get (off + m + 1)
    have bu0 := ro.get (off + m)
    have bv1 := rv.get (m + 1)
    have bv0 := rv.get m
    obtain ⟨T, hT⟩ : ∃ T, T = o.getD (off + m + 1) 0 + o.getD (off + m + 2) 0 * 4294967296 := ⟨_, rfl⟩
    have hT2 : o.getD (off + m + 2) 0 * 4294967296 * 4294967296 + o.getD (off + m + 1) 0 * 4294967296 + o.getD (off + m) 0 = T * 4294967296 + o.getD (off + m) 0 := by rw [hT, Nat.add_mul]; omega
    rw [hT2] at hUt
    rw [← hV0] at hVt
    have e1 := shl32 bu2
    have e2 := high_or bu1 bu2
    rw [← hT] at e2
    have hTb : T < 18446744073709551616 := by omega
    clear hT2
    obtain ⟨Y, hY⟩ : ∃ Y, Y = o.getD (off + m + 2) 0 * 4294967296 := ⟨_, rfl⟩
    rw [← hY] at e1 e2
    clear hY hT
    generalize hVV : val v = V at *
    generalize hUU : wv o off (m + 3) = U at *
    have hin := kn_init (top := T) hv1 bu0 hVt.1 hUt.2
    have htop := kn_htop bv0 hVt.2 hUt.1 hU
    obtain ⟨Pm, hPm⟩ : ∃ Pm, Pm = BB ^ m := ⟨_, rfl⟩
    rw [← hPm] at hVt hUt
    obtain ⟨v1, hv1e⟩ : ∃ v1, v1 = v.getD (m + 1) 0 := ⟨_, rfl⟩
    rw [← hv1e] at hVt hv1 bv1 hin htop
    obtain ⟨v2, hv2e⟩ : ∃ v2, v2 = v.getD m 0 := ⟨_, rfl⟩
    rw [← hv2e] at hVt bv0
    obtain ⟨u2, hu2e⟩ : ∃ u2, u2 = o.getD (off + m) 0 := ⟨_, rfl⟩
    rw [← hu2e] at hUt bu0
    have f1 : v.getD (m + 1) 0 = v1 := hv1e.symm
    have f2 : v.getD m 0 = v2 := hv2e.symm
    have f3 : o.getD (off + m) 0 = u2 := hu2e.symm
    have a1 : ((m + 2 : Nat) : Int) - 1 = ((m + 1 : Nat) : Int) := by omega
    have a2 : ((m + 2 : Nat) : Int) - 2 = ((m : Nat) : Int) := by omega
    have a3 : off + (m + 2) = off + m + 2 := by omega
    have a4 : off + (m + 1) = off + m + 1 := by omega
    have d1 : (T : Int).tdiv (v1 : Int) = ((T / v1 : Nat) : Int) := rfl
    have d2 : (T : Int).tmod (v1 : Int) = ((T % v1 : Nat) : Int) := rfl
    have d3 : T % v1 < v1 := Nat.mod_lt _ hv1
    have d4 : T / v1 < 18446744073709551616 := Nat.lt_of_le_of_lt (Nat.div_le_self _ _) hTb
    have d5 : T / v1 * v1 + T % v1 = T := by rw [Nat.mul_comm]; exact Nat.div_add_mod T v1
    replace hin := Hd.mk hin
    replace d5 := Hd.mk d5
    replace hVt := Hd.mk hVt
    replace hUt := Hd.mk hUt
    replace hU := Hd.mk hU
    replace hVn := Hd.mk hVn
    generalize T / v1 = q0 at *
    generalize T % v1 = r0 at *
    clear hv1e hv2e hu2e hPm
    simp (maxSteps := 4000000) (disch := omega) only [go_sem, seval, ↓reduceIte, reduceCtorEq, ← List.map_take, ← List.map_drop, wrap64, wrapu64, wrapu32, ← Int.natCast_add, ← Int.natCast_mul, cast_succ, wrapu32_nat, shr32, reps_wd, map_set_wd, List.length_set, zs_len, Try.f105, hm, a1, a2]
    refine W_drawn ?_
    simp (maxSteps := 4000000) (disch := omega) only [go_sem, seval, ↓reduceIte, reduceCtorEq, ← List.map_take, ← List.map_drop, wrap64, wrapu64, wrapu32, ← Int.natCast_add, ← Int.natCast_mul, cast_succ, wrapu32_nat, shr32, reps_wd, map_set_wd, List.length_set, zs_len, hH, hm, a1, a2, a3, a4, e1, e2]
    refine ⟨by rfl, ?_⟩
    refine W_drawn ?_
    simp (maxSteps := 4000000) (disch := omega) only [go_sem, seval, ↓reduceIte, reduceCtorEq, ← List.map_take, ← List.map_drop, wrap64, wrapu64, wrapu32, ← Int.natCast_add, ← Int.natCast_mul, cast_succ, wrapu32_nat, shr32, reps_wd, map_set_wd, List.length_set, zs_len, hm, a1, a2, f1, d1, d2]
    refine ⟨by rfl, ?_⟩
    refine W_mono (Q := fun e σ => e = .exit 0 ∧ ∃ (q : Nat), (∃ g : Nat → AV, σ.sl = [.ref id off (m + 3), .lst mv (v.map wd), g 2, g 3, g 4, .int .i64 (m + 2 : Nat), g 6, .int .u64 q, g 8, g 9, g 10, g 11, g 12, g 13, g 14, g 15, g 16, g 17, g 18, g 19, g 20, g 21, g 22, g 23, g 24, g 25, g 26, g 27, g 28, g 29, g 30, g 31, g 32, g 33, g 34, g 35, g 36, g 37, g 38, g 39, g 40, g 41, g 42, g 43, g 44, g 45, g 46, g 47, g 48, g 49, g 50, g 51, g 52, g 53, g 54, g 55, g 56, g 57, g 58, g 59, g 60, g 61, g 62, g 63, g 64, g 65, g 66, g 67, g 68, g 69, g 70, g 71, g 72, g 73, g 74, g 75, g 76, g 77, g 78, g 79, g 80, g 81, g 82, g 83, g 84, g 85, g 86, g 87, g 88, g 89, g 90, g 91, g 92, g 93, g 94, g 95, g 96, g 97, g 98, g 99, g 100, g 101, g 102, g 103, g 104, g 105, g 106, g 107, g 108, g 109, g 110, g 111, g 112, g 113, g 114, g 115, g 116, g 117, g 118, g 119, g 120, g 121, g 122, g 123, g 124, g 125, g 126, g 127, g 128, g 129, g 130, g 131, g 132, g 133, g 134, g 135, g 136, g 137, g 138, g 139, g 140, g 141, g 142, g 143, g 144, g 145, g 146, g 147, g 148, g 149, g 150, g 151, g 152, g 153, g 154, g 155, g 156, g 157, g 158, g 159, g 160, g 161, g 162, g 163, g 164, g 165, g 166, g 167, g 168, g 169]) ∧ σ.h = h ∧ σ.nx = nx ∧ q < 4294967296 ∧ Hd (q * V ≤ U + V) ∧ Hd (U < (q + 1) * V)) ?_ ?_
    · refine W_loopS (fun k sl H n => ∃ (r : Nat), (∃ g : Nat → AV, sl = [.ref id off (m + 3), .lst mv (v.map wd), g 2, g 3, g 4, .int .i64 (m + 2 : Nat), g 6, .int .u64 k, .int .u64 r, g 9, g 10, g 11, g 12, g 13, g 14, g 15, g 16, g 17, g 18, g 19, g 20, g 21, g 22, g 23, g 24, g 25, g 26, g 27, g 28, g 29, g 30, g 31, g 32, g 33, g 34, g 35, g 36, g 37, g 38, g 39, g 40, g 41, g 42, g 43, g 44, g 45, g 46, g 47, g 48, g 49, g 50, g 51, g 52, g 53, g 54, g 55, g 56, g 57, g 58, g 59, g 60, g 61, g 62, g 63, g 64, g 65, g 66, g 67, g 68, g 69, g 70, g 71, g 72, g 73, g 74, g 75, g 76, g 77, g 78, g 79, g 80, g 81, g 82, g 83, g 84, g 85, g 86, g 87, g 88, g 89, g 90, g 91, g 92, g 93, g 94, g 95, g 96, g 97, g 98, g 99, g 100, g 101, g 102, g 103, g 104, g 105, g 106, g 107, g 108, g 109, g 110, g 111, g 112, g 113, g 114, g 115, g 116, g 117, g 118, g 119, g 120, g 121, g 122, g 123, g 124, g 125, g 126, g 127, g 128, g 129, g 130, g 131, g 132, g 133, g 134, g 135, g 136, g 137, g 138, g 139, g 140, g 141, g 142, g 143, g 144, g 145, g 146, g 147, g 148, g 149, g 150, g 151, g 152, g 153, g 154, g 155, g 156, g 157, g 158, g 159, g 160, g 161, g 162, g 163, g 164, g 165, g 166, g 167, g 168, g 169]) ∧ H = h ∧ n = nx ∧
        k < 18446744073709551616 ∧ r < 4294967296 ∧ Hd (k * v1 + r = T) ∧ Hd (U < (k + 1) * V)) q0 ⟨r0, garb rfl, rfl, rfl, d4, by omega, d5, hin⟩ ?_
      clear d1 d2 d3 d4 d5 hin e1 e2
      rintro q _ _ _ ⟨r, ⟨g, rfl⟩, rfl, rfl, hq, hr, ht, hb⟩
      have g1 := shl32 hr
      have g2 := high_or bu0 hr
      obtain ⟨R, hR⟩ : ∃ R, R = r * 4294967296 := ⟨_, rfl⟩
      rw [← hR] at g1 g2
      have hR1 : R ≤ 18446744069414584320 := by omega
      by_cases hq2 : 4294967296 ≤ q
      · have hlt := kn_dec ht.out hVt.out.1 hUt.out.2 hU.out (.inl hq2)
        have g4 : (q : Int) - 1 = ((q - 1 : Nat) : Int) := by omega
        have ht2 : (q - 1) * v1 + (r + v1) = T := by
          have e := ht.out
          obtain ⟨k, rfl⟩ : ∃ k, q = k + 1 := ⟨q - 1, by omega⟩
          rw [Nat.add_mul] at e; simp only [Nat.add_sub_cancel]; omega
        have hb2 : U < (q - 1 + 1) * V := by rw [show q - 1 + 1 = q by omega]; exact hlt
        have hq3 : q / 4294967296 ≠ 0 := by omega
        clear hR g1 g2
        by_cases hr2 : 4294967296 ≤ r + v1
        · have hq1 : q - 1 < 4294967296 := by
            have h1 : (q - 1) * v1 < 4294967296 * v1 := by rw [Nat.add_mul] at htop; rw [Nat.mul_comm 4294967296]; omega
            exact Nat.lt_of_mul_lt_mul_right h1
          have hend := kn_end ht2 hv1 hVt.out.1 hVt.out.2 hUt.out.1 hq1 bv0 (.inr hr2)
          have hr3 : (r + v1) / 4294967296 ≠ 0 := by omega
          replace hb2 := Hd.mk hb2
          replace hend := Hd.mk hend
          clear ht ht2 hlt hq2 htop
          simp (maxSteps := 4000000) (disch := omega) only [go_sem, seval, ↓reduceIte, reduceCtorEq, ← List.map_take, ← List.map_drop, wrap64, wrapu64, wrapu32, ← Int.natCast_add, ← Int.natCast_mul, cast_succ, wrapu32_nat, shr32, reps_wd, map_set_wd, List.length_set, zs_len]
          refine W_drawn ?_
          simp (maxSteps := 4000000) (disch := omega) only [go_sem, seval, ↓reduceIte, reduceCtorEq, ← List.map_take, ← List.map_drop, wrap64, wrapu64, wrapu32, ← Int.natCast_add, ← Int.natCast_mul, cast_succ, wrapu32_nat, shr32, reps_wd, map_set_wd, List.length_set, zs_len, hm, a1, a2, shr32]
          refine ⟨by rfl, ?_⟩
          simp (maxSteps := 4000000) (disch := omega) only [go_sem, seval, ↓reduceIte, reduceCtorEq, ← List.map_take, ← List.map_drop, wrap64, wrapu64, wrapu32, ← Int.natCast_add, ← Int.natCast_mul, cast_succ, wrapu32_nat, shr32, reps_wd, map_set_wd, List.length_set, zs_len, hm, a1, a2, f1, g4, shr32]
          exact ⟨q - 1, garb rfl, hq1, hend, hb2⟩
        · have hr3 : (r + v1) / 4294967296 = 0 := by omega
          replace hb2 := Hd.mk hb2
          replace ht2 := Hd.mk ht2
          clear ht hlt hq2 htop
          simp (maxSteps := 4000000) (disch := omega) only [go_sem, seval, ↓reduceIte, reduceCtorEq, ← List.map_take, ← List.map_drop, wrap64, wrapu64, wrapu32, ← Int.natCast_add, ← Int.natCast_mul, cast_succ, wrapu32_nat, shr32, reps_wd, map_set_wd, List.length_set, zs_len]
          refine W_drawn ?_
          simp (maxSteps := 4000000) (disch := omega) only [go_sem, seval, ↓reduceIte, reduceCtorEq, ← List.map_take, ← List.map_drop, wrap64, wrapu64, wrapu32, ← Int.natCast_add, ← Int.natCast_mul, cast_succ, wrapu32_nat, shr32, reps_wd, map_set_wd, List.length_set, zs_len, hm, a1, a2, shr32]
          refine ⟨by rfl, ?_⟩
          simp (maxSteps := 4000000) (disch := omega) only [go_sem, seval, ↓reduceIte, reduceCtorEq, ← List.map_take, ← List.map_drop, wrap64, wrapu64, wrapu32, ← Int.natCast_add, ← Int.natCast_mul, cast_succ, wrapu32_nat, shr32, reps_wd, map_set_wd, List.length_set, zs_len, hm, a1, a2, f1, g4, shr32]
          exact ⟨q - 1, by omega, r + v1, garb rfl, by omega, by omega, ht2, hb2⟩
      · have hq3 : q / 4294967296 = 0 := by omega
        obtain ⟨X, hX⟩ : ∃ X, X = q * v2 := ⟨_, rfl⟩
        have hX2 : q * v2 = X := hX.symm
        have hXb := mul_word (show q < 4294967296 by omega) bv0
        rw [hX2] at hXb
        by_cases hc : R + u2 < X
        · have hlt := kn_dec ht.out hVt.out.1 hUt.out.2 hU.out (.inr (by rw [← hR, ← hX]; exact hc))
          have hq0 : q ≠ 0 := fun e => by rw [e, Nat.zero_mul] at hlt; omega
          have g4 : (q : Int) - 1 = ((q - 1 : Nat) : Int) := by omega
          have ht2 : (q - 1) * v1 + (r + v1) = T := by
            have e := ht.out
            obtain ⟨k, rfl⟩ : ∃ k, q = k + 1 := ⟨q - 1, by omega⟩
            rw [Nat.add_mul] at e; simp only [Nat.add_sub_cancel]; omega
          have hb2 : U < (q - 1 + 1) * V := by rw [show q - 1 + 1 = q by omega]; exact hlt
          clear hR hX
          by_cases hr2 : 4294967296 ≤ r + v1
          · have hend := kn_end ht2 hv1 hVt.out.1 hVt.out.2 hUt.out.1 (by omega) bv0 (.inr hr2)
            have hr3 : (r + v1) / 4294967296 ≠ 0 := by omega
            replace hb2 := Hd.mk hb2
            replace hend := Hd.mk hend
            have hc' : u2 + R < X := by omega
            clear ht ht2 hlt htop
            simp (maxSteps := 4000000) (disch := omega) only [go_sem, seval, ↓reduceIte, reduceCtorEq, ← List.map_take, ← List.map_drop, wrap64, wrapu64, wrapu32, ← Int.natCast_add, ← Int.natCast_mul, cast_succ, wrapu32_nat, shr32, reps_wd, map_set_wd, List.length_set, zs_len]
            refine W_drawn ?_
            simp (maxSteps := 4000000) (disch := omega) only [go_sem, seval, ↓reduceIte, reduceCtorEq, ← List.map_take, ← List.map_drop, wrap64, wrapu64, wrapu32, ← Int.natCast_add, ← Int.natCast_mul, cast_succ, wrapu32_nat, shr32, reps_wd, map_set_wd, List.length_set, zs_len, hH, hm, a1, a2, f2, f3, g1, g2, hX2, shr32]
            refine ⟨by rfl, ?_⟩
            simp (maxSteps := 4000000) (disch := omega) only [go_sem, seval, ↓reduceIte, reduceCtorEq, ← List.map_take, ← List.map_drop, wrap64, wrapu64, wrapu32, ← Int.natCast_add, ← Int.natCast_mul, cast_succ, wrapu32_nat, shr32, reps_wd, map_set_wd, List.length_set, zs_len, hm, a1, a2, f1, g4, shr32]
            exact ⟨q - 1, garb rfl, by omega, hend, hb2⟩
          · have hr3 : (r + v1) / 4294967296 = 0 := by omega
            replace hb2 := Hd.mk hb2
            replace ht2 := Hd.mk ht2
            have hc' : u2 + R < X := by omega
            clear ht hlt htop
            simp (maxSteps := 4000000) (disch := omega) only [go_sem, seval, ↓reduceIte, reduceCtorEq, ← List.map_take, ← List.map_drop, wrap64, wrapu64, wrapu32, ← Int.natCast_add, ← Int.natCast_mul, cast_succ, wrapu32_nat, shr32, reps_wd, map_set_wd, List.length_set, zs_len]
            refine W_drawn ?_
            simp (maxSteps := 4000000) (disch := omega) only [go_sem, seval, ↓reduceIte, reduceCtorEq, ← List.map_take, ← List.map_drop, wrap64, wrapu64, wrapu32, ← Int.natCast_add, ← Int.natCast_mul, cast_succ, wrapu32_nat, shr32, reps_wd, map_set_wd, List.length_set, zs_len, hH, hm, a1, a2, f2, f3, g1, g2, hX2, shr32]
            refine ⟨by rfl, ?_⟩
            simp (maxSteps := 4000000) (disch := omega) only [go_sem, seval, ↓reduceIte, reduceCtorEq, ← List.map_take, ← List.map_drop, wrap64, wrapu64, wrapu32, ← Int.natCast_add, ← Int.natCast_mul, cast_succ, wrapu32_nat, shr32, reps_wd, map_set_wd, List.length_set, zs_len, hm, a1, a2, f1, g4, shr32]
            exact ⟨q - 1, by omega, r + v1, garb rfl, by omega, by omega, ht2, hb2⟩
        · have hend := kn_end ht.out hv1 hVt.out.1 hVt.out.2 hUt.out.1 (by omega) bv0 (.inl (by rw [← hR, ← hX]; omega))
          replace hend := Hd.mk hend
          have hc' : ¬ u2 + R < X := by omega
          clear ht htop hR hX
          simp (maxSteps := 4000000) (disch := omega) only [go_sem, seval, ↓reduceIte, reduceCtorEq, ← List.map_take, ← List.map_drop, wrap64, wrapu64, wrapu32, ← Int.natCast_add, ← Int.natCast_mul, cast_succ, wrapu32_nat, shr32, reps_wd, map_set_wd, List.length_set, zs_len]
          refine W_drawn ?_
          simp (maxSteps := 4000000) (disch := omega) only [go_sem, seval, ↓reduceIte, reduceCtorEq, ← List.map_take, ← List.map_drop, wrap64, wrapu64, wrapu32, ← Int.natCast_add, ← Int.natCast_mul, cast_succ, wrapu32_nat, shr32, reps_wd, map_set_wd, List.length_set, zs_len, hH, hm, a1, a2, f2, f3, g1, g2, hX2, shr32]
          refine ⟨by rfl, ?_⟩
          exact ⟨q, garb rfl, by omega, hend, hb⟩
    · clear d1 d2 d3 d4 d5 hin e1 e2 f1 f2 f3 a1 a2 htop hUt hVt bu2 bu1 bu0 bv1 bv0 hTb hv1
      rintro e ⟨sl, H, nx'⟩ ⟨rfl, q, ⟨g, hs⟩, hh, hnn, hq, hle, hgt⟩
      dsimp only at hs hh hnn
      subst hs; subst H; subst nx'
      simp (maxSteps := 4000000) (disch := omega) only [go_sem, seval, ↓reduceIte, reduceCtorEq, ← List.map_take, ← List.map_drop, wrap64, wrapu64, wrapu32, ← Int.natCast_add, ← Int.natCast_mul, cast_succ, wrapu32_nat, shr32, reps_wd, map_set_wd, List.length_set, zs_len, hm]
      refine W_loopS (fun k sl H n => ∃ (i c : Nat) (p : List Nat), (∃ g : Nat → AV, sl = [.ref id off (m + 3), .lst mv (v.map wd), g 2, g 3, g 4, .int .i64 (m + 2 : Nat), g 6, .int .u64 q, g 8, .int .u64 c, g 10, g 11, g 12, g 13, g 14, g 15, g 16, g 17, g 18, g 19, g 20, g 21, g 22, g 23, g 24, g 25, g 26, g 27, g 28, g 29, g 30, g 31, g 32, g 33, g 34, g 35, g 36, g 37, g 38, g 39, g 40, g 41, g 42, g 43, g 44, g 45, g 46, g 47, g 48, g 49, g 50, g 51, g 52, g 53, g 54, g 55, g 56, g 57, g 58, g 59, g 60, g 61, g 62, g 63, g 64, g 65, g 66, g 67, g 68, g 69, g 70, g 71, g 72, g 73, g 74, g 75, g 76, g 77, g 78, g 79, g 80, g 81, g 82, g 83, g 84, .lst mv (v.map wd), .int .i64 (m + 2 : Nat), .int .i64 i, g 88, g 89, g 90, g 91, g 92, g 93, g 94, g 95, g 96, g 97, g 98, g 99, g 100, g 101, g 102, g 103, g 104, g 105, g 106, g 107, g 108, g 109, g 110, g 111, g 112, g 113, g 114, g 115, g 116, g 117, g 118, g 119, g 120, g 121, g 122, g 123, g 124, g 125, g 126, g 127, g 128, g 129, g 130, g 131, g 132, g 133, g 134, g 135, g 136, g 137, g 138, g 139, g 140, g 141, g 142, g 143, g 144, g 145, g 146, g 147, g 148, g 149, g 150, g 151, g 152, g 153, g 154, g 155, g 156, g 157, g 158, g 159, g 160, g 161, g 162, g 163, g 164, g 165, g 166, g 167, g 168, g 169]) ∧ n = nx ∧
        H id = some ⟨p.map wd, false, 1, false⟩ ∧ Hd (∀ j, j ≠ id → H j = h j) ∧ p.length = o.length ∧ InR p ∧ i + k = m + 2 ∧ c ≤ 4294967296 ∧ Hd (wv p off i + q * vp v i = wv o off i + (c + 0) * BB ^ i) ∧ Hd (∀ t, t < off ∨ off + i ≤ t → p.getD t 0 = o.getD t 0)) (m + 2)
        ⟨0, 0, o, garb rfl, rfl, hH, ⟨fun _ _ => rfl⟩, rfl, ro, by omega, by omega, ⟨by simp [wv, vp]⟩, ⟨fun _ _ => rfl⟩⟩ ?_
      rintro k _ H nx ⟨i, c, p, ⟨g, rfl⟩, rfl, hHp, hF, hp, rp, hi, hc, hv, hz⟩
      by_cases hk : k = 0
      · obtain rfl : i = m + 2 := by omega
        have hz0 := hz.out (off + m + 2) (.inr (by omega))
        have bx := rp.get (off + m + 2)
        obtain ⟨X, hX⟩ : ∃ X : Nat, (c ≤ p.getD (off + m + 2) 0 ∧ X = p.getD (off + m + 2) 0 - c) ∨ (p.getD (off + m + 2) 0 < c ∧ X = 18446744073709551616 + p.getD (off + m + 2) 0 - c) := by
          by_cases h : c ≤ p.getD (off + m + 2) 0
          · exact ⟨_, .inl ⟨h, rfl⟩⟩
          · exact ⟨_, .inr ⟨by omega, rfl⟩⟩
        have hw : X % 4294967296 + c = p.getD (off + m + 2) 0 + X / 9223372036854775808 * 4294967296 := by omega
        have hb1 : X / 9223372036854775808 ≤ 1 := by omega
        have eX : IntKind.u64.wrap (((p.getD (off + m + 2) 0 : Nat) : Int) - (c : Int)) = (X : Int) := by rw [IntKind.wrap_u64]; omega
        have hlast := ms_last (o := o) (p := p) (j := off) (n := m + 2) (c := c) (w := X % 4294967296) (b := X / 9223372036854775808) (C := q * V) (by omega) (by rw [← hVV, val, hm]; exact hv.out) (by rw [a3, hw, hz0])
        rw [show off + (m + 2) = off + m + 2 by omega, show m + 2 + 1 = m + 3 by omega, hUU] at hlast
        obtain ⟨bt, hbt⟩ : ∃ bt, bt = X / 9223372036854775808 := ⟨_, rfl⟩
        have eb : (X : Int).fdiv (2 ^ min 63 (kb .u64)) = (bt : Int) := by rw [shr63, hbt]
        rw [← hbt] at hlast hb1
        clear hbt
        have rp2 : InR (p.set (off + m + 2) (X % 4294967296)) := rp.set (Nat.mod_lt _ (by decide))
        have hz2 : ∀ t, t < off ∨ off + m + 3 ≤ t → (p.set (off + m + 2) (X % 4294967296)).getD t 0 = o.getD t 0 := fun t ht => by
          rw [lget_set_ne (by omega)]; exact hz.out t (by omega)
        have hF2 : ∀ b, ∀ j, j ≠ id → (H.upd id b) j = h j := fun b j hj => by rw [upd_ne hj]; exact hF.out j hj
        have hpl : (p.set (off + m + 2) (X % 4294967296)).length = o.length := by rw [List.length_set, hp]
        clear hX
        generalize hP1 : p.set (off + m + 2) (X % 4294967296) = P1 at *
        by_cases hbit : bt = 0
        · have hfin := kn_fin0' hlast hbit hgt.out
          clear hlast
          have hqq : q % 4294967296 = q := Nat.mod_eq_of_lt hq
          clear hgt hle hU hVn hv hz
          subst hbit
          simp (maxSteps := 4000000) (disch := omega) only [go_sem, seval, ↓reduceIte, reduceCtorEq, ← List.map_take, ← List.map_drop, wrap64, wrapu64, wrapu32, ← Int.natCast_add, ← Int.natCast_mul, cast_succ, wrapu32_nat, shr32, reps_wd, map_set_wd, List.length_set, zs_len, hHp, hp, a3, eX, eb, hP1, hqq]
          exact ⟨P1, by rw [hfin.1], by simp, hF2 _, rp2, hpl, hfin.2, hz2⟩
        · have hbit1 : bt = 1 := by omega
          replace hlast := kn_one hlast hbit1
          have hlt : U < q * V := by
            have h1 := wv_lt rp2 off (m + 3)
            omega
          clear hv hz
          replace hgt := Hd.mk hlt
          replace hlast := Hd.mk hlast
          clear hlt
          subst hbit1
          simp (maxSteps := 4000000) (disch := omega) only [go_sem, seval, ↓reduceIte, reduceCtorEq, ← List.map_take, ← List.map_drop, wrap64, wrapu64, wrapu32, ← Int.natCast_add, ← Int.natCast_mul, cast_succ, wrapu32_nat, shr32, reps_wd, map_set_wd, List.length_set, zs_len, hHp, hp, a3, eX, eb, hP1, hm]
          refine W_loopS (fun k sl H2 n => ∃ (i c : Nat) (p2 : List Nat), (∃ g : Nat → AV, sl = [.ref id off (m + 3), .lst mv (v.map wd), g 2, g 3, g 4, .int .i64 (m + 2 : Nat), g 6, .int .u64 q, g 8, g 9, g 10, g 11, g 12, g 13, g 14, .int .u64 c, g 16, g 17, g 18, g 19, g 20, g 21, g 22, g 23, g 24, g 25, g 26, g 27, g 28, g 29, g 30, g 31, g 32, g 33, g 34, g 35, g 36, g 37, g 38, g 39, g 40, g 41, g 42, g 43, g 44, g 45, g 46, g 47, g 48, g 49, g 50, g 51, g 52, g 53, g 54, g 55, g 56, g 57, g 58, g 59, g 60, g 61, g 62, g 63, g 64, g 65, g 66, g 67, g 68, g 69, g 70, g 71, g 72, g 73, g 74, g 75, g 76, g 77, g 78, g 79, g 80, g 81, g 82, g 83, g 84, g 85, g 86, g 87, g 88, g 89, g 90, g 91, g 92, g 93, g 94, g 95, g 96, g 97, g 98, g 99, g 100, g 101, g 102, g 103, g 104, g 105, g 106, g 107, g 108, g 109, g 110, g 111, g 112, g 113, g 114, g 115, g 116, g 117, g 118, g 119, g 120, g 121, g 122, g 123, g 124, g 125, g 126, g 127, g 128, g 129, g 130, g 131, g 132, g 133, .lst mv (v.map wd), .int .i64 (m + 2 : Nat), .int .i64 i, g 137, g 138, g 139, g 140, g 141, g 142, g 143, g 144, g 145, g 146, g 147, g 148, g 149, g 150, g 151, g 152, g 153, g 154, g 155, g 156, g 157, g 158, g 159, g 160, g 161, g 162, g 163, g 164, g 165, g 166, g 167, g 168, g 169]) ∧ n = nx ∧
            H2 id = some ⟨p2.map wd, false, 1, false⟩ ∧ Hd (∀ j, j ≠ id → H2 j = h j) ∧ p2.length = o.length ∧ InR p2 ∧ i + k = m + 2 ∧ c ≤ 1 ∧ Hd (wv p2 off i + c * BB ^ i = wv P1 off i + vp v i) ∧ Hd (∀ t, t < off ∨ off + i ≤ t → p2.getD t 0 = P1.getD t 0)) (m + 2)
            ⟨0, 0, P1, garb rfl, rfl, upd_same, ⟨hF2 _⟩, hpl, rp2, by omega, by omega, ⟨by simp [wv, vp]⟩, ⟨fun _ _ => rfl⟩⟩ ?_
          clear hHp hF eX hbit eb hb1 hc hF2 hz0 bx
          rintro k _ H2 _ ⟨i, c, p2, ⟨g, rfl⟩, rfl, hHp, hF, hp2, rp3, hi, hc, hv, hz⟩
          by_cases hk2 : k = 0
          · obtain rfl : i = m + 2 := by omega
            have hz0 := hz.out (off + m + 2) (.inr (by omega))
            have bx := rp3.get (off + m + 2)
            obtain ⟨w, hw⟩ : ∃ w, w = p2.getD (off + m + 2) 0 + c := ⟨_, rfl⟩
            have hw2 : p2.getD (off + m + 2) 0 + c = w := hw.symm
            have hfin : wv (p2.set (off + m + 2) (w % 4294967296)) off (m + 3) + w / 4294967296 * BB ^ (m + 3) = wv P1 off (m + 3) + V := by
              have h2 := hv.out
              rw [← hV0] at h2
              have h3 := as_last (p := p2) (P := P1) (j := off) (n := m + 2) (c := c) (w := w) (V := V) (by omega) h2 (by rw [a3, hw, hz0])
              rw [a3] at h3
              exact h3
            have rp4 : InR (p2.set (off + m + 2) (w % 4294967296)) := rp3.set (Nat.mod_lt _ (by decide))
            have hback := kn_back (U := U) (V := V) (q := q) (n := m + 3) (by rw [← hlast.out]) hfin (wv_lt rp4 _ _) hle.out (Nat.le_trans (Nat.le_of_lt hVn.out) (Nat.pow_le_pow_right (by decide) (by omega))) hgt.out
            have hres := kn_fin1 hgt.out hle.out hback
            have hz3 : ∀ t, t < off ∨ off + m + 3 ≤ t → (p2.set (off + m + 2) (w % 4294967296)).getD t 0 = o.getD t 0 := fun t ht => by
              rw [lget_set_ne (by omega), hz.out t (by omega), hz2 t (by omega)]
            have hF2 : ∀ b, ∀ j, j ≠ id → (H2.upd id b) j = h j := fun b j hj => by rw [upd_ne hj]; exact hF.out j hj
            have hpl2 : (p2.set (off + m + 2) (w % 4294967296)).length = o.length := by rw [List.length_set, hp2]
            have hq1 := hres.2.2
            have hqq : (q - 1) % 4294967296 = q - 1 := Nat.mod_eq_of_lt (by omega)
            have g4 : (q : Int) - 1 = ((q - 1 : Nat) : Int) := by omega
            have hcm : c % 4294967296 = c := Nat.mod_eq_of_lt (by omega)
            clear hgt hle hU hVn hv hz hw hfin hback hlast hz0
            simp (maxSteps := 4000000) (disch := omega) only [go_sem, seval, ↓reduceIte, reduceCtorEq, ← List.map_take, ← List.map_drop, wrap64, wrapu64, wrapu32, ← Int.natCast_add, ← Int.natCast_mul, cast_succ, wrapu32_nat, shr32, reps_wd, map_set_wd, List.length_set, zs_len, hHp, hp2, a3, hw2, hcm, g4, hqq]
            exact ⟨_, by rw [hres.1], by simp, hF2 _, rp4, hpl2, hres.2.1, hz3⟩
          · have hx := rp3.get (off + i)
            have hy := rv.get i
            have hz0 := hz.out (off + i) (.inr (by omega))
            obtain ⟨s, hs⟩ : ∃ s, s = c + (p2.getD (off + i) 0 + v.getD i 0) := ⟨_, rfl⟩
            have hs2 : c + (p2.getD (off + i) 0 + v.getD i 0) = s := hs.symm
            have stp := as_step (o := P1) (p := p2) (v := v) (j := off) (i := i) (c := c) (s := s) (by omega) hv.out (by rw [hs, hz0]; omega)
            have stz : ∀ t, t < off ∨ off + (i + 1) ≤ t → (p2.set (off + i) (s % 4294967296)).getD t 0 = P1.getD t 0 := fun t ht => by
              rw [lget_set_ne (by omega)]; exact hz.out t (by omega)
            have hF2 : ∀ b, ∀ j, j ≠ id → (H2.upd id b) j = h j := fun b j hj => by rw [upd_ne hj]; exact hF.out j hj
            have hsb : s / 4294967296 ≤ 1 := by omega
            have hsb2 : s < 18446744073709551616 := by omega
            have hs3 : p2.getD (off + i) 0 + v.getD i 0 < 18446744073709551616 := by omega
            clear hgt hle hU hVn hv hz hs hlast hz0
            simp (maxSteps := 4000000) (disch := omega) only [go_sem, seval, ↓reduceIte, reduceCtorEq, ← List.map_take, ← List.map_drop, wrap64, wrapu64, wrapu32, ← Int.natCast_add, ← Int.natCast_mul, cast_succ, wrapu32_nat, shr32, reps_wd, map_set_wd, List.length_set, zs_len, hHp, hp2, hm, hs2]
            exact ⟨k - 1, by omega, i + 1, s / 4294967296, p2.set (off + i) (s % 4294967296), garb rfl, by simp, ⟨hF2 _⟩, by rw [List.length_set, hp2], rp3.set (Nat.mod_lt _ (by decide)), by omega, hsb, ⟨stp⟩, ⟨stz⟩⟩
      · have hx := rp.get (off + i)
        have hy := rv.get i
        have hz0 := hz.out (off + i) (.inr (by omega))
        have hPb := mul_word hq hy
        obtain ⟨M, hM⟩ : ∃ M, M = q * v.getD i 0 := ⟨_, rfl⟩
        have hM2 : q * v.getD i 0 = M := hM.symm
        rw [hM2] at hPb
        have hMc : M + c < 18446744073709551616 := by omega
        have gl := and_low hMc
        obtain ⟨X, hX⟩ : ∃ X : Nat, ((M + c) % 4294967296 ≤ p.getD (off + i) 0 ∧ X = p.getD (off + i) 0 - (M + c) % 4294967296) ∨ (p.getD (off + i) 0 < (M + c) % 4294967296 ∧ X = 18446744073709551616 + p.getD (off + i) 0 - (M + c) % 4294967296) := by
          by_cases h : (M + c) % 4294967296 ≤ p.getD (off + i) 0
          · exact ⟨_, .inl ⟨h, rfl⟩⟩
          · exact ⟨_, .inr ⟨by omega, rfl⟩⟩
        have hw : X % 4294967296 + (M + c) % 4294967296 + 0 = p.getD (off + i) 0 + X / 9223372036854775808 * 4294967296 := by omega
        have hb1 : X / 9223372036854775808 ≤ 1 := by omega
        have eX : IntKind.u64.wrap (((p.getD (off + i) 0 : Nat) : Int) - (((M + c) % 4294967296 : Nat) : Int)) = (X : Int) := by rw [IntKind.wrap_u64]; omega
        have stp := ms_step (o := o) (p := p) (v := v) (j := off) (i := i) (q := q) (c0 := c) (b0 := 0) (b1 := X / 9223372036854775808) (w := X % 4294967296) (x := M + c) (by omega) hv.out (by rw [hM]) (by rw [hw, hz0])
        have stz : ∀ t, t < off ∨ off + (i + 1) ≤ t → (p.set (off + i) (X % 4294967296)).getD t 0 = o.getD t 0 := fun t ht => by
          rw [lget_set_ne (by omega)]; exact hz.out t (by omega)
        have hF2 : ∀ b, ∀ j, j ≠ id → (H.upd id b) j = h j := fun b j hj => by rw [upd_ne hj]; exact hF.out j hj
        have hcb : (M + c) / 4294967296 + X / 9223372036854775808 ≤ 4294967296 := by omega
        have hcb2 : (M + c) / 4294967296 < 4294967296 := by omega
        clear hgt hle hU hVn hv hz hX hw hM hz0
        simp (maxSteps := 4000000) (disch := omega) only [go_sem, seval, ↓reduceIte, reduceCtorEq, ← List.map_take, ← List.map_drop, wrap64, wrapu64, wrapu32, ← Int.natCast_add, ← Int.natCast_mul, cast_succ, wrapu32_nat, shr32, reps_wd, map_set_wd, List.length_set, zs_len, hHp, hp, hm, hM2, gl, eX, shr63]
        exact ⟨k - 1, by omega, i + 1, (M + c) / 4294967296 + X / 9223372036854775808, p.set (off + i) (X % 4294967296), garb rfl, by simp, ⟨hF2 _⟩, by rw [List.length_set, hp], rp.set (Nat.mod_lt _ (by decide)), by omega, hcb, ⟨stp⟩, ⟨stz⟩⟩
  obtain ⟨x, h', n, h1, p, rfl, rfl, h2, h3, h4, h5, h6, h7⟩ := key
  exact ⟨p, h', h1, h2, h3, h4, h5, h6, h7⟩
end Go.Proofs.Ytnpomadbaanpkaa

/- Walks: numbers of binary digits. (Own work of this repo.) -/
namespace Go.Proofs.Ytnpomadbaanpkaa
open Vm
set_option maxRecDepth 10000

def blF : Nat → Nat → Nat
  | 0, _ => 0
  | f + 1, n => if n = 0 then 0 else blF f (n / 2) + 1
theorem blF_eq : ∀ (f n : Nat), n < 2 ^ f → blF f n = bl n
  | 0, n, h => by
    have : n = 0 := by simpa using h
    subst this; rw [bl_zero]; rfl
  | f + 1, n, h => by
    by_cases h0 : n = 0
    · subst h0; rw [bl_zero]; rfl
    · rw [blF, if_neg h0, blF_eq f (n / 2) (by rw [Nat.pow_succ] at h; omega), bl_pos h0]
theorem tab_all : ∀ x : Fin 256, ((((0 :: 1 :: 2 :: 2 :: 3 :: 3 :: 3 :: 3 :: 4 :: 4 :: 4 :: 4 :: 4 :: 4 :: 4 :: 4 :: 5 :: 5 :: 5 :: 5 :: 5 :: 5 :: 5 :: 5 :: 5 :: 5 :: 5 :: 5 :: 5 :: 5 :: 5 :: 5 :: 6 :: 6 :: 6 :: 6 :: 6 :: 6 :: 6 :: 6 :: 6 :: 6 :: 6 :: 6 :: 6 :: 6 :: 6 :: 6 :: 6 :: 6 :: 6 :: 6 :: 6 :: 6 :: 6 :: 6 :: 6 :: 6 :: 6 :: 6 :: 6 :: 6 :: 6 :: 6 :: []) : List UInt8).append (7 :: 7 :: 7 :: 7 :: 7 :: 7 :: 7 :: 7 :: 7 :: 7 :: 7 :: 7 :: 7 :: 7 :: 7 :: 7 :: 7 :: 7 :: 7 :: 7 :: 7 :: 7 :: 7 :: 7 :: 7 :: 7 :: 7 :: 7 :: 7 :: 7 :: 7 :: 7 :: 7 :: 7 :: 7 :: 7 :: 7 :: 7 :: 7 :: 7 :: 7 :: 7 :: 7 :: 7 :: 7 :: 7 :: 7 :: 7 :: 7 :: 7 :: 7 :: 7 :: 7 :: 7 :: 7 :: 7 :: 7 :: 7 :: 7 :: 7 :: 7 :: 7 :: 7 :: 7 :: [])).append (((8 :: 8 :: 8 :: 8 :: 8 :: 8 :: 8 :: 8 :: 8 :: 8 :: 8 :: 8 :: 8 :: 8 :: 8 :: 8 :: 8 :: 8 :: 8 :: 8 :: 8 :: 8 :: 8 :: 8 :: 8 :: 8 :: 8 :: 8 :: 8 :: 8 :: 8 :: 8 :: 8 :: 8 :: 8 :: 8 :: 8 :: 8 :: 8 :: 8 :: 8 :: 8 :: 8 :: 8 :: 8 :: 8 :: 8 :: 8 :: 8 :: 8 :: 8 :: 8 :: 8 :: 8 :: 8 :: 8 :: 8 :: 8 :: 8 :: 8 :: 8 :: 8 :: 8 :: 8 :: []) : List UInt8).append (8 :: 8 :: 8 :: 8 :: 8 :: 8 :: 8 :: 8 :: 8 :: 8 :: 8 :: 8 :: 8 :: 8 :: 8 :: 8 :: 8 :: 8 :: 8 :: 8 :: 8 :: 8 :: 8 :: 8 :: 8 :: 8 :: 8 :: 8 :: 8 :: 8 :: 8 :: 8 :: 8 :: 8 :: 8 :: 8 :: 8 :: 8 :: 8 :: 8 :: 8 :: 8 :: 8 :: 8 :: 8 :: 8 :: 8 :: 8 :: 8 :: 8 :: 8 :: 8 :: 8 :: 8 :: 8 :: 8 :: 8 :: 8 :: 8 :: 8 :: 8 :: 8 :: 8 :: 8 :: [])))[x.val]? = some (UInt8.ofNat (blF 8 x.val)) := by decide +kernel
theorem tab_get {x : Nat} (h : x < 256) : ((((0 :: 1 :: 2 :: 2 :: 3 :: 3 :: 3 :: 3 :: 4 :: 4 :: 4 :: 4 :: 4 :: 4 :: 4 :: 4 :: 5 :: 5 :: 5 :: 5 :: 5 :: 5 :: 5 :: 5 :: 5 :: 5 :: 5 :: 5 :: 5 :: 5 :: 5 :: 5 :: 6 :: 6 :: 6 :: 6 :: 6 :: 6 :: 6 :: 6 :: 6 :: 6 :: 6 :: 6 :: 6 :: 6 :: 6 :: 6 :: 6 :: 6 :: 6 :: 6 :: 6 :: 6 :: 6 :: 6 :: 6 :: 6 :: 6 :: 6 :: 6 :: 6 :: 6 :: 6 :: []) : List UInt8).append (7 :: 7 :: 7 :: 7 :: 7 :: 7 :: 7 :: 7 :: 7 :: 7 :: 7 :: 7 :: 7 :: 7 :: 7 :: 7 :: 7 :: 7 :: 7 :: 7 :: 7 :: 7 :: 7 :: 7 :: 7 :: 7 :: 7 :: 7 :: 7 :: 7 :: 7 :: 7 :: 7 :: 7 :: 7 :: 7 :: 7 :: 7 :: 7 :: 7 :: 7 :: 7 :: 7 :: 7 :: 7 :: 7 :: 7 :: 7 :: 7 :: 7 :: 7 :: 7 :: 7 :: 7 :: 7 :: 7 :: 7 :: 7 :: 7 :: 7 :: 7 :: 7 :: 7 :: 7 :: [])).append (((8 :: 8 :: 8 :: 8 :: 8 :: 8 :: 8 :: 8 :: 8 :: 8 :: 8 :: 8 :: 8 :: 8 :: 8 :: 8 :: 8 :: 8 :: 8 :: 8 :: 8 :: 8 :: 8 :: 8 :: 8 :: 8 :: 8 :: 8 :: 8 :: 8 :: 8 :: 8 :: 8 :: 8 :: 8 :: 8 :: 8 :: 8 :: 8 :: 8 :: 8 :: 8 :: 8 :: 8 :: 8 :: 8 :: 8 :: 8 :: 8 :: 8 :: 8 :: 8 :: 8 :: 8 :: 8 :: 8 :: 8 :: 8 :: 8 :: 8 :: 8 :: 8 :: 8 :: 8 :: []) : List UInt8).append (8 :: 8 :: 8 :: 8 :: 8 :: 8 :: 8 :: 8 :: 8 :: 8 :: 8 :: 8 :: 8 :: 8 :: 8 :: 8 :: 8 :: 8 :: 8 :: 8 :: 8 :: 8 :: 8 :: 8 :: 8 :: 8 :: 8 :: 8 :: 8 :: 8 :: 8 :: 8 :: 8 :: 8 :: 8 :: 8 :: 8 :: 8 :: 8 :: 8 :: 8 :: 8 :: 8 :: 8 :: 8 :: 8 :: 8 :: 8 :: 8 :: 8 :: 8 :: 8 :: 8 :: 8 :: 8 :: 8 :: 8 :: 8 :: 8 :: 8 :: 8 :: 8 :: 8 :: 8 :: [])))[x]? = some (UInt8.ofNat (bl x)) := by
  rw [← blF_eq 8 x h]
  exact tab_all ⟨x, h⟩
theorem tab_nat {x : Nat} (h : x < 256) : (UInt8.ofNat (bl x)).toNat = bl x := by
  have : bl x ≤ 8 := bl_le.2 h
  rw [UInt8.toNat_ofNat', Nat.mod_eq_of_lt (by omega)]
theorem shr16u (n : Nat) : (n : Int).fdiv (2 ^ min 16 (kb .u32)) = ((n / 65536 : Nat) : Int) := by
  rw [show min 16 (kb .u32) = 16 from rfl, Int.fdiv_eq_ediv_of_nonneg _ (by decide)]; rfl
theorem shr8u (n : Nat) : (n : Int).fdiv (2 ^ min 8 (kb .u32)) = ((n / 256 : Nat) : Int) := by
  rw [show min 8 (kb .u32) = 8 from rfl, Int.fdiv_eq_ediv_of_nonneg _ (by decide)]; rfl
theorem wrapu8 {n : Nat} (h : n < 256) : IntKind.u8.wrap (n : Int) = (n : Int) := by rw [IntKind.wrap_u8']; omega
theorem len32_spec (x : Nat) (hx : x < 4294967296) : denP E 91 [.int .u32 x] = some (.ret (.int .i64 (bl x))) := by
  refine denP_eq E91 rfl (by simp [AV.pureL, AV.pure]) ?_
  by_cases h1 : 65536 ≤ x
  · have e1 := bl_shift16 h1
    by_cases h2 : 256 ≤ x / 65536
    · have e2 := bl_shift8 h2
      have h3 : x / 65536 / 256 < 256 := by omega
      have hb := bl_le.2 (show x / 65536 / 256 < 2 ^ 8 from h3)
      have hg := tab_get h3
      have hn := tab_nat h3
      have e3 : (24 : Int) + ((bl (x / 65536 / 256) : Nat) : Int) = ((bl x : Nat) : Int) := by omega
      have h1' : (65536 : Int) ≤ (x : Int) := by omega
      have h2' : (256 : Int) ≤ ((x / 65536 : Nat) : Int) := by omega
      simp (maxSteps := 4000000) (disch := omega) only [go_sem, seval, ↓reduceIte, reduceCtorEq, ← List.map_take, ← List.map_drop, wrap64, wrapu64, wrapu32, Int.zero_add, Try.f91, shr16u, shr8u, wrapu8, hg, hn, e3]
    · have h3 : x / 65536 < 256 := by omega
      have hb := bl_le.2 (show x / 65536 < 2 ^ 8 from h3)
      have hg := tab_get h3
      have hn := tab_nat h3
      have e3 : (16 : Int) + ((bl (x / 65536) : Nat) : Int) = ((bl x : Nat) : Int) := by omega
      simp (maxSteps := 4000000) (disch := omega) only [go_sem, seval, ↓reduceIte, reduceCtorEq, ← List.map_take, ← List.map_drop, wrap64, wrapu64, wrapu32, Int.zero_add, Try.f91, shr16u, shr8u, wrapu8, hg, hn, e3]
  · by_cases h2 : 256 ≤ x
    · have e2 := bl_shift8 h2
      have h3 : x / 256 < 256 := by omega
      have hb := bl_le.2 (show x / 256 < 2 ^ 8 from h3)
      have hg := tab_get h3
      have hn := tab_nat h3
      have e3 : (8 : Int) + ((bl (x / 256) : Nat) : Int) = ((bl x : Nat) : Int) := by omega
      simp (maxSteps := 4000000) (disch := omega) only [go_sem, seval, ↓reduceIte, reduceCtorEq, ← List.map_take, ← List.map_drop, wrap64, wrapu64, wrapu32, Int.zero_add, Try.f91, shr16u, shr8u, wrapu8, hg, hn, e3]
    · have h3 : x < 256 := by omega
      have hb := bl_le.2 (show x < 2 ^ 8 from h3)
      have hg := tab_get h3
      have hn := tab_nat h3
      simp (maxSteps := 4000000) (disch := omega) only [go_sem, seval, ↓reduceIte, reduceCtorEq, ← List.map_take, ← List.map_drop, wrap64, wrapu64, wrapu32, Int.zero_add, Try.f91, shr16u, shr8u, wrapu8, hg, hn]
theorem lz32_spec (x : Nat) (hx : x < 4294967296) : denP E 103 [.int .u32 x] = some (.ret (.int .i64 (32 - (bl x : Int)))) := by
  refine denP_eq E103 rfl (by simp [AV.pureL, AV.pure]) ?_
  have h := len32_spec x hx
  have hb := bl_le.2 (show x < 2 ^ 32 from hx)
  simp (maxSteps := 4000000) (disch := omega) only [go_sem, seval, ↓reduceIte, reduceCtorEq, ← List.map_take, ← List.map_drop, wrap64, wrapu64, wrapu32, Try.f103, h]
theorem dg_top {z : Int} (h : z ≠ 0) : (dg z).getD ((dg z).length - 1) 0 ≠ 0 := by
  rcases (dg_norm z).2 with h1 | h1
  · exact absurd (dg_nil.1 h1) h
  · exact h1
theorem bl_dg {z : Int} (h : z ≠ 0) : bl z.natAbs = 32 * ((dg z).length - 1) + bl ((dg z).getD ((dg z).length - 1) 0) := by
  have := bl_val (dg_inR z) (dg_top h)
  rwa [val_dg] at this
theorem size_spec (m : Bool) (z : Int) (hz : (dg z).length < 2 ^ 40) : denP E 77 [.lst m ((dg z).map wd)] = some (.ret (.int .i64 (bl z.natAbs))) := by
  refine denP_eq E77 rfl (by simp [AV.pureL, AV.pure, pure_wd]) ?_
  by_cases h0 : z = 0
  · subst h0
    have e : bl (Int.natAbs 0) = 0 := bl_zero
    have e2 : (dg 0).length = 0 := dg_len0.2 rfl
    rw [e]
    simp (maxSteps := 4000000) (disch := omega) only [go_sem, seval, ↓reduceIte, reduceCtorEq, ← List.map_take, ← List.map_drop, wrap64, wrapu64, wrapu32, Try.f77, e2]
  · have hl := dg_pos.2 h0
    have e1 : ((dg z).length : Int) - 1 = (((dg z).length - 1 : Nat) : Int) := by omega
    have hx := (dg_inR z).get ((dg z).length - 1)
    have h := len32_spec _ hx
    have hb := bl_le.2 (show (dg z).getD ((dg z).length - 1) 0 < 2 ^ 32 from hx)
    have e2 : 32 * (((dg z).length - 1 : Nat) : Int) + ((bl ((dg z).getD ((dg z).length - 1) 0) : Nat) : Int) = ((bl z.natAbs : Nat) : Int) := by
      have := bl_dg h0; omega
    simp (maxSteps := 4000000) (disch := omega) only [go_sem, seval, ↓reduceIte, reduceCtorEq, ← List.map_take, ← List.map_drop, wrap64, wrapu64, wrapu32, Try.f77, e1, h, e2]
theorem bits_spec (m : Bool) (z : Int) (hz : (dg z).length ≤ 4096) : denP E 55 [I m z] = some (.ret (.int .i64 (bl z.natAbs))) := by
  refine denP_eq E55 rfl (by simp [AV.pureL, AV.pure, pure_wd]) ?_
  have h1 := valid_I m z hz
  have h2 := size_spec m z (by omega)
  simp (maxSteps := 4000000) (disch := omega) only [go_sem, seval, ↓reduceIte, reduceCtorEq, ← List.map_take, ← List.map_drop, wrap64, wrapu64, wrapu32, Try.f55, h1, h2]
theorem rBits_spec (m : Bool) (z : Int) (hz : (dg z).length < 2 ^ 40) : denP E 76 [I m z] = some (.ret (.int .i64 (bl z.natAbs))) := by
  refine denP_eq E76 rfl (by simp [AV.pureL, AV.pure, pure_wd]) ?_
  by_cases h0 : z = 0
  · subst h0
    have e : bl (Int.natAbs 0) = 0 := bl_zero
    have e2 : (dg 0).length = 0 := dg_len0.2 rfl
    rw [e]
    simp (maxSteps := 4000000) (disch := omega) only [go_sem, seval, ↓reduceIte, reduceCtorEq, ← List.map_take, ← List.map_drop, wrap64, wrapu64, wrapu32, Try.f76, e2]
  · have hl := dg_pos.2 h0
    have e1 : ((dg z).length : Int) - 1 = (((dg z).length - 1 : Nat) : Int) := by omega
    have hx := (dg_inR z).get ((dg z).length - 1)
    have hd := bl_dg h0
    simp (maxSteps := 4000000) (disch := omega) only [go_sem, seval, ↓reduceIte, reduceCtorEq, ← List.map_take, ← List.map_drop, wrap64, wrapu64, wrapu32, Try.f76, e1]
    generalize (dg z).getD ((dg z).length - 1) 0 = top at *
    have hb := bl_le.2 (show top < 2 ^ 32 from hx)
    refine W_loopS (fun k sl H nx => ∃ (c : Nat), (∃ g : Nat → AV, sl = [g 0, g 1, g 2, .int .i64 (dg z).length, .int .i64 c, .int .u32 k, g 6, g 7, g 8, g 9, g 10, g 11, g 12, g 13, g 14, g 15, g 16, g 17, g 18, g 19, g 20, g 21, g 22, g 23, g 24, g 25, g 26, g 27]) ∧ k < 4294967296 ∧ c + bl k = bl top) top ⟨0, garb rfl, hx, by omega⟩ ?_
    rintro k _ H nx ⟨c, ⟨g, rfl⟩, hk, hc⟩
    by_cases hk0 : k = 0
    · subst hk0
      rw [bl_zero] at hc
      have e2 : 32 * (((dg z).length - 1 : Nat) : Int) + (c : Int) = ((bl z.natAbs : Nat) : Int) := by omega
      simp (maxSteps := 4000000) (disch := omega) only [go_sem, seval, ↓reduceIte, reduceCtorEq, ← List.map_take, ← List.map_drop, wrap64, wrapu64, wrapu32, e1, e2]
    · have e2 : IntKind.u32.wrap ((k : Int).tdiv 2) = ((k / 2 : Nat) : Int) := by
        rw [IntKind.wrap_u32', Int.tdiv_eq_ediv_of_nonneg (by omega)]; omega
      rw [bl_pos hk0] at hc
      simp (maxSteps := 4000000) (disch := omega) only [go_sem, seval, ↓reduceIte, reduceCtorEq, ← List.map_take, ← List.map_drop, wrap64, wrapu64, wrapu32, e1, e2, cast_succ]
      exact ⟨k / 2, by omega, c + 1, garb rfl, by omega, by omega⟩
end Go.Proofs.Ytnpomadbaanpkaa

/- Walks: dividing rows of words. (Own work of this repo.) -/
namespace Go.Proofs.Ytnpomadbaanpkaa
open Vm
set_option maxRecDepth 100000

theorem div_word {T b r x : Nat} (hr : r < b) (hb : b < 4294967296) (hx : x < 4294967296) (hT : T = x + r * 4294967296) : T / b < 4294967296 := by
  rw [Nat.div_lt_iff_lt_mul (by omega), hT, Nat.mul_comm]
  have : (r + 1) * 4294967296 ≤ b * 4294967296 := Nat.mul_le_mul_right _ hr
  omega
set_option maxHeartbeats 1000000 in
theorem over_spec (m : Bool) (a : List Nat) (b : Nat) (ha : InR a) (la : a.length < 2 ^ 40) (hb : 0 < b) (hb2 : b < 4294967296) :
    denP E 72 [.lst m (a.map wd), .int .u32 b] = some (.ret (.tup [.lst false ((dig (val a / b)).map wd), .int .u32 (val a % b : Nat)])) := by
  refine denP_eq E72 rfl (by simp [AV.pureL, AV.pure, pure_wd]) ?_
  simp (maxSteps := 4000000) (disch := omega) only [go_sem, seval, ↓reduceIte, reduceCtorEq, ← List.map_take, ← List.map_drop, wrap64, wrapu64, wrapu32, ← Int.natCast_add, ← Int.natCast_mul, cast_succ, wrapu32_nat, shr32, reps_wd, map_set_wd, List.length_set, zs_len, Try.f72]
  refine W_loopS (fun k sl H nx => ∃ (r : Nat) (o : List Nat), (∃ g : Nat → AV, sl = [.lst m (a.map wd), .int .u32 b, g 2, g 3, g 4, g 5, .ref 0 0 a.length, .int .u64 r, .int .i64 ((k : Int) - 1), g 9, g 10, g 11, g 12, g 13, g 14, g 15, g 16, g 17, g 18, g 19, g 20, g 21, g 22, g 23, g 24, g 25, g 26, g 27, g 28, g 29, g 30, g 31, g 32, g 33, g 34, g 35, g 36, g 37, g 38, g 39, g 40, g 41, g 42]) ∧ nx = 1 ∧
    H 0 = some ⟨o.map wd, false, 1, false⟩ ∧ o.length = a.length ∧ InR o ∧ k ≤ a.length ∧ r < b ∧ Hd (wv o k (a.length - k) * b + r = wv a k (a.length - k))) a.length
    ⟨0, _, garb rfl, rfl, rfl, zs_len _, zs_inR _, by omega, hb, ⟨by rw [Nat.sub_self]; simp [wv]⟩⟩ ?_
  rintro k _ H _ ⟨r, o, ⟨g, rfl⟩, rfl, hH, ho, hr, hk, hrb, hv⟩
  by_cases hk0 : k = 0
  · subst hk0
    have h1 := hv.out
    rw [Nat.sub_zero, wv_zero, wv_zero, ← ho, show vp o o.length = val o from rfl, ho, show vp a a.length = val a from rfl] at h1
    have hq : val a / b = val o := by
      rw [← h1, Nat.mul_comm, Nat.mul_add_div hb, Nat.div_eq_of_lt hrb, Nat.add_zero]
    have hm : val a % b = r := by rw [← h1, Nat.mul_comm, Nat.mul_add_mod, Nat.mod_eq_of_lt hrb]
    have ht := trim_spec false o hr (by omega)
    have hrr : r % 4294967296 = r := Nat.mod_eq_of_lt (by omega)
    clear hv h1
    simp (maxSteps := 4000000) (disch := omega) only [go_sem, seval, ↓reduceIte, reduceCtorEq, ← List.map_take, ← List.map_drop, wrap64, wrapu64, wrapu32, ← Int.natCast_add, ← Int.natCast_mul, cast_succ, wrapu32_nat, shr32, reps_wd, map_set_wd, List.length_set, zs_len, hH, ho, List.take_of_length_le, ht, hq, hm, hrr]
  · have e1 : (k : Int) - 1 = ((k - 1 : Nat) : Int) := by omega
    obtain ⟨j, rfl⟩ : ∃ j, k = j + 1 := ⟨k - 1, by omega⟩
    rw [Nat.add_sub_cancel] at e1
    have hx := ha.get j
    have e2 := shl32 (show r < 4294967296 by omega)
    have e3 := high_or hx (show r < 4294967296 by omega)
    obtain ⟨T, hT⟩ : ∃ T, T = a.getD j 0 + r * 4294967296 := ⟨_, rfl⟩
    rw [← hT] at e3
    have hTb : T < 18446744073709551616 := by omega
    have hTq := div_word hrb hb2 hx hT
    have st := short_step (o := o) (a := a) (n := a.length - (j + 1)) (by omega) hrb hT hv.out
    rw [show a.length - (j + 1) + 1 = a.length - j by omega] at st
    obtain ⟨R, hR⟩ : ∃ R, R = r * 4294967296 := ⟨_, rfl⟩
    rw [← hR] at e2 e3
    have hTm : T % b < b := Nat.mod_lt _ hb
    have d1 : (T : Int).tdiv (b : Int) = ((T / b : Nat) : Int) := rfl
    have d2 : (T : Int).tmod (b : Int) = ((T % b : Nat) : Int) := rfl
    clear hv hT hR
    generalize hqe : T / b = q at *
    generalize T % b = r' at *
    have hqq : q % 4294967296 = q := Nat.mod_eq_of_lt hTq
    clear hqe
    simp (maxSteps := 4000000) (disch := omega) only [go_sem, seval, ↓reduceIte, reduceCtorEq, ← List.map_take, ← List.map_drop, wrap64, wrapu64, wrapu32, ← Int.natCast_add, ← Int.natCast_mul, cast_succ, wrapu32_nat, shr32, reps_wd, map_set_wd, List.length_set, zs_len, hH, ho, e1, e2, e3, d1, d2, hqq]
    exact ⟨j, by omega, r', o.set j q, garb rfl, rfl, by rw [List.length_set, ho], hr.set hTq, by omega, hTm, ⟨st⟩⟩
end Go.Proofs.Ytnpomadbaanpkaa

/- Walks: dividing rows of words by two words or more. (Own work of this repo.) -/
namespace Go.Proofs.Ytnpomadbaanpkaa
open Vm
set_option maxRecDepth 100000

theorem top_pow {b : List Nat} (hb : Norm b) {n : Nat} (hn : b.length = n + 1) : ∃ K, K = 32 - bl (b.getD n 0) ∧ K < 32 ∧ bl (b.getD n 0) ≤ 32 ∧ BB ^ n * 2147483648 ≤ val b * 2 ^ K ∧ val b * 2 ^ K < BB ^ (n + 1) := by
  have hne : b ≠ [] := fun e => by rw [e] at hn; simp at hn
  have h0 : b.getD n 0 ≠ 0 := by
    have := hb.2.resolve_left hne
    rwa [hn, Nat.add_sub_cancel] at this
  have hx := hb.1.get n
  have h32 : bl (b.getD n 0) ≤ 32 := bl_le.2 hx
  have h1 := bl_nz h0
  have h2 := bl_ge h0
  have h3 := bl_lt (b.getD n 0)
  have h4 := vp_lt hb.1 n
  have e : val b = vp b n + b.getD n 0 * BB ^ n := by rw [val, hn, vp]
  refine ⟨_, rfl, by omega, h32, ?_, ?_⟩
  · have h5 : 2 ^ (bl (b.getD n 0) - 1) * 2 ^ (32 - bl (b.getD n 0)) = 2147483648 := by
      rw [← Nat.pow_add, show bl (b.getD n 0) - 1 + (32 - bl (b.getD n 0)) = 31 by omega]
    have h6 := Nat.mul_le_mul_right (2 ^ (32 - bl (b.getD n 0))) h2
    rw [h5] at h6
    have h7 := Nat.mul_le_mul_left (BB ^ n) h6
    refine Nat.le_trans h7 ?_
    rw [e, Nat.add_mul, ← Nat.mul_assoc, Nat.mul_comm (BB ^ n)]
    exact Nat.le_add_left _ _
  · have h5 : 2 ^ (bl (b.getD n 0)) * 2 ^ (32 - bl (b.getD n 0)) = 4294967296 := by
      rw [← Nat.pow_add, show bl (b.getD n 0) + (32 - bl (b.getD n 0)) = 32 by omega]
    have h6 : val b < 2 ^ bl (b.getD n 0) * BB ^ n := by
      have : (b.getD n 0 + 1) * BB ^ n ≤ 2 ^ bl (b.getD n 0) * BB ^ n := Nat.mul_le_mul_right _ h3
      rw [Nat.add_mul] at this
      omega
    have h7 := Nat.mul_lt_mul_of_pos_right h6 (show 0 < 2 ^ (32 - bl (b.getD n 0)) from Nat.pow_pos (by decide))
    rw [Nat.mul_assoc, Nat.mul_comm (BB ^ n), ← Nat.mul_assoc, h5] at h7
    rw [Nat.pow_succ, Nat.mul_comm]
    rwa [Nat.mul_comm, Nat.mul_comm 4294967296] at h7
theorem dig_eq_len {N k : Nat} (h1 : BB ^ k ≤ N) (h2 : N < BB ^ (k + 1)) : (dig N).length = k + 1 := by
  have h3 := dig_len.2 h2
  rcases Nat.lt_or_ge (dig N).length (k + 1) with h | h
  · have := dig_len.1 (show (dig N).length ≤ k by omega)
    omega
  · omega
/-- The start of a long division. -/
theorem kn_start {a b K n la : Nat} (ha : a < BB ^ la) (hb : BB ^ n * 2147483648 ≤ b * 2 ^ K) (hK : K < 32) (hn : n ≤ la) : a * 2 ^ K < b * 2 ^ K * BB ^ (la - n) := by
  have h1 : BB ^ n * 2147483648 * BB ^ (la - n) ≤ b * 2 ^ K * BB ^ (la - n) := Nat.mul_le_mul_right _ hb
  have h2 : BB ^ n * 2147483648 * BB ^ (la - n) = BB ^ la * 2147483648 := by
    rw [Nat.mul_assoc, Nat.mul_comm 2147483648, ← Nat.mul_assoc, ← Nat.pow_add, show n + (la - n) = la by omega]
  have h3 : a * 2 ^ K < BB ^ la * 2 ^ K := Nat.mul_lt_mul_of_pos_right ha (Nat.pow_pos (by decide))
  have h4 : BB ^ la * 2 ^ K ≤ BB ^ la * 2147483648 := Nat.mul_le_mul_left _ (pow_lt32 hK)
  omega
theorem div_shift {a b K q r : Nat} (hb : 0 < b) (h : r + q * (b * 2 ^ K) = a * 2 ^ K) (hr : r < b * 2 ^ K) : q = a / b ∧ r / 2 ^ K = a % b := by
  have hp : 0 < 2 ^ K := Nat.pow_pos (by decide)
  have h1 : q = a * 2 ^ K / (b * 2 ^ K) := by
    rw [← h, Nat.add_mul_div_right _ _ (Nat.mul_pos hb hp), Nat.div_eq_of_lt hr, Nat.zero_add]
  have h2 : r = a * 2 ^ K % (b * 2 ^ K) := by
    rw [← h, Nat.add_mul_mod_self_right, Nat.mod_eq_of_lt hr]
  constructor
  · rw [h1, Nat.mul_div_mul_right _ _ hp]
  · rw [h2, Nat.mul_mod_mul_right, Nat.mul_div_cancel _ hp]
theorem inR_pad {l : List Nat} (h : InR l) (n : Nat) : InR (l ++ zs n) := fun x hx => by
  rcases List.mem_append.1 hx with h1 | h1
  · exact h x h1
  · exact zs_inR n x h1
theorem val_pad (l : List Nat) (n : Nat) : val (l ++ zs n) = val l := by
  have h1 := val_of_zero (o := l ++ zs n) (m := l.length) (fun i hi => by
    rw [List.getD_eq_getElem?_getD, List.getElem?_append_right hi, ← List.getD_eq_getElem?_getD, zs_get])
  rw [h1, val]
  exact vp_congr _ fun i hi => by rw [List.getD_eq_getElem?_getD, List.getD_eq_getElem?_getD, List.getElem?_append_left hi]
theorem wd_zero : AV.int .u32 0 = wd 0 := rfl
set_option maxHeartbeats 4000000 in
theorem divide_spec (ma : Bool) (a : List Nat) (mb : Bool) (b : List Nat) (ha : Norm a) (hb : Norm b) (hb0 : b ≠ []) (la : a.length < 2 ^ 36) (lb : b.length < 2 ^ 36) (hna : ma = true → a = []) :
    ∃ m : Bool × Bool, denP E 96 [.lst ma (a.map wd), .lst mb (b.map wd)] = some (.ret (.tup [.lst m.1 ((dig (val a / val b)).map wd), .lst m.2 ((dig (val a % val b)).map wd)])) ∧ (m.1 = true → val a / val b = 0) ∧ (m.2 = true → val a % val b = 0) := by
  refine denP_ex E96 rfl (by simp [AV.pureL, AV.pure, pure_wd]) ?_
  have hpos := norm_pos hb hb0
  have hc := compare_spec ma a mb b ha hb (by omega) (by omega)
  by_cases hlt : val a < val b
  · rw [cmpN, if_pos hlt] at hc
    rw [Nat.div_eq_of_lt hlt, Nat.mod_eq_of_lt hlt, dig_zero, dig_val ha]
    cases ma with
    | true =>
      obtain rfl := hna rfl
      simp only [List.map_nil] at hc
      simp (maxSteps := 4000000) (disch := omega) only [go_sem, seval, ↓reduceIte, reduceCtorEq, ← List.map_take, ← List.map_drop, wrap64, wrapu64, wrapu32, ← Int.natCast_add, ← Int.natCast_mul, cast_succ, wrapu32_nat, shr32, reps_wd, map_set_wd, List.length_set, zs_len, Try.f96, hc, clone_nil, List.map_nil]
      exact ⟨(true, true), rfl, by simp, by simp [val_nil]⟩
    | false =>
      by_cases h0 : a.length = 0
      · obtain rfl := List.length_eq_zero_iff.1 h0
        simp only [List.map_nil] at hc
        simp (maxSteps := 4000000) (disch := omega) only [go_sem, seval, ↓reduceIte, reduceCtorEq, ← List.map_take, ← List.map_drop, wrap64, wrapu64, wrapu32, ← Int.natCast_add, ← Int.natCast_mul, cast_succ, wrapu32_nat, shr32, reps_wd, map_set_wd, List.length_set, zs_len, Try.f96, hc, clone_empty, List.map_nil, refP_zero]
        exact ⟨(true, false), rfl, by simp, by simp⟩
      · have hcl := clone_ne a (by omega) (by omega)
        simp (maxSteps := 4000000) (disch := omega) only [go_sem, seval, ↓reduceIte, reduceCtorEq, ← List.map_take, ← List.map_drop, wrap64, wrapu64, wrapu32, ← Int.natCast_add, ← Int.natCast_mul, cast_succ, wrapu32_nat, shr32, reps_wd, map_set_wd, List.length_set, zs_len, Try.f96, hc, hcl, List.map_nil, List.take_of_length_le]
        exact ⟨(true, false), rfl, by simp, by simp⟩
  · have hcn : ¬ cmpN (val a) (val b) < 0 := by unfold cmpN; rw [if_neg hlt]; split <;> omega
    generalize cmpN (val a) (val b) = cv at *
    by_cases hb1 : b.length = 1
    · have hov := over_spec ma a (b.getD 0 0) ha.1 (by omega) (by
        have := hb.2.resolve_left hb0
        rw [hb1] at this; simp only [Nat.sub_self] at this; omega) (hb.1.get 0)
      have hvb : val b = b.getD 0 0 := by rw [val, hb1, vp, vp]; simp
      rw [← hvb] at hov
      have hmb : val a % val b < 4294967296 := by
        have := Nat.mod_lt (val a) hpos
        have := hb.1.get 0
        omega
      have hcell : b.getD 0 0 = val b := hvb.symm
      have ht := trim_spec false [val a % val b] (fun x hx => by simp at hx; subst hx; exact hmb) (by simp)
      rw [show val [val a % val b] = val a % val b by rw [val_cons, val_nil, Nat.mul_zero, Nat.add_zero]] at ht
      simp only [List.map_cons, List.map_nil, wd] at ht
      clear hvb
      simp (maxSteps := 4000000) (disch := omega) only [go_sem, seval, ↓reduceIte, reduceCtorEq, ← List.map_take, ← List.map_drop, wrap64, wrapu64, wrapu32, ← Int.natCast_add, ← Int.natCast_mul, cast_succ, wrapu32_nat, shr32, reps_wd, map_set_wd, List.length_set, zs_len, Try.f96, hc, hb1, hcell, hov, reps, fillAll, refP, elems, List.headD, ht]
      exact ⟨(false, false), by simp, by simp, by simp⟩
    · obtain ⟨m, hm⟩ : ∃ m, b.length = m + 1 + 1 := ⟨b.length - 2, by have := List.length_pos_iff.2 hb0; omega⟩
      obtain ⟨K, hK, hK32, hbl, hlo, hhi⟩ := top_pow hb hm
      have hlz := lz32_spec (b.getD (m + 1) 0) (hb.1.get _)
      have eK : (32 : Int) - (bl (b.getD (m + 1) 0) : Int) = (K : Int) := by omega
      rw [eK] at hlz
      have hle : val b ≤ val a := by omega
      have hab : b.length ≤ a.length := by
        rcases Nat.lt_or_ge a.length b.length with h | h
        · have := val_less_len ha.1 hb h; omega
        · exact h
      have hl1 := left_spec mb b K hb.1 (by omega) (by omega)
      have hl2 := left_spec ma a K ha.1 (by omega) (by omega)
      have hst := kn_start (n := m + 1) (la := a.length) (val_lt ha.1) hlo hK32 (by omega)
      have e2 : (2 : Nat) ^ K ≤ 2147483648 := pow_lt32 hK32
      have hV : ∃ V, V = val b * 2 ^ K := ⟨_, rfl⟩
      obtain ⟨V, hV⟩ := hV
      obtain ⟨X, hX⟩ : ∃ X, X = val a * 2 ^ K := ⟨_, rfl⟩
      have hfin : ∀ q r, r + q * V = X → r < V → q = val a / val b ∧ r / 2 ^ K = val a % val b := fun q r h1 h2 => by
        rw [hV, hX] at h1; rw [hV] at h2; exact div_shift hpos h1 h2
      rw [← hV] at hl1 hst hlo hhi
      rw [← hX] at hl2 hst
      have hVl : (dig V).length = m + 1 + 1 := dig_eq_len (Nat.le_trans (Nat.le_mul_of_pos_right _ (by decide)) hlo) hhi
      have hXl1 : (dig X).length ≤ a.length + 1 := by
        rw [dig_len]
        have h1 : val a * 2 ^ K < BB ^ a.length * 4294967296 := by
          have h3 := Nat.mul_le_mul_left (BB ^ a.length) (show (2 : Nat) ^ K ≤ 4294967296 by omega)
          have h4 : val a * 2 ^ K < BB ^ a.length * 2 ^ K := Nat.mul_lt_mul_of_pos_right (val_lt ha.1) (Nat.pow_pos (by decide))
          omega
        rw [hX, Nat.pow_succ]; exact h1
      have hXl2 : a.length ≤ (dig X).length := by
        have h1 : (dig (val a)).length ≤ (dig X).length := dig_mono (by rw [hX]; exact Nat.le_mul_of_pos_right _ (Nat.pow_pos (by decide)))
        rwa [dig_val ha] at h1
      have hv1 : 1 ≤ (dig V).getD (m + 1) 0 := by
        have h1 := (dig_norm V).2.resolve_left (fun e => by rw [e] at hVl; simp at hVl)
        rw [hVl, Nat.add_sub_cancel] at h1; omega
      have hb1' : ((m + 1 + 1 : Nat) : Int) - 1 = ((m + 1 : Nat) : Int) := by omega
      obtain ⟨L, hL⟩ : ∃ L, a.length = m + 1 + L := ⟨a.length - (m + 1), by omega⟩
      have hL0 : 0 < L := by omega
      rw [show a.length - (m + 1) = L by omega] at hst
      have eL : ((m + 1 + L + 1 : Nat) : Int) - ((m + 1 + 1 : Nat) : Int) = ((L : Nat) : Int) := by omega
      obtain ⟨xl, hxl⟩ : ∃ xl, xl = (dig X).length := ⟨_, rfl⟩
      have hcl := clone_ne (dig X) (by omega) (by omega)
      rw [← hxl] at hcl hXl1 hXl2
      have hxl' : (dig X).length = xl := hxl.symm
      have hpad : List.map wd (dig X) ++ [AV.int .u32 0, AV.int .u32 0] = List.map wd (dig X ++ zs 2) := by
        rw [List.map_append]; rfl
      have hgK := bl_le.2 (show b.getD (m + 1) 0 < 2 ^ 32 from hb.1.get _)
      replace hfin := Hd.mk hfin
      replace hst := Hd.mk hst
      replace hlo := Hd.mk hlo
      replace hhi := Hd.mk hhi
      clear hV hX hxl hK eK hbl hpos hle
      simp (maxSteps := 4000000) (disch := omega) only [go_sem, seval, ↓reduceIte, reduceCtorEq, ← List.map_take, ← List.map_drop, wrap64, wrapu64, wrapu32, ← Int.natCast_add, ← Int.natCast_mul, cast_succ, wrapu32_nat, shr32, reps_wd, map_set_wd, List.length_set, zs_len, Try.f96, hc, hm, hb1', hlz, hl1, hl2, hcl, reps, fillAll, appendEff, srcCells, List.headD, cutBounds, hxl', hL, hVl, eL, hpad, Nat.sub_zero]
      refine W_loopS (fun k sl H nx => ∃ (o out : List Nat), (∃ g : Nat → AV, sl = [g 0, g 1, g 2, g 3, g 4, g 5, g 6, g 7, .int .i64 K, .lst false ((dig V).map wd), .ref 3 0 (m + 1 + L + 1), .int .i64 (m + 1 + 1 : Nat), .ref 4 0 L, .int .i64 ((k : Int) - 1), g 14, g 15, g 16, g 17, g 18, g 19, g 20, g 21, g 22, g 23, g 24, g 25, g 26, g 27, g 28, g 29, g 30, g 31, g 32, g 33, g 34, g 35, g 36, g 37, g 38, g 39, g 40, g 41, g 42, g 43, g 44, g 45, g 46, g 47, g 48, g 49, g 50, g 51, g 52, g 53, g 54, g 55, g 56, g 57, g 58, g 59, g 60, g 61, g 62, g 63, g 64, g 65, g 66, g 67, g 68, g 69, g 70, g 71, g 72, g 73, g 74, g 75, g 76, g 77, g 78, g 79, g 80, g 81, g 82, g 83, g 84, g 85, g 86, g 87, g 88, g 89, g 90, g 91, g 92]) ∧ nx = 5 ∧
        H 3 = some ⟨o.map wd, false, 1, false⟩ ∧ H 4 = some ⟨out.map wd, false, 1, false⟩ ∧ o.length = xl + 2 ∧ out.length = L ∧ InR o ∧ InR out ∧ k ≤ L ∧ Hd (val o + val out * V = X) ∧ Hd (val o < V * BB ^ k) ∧ Hd (∀ i, i < k → out.getD i 0 = 0)) L
        ⟨dig X ++ zs 2, zs L, garb rfl, rfl, rfl, rfl, by rw [List.length_append, hxl', zs_len], zs_len _, inR_pad (dig_inR X) 2, zs_inR L, by omega, ⟨by rw [val_pad, val_dig, show val (zs L) = 0 from zs_vp _ _, Nat.zero_mul, Nat.add_zero]⟩, ⟨by rw [val_pad, val_dig]; exact hst.out⟩, ⟨fun i _ => zs_get L i⟩⟩ ?_
      clear hl1 hl2 hcl hlz hpad hst eL hb1' hc hcn hgK
      rintro k _ H _ ⟨o, out, ⟨g, rfl⟩, rfl, h3, h4, ol, outl, ro, rout, hk, hv, hb', hz⟩
      by_cases hk0 : k = 0
      · subst hk0
        have hres := hfin.out _ _ hv.out (by have := hb'.out; rwa [Nat.pow_zero, Nat.mul_one] at this)
        have hltop : val o < BB ^ (m + 1 + L + 1) := by
          have h1 := hb'.out
          rw [Nat.pow_zero, Nat.mul_one] at h1
          refine Nat.lt_trans h1 (Nat.lt_of_lt_of_le hhi.out (Nat.pow_le_pow_right (by decide) (by omega)))
        have hvt : val (o.take (m + 1 + L + 1)) = val o := by rw [vp_take (by omega), vp_val hltop]
        have ht1 := trim_spec false (o.take (m + 1 + L + 1)) (ro.take _) (by rw [List.length_take]; omega)
        rw [hvt] at ht1
        have ht2 := trim_spec false out rout (by omega)
        have hol : (dig (val o)).length ≤ m + 1 + L + 1 := dig_len.2 hltop
        have hr := right_spec false (dig (val o)) K (dig_norm _) (by omega) (by omega)
        rw [val_dig, hres.2] at hr
        rw [hres.1] at ht2
        have hmz : (dig (val o)).length ≤ K / 32 → val a % val b = 0 := fun h => by
          have : (dig (val o)).length = 0 := by omega
          have h0 := dig_nil.1 (List.length_eq_zero_iff.1 this)
          rw [← hres.2, h0, Nat.zero_div]
        clear hv hb' hz hres hvt hfin hltop hhi hlo
        simp (maxSteps := 4000000) (disch := omega) only [go_sem, seval, ↓reduceIte, reduceCtorEq, ← List.map_take, ← List.map_drop, wrap64, wrapu64, wrapu32, ← Int.natCast_add, ← Int.natCast_mul, cast_succ, wrapu32_nat, shr32, reps_wd, map_set_wd, List.length_set, zs_len, h3, h4, ol, outl, List.take_of_length_le, ht1, ht2, hr]
        exact ⟨(false, decide ((dig (val o)).length ≤ K / 32)), rfl, by simp, fun h => hmz (of_decide_eq_true h)⟩
      · obtain ⟨j, rfl⟩ : ∃ j, k = j + 1 := ⟨k - 1, by omega⟩
        have e1 : ((j + 1 : Nat) : Int) - 1 = (j : Int) := by omega
        have hVn : V < BB ^ (m + 2) := hhi.out
        have hwin := kn_window (n := m + 2) (j := j) hVn hb'.out
        have hdg := digit_open (h := H) 3 j o (dig V) false 5 m h3 ro (dig_inR V) hVl hv1 (by omega) (by omega) (by rw [val_dig]; exact hwin)
        rw [val_dig] at hdg
        have e3 : j + (m + 1 + 1) + 1 - j = m + 3 := by omega
        have hqlt : wv o j (m + 3) / V < 4294967296 := Nat.div_lt_of_lt_mul hwin
        replace hwin := Hd.mk hwin
        replace hVn := Hd.mk hVn
        simp (maxSteps := 4000000) (disch := omega) only [go_sem, seval, ↓reduceIte, reduceCtorEq, ← List.map_take, ← List.map_drop, wrap64, wrapu64, wrapu32, ← Int.natCast_add, ← Int.natCast_mul, cast_succ, wrapu32_nat, shr32, reps_wd, map_set_wd, List.length_set, zs_len, h3, h4, ol, outl, e1, e3, cutBounds]
        refine openK_ex hdg ?_
        clear hdg
        rintro p H' ⟨h3', hF, rp, pl, hp, hs⟩
        have h4' := hF 4 (by decide)
        rw [h4] at h4'
        have hout := kn_outer (p := p) ro hVn.out (show j < out.length by omega) hv.out hb'.out (hz.out j (by omega)) hp hs
        have hz2 : ∀ i, i < j → (out.set j (wv o j (m + 3) / V)).getD i 0 = 0 := fun i hi => by
          rw [lget_set_ne (by omega)]; exact hz.out i (by omega)
        replace hout := Hd.mk hout
        clear hv hb' hz hp hs hF h3 h4 hwin hVn hfin hhi hlo
        rw [show m + 2 + 1 = m + 3 by omega] at hout
        generalize wv o j (m + 3) / V = q at *
        simp (maxSteps := 4000000) (disch := omega) only [go_sem, seval, ↓reduceIte, reduceCtorEq, ← List.map_take, ← List.map_drop, wrap64, wrapu64, wrapu32, ← Int.natCast_add, ← Int.natCast_mul, cast_succ, wrapu32_nat, shr32, reps_wd, map_set_wd, List.length_set, zs_len, h3', h4', outl, e1]
        exact ⟨j, by omega, p, out.set j q, garb rfl, rfl, rfl, by rw [pl, ol], by rw [List.length_set, outl], rp, rout.set hqlt, by omega, ⟨hout.out.1⟩, ⟨hout.out.2⟩, ⟨hz2⟩⟩
end Go.Proofs.Ytnpomadbaanpkaa

/- Walks: Div. (Own work of this repo.) -/
namespace Go.Proofs.Ytnpomadbaanpkaa
open Vm
set_option maxRecDepth 100000

theorem divide_I (ma : Bool) (x : Int) (mb : Bool) (y : Int) (hy : y ≠ 0) (lx : (dg x).length < 2 ^ 36) (ly : (dg y).length < 2 ^ 36) (hma : ma = true → x = 0) :
    ∃ m : Bool × Bool, denP E 96 [.lst ma ((dg x).map wd), .lst mb ((dg y).map wd)] = some (.ret (.tup [.lst m.1 ((dig (x.natAbs / y.natAbs)).map wd), .lst m.2 ((dig (x.natAbs % y.natAbs)).map wd)])) ∧ (m.1 = true → x.natAbs / y.natAbs = 0) ∧ (m.2 = true → x.natAbs % y.natAbs = 0) := by
  have := divide_spec ma (dg x) mb (dg y) (dg_norm x) (dg_norm y) (by rw [ne_eq, dg_nil]; exact hy) lx ly (fun h => by rw [hma h, dg_zero])
  rwa [val_dg, val_dg] at this
/-- Quotients with a rest that is not negative, out of those of absolute values. -/
theorem ediv_nat (x y : Int) (hy : y ≠ 0) (h : ¬ (x < 0 ∧ x.natAbs % y.natAbs ≠ 0)) : sg (ng x != ng y) (x.natAbs / y.natAbs) = x / y ∧ ((x.natAbs % y.natAbs : Nat) : Int) = x % y := by
  have hb : 0 < y.natAbs := by omega
  have key : ∀ b : Nat, 0 < b → ¬ (x < 0 ∧ x.natAbs % b ≠ 0) → sg (ng x) (x.natAbs / b) = x / (b : Int) ∧ ((x.natAbs % b : Nat) : Int) = x % (b : Int) := by
    intro b hb h
    by_cases hx : x < 0
    · have h0 : x.natAbs % b = 0 := by
        rcases Nat.eq_zero_or_pos (x.natAbs % b) with h1 | h1
        · exact h1
        · exact absurd ⟨hx, by omega⟩ h
      have hd := Nat.div_add_mod x.natAbs b
      rw [h0, Nat.add_zero] at hd
      have hu := (Int.ediv_emod_unique (a := x) (b := (b : Int)) (r := 0) (q := -((x.natAbs / b : Nat) : Int)) (by omega)).2 ⟨by
        rw [Int.mul_neg, ← Int.natCast_mul, hd]; omega, by omega, by omega⟩
      rw [h0, ng_true.2 hx]
      exact ⟨by rw [hu.1]; rfl, by rw [hu.2]; rfl⟩
    · obtain ⟨n, rfl⟩ : ∃ n : Nat, x = (n : Int) := ⟨x.natAbs, by omega⟩
      rw [ng_nat]
      exact ⟨by simp [sg], by simp⟩
  rcases Int.natAbs_eq y with h1 | h1
  · have hn : ng y = false := ng_false.2 (by omega)
    have := key y.natAbs hb h
    rw [← h1] at this
    rw [hn, Bool.bne_false]; exact this
  · have hn : ng y = true := ng_true.2 (by omega)
    have := key y.natAbs hb h
    rw [hn, show (y : Int) = -(y.natAbs : Int) from h1, Int.natAbs_neg, Int.natAbs_natCast, Int.ediv_neg, Int.emod_neg, ← this.1, ← this.2]
    refine ⟨?_, rfl⟩
    cases ng x <;> simp [sg]
theorem ediv_nat' (x y : Int) (hy : y ≠ 0) (hx : x < 0) (h : x.natAbs % y.natAbs ≠ 0) : sg (ng x != ng y) (x.natAbs / y.natAbs + 1) = x / y ∧ ((y.natAbs - x.natAbs % y.natAbs : Nat) : Int) = x % y := by
  have hb : 0 < y.natAbs := by omega
  have key : ∀ b : Nat, 0 < b → x.natAbs % b ≠ 0 → sg (ng x) (x.natAbs / b + 1) = x / (b : Int) ∧ ((b - x.natAbs % b : Nat) : Int) = x % (b : Int) := by
    intro b hb h
    have hm := Nat.mod_lt x.natAbs hb
    have hd := Nat.div_add_mod x.natAbs b
    have hu := (Int.ediv_emod_unique (a := x) (b := (b : Int)) (r := ((b - x.natAbs % b : Nat) : Int)) (q := -((x.natAbs / b + 1 : Nat) : Int)) (by omega)).2 ⟨by
        rw [Int.mul_neg, ← Int.natCast_mul, Nat.mul_add, Nat.mul_one]
        generalize b * (x.natAbs / b) = z at *
        omega, by omega, by omega⟩
    rw [ng_true.2 hx]
    exact ⟨by rw [hu.1]; rfl, by rw [hu.2]⟩
  rcases Int.natAbs_eq y with h1 | h1
  · have hn : ng y = false := ng_false.2 (by omega)
    have := key y.natAbs hb h
    rw [← h1] at this
    rw [hn, Bool.bne_false]; exact this
  · have hn : ng y = true := ng_true.2 (by omega)
    have := key y.natAbs hb h
    rw [hn, show (y : Int) = -(y.natAbs : Int) from h1, Int.natAbs_neg, Int.natAbs_natCast, Int.ediv_neg, Int.emod_neg, ← this.1, ← this.2]
    refine ⟨?_, rfl⟩
    cases ng x <;> simp [sg]
theorem dg_ediv (x y : Int) : (dg (x / y)).length ≤ (dg x).length := dg_mono (Int.natAbs_ediv_le_natAbs x y)
theorem dg_emod (x y : Int) (hy : y ≠ 0) : (dg (x % y)).length ≤ (dg y).length := by
  refine dg_mono ?_
  have h1 := Int.emod_nonneg x hy
  have h2 := Int.emod_lt x hy
  omega
set_option maxHeartbeats 2000000 in
theorem div_spec (ma : Bool) (x : Int) (mb : Bool) (y : Int) (hx : (dg x).length ≤ 4096) (hy : (dg y).length ≤ 4096) (hy0 : y ≠ 0) (hma : ma = true → x = 0) :
    ∃ m : Bool × Bool, denP E 81 [I ma x, I mb y] = some (.ret (.tup [I m.1 (x / y), I m.2 (x % y), .int .i64 0])) ∧ (m.1 = true → x / y = 0) ∧ (m.2 = true → x % y = 0) := by
  refine denP_ex E81 rfl (by simp [AV.pureL, AV.pure, pure_wd]) ?_
  have h1 := valid2_I ma x mb y hx hy
  obtain ⟨m, h2, h3, h4⟩ := divide_I ma x mb y hy0 (by omega) (by omega) hma
  have hl := dg_pos.2 hy0
  have lq := dg_ediv x y
  have lr := dg_emod x y hy0
  have zq : (x.natAbs / y.natAbs) ≤ x.natAbs := Nat.div_le_self _ _
  have zr : (x.natAbs % y.natAbs) < y.natAbs := Nat.mod_lt _ (by omega)
  have lq2 : (dig (x.natAbs / y.natAbs)).length ≤ 4096 := Nat.le_trans (dig_mono zq) hx
  have lr2 : (dig (x.natAbs % y.natAbs)).length ≤ 4096 := Nat.le_trans (dig_mono (Nat.le_of_lt zr)) hy
  by_cases hc : x < 0 ∧ x.natAbs % y.natAbs ≠ 0
  · have hn : ng x = true := ng_true.2 hc.1
    have he := ediv_nat' x y hy0 hc.1 hc.2
    have hr0 : 0 < (dig (x.natAbs % y.natAbs)).length := List.length_pos_iff.2 (fun e => hc.2 (dig_nil.1 e))
    have p1 := plus_spec m.1 (dig (x.natAbs / y.natAbs)) false [1] (dig_inR _) (fun z hz => by simp at hz; subst hz; decide) (by omega) (by simp)
    rw [val_dig, show val [1] = 1 from rfl] at p1
    have p2 := minus_spec mb (dg y) m.2 (dig (x.natAbs % y.natAbs)) (dg_inR y) (dig_inR _) (by omega) (dig_mono (Nat.le_of_lt zr)) (by rw [val_dg, val_dig]; omega)
    rw [val_dg, val_dig] at p2
    have p3 := made_dig (ng x != ng y) false (x.natAbs / y.natAbs + 1) (by simp) (by have := dig_add (x.natAbs / y.natAbs) 1; have : (dig 1).length ≤ 1 := dig_len.2 (by decide); omega)
    rw [he.1] at p3
    have p4 := made_dig false false (y.natAbs - x.natAbs % y.natAbs) (by simp) (by have := dig_mono (a := y.natAbs - x.natAbs % y.natAbs) (b := y.natAbs) (by omega); unfold dg at hy; omega)
    rw [show sg false (y.natAbs - x.natAbs % y.natAbs) = x % y from he.2] at p4
    have l1 : (dg (x / y)).length ≤ 4096 := by omega
    have l2 : (dg (x % y)).length ≤ 4096 := by omega
    rw [RI, fm_of l1, fit_of l1, er_of l1] at p3
    rw [RI, fm_of l2, fit_of l2, er_of l2] at p4
    simp only [List.map_cons, List.map_nil, wd, Int.natCast_one] at p1
    simp only [I, hn, Bool.true_bne, Bool.false_bne] at h1 p3
    clear he lq lr zq zr hc h3 h4 l1 l2
    generalize hx1 : ng y = ny at *
    generalize x.natAbs / y.natAbs = q at *
    generalize y.natAbs - x.natAbs % y.natAbs = r2 at *
    generalize x.natAbs % y.natAbs = r at *
    simp (maxSteps := 4000000) (disch := omega) only [go_sem, seval, ↓reduceIte, reduceCtorEq, ← List.map_take, ← List.map_drop, wrap64, wrapu64, wrapu32, ← Int.natCast_add, ← Int.natCast_mul, cast_succ, wrapu32_nat, shr32, reps_wd, map_set_wd, List.length_set, zs_len, Try.f81, reps, fillAll, refP, elems, List.headD, h1, h2, hn, hx1]
    refine W_drawn ?_
    simp (maxSteps := 4000000) (disch := omega) only [go_sem, seval, ↓reduceIte, reduceCtorEq, ← List.map_take, ← List.map_drop, wrap64, wrapu64, wrapu32, ← Int.natCast_add, ← Int.natCast_mul, cast_succ, wrapu32_nat, shr32, reps_wd, map_set_wd, List.length_set, zs_len, reps, fillAll, refP, elems, List.headD, p1, p2]
    refine ⟨by rfl, ?_⟩
    simp (maxSteps := 4000000) (disch := omega) only [go_sem, seval, ↓reduceIte, reduceCtorEq, ← List.map_take, ← List.map_drop, wrap64, wrapu64, wrapu32, ← Int.natCast_add, ← Int.natCast_mul, cast_succ, wrapu32_nat, shr32, reps_wd, map_set_wd, List.length_set, zs_len, p3, p4, hx1, hn]
    refine W_drawn ?_
    simp (maxSteps := 4000000) (disch := omega) only [go_sem, seval, ↓reduceIte, reduceCtorEq, ← List.map_take, ← List.map_drop, wrap64, wrapu64, wrapu32, ← Int.natCast_add, ← Int.natCast_mul, cast_succ, wrapu32_nat, shr32, reps_wd, map_set_wd, List.length_set, zs_len]
    exact ⟨by rfl, (false, false), rfl, by simp, by simp⟩
  · have he := ediv_nat x y hy0 hc
    have p3 := made_dig (ng x != ng y) m.1 (x.natAbs / y.natAbs) h3 (by omega)
    rw [he.1] at p3
    have p4 := made_dig false m.2 (x.natAbs % y.natAbs) h4 (by omega)
    rw [show sg false (x.natAbs % y.natAbs) = x % y from he.2] at p4
    have l1 : (dg (x / y)).length ≤ 4096 := by omega
    have l2 : (dg (x % y)).length ≤ 4096 := by omega
    rw [RI, fm_of l1, fit_of l1, er_of l1] at p3
    rw [RI, fm_of l2, fit_of l2, er_of l2] at p4
    have hm1 : m.1 = true → x / y = 0 := fun h => by rw [← he.1, h3 h]; cases (ng x != ng y) <;> rfl
    have hm2 : m.2 = true → x % y = 0 := fun h => by rw [← he.2, h4 h]; rfl
    have hcond : (ng x && decide (0 < ((dig (x.natAbs % y.natAbs)).length : Int))) = false := by
      rw [Bool.eq_false_iff]
      intro h
      rw [Bool.and_eq_true, decide_eq_true_eq] at h
      refine hc ⟨ng_true.1 h.1, fun e => ?_⟩
      rw [e, dig_zero] at h; simp at h
    clear he lq lr zq zr hc h3 h4 l1 l2
    generalize x.natAbs / y.natAbs = q at *
    generalize x.natAbs % y.natAbs = r at *
    cases hn : ng x with
    | true =>
      rw [hn, Bool.true_and] at hcond
      simp only [I, hn, Bool.true_bne, Bool.false_bne] at h1 p3
      generalize hx1 : ng y = ny at *
      simp (maxSteps := 4000000) (disch := omega) only [go_sem, seval, ↓reduceIte, reduceCtorEq, ← List.map_take, ← List.map_drop, wrap64, wrapu64, wrapu32, ← Int.natCast_add, ← Int.natCast_mul, cast_succ, wrapu32_nat, shr32, reps_wd, map_set_wd, List.length_set, zs_len, Try.f81, reps, fillAll, refP, elems, List.headD, h1, h2, hn, hcond, p3, p4, hx1]
      refine W_drawn ?_
      simp (maxSteps := 4000000) (disch := omega) only [go_sem, seval, ↓reduceIte, reduceCtorEq, ← List.map_take, ← List.map_drop, wrap64, wrapu64, wrapu32, ← Int.natCast_add, ← Int.natCast_mul, cast_succ, wrapu32_nat, shr32, reps_wd, map_set_wd, List.length_set, zs_len]
      exact ⟨by rfl, m, rfl, hm1, hm2⟩
    | false =>
      simp only [I, hn, Bool.true_bne, Bool.false_bne] at h1 p3
      generalize hx1 : ng y = ny at *
      simp (maxSteps := 4000000) (disch := omega) only [go_sem, seval, ↓reduceIte, reduceCtorEq, ← List.map_take, ← List.map_drop, wrap64, wrapu64, wrapu32, ← Int.natCast_add, ← Int.natCast_mul, cast_succ, wrapu32_nat, shr32, reps_wd, map_set_wd, List.length_set, zs_len, Try.f81, reps, fillAll, refP, elems, List.headD, h1, h2, hn, p3, p4, hx1, Bool.not_not]
      refine W_drawn ?_
      simp (maxSteps := 4000000) (disch := omega) only [go_sem, seval, ↓reduceIte, reduceCtorEq, ← List.map_take, ← List.map_drop, wrap64, wrapu64, wrapu32, ← Int.natCast_add, ← Int.natCast_mul, cast_succ, wrapu32_nat, shr32, reps_wd, map_set_wd, List.length_set, zs_len]
      exact ⟨by rfl, m, rfl, hm1, hm2⟩
theorem div_zero (ma : Bool) (x : Int) (mb : Bool) (hx : (dg x).length ≤ 4096) : denP E 81 [I ma x, I mb 0] = some (.ret (.tup [I true 0, I true 0, .int .i64 2])) := by
  refine denP_eq E81 rfl (by simp [AV.pureL, AV.pure, pure_wd]) ?_
  have h1 := valid2_I ma x mb 0 hx (by rw [dg_zero]; simp)
  simp only [I, ng_zero, dg_zero, List.map_nil] at h1
  simp (maxSteps := 4000000) (disch := omega) only [go_sem, seval, ↓reduceIte, reduceCtorEq, ← List.map_take, ← List.map_drop, wrap64, wrapu64, wrapu32, ← Int.natCast_add, ← Int.natCast_mul, cast_succ, wrapu32_nat, shr32, reps_wd, map_set_wd, List.length_set, zs_len, Try.f81, reps, fillAll, refP, elems, List.headD, h1, ng_zero, dg_zero, List.map_nil, places]
end Go.Proofs.Ytnpomadbaanpkaa

/- The machine over pure values: a statement that leaves its order open, when what is written always stands in order. (Own work of this repo.) -/
namespace Vm
open Go
def orderOne (all : List Oper) (i : Nat) (r : Rec) : Nat → List Rec → Bool
  | _, [] => true
  | j, s :: ss => (r.quiet && s.quiet || befBit all j i) && orderOne all i r (j + 1) ss
def orderOk (all : List Oper) : Nat → List Rec → Bool
  | _, [] => true
  | i, r :: rs => orderOne all i r (i + 1) rs && orderOk all (i + 1) rs
theorem quiet_ids {r : Rec} (h : r.quiet = true) : r.ids = [] := by
  unfold Rec.quiet at h; unfold Rec.ids
  rw [List.isEmpty_iff] at h; rw [h]; rfl
theorem free_quiet {r s : Rec} (h1 : r.quiet = true) (h2 : s.quiet = true) : r.free s = true := by
  unfold Rec.free; rw [quiet_ids h1, quiet_ids h2]; rfl
theorem orderOne_ok {all : List Oper} {i : Nat} {r : Rec} : ∀ (ss : List Rec) (j : Nat), orderOne all i r j ss = true → dynOne all i r j ss = true
  | [], _, _ => rfl
  | s :: ss, j, h => by
    rw [orderOne, Bool.and_eq_true, Bool.or_eq_true, Bool.and_eq_true] at h
    rw [dynOne, Bool.and_eq_true]
    refine ⟨?_, orderOne_ok ss (j + 1) h.2⟩
    rcases h.1 with ⟨h1, h2⟩ | h1
    · rw [free_quiet h1 h2]
    · rw [h1]; split <;> rfl
theorem orderOk_ok {all : List Oper} : ∀ (rs : List Rec) (i : Nat), orderOk all i rs = true → dynOk all i rs = true
  | [], _, _ => rfl
  | r :: rs, i, h => by
    rw [orderOk, Bool.and_eq_true] at h
    rw [dynOk, orderOne_ok rs _ h.1, orderOk_ok rs _ h.2]; rfl
theorem okR_stat {all : List Oper} {rs : List Rec} (h : orderOk all 0 rs = true) : okR all rs = true := by
  unfold okR; rw [orderOk_ok rs 0 h]; split <;> rfl
/-- The pairs that nothing keeps in order. -/
def pairsOne (all : List Oper) (i : Nat) (r : Rec) : Nat → List Rec → List (Rec × Rec)
  | _, [] => []
  | j, s :: ss => (match r.quiet && s.quiet || befBit all j i with | true => pairsOne all i r (j + 1) ss | false => (r, s) :: pairsOne all i r (j + 1) ss)
def pairs (all : List Oper) : Nat → List Rec → List (Rec × Rec)
  | _, [] => []
  | i, r :: rs => pairsOne all i r (i + 1) rs ++ pairs all (i + 1) rs
def allFree : List (Rec × Rec) → Prop
  | [] => True
  | p :: ps => p.1.free p.2 = true ∧ allFree ps
theorem allFree_mem {l : List (Rec × Rec)} (h : allFree l) : ∀ p ∈ l, p.1.free p.2 = true := by
  induction l with
  | nil => intro p hp; cases hp
  | cons x xs ih =>
    intro p hp
    rcases List.mem_cons.1 hp with rfl | hp
    · exact h.1
    · exact ih h.2 p hp
theorem pairsOne_ok {all : List Oper} {i : Nat} {r : Rec} : ∀ (ss : List Rec) (j : Nat), (∀ p ∈ pairsOne all i r j ss, p.1.free p.2 = true) → dynOne all i r j ss = true
  | [], _, _ => rfl
  | s :: ss, j, h => by
    rw [dynOne, Bool.and_eq_true]
    rw [pairsOne] at h
    cases hc : r.quiet && s.quiet || befBit all j i with
    | true =>
      rw [hc] at h
      refine ⟨?_, pairsOne_ok ss (j + 1) h⟩
      rw [Bool.or_eq_true, Bool.and_eq_true] at hc
      rcases hc with ⟨h1, h2⟩ | h1
      · rw [free_quiet h1 h2]
      · rw [h1]; split <;> rfl
    | false =>
      rw [hc] at h
      refine ⟨?_, pairsOne_ok ss (j + 1) fun p hp => h p (List.mem_cons_of_mem _ hp)⟩
      rw [h (r, s) (List.mem_cons_self ..)]
theorem pairs_ok {all : List Oper} : ∀ (rs : List Rec) (i : Nat), (∀ p ∈ pairs all i rs, p.1.free p.2 = true) → dynOk all i rs = true
  | [], _, _ => rfl
  | r :: rs, i, h => by
    rw [dynOk, Bool.and_eq_true]
    exact ⟨pairsOne_ok rs _ fun p hp => h p (List.mem_append.2 (.inl hp)), pairs_ok rs _ fun p hp => h p (List.mem_append.2 (.inr hp))⟩
theorem okR_pairs {all : List Oper} {rs : List Rec} (h : allFree (pairs all 0 rs)) : okR all rs = true := by
  unfold okR; rw [pairs_ok rs 0 (allFree_mem h)]; split <;> rfl
theorem free_mk {a b c d : List Nat} : (mk a b).free (mk c d) = (b.all (fun x => !(c ++ d).contains x) && d.all (fun x => !a.contains x)) := by
  unfold Rec.free; rw [mk_ids, mk_ids]; rfl
end Vm

/- Walks: further operations that throw. (Own work of this repo.) -/
namespace Go.Proofs.Ytnpomadbaanpkaa
open Vm
set_option maxRecDepth 10000

theorem exSub_ret (f g : Bool) (x y : Int) (hx : (dg x).length ≤ 4096) (hy : (dg y).length ≤ 4096) (h : (dg (x - y)).length ≤ 4096) : denP E 58 [I f x, I g y] = some (.ret (I false (x - y))) := by
  refine denP_eq E58 rfl (by simp [AV.pureL, AV.pure, pure_wd]) ?_
  have h1 := sub_spec f x g y hx hy
  rw [RI, fit_of h, fm_of h, er_of h] at h1
  have h2 := exOk_ret false (x - y)
  generalize x - y = z at *
  simp (maxSteps := 4000000) only [go_sem, seval, ↓reduceIte, reduceCtorEq, ← List.map_take, ← List.map_drop, ne_eq, Nat.zero_le, Nat.le_refl, wrap64, wrapu64, wrapu32, ← Int.natCast_add, ← Int.natCast_mul, cast_succ, wrapu32_nat, shr32, reps_wd, map_set_wd, List.length_set, zs_len, Try.f58, h1, h2, places, fillAll]
theorem exSub_pan (f g : Bool) (x y : Int) (hx : (dg x).length ≤ 4096) (hy : (dg y).length ≤ 4096) (h : ¬ (dg (x - y)).length ≤ 4096) : denP E 58 [I f x, I g y] = some (.panic (Thr 4)) := by
  refine denP_pan E58 rfl (by simp [AV.pureL, AV.pure, pure_wd]) ?_
  have h1 := sub_spec f x g y hx hy
  rw [RI, er_no h] at h1
  have h2 := exOk_pan (fm false (x - y)) (fit (x - y)) 4 (by decide)
  generalize fit (x - y) = z at *
  generalize fm false (x - y) = fl at *
  simp (maxSteps := 4000000) only [go_sem, seval, ↓reduceIte, reduceCtorEq, ← List.map_take, ← List.map_drop, ne_eq, Nat.zero_le, Nat.le_refl, wrap64, wrapu64, wrapu32, ← Int.natCast_add, ← Int.natCast_mul, cast_succ, wrapu32_nat, shr32, reps_wd, map_set_wd, List.length_set, zs_len, Try.f58, h1, h2, places, fillAll]
theorem exDiv_ret (f g : Bool) (x y : Int) (hx : (dg x).length ≤ 4096) (hy : (dg y).length ≤ 4096) (hy0 : y ≠ 0) (hf : f = true → x = 0) :
    ∃ m : Bool × Bool, denP E 60 [I f x, I g y] = some (.ret (.tup [I m.1 (x / y), I m.2 (x % y)])) ∧ (m.1 = true → x / y = 0) ∧ (m.2 = true → x % y = 0) := by
  obtain ⟨m, h1, h2, h3⟩ := div_spec f x g y hx hy hy0 hf
  refine ⟨m, ?_, h2, h3⟩
  refine denP_eq E60 rfl (by simp [AV.pureL, AV.pure, pure_wd]) ?_
  clear h2 h3
  generalize x / y = q at *
  generalize x % y = r at *
  simp (maxSteps := 4000000) only [go_sem, seval, ↓reduceIte, reduceCtorEq, ← List.map_take, ← List.map_drop, ne_eq, Nat.zero_le, Nat.le_refl, wrap64, wrapu64, wrapu32, ← Int.natCast_add, ← Int.natCast_mul, cast_succ, wrapu32_nat, shr32, reps_wd, map_set_wd, List.length_set, zs_len, Try.f60, h1, Int.reduceEq, places, fillAll]
  refine W_drawn ?_
  simp (maxSteps := 4000000) only [go_sem, seval, ↓reduceIte, reduceCtorEq, ← List.map_take, ← List.map_drop, ne_eq, Nat.zero_le, Nat.le_refl, wrap64, wrapu64, wrapu32, ← Int.natCast_add, ← Int.natCast_mul, cast_succ, wrapu32_nat, shr32, reps_wd, map_set_wd, List.length_set, zs_len, places, fillAll]
  refine okR_pairs ?_; (repeat ((with_unfolding_all refine And.intro ?_ ?_); (focus (rw [free_mk] <;> (try simp) <;> (try omega))))); (with_unfolding_all exact True.intro)
theorem exZero (f : Bool) (x : Int) : denP E 61 [I f x] = some (.ret (.bool (decide (x = 0)))) := by
  refine denP_eq E61 rfl (by simp [AV.pureL, AV.pure, pure_wd]) ?_
  have e : (((dg x).length : Int) = 0) = (x = 0) := propext (by rw [← dg_len0 (z := x)]; omega)
  simp (maxSteps := 4000000) only [go_sem, seval, ↓reduceIte, reduceCtorEq, ← List.map_take, ← List.map_drop, ne_eq, Nat.zero_le, Nat.le_refl, wrap64, wrapu64, wrapu32, ← Int.natCast_add, ← Int.natCast_mul, cast_succ, wrapu32_nat, shr32, reps_wd, map_set_wd, List.length_set, zs_len, Try.f61, e, places, fillAll]
theorem exNeg_ret (f : Bool) (x : Int) (hx : (dg x).length ≤ 4096) : denP E 101 [I f x] = some (.ret (I false (-x))) := by
  refine denP_eq E101 rfl (by simp [AV.pureL, AV.pure, pure_wd]) ?_
  have h1 := exSub_ret true f 0 x (by rw [dg_zero]; simp) hx (by rw [Int.zero_sub, dg_neg]; exact hx)
  rw [Int.zero_sub] at h1
  simp only [I, ng_zero, dg_zero, List.map_nil] at h1
  simp (maxSteps := 4000000) only [go_sem, seval, ↓reduceIte, reduceCtorEq, ← List.map_take, ← List.map_drop, ne_eq, Nat.zero_le, Nat.le_refl, wrap64, wrapu64, wrapu32, ← Int.natCast_add, ← Int.natCast_mul, cast_succ, wrapu32_nat, shr32, reps_wd, map_set_wd, List.length_set, zs_len, Try.f101, h1, places, fillAll]
theorem size_ret (f : Bool) (x : Int) (hx : (dg x).length ≤ 4096) : ∃ o : Bool, denP E 92 [I f x] = some (.ret (I o x.natAbs)) ∧ (o = true → f = true) := by
  by_cases h : x < 0
  · refine ⟨false, ?_, by simp⟩
    refine denP_eq E92 rfl (by simp [AV.pureL, AV.pure, pure_wd]) ?_
    have h1 := exNeg_ret f x hx
    have h2 : ng x = true := by unfold ng; exact decide_eq_true h
    rw [show ((x.natAbs : Nat) : Int) = -x by omega]
    simp only [I, h2] at h1
    simp (maxSteps := 4000000) only [go_sem, seval, ↓reduceIte, reduceCtorEq, ← List.map_take, ← List.map_drop, ne_eq, Nat.zero_le, Nat.le_refl, wrap64, wrapu64, wrapu32, ← Int.natCast_add, ← Int.natCast_mul, cast_succ, wrapu32_nat, shr32, reps_wd, map_set_wd, List.length_set, zs_len, Try.f92, h1, h2, places, fillAll]
  · refine ⟨f, ?_, fun h => h⟩
    refine denP_eq E92 rfl (by simp [AV.pureL, AV.pure, pure_wd]) ?_
    have h2 : ng x = false := by unfold ng; exact decide_eq_false h
    rw [show ((x.natAbs : Nat) : Int) = x by omega]
    simp (maxSteps := 4000000) only [go_sem, seval, ↓reduceIte, reduceCtorEq, ← List.map_take, ← List.map_drop, ne_eq, Nat.zero_le, Nat.le_refl, wrap64, wrapu64, wrapu32, ← Int.natCast_add, ← Int.natCast_mul, cast_succ, wrapu32_nat, shr32, reps_wd, map_set_wd, List.length_set, zs_len, Try.f92, h2, places, fillAll]
theorem valid_eq (neg : Bool) (l : List Nat) : validW neg l = rvalidW neg l := by
  unfold validW rvalidW
  by_cases h : l.length = 0
  · simp [h]
  · by_cases h1 : l.length ≤ 4096 <;> by_cases h2 : l.getD (l.length - 1) 0 = 0 <;> simp [h, h1, h2] <;> omega
theorem validAny (neg nl : Bool) (l : List Nat) (hl : l.length < 9223372036854775808) : denP E 37 [iv neg nl l] = some (.ret (.bool (rvalidW neg l))) := by
  rw [← valid_eq]
  refine denP_eq E37 rfl (by simp [AV.pureL, AV.pure, pure_wd, iv]) ?_
  unfold validW
  by_cases h1 : l.length ≤ 4096
  · by_cases h2 : l.length = 0
    · simp (maxSteps := 4000000) (disch := omega) only [go_sem, seval, ↓reduceIte, reduceCtorEq, ← List.map_take, ← List.map_drop, wrap64, wrapu64, wrapu32, Try.f37, iv]
    · have e : (l.length : Int) - 1 = (l.length - 1 : Nat) := by omega
      by_cases h3 : l.getD (l.length - 1) 0 = 0
      · simp (maxSteps := 4000000) (disch := omega) only [go_sem, seval, ↓reduceIte, reduceCtorEq, ← List.map_take, ← List.map_drop, wrap64, wrapu64, wrapu32, Try.f37, iv, e, ne_eq]
      · simp (maxSteps := 4000000) (disch := omega) only [go_sem, seval, ↓reduceIte, reduceCtorEq, ← List.map_take, ← List.map_drop, wrap64, wrapu64, wrapu32, Try.f37, iv, e, ne_eq]
  · simp (maxSteps := 4000000) (disch := omega) only [go_sem, seval, ↓reduceIte, reduceCtorEq, ← List.map_take, ← List.map_drop, wrap64, wrapu64, wrapu32, Try.f37, iv]
theorem rValidAny (neg nl : Bool) (l : List Nat) (hl : l.length < 9223372036854775808) : denP E 49 [iv neg nl l] = some (.ret (.bool (rvalidW neg l))) := by
  refine denP_eq E49 rfl (by simp [AV.pureL, AV.pure, pure_wd]) ?_
  unfold rvalidW
  by_cases h2 : l.length = 0
  · simp (maxSteps := 4000000) (disch := omega) only [go_sem, seval, ↓reduceIte, reduceCtorEq, ← List.map_take, ← List.map_drop, wrap64, wrapu64, wrapu32, Try.f49]
  · have e : (l.length : Int) - 1 = (l.length - 1 : Nat) := by omega
    by_cases h1 : l.length ≤ 4096
    · by_cases h3 : l.getD (l.length - 1) 0 = 0
      · simp (maxSteps := 4000000) (disch := omega) only [go_sem, seval, ↓reduceIte, reduceCtorEq, ← List.map_take, ← List.map_drop, wrap64, wrapu64, wrapu32, Try.f49, e, ne_eq]
      · simp (maxSteps := 4000000) (disch := omega) only [go_sem, seval, ↓reduceIte, reduceCtorEq, ← List.map_take, ← List.map_drop, wrap64, wrapu64, wrapu32, Try.f49, e, ne_eq]
    · simp (maxSteps := 4000000) (disch := omega) only [go_sem, seval, ↓reduceIte, reduceCtorEq, ← List.map_take, ← List.map_drop, wrap64, wrapu64, wrapu32, Try.f49]
end Go.Proofs.Ytnpomadbaanpkaa

/- Walks: lists of numbers that are valid. (Own work of this repo.) -/
namespace Go.Proofs.Ytnpomadbaanpkaa
open Vm
set_option maxRecDepth 10000

/-- A list of numbers as it comes. -/
abbrev lraw (nl : Bool) (L : List Raw) : AV := .lst nl (L.map ivr)
def okV (q : Raw) : Bool := rvalidW q.1 q.2.2
def okB (q : Raw) : Bool := okV q && decide (bl (val q.2.2) ≤ 200)
/-- No list is longer than the memory. -/
def Short (L : List Raw) : Prop := L.length < 9223372036854775808 ∧ ∀ q ∈ L, q.2.2.length < 9223372036854775808
theorem Short.get {L : List Raw} (h : Short L) (i : Nat) : (L.getD i default).2.2.length < 9223372036854775808 := by
  rw [List.getD_eq_getElem?_getD]
  rcases Nat.lt_or_ge i L.length with h1 | h1
  · rw [List.getElem?_eq_getElem h1]; exact h.2 _ (List.getElem_mem _)
  · rw [List.getElem?_eq_none h1]; show [].length < _; decide
theorem all_upto {p : Raw → Bool} {L : List Raw} (h : ∀ j, j < L.length → p (L.getD j default) = true) : L.all p = true := by
  rw [List.all_eq_true]
  intro q hq
  obtain ⟨j, hj, rfl⟩ := List.getElem_of_mem hq
  have := h j hj
  rwa [List.getD_eq_getElem?_getD, List.getElem?_eq_getElem hj] at this
theorem all_not {p : Raw → Bool} {L : List Raw} {i : Nat} (hi : i < L.length) (h : p (L.getD i default) = false) : L.all p = false := by
  rw [List.all_eq_false]
  refine ⟨L.getD i default, ?_, by rw [h]; simp⟩
  rw [List.getD_eq_getElem?_getD, List.getElem?_eq_getElem hi]
  exact List.getElem_mem _
theorem exValidL (nl : Bool) (L : List Raw) (hs : Short L) : denP E 34 [lraw nl L] = some (.ret (.bool (L.all okV))) := by
  refine denP_eq E34 rfl (by simp [AV.pureL, AV.pure, pure_ivr]) ?_
  have hL := hs.1
  simp (maxSteps := 4000000) (disch := omega) only [go_sem, seval, ↓reduceIte, reduceCtorEq, ← List.map_take, ← List.map_drop, wrap64, wrapu64, wrapu32, ← Int.natCast_add, ← Int.natCast_mul, cast_succ, wrapu32_nat, shr32, reps_wd, map_set_wd, List.length_set, zs_len, Try.f34]
  refine W_loopS (fun k sl h nx => ∃ i : Nat, (∃ g : Nat → AV, sl = [g 0, g 1, g 2, g 3, g 4, lraw nl L, .int .i64 (L.length : Int), .int .i64 i, g 8, g 9, g 10, g 11, g 12, g 13, g 14]) ∧ i + k = L.length ∧ ∀ j, j < i → okV (L.getD j default) = true) L.length ⟨0, garb rfl, by omega, by omega⟩ ?_
  rintro k _ h nx ⟨i, ⟨g, rfl⟩, hk, hall⟩
  by_cases hk0 : k = 0
  · have hv : L.all okV = true := all_upto fun j hj => hall j (by omega)
    simp (maxSteps := 4000000) (disch := omega) only [go_sem, seval, ↓reduceIte, reduceCtorEq, ← List.map_take, ← List.map_drop, wrap64, wrapu64, wrapu32, ← Int.natCast_add, ← Int.natCast_mul, cast_succ, wrapu32_nat, shr32, reps_wd, map_set_wd, List.length_set, zs_len, hv]
  · have hg := get_ivr (L := L) (i := i) (by omega)
    have hq1 := hs.get i
    have hno : okV (L.getD i default) = false → L.all okV = false := all_not (by omega)
    generalize hq : L.getD i default = q at *
    obtain ⟨neg, nlq, l⟩ := q
    dsimp only at hg hq1
    have h1 := validAny neg nlq l hq1
    simp only [iv] at h1
    cases h3 : rvalidW neg l with
    | true =>
      rw [h3] at h1
      simp (maxSteps := 4000000) (disch := omega) only [go_sem, seval, ↓reduceIte, reduceCtorEq, ← List.map_take, ← List.map_drop, wrap64, wrapu64, wrapu32, ← Int.natCast_add, ← Int.natCast_mul, cast_succ, wrapu32_nat, shr32, reps_wd, map_set_wd, List.length_set, zs_len, hg, h1]
      refine ⟨k - 1, by omega, i + 1, garb rfl, by omega, fun j hj => ?_⟩
      by_cases hji : j = i
      · subst hji; rw [hq]; exact h3
      · exact hall j (by omega)
    | false =>
      rw [h3] at h1
      have hv := hno h3
      simp (maxSteps := 4000000) (disch := omega) only [go_sem, seval, ↓reduceIte, reduceCtorEq, ← List.map_take, ← List.map_drop, wrap64, wrapu64, wrapu32, ← Int.natCast_add, ← Int.natCast_mul, cast_succ, wrapu32_nat, shr32, reps_wd, map_set_wd, List.length_set, zs_len, hg, h1, hv]
theorem refAll (nl : Bool) (L : List Raw) (hs : Short L) : denP E 17 [lraw nl L] = some (.ret (.bool (L.all okV))) := by
  refine denP_eq E17 rfl (by simp [AV.pureL, AV.pure, pure_ivr]) ?_
  have hL := hs.1
  simp (maxSteps := 4000000) (disch := omega) only [go_sem, seval, ↓reduceIte, reduceCtorEq, ← List.map_take, ← List.map_drop, wrap64, wrapu64, wrapu32, ← Int.natCast_add, ← Int.natCast_mul, cast_succ, wrapu32_nat, shr32, reps_wd, map_set_wd, List.length_set, zs_len, Try.f17]
  refine W_loopS (fun k sl h nx => ∃ i : Nat, (∃ g : Nat → AV, sl = [lraw nl L, g 1, g 2, .int .i64 i, g 4, g 5, g 6, g 7, g 8, g 9, g 10, g 11, g 12, g 13, g 14, g 15]) ∧ i + k = L.length ∧ ∀ j, j < i → okV (L.getD j default) = true) L.length ⟨0, garb rfl, by omega, by omega⟩ ?_
  rintro k _ h nx ⟨i, ⟨g, rfl⟩, hk, hall⟩
  by_cases hk0 : k = 0
  · have hv : L.all okV = true := all_upto fun j hj => hall j (by omega)
    simp (maxSteps := 4000000) (disch := omega) only [go_sem, seval, ↓reduceIte, reduceCtorEq, ← List.map_take, ← List.map_drop, wrap64, wrapu64, wrapu32, ← Int.natCast_add, ← Int.natCast_mul, cast_succ, wrapu32_nat, shr32, reps_wd, map_set_wd, List.length_set, zs_len, hv]
  · have hg := get_ivr (L := L) (i := i) (by omega)
    have hq1 := hs.get i
    have hno : okV (L.getD i default) = false → L.all okV = false := all_not (by omega)
    generalize hq : L.getD i default = q at *
    obtain ⟨neg, nlq, l⟩ := q
    dsimp only at hg hq1
    have h1 := rValidAny neg nlq l hq1
    simp only [iv] at h1
    cases h3 : rvalidW neg l with
    | true =>
      rw [h3] at h1
      simp (maxSteps := 4000000) (disch := omega) only [go_sem, seval, ↓reduceIte, reduceCtorEq, ← List.map_take, ← List.map_drop, wrap64, wrapu64, wrapu32, ← Int.natCast_add, ← Int.natCast_mul, cast_succ, wrapu32_nat, shr32, reps_wd, map_set_wd, List.length_set, zs_len, hg, h1]
      refine ⟨k - 1, by omega, i + 1, garb rfl, by omega, fun j hj => ?_⟩
      by_cases hji : j = i
      · subst hji; rw [hq]; exact h3
      · exact hall j (by omega)
    | false =>
      rw [h3] at h1
      have hv := hno h3
      simp (maxSteps := 4000000) (disch := omega) only [go_sem, seval, ↓reduceIte, reduceCtorEq, ← List.map_take, ← List.map_drop, wrap64, wrapu64, wrapu32, ← Int.natCast_add, ← Int.natCast_mul, cast_succ, wrapu32_nat, shr32, reps_wd, map_set_wd, List.length_set, zs_len, hg, h1, hv]
theorem refNumbers (nl : Bool) (L : List Raw) (hs : Short L) (hr : ∀ q ∈ L, InR q.2.2) : denP E 48 [lraw nl L] = some (.ret (.bool (L.all okB))) := by
  refine denP_eq E48 rfl (by simp [AV.pureL, AV.pure, pure_ivr]) ?_
  have hL := hs.1
  simp (maxSteps := 4000000) (disch := omega) only [go_sem, seval, ↓reduceIte, reduceCtorEq, ← List.map_take, ← List.map_drop, wrap64, wrapu64, wrapu32, ← Int.natCast_add, ← Int.natCast_mul, cast_succ, wrapu32_nat, shr32, reps_wd, map_set_wd, List.length_set, zs_len, Try.f48]
  refine W_loopS (fun k sl h nx => ∃ i : Nat, (∃ g : Nat → AV, sl = [lraw nl L, g 1, g 2, .int .i64 i, g 4, g 5, g 6, g 7, g 8, g 9, g 10, g 11, g 12, g 13, g 14, g 15, g 16, g 17, g 18, g 19, g 20, g 21, g 22, g 23]) ∧ i + k = L.length ∧ ∀ j, j < i → okB (L.getD j default) = true) L.length ⟨0, garb rfl, by omega, by omega⟩ ?_
  rintro k _ h nx ⟨i, ⟨g, rfl⟩, hk, hall⟩
  by_cases hk0 : k = 0
  · have hv : L.all okB = true := all_upto fun j hj => hall j (by omega)
    simp (maxSteps := 4000000) (disch := omega) only [go_sem, seval, ↓reduceIte, reduceCtorEq, ← List.map_take, ← List.map_drop, wrap64, wrapu64, wrapu32, ← Int.natCast_add, ← Int.natCast_mul, cast_succ, wrapu32_nat, shr32, reps_wd, map_set_wd, List.length_set, zs_len, hv]
  · have hg := get_ivr (L := L) (i := i) (by omega)
    have hq1 := hs.get i
    have hno : okB (L.getD i default) = false → L.all okB = false := all_not (by omega)
    have hin : InR (L.getD i default).2.2 := hr _ (by rw [List.getD_eq_getElem?_getD, List.getElem?_eq_getElem (by omega)]; exact List.getElem_mem _)
    generalize hq : L.getD i default = q at *
    obtain ⟨neg, nlq, l⟩ := q
    dsimp only at hg hq1 hin
    have h1 := rValidAny neg nlq l hq1
    simp only [iv] at h1
    cases h3 : rvalidW neg l with
    | true =>
      rw [h3] at h1
      obtain ⟨kl, z, sz, dz⟩ := rvalid_norm (neg := neg) hin h3
      have h2 := rBits_spec nlq z (by rw [dz]; omega)
      simp only [I, sz, dz] at h2
      have hval : val l = z.natAbs := by rw [← dz, val_dg]
      by_cases h4 : bl z.natAbs ≤ 200
      · have z1 : ((200 : Int) < (bl z.natAbs : Int)) = False := eq_false (by omega)
        simp (maxSteps := 4000000) (disch := omega) only [go_sem, seval, ↓reduceIte, reduceCtorEq, ← List.map_take, ← List.map_drop, wrap64, wrapu64, wrapu32, ← Int.natCast_add, ← Int.natCast_mul, cast_succ, wrapu32_nat, shr32, reps_wd, map_set_wd, List.length_set, zs_len, hg, h1, h2, z1]
        refine ⟨k - 1, by omega, i + 1, garb rfl, by omega, fun j hj => ?_⟩
        by_cases hji : j = i
        · subst hji; rw [hq]; show (rvalidW neg l && decide (bl (val l) ≤ 200)) = true; rw [h3, hval, decide_eq_true h4]; rfl
        · exact hall j (by omega)
      · have z1 : ((200 : Int) < (bl z.natAbs : Int)) = True := eq_true (by omega)
        have hv := hno (by show (rvalidW neg l && decide (bl (val l) ≤ 200)) = false; rw [hval, decide_eq_false h4, Bool.and_false])
        simp (maxSteps := 4000000) (disch := omega) only [go_sem, seval, ↓reduceIte, reduceCtorEq, ← List.map_take, ← List.map_drop, wrap64, wrapu64, wrapu32, ← Int.natCast_add, ← Int.natCast_mul, cast_succ, wrapu32_nat, shr32, reps_wd, map_set_wd, List.length_set, zs_len, hg, h1, h2, z1, hv]
    | false =>
      rw [h3] at h1
      have hv := hno (by show (rvalidW neg l && decide (bl (val l) ≤ 200)) = false; rw [h3, Bool.false_and])
      simp (maxSteps := 4000000) (disch := omega) only [go_sem, seval, ↓reduceIte, reduceCtorEq, ← List.map_take, ← List.map_drop, wrap64, wrapu64, wrapu32, ← Int.natCast_add, ← Int.natCast_mul, cast_succ, wrapu32_nat, shr32, reps_wd, map_set_wd, List.length_set, zs_len, hg, h1, hv]
end Go.Proofs.Ytnpomadbaanpkaa

/- Rules for all walks from here on. (Own work of this repo.) -/
namespace Go.Proofs.Ytnpomadbaanpkaa
open Vm
attribute [go_sem] ne_eq Nat.zero_le Nat.le_refl wrap64 wrapu64 wrapu32 cast_succ wrapu32_nat shr32 reps_wd map_set_wd List.length_set zs_len
attribute [go_sem ←] Int.natCast_add Int.natCast_mul List.map_take List.map_drop
end Go.Proofs.Ytnpomadbaanpkaa

/- Cells of lists of numbers. (Own work of this repo.) -/
namespace Go.Proofs.Ytnpomadbaanpkaa
open Vm
set_option maxRecDepth 10000

/-- The cells of a list of numbers. -/
def fr : List Raw → List AV
  | [] => []
  | q :: L => .bool q.1 :: .lst q.2.1 (q.2.2.map wd) :: fr L
theorem flat_fr (L : List Raw) : flat (L.map ivr) = fr L := by
  induction L with
  | nil => rfl
  | cons q L ih => simp only [List.map_cons, flat, ih]; rfl
theorem fr_app (L M : List Raw) : fr (L ++ M) = fr L ++ fr M := by
  induction L with
  | nil => rfl
  | cons q L ih => simp only [List.cons_append, fr, ih]
theorem fr_len (L : List Raw) : (fr L).length = L.length * 2 := by
  induction L with
  | nil => rfl
  | cons q L ih => simp only [fr, List.length_cons, ih]; omega
theorem fr_drop : ∀ (L : List Raw) (i : Nat), (fr L).drop (i * 2) = fr (L.drop i)
  | L, 0 => rfl
  | [], i + 1 => by simp [fr]
  | q :: L, i + 1 => by
    rw [Nat.succ_mul]
    simp only [fr, List.drop_succ_cons]
    exact fr_drop L i
theorem fr_take : ∀ (L : List Raw) (i : Nat), (fr L).take (i * 2) = fr (L.take i)
  | L, 0 => rfl
  | [], i + 1 => by simp [fr]
  | q :: L, i + 1 => by
    rw [Nat.succ_mul]
    simp only [fr, List.take_succ_cons, fr_take L i]
theorem fr_get {L : List Raw} {i : Nat} (h : i < L.length) : ((fr L).drop (i * 2)).take 2 = [.bool (L.getD i default).1, .lst (L.getD i default).2.1 ((L.getD i default).2.2.map wd)] := by
  rw [fr_drop, List.drop_eq_getElem_cons h]
  rw [List.getD_eq_getElem?_getD, List.getElem?_eq_getElem h]
  rfl
theorem elems_fr (L : List Raw) : ∀ n, n = L.length → elems true 2 n (fr L) = L.map ivr := by
  induction L with
  | nil => rintro _ rfl; rfl
  | cons q L ih => rintro _ rfl; simp only [List.length_cons, elems, fr, List.map_cons, if_true]; rw [show List.drop 2 (AV.bool q.1 :: AV.lst q.2.1 (q.2.2.map wd) :: fr L) = fr L from rfl, ih _ rfl]; rfl
theorem mapL_fr {n : Nat} {H : Heap} (L : List Raw) : mapL (purify (n + 1) H) (fr L) = some (fr L, []) := by
  induction L with
  | nil => rfl
  | cons q L ih => simp only [fr, mapL, ih, purify_bool, purify_wd]; rfl
theorem fr_set : ∀ (L : List Raw) (i : Nat) (q : Raw), i < L.length → setCells (fr L) (i * 2) [.bool q.1, .lst q.2.1 (q.2.2.map wd)] = fr (L.set i q)
  | [], i, q, h => by simp at h
  | x :: L, 0, q, h => rfl
  | x :: L, i + 1, q, h => by
    have ih := fr_set L i q (by simpa using h)
    rw [Nat.succ_mul]
    simp only [List.set_cons_succ, fr, ← ih]
    simp only [setCells_cons, setCells_nil, List.set_cons_succ]
theorem refP_fr {n : Nat} {H : Heap} {id len : Nat} {L : List Raw} {fz : Bool} (hl : L.length = len) : refP (n + 1) H id 0 len (some ⟨fr L, true, 2, fz⟩) = some (.lst false (L.map ivr), [id]) := by
  subst hl
  unfold refP
  have h1 : ((fr L).drop 0).take (L.length * 2) = fr L := by rw [List.drop_zero, ← fr_len, List.take_length]
  dsimp only
  rw [if_pos ⟨by rw [fr_len]; omega, by simp, .inl rfl⟩, h1, mapL_fr]
  dsimp only
  rw [elems_fr L _ rfl]
/-- Numbers as raw ones. -/
abbrev rz (e : Bool × Int) : Raw := (ng e.2, e.1, dg e.2)
theorem ivr_rz (e : Bool × Int) : ivr (rz e) = I e.1 e.2 := rfl
/-- A list of lists, as it comes. -/
abbrev lr (r : Bool × List Raw) : AV := .lst r.1 (r.2.map ivr)
abbrev mraw (nl : Bool) (A : List (Bool × List Raw)) : AV := .lst nl (A.map lr)
theorem flat_lr (A : List (Bool × List Raw)) : flat (A.map lr) = A.map lr := by
  induction A with
  | nil => rfl
  | cons q L ih => simp only [List.map_cons, flat, ih]; rfl
theorem pure_lr (A : List (Bool × List Raw)) : AV.pureL (A.map lr) = true := by
  induction A with
  | nil => rfl
  | cons q L ih => simp only [List.map_cons, AV.pureL, AV.pure, pure_ivr, ih]; rfl
theorem get_lr {A : List (Bool × List Raw)} {i : Nat} (h : i < A.length) : (A.map lr)[i]? = some (.lst (A.getD i default).1 ((A.getD i default).2.map ivr)) := by
  simp [h]
theorem mapL_lr {n : Nat} {H : Heap} (A : List (Bool × List Raw)) : mapL (purify (n + 1) H) (A.map lr) = some (A.map lr, []) := by
  induction A with
  | nil => rfl
  | cons q L ih => simp only [List.map_cons, mapL, ih, purify_lst (pure_ivr q.2)]; rfl
theorem refP_lr {n : Nat} {H : Heap} {id len : Nat} {A : List (Bool × List Raw)} {fz : Bool} (hl : A.length = len) : refP (n + 1) H id 0 len (some ⟨A.map lr, false, 1, fz⟩) = some (.lst false (A.map lr), [id]) := by
  subst hl
  unfold refP
  dsimp only
  rw [if_pos ⟨by simp, by simp, .inr rfl⟩]
  rw [show ((A.map lr).drop 0).take (A.length * 1) = A.map lr from by rw [List.drop_zero]; exact List.take_of_length_le (by simp), mapL_lr]
  dsimp only
  rw [elems_one _ _ (by simp)]
theorem purify_lraw {n : Nat} {H : Heap} {nl : Bool} {L : List Raw} : purify (n + 1) H (.lst nl (L.map ivr)) = some (.lst nl (L.map ivr), []) := purify_lst (pure_ivr _)
theorem purify_mraw {n : Nat} {H : Heap} {nl : Bool} {A : List (Bool × List Raw)} : purify (n + 1) H (.lst nl (A.map lr)) = some (.lst nl (A.map lr), []) := purify_lst (pure_lr _)
end Go.Proofs.Ytnpomadbaanpkaa

/- Walks: systems, and how wide lists are. (Own work of this repo.) -/
namespace Go.Proofs.Ytnpomadbaanpkaa
open Vm
set_option maxRecDepth 10000

abbrev Mat := List (Bool × List Raw)
def ShortM (A : Mat) : Prop := A.length < 9223372036854775808 ∧ ∀ r ∈ A, Short r.2
theorem ShortM.get {A : Mat} (h : ShortM A) (i : Nat) : Short (A.getD i default).2 := by
  rw [List.getD_eq_getElem?_getD]
  rcases Nat.lt_or_ge i A.length with h1 | h1
  · rw [List.getElem?_eq_getElem h1]; exact h.2 _ (List.getElem_mem _)
  · rw [List.getElem?_eq_none h1]; exact ⟨by show [].length < _; decide, fun q hq => by cases hq⟩
/-- The greatest number of words. -/
theorem words_spec (nl : Bool) (A : Mat) (hs : ShortM A) : ∃ n : Nat, denP E 14 [mraw nl A] = some (.ret (.int .i64 (n : Int))) ∧ ∀ c : Nat, n ≤ c ↔ ∀ i, i < A.length → ∀ t, t < (A.getD i default).2.length → ((A.getD i default).2.getD t default).2.2.length ≤ c := by
  refine denP_ex (F := fun n : Nat => AV.int .i64 (n : Int)) E14 rfl (by simp [AV.pureL, AV.pure, pure_lr]) ?_
  have hL := hs.1
  simp (maxSteps := 4000000) (disch := omega) only [go_sem, seval, ↓reduceIte, reduceCtorEq, ← List.map_take, ← List.map_drop, wrap64, wrapu64, wrapu32, ← Int.natCast_add, ← Int.natCast_mul, cast_succ, wrapu32_nat, shr32, reps_wd, map_set_wd, List.length_set, zs_len, Try.f14]
  refine W_loopS (fun k sl h nx => ∃ i n : Nat, (∃ g : Nat → AV, sl = [mraw nl A, g 1, g 2, .int .i64 (n : Int), .int .i64 i, g 5, g 6, g 7, g 8, g 9, g 10, g 11, g 12, g 13, g 14, g 15, g 16, g 17, g 18, g 19, g 20, g 21, g 22, g 23, g 24, g 25, g 26, g 27, g 28, g 29, g 30, g 31, g 32]) ∧ i + k = A.length ∧ n < 9223372036854775808 ∧ ∀ c : Nat, n ≤ c ↔ ∀ j, j < i → ∀ t, t < (A.getD j default).2.length → ((A.getD j default).2.getD t default).2.2.length ≤ c) A.length ⟨0, 0, garb rfl, by omega, by decide, fun c => ⟨fun _ j hj => by omega, fun _ => Nat.zero_le _⟩⟩ ?_
  rintro k _ h nx ⟨i, n, ⟨g, rfl⟩, hk, hn, hall⟩
  by_cases hk0 : k = 0
  · obtain rfl : i = A.length := by omega
    have z1 : ((A.length : Int) < (A.length : Int)) = False := eq_false (by omega)
    simp (maxSteps := 4000000) (disch := omega) only [go_sem, seval, ↓reduceIte, reduceCtorEq, ← List.map_take, ← List.map_drop, wrap64, wrapu64, wrapu32, ← Int.natCast_add, ← Int.natCast_mul, cast_succ, wrapu32_nat, shr32, reps_wd, map_set_wd, List.length_set, zs_len, z1]
    exact ⟨n, rfl, hall⟩
  · have hg := get_lr (A := A) (i := i) (by omega)
    have hS := hs.get i
    have hS1 := hS.1
    have z1 : ((i : Int) < (A.length : Int)) = True := eq_true (by omega)
    obtain ⟨R, hR⟩ : ∃ R, R = A.getD i default := ⟨_, rfl⟩
    rw [← hR] at hg hS hS1
    have hout : ∀ n' : Nat, n' < 9223372036854775808 → (∀ c : Nat, n' ≤ c ↔ n ≤ c ∧ ∀ t, t < R.2.length → (R.2.getD t default).2.2.length ≤ c) → ∀ (sl : List AV), (∃ g : Nat → AV, sl = [mraw nl A, g 1, g 2, .int .i64 (n' : Int), .int .i64 ((i + 1 : Nat) : Int), g 5, g 6, g 7, g 8, g 9, g 10, g 11, g 12, g 13, g 14, g 15, g 16, g 17, g 18, g 19, g 20, g 21, g 22, g 23, g 24, g 25, g 26, g 27, g 28, g 29, g 30, g 31, g 32]) →
        ∃ k', k' < k ∧ ∃ i n : Nat, (∃ g : Nat → AV, sl = [mraw nl A, g 1, g 2, .int .i64 (n : Int), .int .i64 i, g 5, g 6, g 7, g 8, g 9, g 10, g 11, g 12, g 13, g 14, g 15, g 16, g 17, g 18, g 19, g 20, g 21, g 22, g 23, g 24, g 25, g 26, g 27, g 28, g 29, g 30, g 31, g 32]) ∧ i + k' = A.length ∧ n < 9223372036854775808 ∧ ∀ c : Nat, n ≤ c ↔ ∀ j, j < i → ∀ t, t < (A.getD j default).2.length → ((A.getD j default).2.getD t default).2.2.length ≤ c := fun n' h1 h2 sl h3 => by
      refine ⟨k - 1, by omega, i + 1, n', h3, by omega, h1, fun c => ?_⟩
      rw [h2 c, hall c, hR]
      constructor
      · rintro ⟨g1, g2⟩ j hj t ht
        by_cases e : j = i
        · subst e; exact g2 t ht
        · exact g1 j (by omega) t ht
      · intro g1
        exact ⟨fun j hj => g1 j (by omega), g1 i (by omega)⟩
    generalize hIQ : (fun (k : Nat) (σ : St) => ∃ i n : Nat, (∃ g : Nat → AV, σ.sl = [mraw nl A, g 1, g 2, .int .i64 (n : Int), .int .i64 i, g 5, g 6, g 7, g 8, g 9, g 10, g 11, g 12, g 13, g 14, g 15, g 16, g 17, g 18, g 19, g 20, g 21, g 22, g 23, g 24, g 25, g 26, g 27, g 28, g 29, g 30, g 31, g 32]) ∧ i + k = A.length ∧ n < 9223372036854775808 ∧ ∀ c : Nat, n ≤ c ↔ ∀ j, j < i → ∀ t, t < (A.getD j default).2.length → ((A.getD j default).2.getD t default).2.2.length ≤ c) = IQ
    clear hall
    simp (maxSteps := 4000000) (disch := omega) only [go_sem, seval, ↓reduceIte, reduceCtorEq, ← List.map_take, ← List.map_drop, wrap64, wrapu64, wrapu32, ← Int.natCast_add, ← Int.natCast_mul, cast_succ, wrapu32_nat, shr32, reps_wd, map_set_wd, List.length_set, zs_len, z1]
    refine W_loopS (fun k sl h nx => ∃ t n' : Nat, (∃ g : Nat → AV, sl = [mraw nl A, g 1, g 2, .int .i64 (n' : Int), .int .i64 i, .int .i64 t, g 6, g 7, g 8, g 9, g 10, g 11, g 12, g 13, g 14, g 15, g 16, g 17, g 18, g 19, g 20, g 21, g 22, g 23, g 24, g 25, g 26, g 27, g 28, g 29, g 30, g 31, g 32]) ∧ t + k = R.2.length ∧ n' < 9223372036854775808 ∧ ∀ c : Nat, n' ≤ c ↔ n ≤ c ∧ ∀ u, u < t → (R.2.getD u default).2.2.length ≤ c) R.2.length ⟨0, n, garb rfl, by omega, hn, fun c => ⟨fun h => ⟨h, fun u hu => by omega⟩, fun h => h.1⟩⟩ ?_
    rintro k2 _ h2 nx2 ⟨t, n', ⟨g2, rfl⟩, hk2, hn', hin⟩
    by_cases ht : t = R.2.length
    · have z2 : ((t : Int) < (R.2.length : Int)) = False := eq_false (by omega)
      simp (maxSteps := 4000000) (disch := omega) only [go_sem, seval, ↓reduceIte, reduceCtorEq, ← List.map_take, ← List.map_drop, wrap64, wrapu64, wrapu32, ← Int.natCast_add, ← Int.natCast_mul, cast_succ, wrapu32_nat, shr32, reps_wd, map_set_wd, List.length_set, zs_len, hg, z2]
      rw [← hIQ]
      exact hout n' hn' (fun c => by rw [hin c, ht]) _ (garb rfl)
    · have z2 : ((t : Int) < (R.2.length : Int)) = True := eq_true (by omega)
      have hg2 := get_ivr (L := R.2) (i := t) (by omega)
      have hq := hS.get t
      obtain ⟨q, hq0⟩ : ∃ q, q = R.2.getD t default := ⟨_, rfl⟩
      rw [← hq0] at hg2 hq
      obtain ⟨M, hM⟩ : ∃ M, M = max n' q.2.2.length := ⟨_, rfl⟩
      have hmax : (if (n' : Int) < (q.2.2.length : Int) then (q.2.2.length : Int) else (n' : Int)) = (M : Int) := by split <;> omega
      have w1 : IntKind.i64.wrap ((t + 1 : Nat) : Int) = ((t + 1 : Nat) : Int) := wrap64 (by omega) (by omega)
      obtain ⟨qa, qb, qc⟩ := q
      dsimp only at hg2 hq hM hmax
      have hnew : ∀ c : Nat, M ≤ c ↔ n ≤ c ∧ ∀ u, u < t + 1 → (R.2.getD u default).2.2.length ≤ c := fun c => by
        have h3 := hin c
        constructor
        · intro h
          have g := h3.1 (by omega)
          refine ⟨g.1, fun u hu => ?_⟩
          by_cases e : u = t
          · subst e; rw [← hq0]; dsimp only; omega
          · exact g.2 u (by omega)
        · rintro ⟨g1, g3⟩
          have g4 := h3.2 ⟨g1, fun u hu => g3 u (by omega)⟩
          have g5 := g3 t (by omega)
          rw [← hq0] at g5
          dsimp only at g5
          omega
      have hMlt : M < 9223372036854775808 := by omega
      clear hM hin hout hIQ hq0 hq
      simp (maxSteps := 4000000) (disch := omega) only [go_sem, seval, ↓reduceIte, reduceCtorEq, ← List.map_take, ← List.map_drop, wrap64, wrapu64, wrapu32, ← Int.natCast_add, ← Int.natCast_mul, cast_succ, wrapu32_nat, shr32, reps_wd, map_set_wd, List.length_set, zs_len, hg, hg2, z2, hmax]
      exact ⟨k2 - 1, by omega, t + 1, M, garb rfl, by omega, hMlt, hnew⟩
/-- What is not wide. -/
def Narrow (L : List Raw) : Prop := L.length ≤ 40 ∧ ∀ t, t < L.length → (L.getD t default).2.2.length ≤ 4200
theorem words_one (nl : Bool) (L : List Raw) (hs : Short L) : ∃ n : Nat, denP E 14 [.lst false [.lst nl (L.map ivr)]] = some (.ret (.int .i64 (n : Int))) ∧ ∀ c : Nat, n ≤ c ↔ ∀ t, t < L.length → (L.getD t default).2.2.length ≤ c := by
  obtain ⟨n, h1, h2⟩ := words_spec false [(nl, L)] ⟨by show 1 < _; decide, fun r hr => by simp at hr; subst hr; exact hs⟩
  refine ⟨n, h1, fun c => ?_⟩
  rw [h2 c]
  constructor
  · intro h; exact h 0 (by simp)
  · intro h i hi
    obtain rfl : i = 0 := by simpa using hi
    exact h
end Go.Proofs.Ytnpomadbaanpkaa

/- The machine over pure values: how one walks through a loop over a function. (Own work of this repo.) -/
namespace Vm
open Go
section
variable {E : Env} {σ : St} {Q : Ex → St → Prop}
/-- The loop, its row's states being L. -/
def rfK (E : Env) (Q : Ex → St → Prop) (σ : St) (L : Nat → Blk) : Option AV → Prop
  | some (.fn g a b) => g ≠ 1000003 ∧ ∃ v h' n' s e, denO E g (a ++ [.fn 1000003 [] [.ref σ.nx 0 0]] ++ b) (σ.h.upd σ.nx (some (L 0))) (σ.nx + 1) = some (.ret v, h', n') ∧ h' σ.nx = some (L s) ∧ leftBy s = some e ∧ Q e ⟨σ.sl, h'.upd σ.nx none, n'⟩
  | _ => False
def IsLoop (L : Nat → Blk) (ps : Array Tmp) (asg bd : Code) (sl : List AV) : Prop := ∀ s, L s = loopRow s ps asg bd sl
theorem W_rangeFunc {fo : Operand} {ps : Array Tmp} {asg bd : Code} (h : ∀ L : Nat → Blk, IsLoop L ps asg bd σ.sl → rfK E Q σ L (ev σ.sl fo)) : W E (.rangeFunc fo ps asg bd) σ Q := by
  have h1 := h _ (fun _ => rfl)
  unfold rfK at h1
  split at h1
  · rename_i g a b he
    obtain ⟨hg, v, h', n', s, e, hd, hs, hl, hq⟩ := h1
    refine W_of (r := (e, ⟨σ.sl, h'.upd σ.nx none, n'⟩)) ?_ hq
    have hd' : (cl E (den E)).o g (a ++ [.fn 1000003 [] [.ref σ.nx 0 0]] ++ b) (σ.h.upd σ.nx (some (loopRow 0 ps asg bd σ.sl))) (σ.nx + 1) = some (.ret v, h', n') := hd
    have hst : statusOf (h' σ.nx) = some s := by rw [hs]; unfold statusOf loopRow; rfl
    simp only [step, he]
    rw [if_neg hg, hd']
    simp only [hst, hl]
  · exact h1.elim
/-- A round begins: the loop's variables are set. -/
def beginK (E : Env) (L : Nat → Blk) (id : Nat) (bd : Code) (Q : Ex → St → Prop) : Ex → St → Prop
  | .norm, σ => σ.h id = some (L 0) ∧ W E bd ⟨σ.sl, σ.h.upd id (some (L 1)), σ.nx⟩ Q
  | _, _ => False
/-- It ends. -/
def endK (L : Nat → Blk) (id : Nat) (R : Bool → Heap → Nat → Prop) : Ex → St → Prop
  | .norm, σ => σ.h id = some (L 1) ∧ R true (σ.h.upd id (some (L 0))) σ.nx
  | .ret, σ => σ.h id = some (L 1) ∧ R false (σ.h.upd id (some (L 2))) σ.nx
  | .exit i, σ => σ.h id = some (L 1) ∧ R false (σ.h.upd id (some (L (i + 3)))) σ.nx
  | .panic _, _ => False
theorem beginK_norm {L : Nat → Blk} {id : Nat} {bd : Code} : beginK E L id bd Q .norm σ = (σ.h id = some (L 0) ∧ W E bd ⟨σ.sl, σ.h.upd id (some (L 1)), σ.nx⟩ Q) := rfl
theorem endK_norm {L : Nat → Blk} {id : Nat} {R : Bool → Heap → Nat → Prop} : endK L id R .norm σ = (σ.h id = some (L 1) ∧ R true (σ.h.upd id (some (L 0))) σ.nx) := rfl
theorem endK_ret {L : Nat → Blk} {id : Nat} {R : Bool → Heap → Nat → Prop} : endK L id R .ret σ = (σ.h id = some (L 1) ∧ R false (σ.h.upd id (some (L 2))) σ.nx) := rfl
theorem endK_exit {L : Nat → Blk} {id i : Nat} {R : Bool → Heap → Nat → Prop} : endK L id R (.exit i) σ = (σ.h id = some (L 1) ∧ R false (σ.h.upd id (some (L (i + 3)))) σ.nx) := rfl
theorem turn_loop {L : Nat → Blk} {ps : Array Tmp} {asg bd : Code} {sl : List AV} (hL : IsLoop L ps asg bd sl) (s s' : Nat) : turn s s' (some (L s)) = some (L s') := by
  rw [hL s, hL s']
  unfold turn loopRow
  simp
theorem denO_yield {L : Nat → Blk} {ps : Array Tmp} {asg bd : Code} {sl args : List AV} (hL : IsLoop L ps asg bd sl) {id : Nat} {h : Heap} {nx : Nat} {R : Bool → Heap → Nat → Prop} (hE : E.fn 1000003 = none ∧ E.df 1000003 = none) (hrow : h id = some (L 0)) (hlen : args.length = ps.size)
    (hw : W E asg ⟨setAll sl (ps.toList.zip args), h, nx⟩ (beginK E L id bd (endK L id R))) : ∃ b h' n', denO E 1000003 (args ++ [.ref id 0 0]) h nx = some (.ret (.bool b), h', n') ∧ R b h' n' := by
  obtain ⟨e, σ1, h1, h2⟩ := hw
  cases e with
  | norm =>
    obtain ⟨h3, e2, σ2, h4, h5⟩ := h2
    have hr : rowOf (h id) = some (ps, asg, bd, sl) := by rw [hrow, hL 0]; rfl
    have t1 : turn 0 1 (σ1.h id) = some (L 1) := by rw [h3]; exact turn_loop hL 0 1
    have main : ∀ s b, roundBy e2 = some (s, b) → σ2.h id = some (L 1) → R b (σ2.h.upd id (some (L s))) σ2.nx → ∃ b h' n', denO E 1000003 (args ++ [.ref id 0 0]) h nx = some (.ret (.bool b), h', n') ∧ R b h' n' := by
      intro s b hb h6 hR
      refine ⟨b, _, _, ?_, hR⟩
      have t2 : turn 1 s (σ2.h id) = some (L s) := by rw [h6]; exact turn_loop hL 1 s
      unfold denO
      simp only [body, hE.1, hE.2, if_true, yieldB, List.getLast?_append, List.getLast?_singleton, Option.some_or, refOf, List.dropLast_concat, yieldR, hr, hlen, h1, t1, h4, roundEnd, hb, t2]
    cases e2 with
    | norm => exact main 0 true rfl h5.1 h5.2
    | ret => exact main 2 false rfl h5.1 h5.2
    | exit i => exact main (i + 3) false rfl h5.1 h5.2
    | panic v => exact h5.elim
  | ret => exact h2.elim
  | exit i => exact h2.elim
  | panic v => exact h2.elim
theorem setAll_two {sl : List AV} {t u : Tmp} {x y : AV} : setAll sl (([t, u] : List Tmp).zip [x, y]) = (sl.set t x).set u y := rfl
theorem setAll_one {sl : List AV} {t : Tmp} {x : AV} : setAll sl (([t] : List Tmp).zip [x]) = sl.set t x := rfl
end
attribute [go_sem] setAll_two setAll_one beginK_norm endK_norm endK_ret endK_exit
end Vm

/- Walks: how wide lists are. (Own work of this repo.) -/
namespace Go.Proofs.Ytnpomadbaanpkaa
open Vm
set_option maxRecDepth 10000

theorem take_getD {A : Mat} {i : Nat} (h : i < A.length) : A.take (i + 1) = A.take i ++ [A.getD i default] := by
  rw [List.take_add_one, List.getD_eq_getElem?_getD, List.getElem?_eq_getElem h]; rfl
set_option maxHeartbeats 1000000 in
theorem wide_open (nl : Bool) (A : Mat) (hA : ShortM A) (id : Nat) (B : Mat) (hB : ShortM B) (hb : B.length ≤ 10) (h : Heap) (nx : Nat) (hi : id < nx) (hH : h id = some ⟨B.map lr, false, 1, false⟩) :
    ∃ (b : Bool) (h' : Heap) (n' : Nat), denO E 13 [mraw nl A, .ref id 0 B.length] h nx = some (.ret (.bool b), h', n') ∧ nx ≤ n' ∧ (∀ i, i < nx → i ≠ id → h' i = h i) ∧ (b = false → A.length ≤ 20 ∧ ∀ j, j < (B ++ A).length → Narrow ((B ++ A).getD j default).2) := by
  have key : ∃ v h' n', denO E 13 [mraw nl A, .ref id 0 B.length] h nx = some (.ret v, h', n') ∧ (∃ b : Bool, v = .bool b ∧ (b = false → A.length ≤ 20 ∧ ∀ j, j < (B ++ A).length → Narrow ((B ++ A).getD j default).2)) ∧ nx ≤ n' ∧ (∀ i, i < nx → i ≠ id → h' i = h i) := by
    refine denO_intro E13 rfl ?_
    by_cases h20 : 20 < A.length
    · have z1 : ((20 : Int) < (A.length : Int)) = True := eq_true (by omega)
      simp (maxSteps := 4000000) only [go_sem, seval, ↓reduceIte, reduceCtorEq, Try.f13, z1]
      refine ⟨⟨true, rfl, by simp⟩, ?_⟩
      simp
    · have z1 : ((20 : Int) < (A.length : Int)) = False := eq_false (by omega)
      simp (maxSteps := 4000000) only [go_sem, seval, ↓reduceIte, reduceCtorEq, Try.f13, z1]
      refine W_loopS (fun k sl h' n' => ∃ i c : Nat, (∃ g : Nat → AV, sl = [mraw nl A, .ref c 0 (B ++ A.take i).length, g 2, g 3, g 4, .int .i64 i, g 6, g 7, g 8, g 9, g 10, g 11, g 12, g 13, g 14, g 15, g 16, g 17, g 18, g 19, g 20, g 21, g 22, g 23, g 24, g 25, g 26, g 27, g 28, g 29, g 30, g 31, g 32, g 33, g 34, g 35, g 36, g 37, g 38, g 39, g 40, g 41, g 42, g 43]) ∧ i + k = A.length ∧ h' c = some ⟨(B ++ A.take i).map lr, false, 1, false⟩ ∧ c < n' ∧ nx ≤ n' ∧ (c = id ∨ nx ≤ c) ∧ (∀ i, i < nx → i ≠ id → h' i = h i)) A.length ⟨0, id, ?_, by omega, ?_, hi, Nat.le_refl _, .inl rfl, fun i h1 h2 => rfl⟩ ?_
      · rw [List.take_zero, List.append_nil]; exact garb rfl
      · rw [List.take_zero, List.append_nil]; exact hH
      rintro k _ h' n' ⟨i, c, ⟨g, rfl⟩, hk, hc, hcn, hnn, hcid, hfr⟩
      have hlen : (B ++ A.take i).length ≤ 30 := by rw [List.length_append, List.length_take]; omega
      by_cases hi0 : i = A.length
      · have z2 : ((i : Int) < (A.length : Int)) = False := eq_false (by omega)
        simp (maxSteps := 4000000) only [go_sem, seval, ↓reduceIte, reduceCtorEq, z2]
        have hall : B ++ A.take i = B ++ A := by rw [hi0, List.take_length]
        rw [hall] at hc hlen ⊢
        have hsh : ∀ j, Short ((B ++ A).getD j default).2 := by
          intro j
          have : ShortM (B ++ A) := ⟨by omega, fun r hr => by rcases List.mem_append.1 hr with h | h; exact hB.2 r h; exact hA.2 r h⟩
          exact this.get j
        generalize hM : B ++ A = M at *
        clear hall
        refine W_loopS (fun k sl h'' n'' => ∃ i : Nat, (∃ g : Nat → AV, sl = [g 0, .ref c 0 M.length, g 2, g 3, g 4, g 5, .int .i64 i, g 7, g 8, g 9, g 10, g 11, g 12, g 13, g 14, g 15, g 16, g 17, g 18, g 19, g 20, g 21, g 22, g 23, g 24, g 25, g 26, g 27, g 28, g 29, g 30, g 31, g 32, g 33, g 34, g 35, g 36, g 37, g 38, g 39, g 40, g 41, g 42, g 43]) ∧ i + k = M.length ∧ h'' c = some ⟨M.map lr, false, 1, false⟩ ∧ c < n'' ∧ nx ≤ n'' ∧ (∀ i, i < nx → i ≠ id → h'' i = h i) ∧ ∀ j, j < i → Narrow (M.getD j default).2) M.length ⟨0, garb rfl, by omega, hc, hcn, hnn, hfr, by omega⟩ ?_
        clear hc hcn hnn hfr
        rintro k2 _ h' n' ⟨i, ⟨g, rfl⟩, hk2, hc, hcn, hnn, hfr, hnar⟩
        by_cases hi1 : i = M.length
        · have z3 : ((i : Int) < (M.length : Int)) = False := eq_false (by omega)
          simp (maxSteps := 4000000) only [go_sem, seval, ↓reduceIte, reduceCtorEq, z3, hc]
          refine ⟨⟨false, rfl, fun _ => ⟨by omega, fun j hj => hnar j (by omega)⟩⟩, hnn, hfr⟩
        · have z3 : ((i : Int) < (M.length : Int)) = True := eq_true (by omega)
          have z0 : ((0 : Int) ≤ (i : Int)) = True := eq_true (by omega)
          have hg := get_lr (A := M) (i := i) (by omega)
          have w1 : IntKind.i64.wrap ((i + 1 : Nat) : Int) = ((i + 1 : Nat) : Int) := wrap64 (by omega) (by omega)
          have hS := hsh i
          have hn1 := hnar
          obtain ⟨R, hR⟩ : ∃ R, R = M.getD i default := ⟨_, rfl⟩
          rw [← hR] at hg hS
          obtain ⟨n, hw, hwn⟩ := words_one R.1 R.2 hS
          have hpl : ∀ (m : Nat) (H : Heap), purify (m + 1) H (.lst R.1 (R.2.map ivr)) = some (.lst R.1 (R.2.map ivr), []) := fun m H => purify_lst (pure_ivr _)
          have x1 : (c = n') = False := eq_false (by omega)
          have x2 : (n' = c) = False := eq_false (by omega)
          have hml : (M.map lr).length = M.length := List.length_map _
          have hil : ((i : Int) < (M.length : Int)) = True := z3
          have hstep : ∀ (h'' : Heap) (n'' : Nat) (sl : List AV), Narrow R.2 → (∃ g : Nat → AV, sl = [g 0, .ref c 0 M.length, g 2, g 3, g 4, g 5, .int .i64 ((i + 1 : Nat) : Int), g 7, g 8, g 9, g 10, g 11, g 12, g 13, g 14, g 15, g 16, g 17, g 18, g 19, g 20, g 21, g 22, g 23, g 24, g 25, g 26, g 27, g 28, g 29, g 30, g 31, g 32, g 33, g 34, g 35, g 36, g 37, g 38, g 39, g 40, g 41, g 42, g 43]) → h'' c = some ⟨M.map lr, false, 1, false⟩ → c < n'' → nx ≤ n'' → (∀ i, i < nx → i ≠ id → h'' i = h i) →
              ∃ k', k' < k2 ∧ ∃ i : Nat, (∃ g : Nat → AV, sl = [g 0, .ref c 0 M.length, g 2, g 3, g 4, g 5, .int .i64 i, g 7, g 8, g 9, g 10, g 11, g 12, g 13, g 14, g 15, g 16, g 17, g 18, g 19, g 20, g 21, g 22, g 23, g 24, g 25, g 26, g 27, g 28, g 29, g 30, g 31, g 32, g 33, g 34, g 35, g 36, g 37, g 38, g 39, g 40, g 41, g 42, g 43]) ∧ i + k' = M.length ∧ h'' c = some ⟨M.map lr, false, 1, false⟩ ∧ c < n'' ∧ nx ≤ n'' ∧ (∀ i, i < nx → i ≠ id → h'' i = h i) ∧ ∀ j, j < i → Narrow (M.getD j default).2 := fun h'' n'' sl a0 a1 a2 a3 a4 a5 => ⟨k2 - 1, by omega, i + 1, a1, by omega, a2, a3, a4, a5, fun j hj => by
                by_cases e : j = i
                · rw [e, ← hR]; exact a0
                · exact hnar j (by omega)⟩
          generalize hIQ : (fun (k : Nat) (σ : St) => ∃ i : Nat, (∃ g : Nat → AV, σ.sl = [g 0, .ref c 0 M.length, g 2, g 3, g 4, g 5, .int .i64 i, g 7, g 8, g 9, g 10, g 11, g 12, g 13, g 14, g 15, g 16, g 17, g 18, g 19, g 20, g 21, g 22, g 23, g 24, g 25, g 26, g 27, g 28, g 29, g 30, g 31, g 32, g 33, g 34, g 35, g 36, g 37, g 38, g 39, g 40, g 41, g 42, g 43]) ∧ i + k = M.length ∧ σ.h c = some ⟨M.map lr, false, 1, false⟩ ∧ c < σ.nx ∧ nx ≤ σ.nx ∧ (∀ i, i < nx → i ≠ id → σ.h i = h i) ∧ ∀ j, j < i → Narrow (M.getD j default).2) = IQ
          clear hnar hn1 hsh
          by_cases h40 : 40 < R.2.length
          · have z4 : ((40 : Int) < (R.2.length : Int)) = True := eq_true (by omega)
            simp (maxSteps := 4000000) only [go_sem, seval, ↓reduceIte, reduceCtorEq, z0, z3, hc, hg, hml, z4, x1, x2, Int.toNat_natCast]
            exact ⟨⟨true, rfl, by simp⟩, hnn, hfr⟩
          · have z4 : ((40 : Int) < (R.2.length : Int)) = False := eq_false (by omega)
            by_cases hn : 4200 < n
            · have z5 : ((4200 : Int) < (n : Int)) = True := eq_true (by omega)
              simp (maxSteps := 4000000) only [go_sem, seval, ↓reduceIte, reduceCtorEq, z0, z3, hc, hg, hml, z4, z5, x1, x2, hpl, hw, refP, elems, List.headD_cons, reps, places, fillAll]
              refine ⟨⟨true, rfl, by simp⟩, by omega, fun j j1 j2 => ?_⟩
              rw [if_neg (by omega), if_neg (by omega)]
              exact hfr j j1 j2
            · have z5 : ((4200 : Int) < (n : Int)) = False := eq_false (by omega)
              have hnr : Narrow R.2 := ⟨by omega, (hwn 4200).1 (by omega)⟩
              simp (maxSteps := 4000000) only [go_sem, seval, ↓reduceIte, reduceCtorEq, z0, z3, hc, hg, hml, z4, z5, x1, x2, hpl, hw, w1, refP, elems, List.headD_cons, reps, places, fillAll]
              rw [← hIQ]
              refine hstep _ _ _ hnr (garb rfl) ?_ (by dsimp only; omega) (by dsimp only; omega) fun j j1 j2 => ?_
              · simp only [upd_apply, ↓reduceIte, Nat.reduceEqDiff, hc, x1, x2]
              · simp only [upd_apply]
                rw [if_neg (by omega), if_neg (by omega)]
                exact hfr j j1 j2
      · have z2 : ((i : Int) < (A.length : Int)) = True := eq_true (by omega)
        have hg := get_lr (A := A) (i := i) (by omega)
        have ht := take_getD (A := A) (i := i) (by omega)
        have w1 : IntKind.i64.wrap ((i + 1 : Nat) : Int) = ((i + 1 : Nat) : Int) := wrap64 (by omega) (by omega)
        have z0 : ((0 : Int) ≤ (i : Int)) = True := eq_true (by omega)
        have x1 : (c = n') = False := eq_false (by omega)
        have x2 : (n' = c) = False := eq_false (by omega)
        have x3 : (c = n' + 1) = False := eq_false (by omega)
        have x4 : (n' + 1 = c) = False := eq_false (by omega)
        have hmem : ((2 * ((B ++ A.take i).length + 1) + 1000) * 24 ≤ 281474976710656) = True := eq_true (by omega)
        have hl2 : (B ++ A.take (i + 1)).length = (B ++ A.take i).length + 1 := by rw [ht, ← List.append_assoc, List.length_append]; rfl
        have hm2 : (B ++ A.take (i + 1)).map lr = (B ++ A.take i).map lr ++ [lr (A.getD i default)] := by rw [ht, ← List.append_assoc, List.map_append]; rfl
        generalize hM : B ++ A.take i = M at *
        have hml : (M.map lr).length = M.length := List.length_map _
        simp (maxSteps := 4000000) only [go_sem, seval, ↓reduceIte, reduceCtorEq, z0, z2, hg, hc, w1, x1, x2, x3, x4, hmem, hml, flat, reps, srcCells, appendEff, Nat.le_refl, places, fillAll]
        refine ⟨k - 1, by omega, i + 1, n' + 1, ?_, by omega, ?_, by omega, by omega, .inr (by omega), ?_⟩
        · rw [hl2]; exact garb rfl
        · rw [if_pos rfl, hm2]
        · intro j j1 j2
          rw [if_neg (by omega), if_neg (by omega), if_neg (by omega)]
          exact hfr j j1 j2
  obtain ⟨v, h', n', h1, ⟨b, rfl, h2⟩, h3, h4⟩ := key
  exact ⟨b, h', n', h1, h3, h4, h2⟩
end Go.Proofs.Ytnpomadbaanpkaa

/- Walks: what a system is. (Own work of this repo.) -/
namespace Go.Proofs.Ytnpomadbaanpkaa
open Vm
set_option maxRecDepth 10000

def rowB (w : Nat) (r : Bool × List Raw) : Bool := decide (1 ≤ r.2.length ∧ r.2.length ≤ 8 ∧ r.2.length = w) && r.2.all okB
def sysB (A : Mat) (B : List Raw) : Bool := decide (1 ≤ A.length ∧ A.length ≤ 8 ∧ B.length = A.length) && B.all okB && A.all (rowB (A.getD 0 default).2.length)
theorem allM_upto {p : Bool × List Raw → Bool} {L : Mat} (h : ∀ j, j < L.length → p (L.getD j default) = true) : L.all p = true := by
  rw [List.all_eq_true]
  intro q hq
  obtain ⟨j, hj, rfl⟩ := List.getElem_of_mem hq
  have := h j hj
  rwa [List.getD_eq_getElem?_getD, List.getElem?_eq_getElem hj] at this
theorem allM_not {p : Bool × List Raw → Bool} {L : Mat} {i : Nat} (hi : i < L.length) (h : p (L.getD i default) = false) : L.all p = false := by
  rw [List.all_eq_false]
  refine ⟨L.getD i default, ?_, by rw [h]; simp⟩
  rw [List.getD_eq_getElem?_getD, List.getElem?_eq_getElem hi]
  exact List.getElem_mem _
def InM (A : Mat) : Prop := ∀ r ∈ A, ∀ q ∈ r.2, InR q.2.2
theorem InM.get {A : Mat} (h : InM A) (i : Nat) : ∀ q ∈ (A.getD i default).2, InR q.2.2 := by
  rw [List.getD_eq_getElem?_getD]
  rcases Nat.lt_or_ge i A.length with h1 | h1
  · rw [List.getElem?_eq_getElem h1]; exact h _ (List.getElem_mem _)
  · rw [List.getElem?_eq_none h1]; intro q hq; cases hq
set_option maxHeartbeats 1000000 in
theorem refSystem (nl : Bool) (A : Mat) (nb : Bool) (B : List Raw) (hA : ShortM A) (hB : Short B) (iA : InM A) (iB : ∀ q ∈ B, InR q.2.2) : denP E 16 [mraw nl A, lraw nb B] = some (.ret (.bool (sysB A B))) := by
  refine denP_eq E16 rfl (by simp [AV.pureL, AV.pure, pure_lr, pure_ivr]) ?_
  have hL := hA.1
  have hLB := hB.1
  have n1 := refNumbers nb B hB iB
  by_cases h1 : A.length < 1
  · have z1 : ((A.length : Int) < 1) = True := eq_true (by omega)
    have hv : sysB A B = false := by unfold sysB; rw [decide_eq_false (by omega)]; simp
    simp (maxSteps := 4000000) only [go_sem, seval, ↓reduceIte, reduceCtorEq, Try.f16, z1, hv]
  have z1 : ((A.length : Int) < 1) = False := eq_false (by omega)
  by_cases h2 : 8 < A.length
  · have z2 : ((8 : Int) < (A.length : Int)) = True := eq_true (by omega)
    have hv : sysB A B = false := by unfold sysB; rw [decide_eq_false (by omega)]; simp
    simp (maxSteps := 4000000) only [go_sem, seval, ↓reduceIte, reduceCtorEq, Try.f16, z1, z2, hv]
  have z2 : ((8 : Int) < (A.length : Int)) = False := eq_false (by omega)
  by_cases h3 : B.length = A.length
  rotate_left
  · have z3 : ((B.length : Int) = (A.length : Int)) = False := eq_false (by omega)
    have hv : sysB A B = false := by unfold sysB; rw [decide_eq_false (by omega)]; simp
    simp (maxSteps := 4000000) only [go_sem, seval, ↓reduceIte, reduceCtorEq, Try.f16, z1, z2, z3, hv]
  have z3 : ((B.length : Int) = (A.length : Int)) = True := eq_true (by omega)
  have hd : decide (1 ≤ A.length ∧ A.length ≤ 8 ∧ B.length = A.length) = true := decide_eq_true (by omega)
  cases h4 : B.all okB with
  | false =>
    rw [h4] at n1
    have hv : sysB A B = false := by unfold sysB; rw [h4]; simp
    simp (maxSteps := 4000000) only [go_sem, seval, ↓reduceIte, reduceCtorEq, Try.f16, z1, z2, z3, n1, hv, purify_lraw]
  | true =>
    rw [h4] at n1
    have hv : sysB A B = A.all (rowB (A.getD 0 default).2.length) := by unfold sysB; rw [h4, hd]; simp
    rw [hv]
    simp (maxSteps := 4000000) only [go_sem, seval, ↓reduceIte, reduceCtorEq, Try.f16, z1, z2, z3, n1, purify_lraw]
    have hg0 := get_lr (A := A) (i := 0) (by omega)
    obtain ⟨w, hw⟩ : ∃ w, w = (A.getD 0 default).2.length := ⟨_, rfl⟩
    have hwl := (hA.get 0).1
    rw [← hw] at hwl ⊢
    refine W_loopS (fun k sl h nx => ∃ i : Nat, (∃ g : Nat → AV, sl = [mraw nl A, g 1, g 2, g 3, g 4, .int .i64 i, g 6, g 7, g 8, g 9, g 10, g 11, g 12, g 13, g 14, g 15, g 16, g 17, g 18, g 19, g 20, g 21, g 22, g 23, g 24, g 25, g 26, g 27, g 28, g 29, g 30, g 31, g 32, g 33, g 34, g 35, g 36, g 37, g 38, g 39, g 40, g 41, g 42, g 43, g 44, g 45, g 46, g 47, g 48, g 49, g 50, g 51, g 52, g 53, g 54, g 55, g 56, g 57, g 58, g 59, g 60, g 61, g 62, g 63, g 64, g 65]) ∧ i + k = A.length ∧ ∀ j, j < i → rowB w (A.getD j default) = true) A.length ⟨0, ?_, by omega, by omega⟩ ?_
    · refine garb ?_
      rfl
    rintro k _ h nx ⟨i, ⟨g, rfl⟩, hk, hall⟩
    by_cases hi : i = A.length
    · have z4 : ((i : Int) < (A.length : Int)) = False := eq_false (by omega)
      have hv : A.all (rowB w) = true := allM_upto fun j hj => hall j (by omega)
      simp (maxSteps := 4000000) only [go_sem, seval, ↓reduceIte, reduceCtorEq, z4, hv]
    · have z4 : ((i : Int) < (A.length : Int)) = True := eq_true (by omega)
      have z0 : ((0 : Int) ≤ (i : Int)) = True := eq_true (by omega)
      have hml : (A.map lr).length = A.length := List.length_map _
      have w1 : IntKind.i64.wrap ((i + 1 : Nat) : Int) = ((i + 1 : Nat) : Int) := wrap64 (by omega) (by omega)
      have hg := get_lr (A := A) (i := i) (by omega)
      have hS := hA.get i
      have hI := iA.get i
      have hSl := hS.1
      have hno : rowB w (A.getD i default) = false → A.all (rowB w) = false := allM_not (by omega)
      have hyes : rowB w (A.getD i default) = true → ∀ j, j < i + 1 → rowB w (A.getD j default) = true := fun h j hj => by
        by_cases e : j = i
        · rw [e]; exact h
        · exact hall j (by omega)
      have hw0 : ((A.getD 0 default).2.length : Int) = (w : Int) := by rw [hw]
      have z00 : ((0 : Int) < (A.length : Int)) = True := eq_true (by omega)
      have hml0 : ((A.getD 0 default).2.map ivr).length = w := by rw [List.length_map, hw]
      generalize A.getD 0 default = R0 at *
      obtain ⟨R, hR⟩ : ∃ R, R = A.getD i default := ⟨_, rfl⟩
      rw [← hR] at hg hS hI hSl hno hyes
      have n2 := refNumbers R.1 R.2 hS hI
      have hrow : ∀ b, (decide (1 ≤ R.2.length ∧ R.2.length ≤ 8 ∧ R.2.length = w) && R.2.all okB) = b → rowB w R = b := fun b h => h
      have hnext : rowB w R = true → ∀ (sl : List AV), (∃ g : Nat → AV, sl = [mraw nl A, g 1, g 2, g 3, g 4, .int .i64 ((i + 1 : Nat) : Int), g 6, g 7, g 8, g 9, g 10, g 11, g 12, g 13, g 14, g 15, g 16, g 17, g 18, g 19, g 20, g 21, g 22, g 23, g 24, g 25, g 26, g 27, g 28, g 29, g 30, g 31, g 32, g 33, g 34, g 35, g 36, g 37, g 38, g 39, g 40, g 41, g 42, g 43, g 44, g 45, g 46, g 47, g 48, g 49, g 50, g 51, g 52, g 53, g 54, g 55, g 56, g 57, g 58, g 59, g 60, g 61, g 62, g 63, g 64, g 65]) →
          ∃ k', k' < k ∧ ∃ i : Nat, (∃ g : Nat → AV, sl = [mraw nl A, g 1, g 2, g 3, g 4, .int .i64 i, g 6, g 7, g 8, g 9, g 10, g 11, g 12, g 13, g 14, g 15, g 16, g 17, g 18, g 19, g 20, g 21, g 22, g 23, g 24, g 25, g 26, g 27, g 28, g 29, g 30, g 31, g 32, g 33, g 34, g 35, g 36, g 37, g 38, g 39, g 40, g 41, g 42, g 43, g 44, g 45, g 46, g 47, g 48, g 49, g 50, g 51, g 52, g 53, g 54, g 55, g 56, g 57, g 58, g 59, g 60, g 61, g 62, g 63, g 64, g 65]) ∧ i + k' = A.length ∧ ∀ j, j < i → rowB w (A.getD j default) = true := fun h0 sl h1 => ⟨k - 1, by omega, i + 1, h1, by omega, hyes h0⟩
      generalize hIQ : (fun (k : Nat) (σ : St) => ∃ i : Nat, (∃ g : Nat → AV, σ.sl = [mraw nl A, g 1, g 2, g 3, g 4, .int .i64 i, g 6, g 7, g 8, g 9, g 10, g 11, g 12, g 13, g 14, g 15, g 16, g 17, g 18, g 19, g 20, g 21, g 22, g 23, g 24, g 25, g 26, g 27, g 28, g 29, g 30, g 31, g 32, g 33, g 34, g 35, g 36, g 37, g 38, g 39, g 40, g 41, g 42, g 43, g 44, g 45, g 46, g 47, g 48, g 49, g 50, g 51, g 52, g 53, g 54, g 55, g 56, g 57, g 58, g 59, g 60, g 61, g 62, g 63, g 64, g 65]) ∧ i + k = A.length ∧ ∀ j, j < i → rowB w (A.getD j default) = true) = IQ
      clear hall hyes hw n1 hv hd
      by_cases r1 : R.2.length < 1
      · have y1 : ((R.2.length : Int) < 1) = True := eq_true (by omega)
        have hv := hno (hrow _ (by rw [decide_eq_false (by omega)]; rfl))
        simp (maxSteps := 4000000) only [go_sem, seval, ↓reduceIte, reduceCtorEq, z4]
        refine W_drawn ?_
        simp (maxSteps := 4000000) only [go_sem, seval, ↓reduceIte, reduceCtorEq, z0, z4, z00, hg, hg0, hml, y1, hml0, Int.toNat_zero, hw0]
        refine ⟨by rfl, ?_⟩
        simp (maxSteps := 4000000) only [go_sem, seval, ↓reduceIte, reduceCtorEq, hv]
      have y1 : ((R.2.length : Int) < 1) = False := eq_false (by omega)
      by_cases r2 : 8 < R.2.length
      · have y2 : ((8 : Int) < (R.2.length : Int)) = True := eq_true (by omega)
        have hv := hno (hrow _ (by rw [decide_eq_false (by omega)]; rfl))
        simp (maxSteps := 4000000) only [go_sem, seval, ↓reduceIte, reduceCtorEq, z4]
        refine W_drawn ?_
        simp (maxSteps := 4000000) only [go_sem, seval, ↓reduceIte, reduceCtorEq, z0, z4, z00, hg, hg0, hml, y1, y2, hml0, Int.toNat_zero, hw0]
        refine ⟨by rfl, ?_⟩
        simp (maxSteps := 4000000) only [go_sem, seval, ↓reduceIte, reduceCtorEq, hv]
      have y2 : ((8 : Int) < (R.2.length : Int)) = False := eq_false (by omega)
      by_cases r3 : R.2.length = w
      rotate_left
      · have y3 : ((R.2.length : Int) = (w : Int)) = False := eq_false (by omega)
        have hv := hno (hrow _ (by rw [decide_eq_false (by omega)]; rfl))
        simp (maxSteps := 4000000) only [go_sem, seval, ↓reduceIte, reduceCtorEq, z4]
        refine W_drawn ?_
        simp (maxSteps := 4000000) only [go_sem, seval, ↓reduceIte, reduceCtorEq, z0, z4, z00, hg, hg0, hml, y1, y2, y3, hml0, Int.toNat_zero, hw0]
        refine ⟨by rfl, ?_⟩
        simp (maxSteps := 4000000) only [go_sem, seval, ↓reduceIte, reduceCtorEq, hv]
      have y3 : ((R.2.length : Int) = (w : Int)) = True := eq_true (by omega)
      cases r4 : R.2.all okB with
      | false =>
        rw [r4] at n2
        have hv := hno (hrow _ (by rw [r4, Bool.and_false]))
        simp (maxSteps := 4000000) only [go_sem, seval, ↓reduceIte, reduceCtorEq, z4]
        refine W_drawn ?_
        simp (maxSteps := 4000000) only [go_sem, seval, ↓reduceIte, reduceCtorEq, z0, z4, z00, hg, hg0, hml, y1, y2, y3, n2, purify_lraw, hml0, Int.toNat_zero, hw0]
        refine ⟨by rfl, ?_⟩
        simp (maxSteps := 4000000) only [go_sem, seval, ↓reduceIte, reduceCtorEq, hv]
      | true =>
        rw [r4] at n2
        have hv := hnext (hrow _ (by rw [r4, decide_eq_true (by omega)]; rfl))
        simp (maxSteps := 4000000) only [go_sem, seval, ↓reduceIte, reduceCtorEq, z4]
        refine W_drawn ?_
        simp (maxSteps := 4000000) only [go_sem, seval, ↓reduceIte, reduceCtorEq, z0, z4, z00, hg, hg0, hml, y1, y2, y3, n2, purify_lraw, hml0, Int.toNat_zero, hw0]
        refine ⟨by rfl, ?_⟩
        simp (maxSteps := 4000000) only [go_sem, seval, ↓reduceIte, reduceCtorEq, w1]
        rw [← hIQ]
        refine hv _ ?_
        refine garb ?_
        rfl
end Go.Proofs.Ytnpomadbaanpkaa
