/- Part 3 of a proof about this seat: Luk1, Stab, Chn, Chn1, Chn2, Sh1, Sh2, Knuth, Digit, Div1, Div2, Div3, Chn3, Wlk1, Pow1. (Own work of this repo.) -/
import Derived.Test.YtmgmcnoobgljpaaZLucasRank2
set_option linter.unusedVariables false
set_option linter.unusedSimpArgs false
/- Walks: which numbers fit. (Own work of this repo.) -/
namespace Go.Proofs.Ytmgmcnoobgljpaa
open Vm
set_option maxRecDepth 10000

def rvl (q : Raw) : Bool := validW q.1 q.2.2
theorem purify_ivr {n : Nat} {H : Heap} {nl : Bool} {L : List Raw} : purify (n + 1) H (.lst nl (L.map ivr)) = some (.lst nl (L.map ivr), []) := by simp [purify, AV.pure, pure_ivr]
theorem chainValid_walk (nl : Bool) (L : List Raw) (hn : nl = true → L = []) (hL : L.length < 2 ^ 40) (hl : ∀ q ∈ L, q.2.2.length < 2 ^ 40) : denP E 72 [.lst nl (L.map ivr)] = some (.ret (.bool (L.all rvl))) := by
  refine denP_eq E72 rfl (by simp [AV.pureL, AV.pure, pure_ivr]) ?_
  simp (maxSteps := 4000000) (disch := omega) only [go_sem, ↓reduceIte, Nat.reduceAdd, Nat.reduceSub, Nat.reduceMul, Nat.reduceEqDiff, reduceCtorEq, Int.reduceAdd, Int.reduceLT, Int.reduceLE, Int.reduceToNat, Int.reduceNeg, Int.reduceSub, ← List.map_take, ← List.map_drop, wrap64, wrapu64, wrapu32, ← Int.natCast_add, ← Int.natCast_mul, cast_succ, wrapu32_nat, shr32, reps_wd, map_set_wd, List.length_set, zs_len, Try.f72]
  refine W_loopS (fun k sl h nx => ∃ i : Nat, (∃ g : Nat → AV, sl = [g 0, g 1, g 2, g 3, g 4, .lst nl (L.map ivr), .int .i64 L.length, .int .i64 i, g 8, g 9, g 10, g 11, g 12, g 13, g 14]) ∧
    i + k = L.length ∧ Hd (∀ j, j < i → rvl (L.getD j default) = true)) L.length ⟨0, garb rfl, by omega, ⟨by omega⟩⟩ ?_
  rintro k _ H nx ⟨i, ⟨g, rfl⟩, hk, hall⟩
  by_cases hk0 : k = 0
  · have hv : L.all rvl = true := by
      rw [List.all_eq_true]
      intro q hq
      obtain ⟨j, hj, rfl⟩ := List.getElem_of_mem hq
      have := hall.out j (by omega)
      rwa [List.getD_eq_getElem?_getD, List.getElem?_eq_getElem hj] at this
    clear hall hl
    simp (maxSteps := 4000000) (disch := omega) only [go_sem, ↓reduceIte, Nat.reduceAdd, Nat.reduceSub, Nat.reduceMul, Nat.reduceEqDiff, reduceCtorEq, Int.reduceAdd, Int.reduceLT, Int.reduceLE, Int.reduceToNat, Int.reduceNeg, Int.reduceSub, ← List.map_take, ← List.map_drop, wrap64, wrapu64, wrapu32, ← Int.natCast_add, ← Int.natCast_mul, cast_succ, wrapu32_nat, shr32, reps_wd, map_set_wd, List.length_set, zs_len, hv]
  · have hg := get_ivr (L := L) (i := i) (by omega)
    have hmem : L.getD i default ∈ L := by
      rw [List.getD_eq_getElem?_getD, List.getElem?_eq_getElem (by omega)]; exact List.getElem_mem _
    have hno : rvl (L.getD i default) = false → L.all rvl = false := fun h => by
      rw [List.all_eq_false]; exact ⟨_, hmem, by rw [h]; simp⟩
    have hll := hl _ hmem
    have hnext : rvl (L.getD i default) = true → Hd (∀ j, j < i + 1 → rvl (L.getD j default) = true) := fun h => ⟨fun j hj => by
      by_cases hji : j = i
      · subst hji; exact h
      · exact hall.out j (by omega)⟩
    clear hall hl
    generalize L.getD i default = q at *
    obtain ⟨neg, ql, l⟩ := q
    dsimp only at hg hll
    have h1 := valid24 neg ql l (by omega)
    cases h3 : validW neg l with
    | true =>
      rw [h3] at h1
      simp (maxSteps := 4000000) (disch := omega) only [go_sem, ↓reduceIte, Nat.reduceAdd, Nat.reduceSub, Nat.reduceMul, Nat.reduceEqDiff, reduceCtorEq, Int.reduceAdd, Int.reduceLT, Int.reduceLE, Int.reduceToNat, Int.reduceNeg, Int.reduceSub, ← List.map_take, ← List.map_drop, wrap64, wrapu64, wrapu32, ← Int.natCast_add, ← Int.natCast_mul, cast_succ, wrapu32_nat, shr32, reps_wd, map_set_wd, List.length_set, zs_len, hg, h1]
      exact ⟨k - 1, by omega, i + 1, garb rfl, by omega, hnext h3⟩
    | false =>
      rw [h3] at h1
      have hv := hno h3
      simp (maxSteps := 4000000) (disch := omega) only [go_sem, ↓reduceIte, Nat.reduceAdd, Nat.reduceSub, Nat.reduceMul, Nat.reduceEqDiff, reduceCtorEq, Int.reduceAdd, Int.reduceLT, Int.reduceLE, Int.reduceToNat, Int.reduceNeg, Int.reduceSub, ← List.map_take, ← List.map_drop, wrap64, wrapu64, wrapu32, ← Int.natCast_add, ← Int.natCast_mul, cast_succ, wrapu32_nat, shr32, reps_wd, map_set_wd, List.length_set, zs_len, hg, h1, hv]
theorem less_spec (ma : Bool) (x : Int) (mb : Bool) (y : Int) (hx : (dg x).length ≤ 4096) (hy : (dg y).length ≤ 4096) : denP E 63 [I ma x, I mb y] = some (.ret (.bool (decide (x < y)))) := by
  refine denP_eq E63 rfl (by simp [AV.pureL, AV.pure, pure_wd]) ?_
  have h1 := cmp_spec ma x mb y hx hy
  have h2 : decide (cmpI x y < 0) = decide (x < y) := by unfold cmpI; split <;> (try split) <;> simp <;> omega
  generalize cmpI x y = c at *
  simp (maxSteps := 4000000) (disch := omega) only [go_sem, ↓reduceIte, Nat.reduceAdd, Nat.reduceSub, Nat.reduceMul, Nat.reduceEqDiff, reduceCtorEq, Int.reduceAdd, Int.reduceLT, Int.reduceLE, Int.reduceToNat, Int.reduceNeg, Int.reduceSub, ← List.map_take, ← List.map_drop, wrap64, wrapu64, wrapu32, Try.f63, h1, h2]
theorem chSame_spec (ma : Bool) (x : Int) (mb : Bool) (y : Int) (hx : (dg x).length ≤ 4096) (hy : (dg y).length ≤ 4096) : denP E 66 [I ma x, I mb y] = some (.ret (.bool (decide (x = y)))) := by
  refine denP_eq E66 rfl (by simp [AV.pureL, AV.pure, pure_wd]) ?_
  have h1 := cmp_spec ma x mb y hx hy
  have h2 : decide (cmpI x y = 0) = decide (x = y) := by unfold cmpI; split <;> (try split) <;> simp <;> omega
  generalize cmpI x y = c at *
  by_cases hc : c = 0
  · subst hc
    rw [decide_eq_true rfl] at h2
    rw [← h2]
    simp (maxSteps := 4000000) (disch := omega) only [go_sem, ↓reduceIte, Nat.reduceAdd, Nat.reduceSub, Nat.reduceMul, Nat.reduceEqDiff, reduceCtorEq, Int.reduceAdd, Int.reduceLT, Int.reduceLE, Int.reduceToNat, Int.reduceNeg, Int.reduceSub, ← List.map_take, ← List.map_drop, wrap64, wrapu64, wrapu32, Try.f66, h1]
  · rw [decide_eq_false hc] at h2
    rw [← h2]
    simp (maxSteps := 4000000) (disch := omega) only [go_sem, ↓reduceIte, Nat.reduceAdd, Nat.reduceSub, Nat.reduceMul, Nat.reduceEqDiff, reduceCtorEq, Int.reduceAdd, Int.reduceLT, Int.reduceLE, Int.reduceToNat, Int.reduceNeg, Int.reduceSub, ← List.map_take, ← List.map_drop, wrap64, wrapu64, wrapu32, Try.f66, h1, hc]
/-- The error of numbers: the first one is the number that the sequences begin with. -/
def fitW (q : Raw) (L : List Raw) : Bool := rvl q && L.all rvl
theorem fits_bad (q : Raw) (nl : Bool) (L : List Raw) (hn : nl = true → L = []) (hL : L.length < 2 ^ 40) (hq : q.2.2.length < 2 ^ 40) (hl : ∀ q ∈ L, q.2.2.length < 2 ^ 40) (h : fitW q L = false) : denP E 47 [ivr q, .lst nl (L.map ivr)] = some (.ret (.int .i64 1)) := by
  refine denP_eq E47 rfl (by simp [AV.pureL, AV.pure, pure_ivr, pure_wd]) ?_
  have h1 := chainValid_walk false [q] (by simp) (by simp) (by simpa using hq)
  have h2 := chainValid_walk nl L hn hL hl
  simp only [List.map_cons, List.map_nil, List.all_cons, List.all_nil, Bool.and_true] at h1
  simp only [ivr, iv] at h1 h2
  clear hl
  unfold fitW at h
  cases h3 : rvl q with
  | false =>
    rw [h3] at h1
    simp (maxSteps := 4000000) (disch := omega) only [go_sem, ↓reduceIte, Nat.reduceAdd, Nat.reduceSub, Nat.reduceMul, Nat.reduceEqDiff, reduceCtorEq, Int.reduceAdd, Int.reduceLT, Int.reduceLE, Int.reduceToNat, Int.reduceNeg, Int.reduceSub, ← List.map_take, ← List.map_drop, wrap64, wrapu64, wrapu32, ← Int.natCast_add, ← Int.natCast_mul, cast_succ, wrapu32_nat, shr32, reps_wd, map_set_wd, List.length_set, zs_len, Try.f47, h1, reps, fillAll, refP, elems, purify_ivr]
  | true =>
    rw [h3, Bool.true_and] at h
    rw [h3] at h1
    rw [h] at h2
    simp (maxSteps := 4000000) (disch := omega) only [go_sem, ↓reduceIte, Nat.reduceAdd, Nat.reduceSub, Nat.reduceMul, Nat.reduceEqDiff, reduceCtorEq, Int.reduceAdd, Int.reduceLT, Int.reduceLE, Int.reduceToNat, Int.reduceNeg, Int.reduceSub, ← List.map_take, ← List.map_drop, wrap64, wrapu64, wrapu32, ← Int.natCast_add, ← Int.natCast_mul, cast_succ, wrapu32_nat, shr32, reps_wd, map_set_wd, List.length_set, zs_len, Try.f47, h1, h2, reps, fillAll, refP, elems, purify_ivr]
theorem fits_ok (m : Bool) (a : Int) (ha : (dg a).length ≤ 4096) (nl : Bool) (L : List Raw) (hn : nl = true → L = []) (hL : L.length < 2 ^ 40) (hl : ∀ q ∈ L, q.2.2.length < 2 ^ 40) (h : L.all rvl = true) : denP E 47 [I m a, .lst nl (L.map ivr)] = some (.ret (.int .i64 (if a < 2 then 2 else 0))) := by
  refine denP_eq E47 rfl (by simp [AV.pureL, AV.pure, pure_ivr, pure_wd]) ?_
  have h1 := chainValid_walk false [(ng a, m, dg a)] (by simp) (by simp) (by simp; omega)
  have h2 := chainValid_walk nl L hn hL hl
  have h4 : rvl (ng a, m, dg a) = true := by unfold rvl; rw [validW_I, decide_eq_true ha]
  simp only [List.map_cons, List.map_nil, List.all_cons, List.all_nil, Bool.and_true, h4] at h1
  simp only [ivr, iv] at h1 h2
  rw [h] at h2
  have o2 := of_spec 2 (by decide) (by decide)
  have h5 := less_spec m a false 2 ha (by have := dg_small (z := 2) (by decide); omega)
  clear hl
  by_cases h6 : a < 2
  · rw [decide_eq_true h6] at h5
    simp (maxSteps := 4000000) (disch := omega) only [go_sem, ↓reduceIte, Nat.reduceAdd, Nat.reduceSub, Nat.reduceMul, Nat.reduceEqDiff, reduceCtorEq, Int.reduceAdd, Int.reduceLT, Int.reduceLE, Int.reduceToNat, Int.reduceNeg, Int.reduceSub, ← List.map_take, ← List.map_drop, wrap64, wrapu64, wrapu32, ← Int.natCast_add, ← Int.natCast_mul, cast_succ, wrapu32_nat, shr32, reps_wd, map_set_wd, List.length_set, zs_len, Try.f47, h1, h2, reps, fillAll, refP, elems, purify_ivr]
    refine W_drawn ?_
    simp (maxSteps := 4000000) (disch := omega) only [go_sem, ↓reduceIte, Nat.reduceAdd, Nat.reduceSub, Nat.reduceMul, Nat.reduceEqDiff, reduceCtorEq, Int.reduceAdd, Int.reduceLT, Int.reduceLE, Int.reduceToNat, Int.reduceNeg, Int.reduceSub, ← List.map_take, ← List.map_drop, wrap64, wrapu64, wrapu32, ← Int.natCast_add, ← Int.natCast_mul, cast_succ, wrapu32_nat, shr32, reps_wd, map_set_wd, List.length_set, zs_len, o2, h5, h6]
    rfl
  · rw [decide_eq_false h6] at h5
    simp (maxSteps := 4000000) (disch := omega) only [go_sem, ↓reduceIte, Nat.reduceAdd, Nat.reduceSub, Nat.reduceMul, Nat.reduceEqDiff, reduceCtorEq, Int.reduceAdd, Int.reduceLT, Int.reduceLE, Int.reduceToNat, Int.reduceNeg, Int.reduceSub, ← List.map_take, ← List.map_drop, wrap64, wrapu64, wrapu32, ← Int.natCast_add, ← Int.natCast_mul, cast_succ, wrapu32_nat, shr32, reps_wd, map_set_wd, List.length_set, zs_len, Try.f47, h1, h2, reps, fillAll, refP, elems, purify_ivr]
    refine W_drawn ?_
    simp (maxSteps := 4000000) (disch := omega) only [go_sem, ↓reduceIte, Nat.reduceAdd, Nat.reduceSub, Nat.reduceMul, Nat.reduceEqDiff, reduceCtorEq, Int.reduceAdd, Int.reduceLT, Int.reduceLE, Int.reduceToNat, Int.reduceNeg, Int.reduceSub, ← List.map_take, ← List.map_drop, wrap64, wrapu64, wrapu32, ← Int.natCast_add, ← Int.natCast_mul, cast_succ, wrapu32_nat, shr32, reps_wd, map_set_wd, List.length_set, zs_len, o2, h5, h6]
    rfl
end Go.Proofs.Ytmgmcnoobgljpaa

/- The machine over pure values: in a statement without an order, readers that hang on little are looked at once. (Own work of this repo.) -/
namespace Vm
open Go

theorem off_ne {n k : Nat} : (n + (k + 1) = n) = False := eq_false (by omega)
theorem ne_off {n k : Nat} : (n = n + (k + 1)) = False := eq_false (by omega)
/-- A reader that hangs on little (of loads: those of the kinds in T). -/
def stB (T : List (Nat × Nat)) (r : Rec) : Bool := match r.ups with
  | [] => (match r.dep with
    | .all => false
    | .shape _ => true
    | .cells t off _ => T.any fun p => p.1 == t && p.2 == off)
  | _ => false
def trB (r : Rec) : Bool := match r.ups, r.rds with
  | [], [] => true
  | _, _ => false
def sktB (T : List (Nat × Nat)) (r : Rec) : Bool := match trB r with | true => true | false => stB T r
def stOk (E : Env) (H : Heap) (W : List (Nat × Option Blk)) : List Nat × Dep → Prop
  | ([x], d) => d.ok E (H x) ∧ ∀ p ∈ W, p.1 = x → d.ok E p.2
  | _ => False
def sts (T : List (Nat × Nat)) : List Rec → List (List Nat × Dep)
  | [] => []
  | r :: rs => match stB T r with | true => (r.rds, r.dep) :: sts T rs | false => sts T rs
def allS (E : Env) (H : Heap) (W : List (Nat × Option Blk)) : List (List Nat × Dep) → Prop
  | [] => True
  | q :: qs => stOk E H W q ∧ allS E H W qs
def gl1 (T : List (Nat × Nat)) (M : List Nat) (i : Nat) (r : Rec) : Nat → List Rec → List (Rec × Rec)
  | _, [] => []
  | j, s :: ss => (match sktB T s || (r.quiet && s.quiet) || (M.getD j 0).testBit i with | true => gl1 T M i r (j + 1) ss | false => (r, s) :: gl1 T M i r (j + 1) ss)
def gl (T : List (Nat × Nat)) (M : List Nat) : Nat → List Rec → List (Rec × Rec)
  | _, [] => []
  | i, r :: rs => (match sktB T r with | true => [] | false => gl1 T M i r (i + 1) rs) ++ gl T M (i + 1) rs
def Disj (p : Rec × Rec) : Prop := (∀ i, i ∈ p.1.ids → i ∉ p.2.ids) ∧ (∀ i, i ∈ p.1.ids → i ∉ p.2.rds) ∧ (∀ i, i ∈ p.2.ids → i ∉ p.1.rds)
def allD : List (Rec × Rec) → Prop
  | [] => True
  | p :: ps => Disj p ∧ allD ps
section
variable {E : Env} {H : Heap} {all : List Oper} {W : List (Nat × Option Blk)} {T : List (Nat × Nat)}
theorem stB_ids {r : Rec} (h : stB T r = true) : r.ids = [] := by
  unfold stB at h; unfold Rec.ids
  split at h
  · rename_i hu; rw [hu]; rfl
  · cases h
theorem allS_mem : ∀ {l : List (List Nat × Dep)}, allS E H W l → ∀ q ∈ l, stOk E H W q
  | [], _, _, h => by cases h
  | x :: xs, h, q, hq => by
    rcases List.mem_cons.1 hq with rfl | hq
    · exact h.1
    · exact allS_mem h.2 q hq
theorem sts_mem : ∀ {rs : List Rec} {r : Rec}, r ∈ rs → stB T r = true → (r.rds, r.dep) ∈ sts T rs
  | x :: xs, r, h, hb => by
    rw [sts]
    rcases List.mem_cons.1 h with rfl | h
    · rw [hb]; exact List.mem_cons_self
    · have := sts_mem h hb
      split
      · exact List.mem_cons_of_mem _ this
      · exact this
theorem allD_mem : ∀ {l : List (Rec × Rec)}, allD l → ∀ q ∈ l, Disj q
  | [], _, _, h => by cases h
  | x :: xs, h, q, hq => by
    rcases List.mem_cons.1 hq with rfl | hq
    · exact h.1
    · exact allD_mem h.2 q hq
theorem fl1_sub {i : Nat} {r : Rec} : ∀ (ss : List Rec) (j : Nat) (p : Rec × Rec), p ∈ fl1 all i r j ss → p.1 = r ∧ p.2 ∈ ss ∧ (sktB T p.2 = true ∨ p ∈ gl1 T (masks all []) i r j ss)
  | [], _, _, h => by cases h
  | s :: ss, j, p, h => by
    rw [fl1] at h
    split at h
    · rename_i hc
      obtain ⟨h1, h2, h3⟩ := fl1_sub ss (j + 1) p h
      refine ⟨h1, List.mem_cons_of_mem _ h2, h3.imp id fun h3 => ?_⟩
      rw [gl1]
      have : (sktB T s || (r.quiet && s.quiet) || ((masks all []).getD j 0).testBit i) = true := by rw [Bool.or_assoc]; unfold befBit at hc; rw [hc, Bool.or_true]
      rw [this]; exact h3
    · rename_i hc
      rcases List.mem_cons.1 h with rfl | h
      · refine ⟨rfl, List.mem_cons_self, ?_⟩
        cases hs : sktB T s with
        | true => exact .inl rfl
        | false =>
          right
          rw [gl1]
          have : (sktB T s || (r.quiet && s.quiet) || ((masks all []).getD j 0).testBit i) = false := by rw [hs, Bool.or_assoc]; unfold befBit at hc; rw [hc]; rfl
          rw [this]; exact List.mem_cons_self
      · obtain ⟨h1, h2, h3⟩ := fl1_sub ss (j + 1) p h
        refine ⟨h1, List.mem_cons_of_mem _ h2, h3.imp id fun h3 => ?_⟩
        rw [gl1]
        split
        · exact h3
        · exact List.mem_cons_of_mem _ h3
theorem fl_sub : ∀ (rs : List Rec) (i : Nat) (p : Rec × Rec), p ∈ fl all i rs → p.1 ∈ rs ∧ p.2 ∈ rs ∧ (sktB T p.1 = true ∨ sktB T p.2 = true ∨ p ∈ gl T (masks all []) i rs)
  | [], _, _, h => by cases h
  | r :: rs, i, p, h => by
    rw [fl] at h
    rcases List.mem_append.1 h with h | h
    · obtain ⟨h1, h2, h3⟩ := fl1_sub rs (i + 1) p h
      refine ⟨by rw [h1]; exact List.mem_cons_self, List.mem_cons_of_mem _ h2, ?_⟩
      cases hs : sktB T r with
      | true => exact .inl (by rw [h1]; exact hs)
      | false => exact .inr (h3.imp id fun h3 => by rw [gl, hs]; exact List.mem_append_left _ h3)
    · obtain ⟨h1, h2, h3⟩ := fl_sub rs (i + 1) p h
      exact ⟨List.mem_cons_of_mem _ h1, List.mem_cons_of_mem _ h2, h3.imp id fun h3 => h3.imp id fun h3 => by rw [gl]; exact List.mem_append_right _ h3⟩
theorem allW_of {rs : List Rec} (T : List (Nat × Nat)) (M : List Nat) (hM : masks all [] = M) (hW : rs.flatMap (·.ups) = W) (h1 : allS E H W (sts T rs)) (h2 : allD (gl T M 0 rs)) : allW E rs H (fl all 0 rs) := by
  subst hM
  have st : ∀ r ∈ rs, stB T r = true → StW E rs H r := by
    intro r hr hb
    have := allS_mem h1 _ (sts_mem hr hb)
    unfold stOk at this
    split at this
    · rename_i x d he
      simp only [Prod.mk.injEq] at he
      obtain ⟨e1, e2⟩ := he
      subst e2
      exact ⟨stB_ids hb, x, e1, this.1, fun s hs p hp => this.2 p (by rw [← hW]; exact List.mem_flatMap.2 ⟨s, hs, hp⟩)⟩
    · exact this.elim
  have key : ∀ l : List (Rec × Rec), (∀ p ∈ l, PairW E rs H p.1 p.2) → allW E rs H l := by
    intro l
    induction l with
    | nil => intro _; trivial
    | cons p ps ih => exact fun h => ⟨h p List.mem_cons_self, ih fun q hq => h q (List.mem_cons_of_mem _ hq)⟩
  refine key _ fun p hp => ?_
  obtain ⟨m1, m2, h⟩ := fl_sub rs 0 p hp
  have tr : ∀ r, sktB T r = true → r.ids = [] ∧ (r.rds = [] ∨ stB T r = true) := by
    intro r h
    unfold sktB at h
    split at h
    · rename_i ht
      unfold trB at ht
      split at ht
      · rename_i h1 h2
        exact ⟨by unfold Rec.ids; rw [h1]; rfl, .inl h2⟩
      · cases ht
    · exact ⟨stB_ids h, .inr h⟩
  rcases h with h | h | h
  · obtain ⟨e, h⟩ := tr _ h
    exact ⟨fun i hi => absurd (e ▸ hi) List.not_mem_nil, .inl fun i hi => absurd (e ▸ hi) List.not_mem_nil, h.elim (fun h => .inl fun i _ hi => absurd (h ▸ hi) List.not_mem_nil) fun h => .inr (st _ m1 h)⟩
  · obtain ⟨e, h⟩ := tr _ h
    exact ⟨fun i _ hi => absurd (e ▸ hi) List.not_mem_nil, h.elim (fun h => .inl fun i _ hi => absurd (h ▸ hi) List.not_mem_nil) fun h => .inr (st _ m2 h), .inl fun i hi => absurd (e ▸ hi) List.not_mem_nil⟩
  · obtain ⟨d1, d2, d3⟩ := allD_mem h2 p h
    exact ⟨d1, .inl d2, .inl d3⟩
end
end Vm

/- Plain facts on a computation that keeps its first error. (Own work of this repo.) -/
namespace Vm

/-- The error behind an operation whose exact result is z. -/
def ke (e z : Int) : Int := if e = 0 then er z else e
/-- The number behind it. -/
def kval (e z : Int) : Int := if ke e z = 0 then z else 0
def kf (e : Int) (f : Bool) (z : Int) : Bool := if ke e z = 0 then f else true
theorem er_cases (z : Int) : (er z = 0 ∧ (dg z).length ≤ 4096) ∨ (er z = 4 ∧ ¬ (dg z).length ≤ 4096) := by
  unfold er; split
  · exact .inl ⟨rfl, by assumption⟩
  · exact .inr ⟨rfl, by assumption⟩
theorem kval_len (e z : Int) : (dg (kval e z)).length ≤ 4096 := by
  unfold kval
  split
  · rename_i h
    unfold ke at h
    split at h
    · rcases er_cases z with h1 | h1
      · exact h1.2
      · omega
    · contradiction
  · rw [dg_zero]; simp
theorem ke_zero (z : Int) : ke 0 z = er z := if_pos rfl
theorem ke_bad {e : Int} (h : e ≠ 0) (z : Int) : ke e z = e := if_neg h
theorem kval_bad {e : Int} (h : e ≠ 0) (z : Int) : kval e z = 0 := by unfold kval; rw [ke_bad h, if_neg h]
theorem kf_bad {e : Int} (h : e ≠ 0) (f : Bool) (z : Int) : kf e f z = true := by unfold kf; rw [ke_bad h, if_neg h]
theorem ke_fit {z : Int} (h : (dg z).length ≤ 4096) (e : Int) : ke e z = e := by
  unfold ke; split
  · rename_i h0; rw [er_of h, h0]
  · rfl
theorem kval_fit {z : Int} (h : (dg z).length ≤ 4096) : kval 0 z = z := by unfold kval; rw [ke_fit h, if_pos rfl]
theorem kf_fit {z : Int} (h : (dg z).length ≤ 4096) (f : Bool) : kf 0 f z = f := by unfold kf; rw [ke_fit h, if_pos rfl]
theorem ke_no {z : Int} (h : ¬ (dg z).length ≤ 4096) : ke 0 z = 4 := by rw [ke_zero, er_no h]
theorem ke_04 {e z : Int} (h : e = 0 ∨ e = 4) : ke e z = 0 ∨ ke e z = 4 := by
  unfold ke; split
  · rcases er_cases z with h1 | h1
    · exact .inl h1.1
    · exact .inr h1.1
  · rcases h with h | h <;> omega
/-- What 'keep' does. -/
theorem keep_val (e z : Int) : (if ke e z = 0 then fit z else 0) = kval e z := by
  unfold kval
  split
  · rename_i h
    unfold ke at h
    split at h
    · rcases er_cases z with h1 | h1
      · exact fit_of h1.2
      · omega
    · contradiction
  · rfl
theorem keep_f (e : Int) (f : Bool) (z : Int) : (if ke e z = 0 then fm f z else true) = kf e f z := by
  unfold kf
  split
  · rename_i h
    unfold ke at h
    split at h
    · rcases er_cases z with h1 | h1
      · exact fm_of h1.2
      · omega
    · contradiction
  · rfl
end Vm

/- Walks: computations that keep their first error. (Own work of this repo.) -/
namespace Go.Proofs.Ytmgmcnoobgljpaa
open Vm
set_option maxRecDepth 10000

theorem purify_ptr {n : Nat} {H : Heap} {i o : Nat} : purify (n + 1) H (.ptr i o) = none := rfl
attribute [go_sem] purify_ptr raK2_none
/-- What an open call leaves: the one row turned, rows before alone. -/
def Kept (id : Nat) (b : Blk) (h : Heap) (nx : Nat) (h' : Heap) (n' : Nat) : Prop := h' id = some b ∧ nx ≤ n' ∧ ∀ i, i < nx → i ≠ id → h' i = h i
theorem openK_kept {Q : Ex → St → Prop} {σ : St} {all os : List Go.Oper} {dst : Option Nat} {x : Option (Res × Heap × Nat)} {v : AV} {id : Nat} {b : Blk} {h : Heap} {nx : Nat} (hx : ∃ h' n', x = some (.ret v, h', n') ∧ Kept id b h nx h' n')
    (k : ∀ h' n', h' id = some b → nx ≤ n' → (∀ i, i < nx → i ≠ id → h' i = h i) → Rg E all os ⟨put σ.sl dst v, h', n'⟩ Q) : openK E all os dst Q σ x := by
  obtain ⟨h', n', rfl, k1, k2, k3⟩ := hx
  exact k h' n' k1 k2 k3
theorem lnK2_kept {N : Nat} {dst : Option Nat} {next : List Rec → St → Prop} {acc : List Rec} {σ : St} {g : Go.FuncId} {l : List AV} {v : AV} {b : Blk} (R : List Nat) (id : Nat) (hl : lends l = true) (ho : (E.opn g && g != 1000003) = true) (hR : reach σ.h 3 l = R) (hN : ∀ i ∈ R, i < N)
    (spec : ∃ h' n', denO E g l (σ.h.only R) N = some (.ret v, h', n') ∧ Kept id b (σ.h.only R) N h' n') (hp : v.pure = true)
    (hok : (R.all fun i => (σ.h i).isSome && (match (if i = id then some b else σ.h i) with | some b => AV.withinL R b.cells | none => true)) = true)
    (hn : next (acc ++ [cr R (R.map fun i => (i, if i = id then some b else σ.h i)) .all]) ⟨put σ.sl dst v, σ.h.upds (R.map fun i => (i, if i = id then some b else σ.h i)), σ.nx⟩) : lnK2 E N dst next acc σ g l := by
  obtain ⟨h', n', hd, k1, _, k3⟩ := spec
  have hh : ∀ i ∈ R, h' i = if i = id then some b else σ.h i := by
    intro i hi
    by_cases e : i = id
    · rw [if_pos e, e, k1]
    · rw [if_neg e, k3 i (hN i hi) e]; exact if_pos hi
  refine lnK2_intro (R := R) hl ho hR hd hp ?_ ?_ hn
  · rw [← hok]
    unfold lendOk
    rw [Bool.eq_iff_iff, List.all_eq_true, List.all_eq_true]
    exact ⟨fun h i hi => by rw [← hh i hi]; exact h i hi, fun h i hi => by rw [hh i hi]; exact h i hi⟩
  · unfold lendUps
    exact List.map_congr_left fun i hi => by rw [hh i hi]
theorem keep_open (id esz : Nat) (e z : Int) (f : Bool) (rest : List AV) (h : Heap) (nx : Nat) (hi : id < nx) (hH : h id = some ⟨.int .i64 e :: rest, true, esz, false⟩) :
    ∃ (h' : Heap) (n' : Nat), denO E 77 [.ptr id 0, I (fm f z) (fit z), .int .i64 (er z)] h nx = some (.ret (I (kf e f z) (kval e z)), h', n') ∧ Kept id ⟨.int .i64 (ke e z) :: rest, true, esz, false⟩ h nx h' n' := by
  have key : ∃ v h' n', denO E 77 [.ptr id 0, I (fm f z) (fit z), .int .i64 (er z)] h nx = some (.ret v, h', n') ∧ v = I (kf e f z) (kval e z) ∧
      h' id = some ⟨.int .i64 (ke e z) :: rest, true, esz, false⟩ ∧ nx ≤ n' ∧ ∀ i, i < nx → i ≠ id → h' i = h i := by
    refine denO_intro E77 rfl ?_
    have hb : kf e f z = if ke e z = 0 then fm f z else true := (keep_f e f z).symm
    have hv : kval e z = if ke e z = 0 then fit z else 0 := (keep_val e z).symm
    rw [hb, hv]
    unfold ke
    generalize er z = r at *
    generalize fm f z = f' at *
    generalize fit z = z' at *
    clear hb hv
    by_cases he : e = 0
    · subst he
      by_cases hr : r = 0
      · subst hr
        simp (maxSteps := 4000000) (disch := omega) only [go_sem, ↓reduceIte, Nat.reduceAdd, Nat.reduceSub, Nat.reduceMul, Nat.reduceEqDiff, reduceCtorEq, Int.reduceAdd, Int.reduceLT, Int.reduceLE, Int.reduceToNat, Int.reduceNeg, Int.reduceSub, ← List.map_take, ← List.map_drop, wrap64, wrapu64, wrapu32, Try.f77, hH]
        (refine ⟨by omega, fun i hi1 hi2 => ?_⟩; ((try simp only [upd_apply]); (repeat rw [if_neg (by omega)])))
      · simp (maxSteps := 4000000) (disch := omega) only [go_sem, ↓reduceIte, Nat.reduceAdd, Nat.reduceSub, Nat.reduceMul, Nat.reduceEqDiff, reduceCtorEq, Int.reduceAdd, Int.reduceLT, Int.reduceLE, Int.reduceToNat, Int.reduceNeg, Int.reduceSub, ← List.map_take, ← List.map_drop, wrap64, wrapu64, wrapu32, Try.f77, hH, places, fillAll, ng_zero, dg_zero, hr]
        (refine ⟨by omega, fun i hi1 hi2 => ?_⟩; ((try simp only [upd_apply]); (repeat rw [if_neg (by omega)])))
    · simp (maxSteps := 4000000) (disch := omega) only [go_sem, ↓reduceIte, Nat.reduceAdd, Nat.reduceSub, Nat.reduceMul, Nat.reduceEqDiff, reduceCtorEq, Int.reduceAdd, Int.reduceLT, Int.reduceLE, Int.reduceToNat, Int.reduceNeg, Int.reduceSub, ← List.map_take, ← List.map_drop, wrap64, wrapu64, wrapu32, Try.f77, hH, places, fillAll, ng_zero, dg_zero, he]
      (refine ⟨by omega, fun i hi1 hi2 => ?_⟩; ((try simp only [upd_apply]); (repeat rw [if_neg (by omega)])))
  obtain ⟨v, h', n', h1, rfl, h2⟩ := key
  exact ⟨h', n', h1, h2⟩
theorem chainAdd_open (id esz : Nat) (e x y : Int) (f g : Bool) (hx : (dg x).length ≤ 4096) (hy : (dg y).length ≤ 4096) (rest : List AV) (h : Heap) (nx : Nat) (hi : id < nx) (hH : h id = some ⟨.int .i64 e :: rest, true, esz, false⟩) :
    ∃ (h' : Heap) (n' : Nat), denO E 69 [.ptr id 0, I f x, I g y] h nx = some (.ret (I (kf e false (x + y)) (kval e (x + y))), h', n') ∧ Kept id ⟨.int .i64 (ke e (x + y)) :: rest, true, esz, false⟩ h nx h' n' := by
  have key : ∃ v h' n', denO E 69 [.ptr id 0, I f x, I g y] h nx = some (.ret v, h', n') ∧ v = I (kf e false (x + y)) (kval e (x + y)) ∧
      h' id = some ⟨.int .i64 (ke e (x + y)) :: rest, true, esz, false⟩ ∧ nx ≤ n' ∧ ∀ i, i < nx → i ≠ id → h' i = h i := by
    refine denO_intro E69 rfl ?_
    have h1 := add_spec f x g y hx hy
    simp (maxSteps := 4000000) (disch := omega) only [go_sem, ↓reduceIte, Nat.reduceAdd, Nat.reduceSub, Nat.reduceMul, Nat.reduceEqDiff, reduceCtorEq, Int.reduceAdd, Int.reduceLT, Int.reduceLE, Int.reduceToNat, Int.reduceNeg, Int.reduceSub, ← List.map_take, ← List.map_drop, wrap64, wrapu64, wrapu32, Try.f69, hH, h1]
    refine openK_kept (keep_open id esz e (x + y) false rest _ _ (by omega) ?_) ?_
    · simp (disch := omega) only [upd_apply, if_pos, if_neg, ↓reduceIte]
      exact hH
    intro h' n' k1 k2 k3
    have q := k3 (nx + 1 + 1) (by omega) (by omega)
    simp (disch := omega) only [upd_apply, if_pos, if_neg, ↓reduceIte] at q
    simp (maxSteps := 4000000) (disch := omega) only [go_sem, ↓reduceIte, Nat.reduceAdd, Nat.reduceSub, Nat.reduceMul, Nat.reduceEqDiff, reduceCtorEq, Int.reduceAdd, Int.reduceLT, Int.reduceLE, Int.reduceToNat, Int.reduceNeg, Int.reduceSub, ← List.map_take, ← List.map_drop, wrap64, wrapu64, wrapu32, k1, q]
    refine ⟨by omega, fun i hi1 hi2 => ?_⟩
    have q := k3 i (by omega) hi2
    simp (disch := omega) only [upd_apply, if_pos, if_neg, ↓reduceIte] at q
    simp (disch := omega) only [upd_apply, if_pos, if_neg, ↓reduceIte]
    exact q
  obtain ⟨v, h', n', h1, rfl, h2⟩ := key
  exact ⟨h', n', h1, h2⟩
theorem chainSub_open (id esz : Nat) (e x y : Int) (f g : Bool) (hx : (dg x).length ≤ 4096) (hy : (dg y).length ≤ 4096) (rest : List AV) (h : Heap) (nx : Nat) (hi : id < nx) (hH : h id = some ⟨.int .i64 e :: rest, true, esz, false⟩) :
    ∃ (h' : Heap) (n' : Nat), denO E 71 [.ptr id 0, I f x, I g y] h nx = some (.ret (I (kf e false (x - y)) (kval e (x - y))), h', n') ∧ Kept id ⟨.int .i64 (ke e (x - y)) :: rest, true, esz, false⟩ h nx h' n' := by
  have key : ∃ v h' n', denO E 71 [.ptr id 0, I f x, I g y] h nx = some (.ret v, h', n') ∧ v = I (kf e false (x - y)) (kval e (x - y)) ∧
      h' id = some ⟨.int .i64 (ke e (x - y)) :: rest, true, esz, false⟩ ∧ nx ≤ n' ∧ ∀ i, i < nx → i ≠ id → h' i = h i := by
    refine denO_intro E71 rfl ?_
    have h1 := sub_spec f x g y hx hy
    simp (maxSteps := 4000000) (disch := omega) only [go_sem, ↓reduceIte, Nat.reduceAdd, Nat.reduceSub, Nat.reduceMul, Nat.reduceEqDiff, reduceCtorEq, Int.reduceAdd, Int.reduceLT, Int.reduceLE, Int.reduceToNat, Int.reduceNeg, Int.reduceSub, ← List.map_take, ← List.map_drop, wrap64, wrapu64, wrapu32, Try.f71, hH, h1]
    refine openK_kept (keep_open id esz e (x - y) false rest _ _ (by omega) ?_) ?_
    · simp (disch := omega) only [upd_apply, if_pos, if_neg, ↓reduceIte]
      exact hH
    intro h' n' k1 k2 k3
    have q := k3 (nx + 1 + 1) (by omega) (by omega)
    simp (disch := omega) only [upd_apply, if_pos, if_neg, ↓reduceIte] at q
    simp (maxSteps := 4000000) (disch := omega) only [go_sem, ↓reduceIte, Nat.reduceAdd, Nat.reduceSub, Nat.reduceMul, Nat.reduceEqDiff, reduceCtorEq, Int.reduceAdd, Int.reduceLT, Int.reduceLE, Int.reduceToNat, Int.reduceNeg, Int.reduceSub, ← List.map_take, ← List.map_drop, wrap64, wrapu64, wrapu32, k1, q]
    refine ⟨by omega, fun i hi1 hi2 => ?_⟩
    have q := k3 i (by omega) hi2
    simp (disch := omega) only [upd_apply, if_pos, if_neg, ↓reduceIte] at q
    simp (disch := omega) only [upd_apply, if_pos, if_neg, ↓reduceIte]
    exact q
  obtain ⟨v, h', n', h1, rfl, h2⟩ := key
  exact ⟨h', n', h1, h2⟩
end Go.Proofs.Ytmgmcnoobgljpaa

/- Walks: products in computations that keep their first error. (Own work of this repo.) -/
namespace Go.Proofs.Ytmgmcnoobgljpaa
open Vm
set_option maxRecDepth 10000

/-- A product of several numbers, as a computation makes it. -/
def mulL : Int × Int × Bool → List (Bool × Int) → Int × Int × Bool
  | s, [] => s
  | (e, v, f), (_, y) :: r => mulL (ke e (v * y), kval e (v * y), kf e (mz v y) (v * y)) r
def rowI : List (Bool × Int) → List AV
  | [] => []
  | (f, x) :: r => .bool (ng x) :: .lst f ((dg x).map wd) :: rowI r
theorem rowI_take : ∀ (L : List (Bool × Int)) (i : Nat) (f : Bool) (x : Int), L[i]? = some (f, x) → ((rowI L).drop (i * 2)).take 2 = [.bool (ng x), .lst f ((dg x).map wd)]
  | [], i, f, x, h => by simp at h
  | (g, y) :: L, 0, f, x, h => by simp at h; obtain ⟨rfl, rfl⟩ := h; rfl
  | (g, y) :: L, i + 1, f, x, h => by
    rw [show (i + 1) * 2 = i * 2 + 2 by omega]
    exact rowI_take L i f x (by simpa using h)
theorem rowI_len : ∀ (L : List (Bool × Int)), (rowI L).length = L.length * 2
  | [] => rfl
  | (g, y) :: L => by simp [rowI, rowI_len L]; omega
theorem mulL_snoc : ∀ (L : List (Bool × Int)) (s : Int × Int × Bool) (f : Bool) (y : Int), mulL s (L ++ [(f, y)]) = (ke (mulL s L).1 ((mulL s L).2.1 * y), kval (mulL s L).1 ((mulL s L).2.1 * y), kf (mulL s L).1 (mz (mulL s L).2.1 y) ((mulL s L).2.1 * y))
  | [], (e, v, f0), f, y => rfl
  | (g, z) :: L, (e, v, f0), f, y => by simp only [List.cons_append, mulL]; exact mulL_snoc L _ f y
theorem mulL_len : ∀ (L : List (Bool × Int)) (s : Int × Int × Bool), (dg s.2.1).length ≤ 4096 → (dg (mulL s L).2.1).length ≤ 4096
  | [], s, h => h
  | (g, z) :: L, (e, v, f), h => mulL_len L _ (kval_len _ _)
theorem chainMul_open (id esz sid : Nat) (e : Int) (L : List (Bool × Int)) (hL : ∀ p ∈ L, (dg p.2).length ≤ 4096) (hn : L.length < 2 ^ 40) (rest : List AV) (h : Heap) (nx : Nat) (hi : id < nx) (hs : sid < nx) (hne : sid ≠ id) (hH : h id = some ⟨.int .i64 e :: rest, true, esz, false⟩)
    (hS : h sid = some ⟨rowI L, true, 2, false⟩) :
    ∃ (h' : Heap) (n' : Nat), denO E 70 [.ptr id 0, .ref sid 0 L.length] h nx = some (.ret (I (mulL (e, 1, false) L).2.2 (mulL (e, 1, false) L).2.1), h', n') ∧ Kept id ⟨.int .i64 (mulL (e, 1, false) L).1 :: rest, true, esz, false⟩ h nx h' n' := by
  have key : ∃ v h' n', denO E 70 [.ptr id 0, .ref sid 0 L.length] h nx = some (.ret v, h', n') ∧ v = I (mulL (e, 1, false) L).2.2 (mulL (e, 1, false) L).2.1 ∧
      h' id = some ⟨.int .i64 (mulL (e, 1, false) L).1 :: rest, true, esz, false⟩ ∧ nx ≤ n' ∧ ∀ i, i < nx → i ≠ id → h' i = h i := by
    refine denO_intro E70 rfl ?_
    have h1 := of_spec 1 (by decide) (by decide)
    simp (maxSteps := 4000000) (disch := omega) only [go_sem, ↓reduceIte, Nat.reduceAdd, Nat.reduceSub, Nat.reduceMul, Nat.reduceEqDiff, reduceCtorEq, Int.reduceAdd, Int.reduceLT, Int.reduceLE, Int.reduceToNat, Int.reduceNeg, Int.reduceSub, ← List.map_take, ← List.map_drop, wrap64, wrapu64, wrapu32, Try.f70, hH, hS, h1]
    refine W_loopS (fun k sl H n => ∃ j : Nat, (∃ g : Nat → AV, sl = [.ptr id 0, g 1, g 2, g 3, .ptr nx 0, .ptr (nx + 1) 0, g 6, g 7, g 8, .ref sid 0 L.length, .int .i64 L.length, .int .i64 j, g 12, g 13, g 14, g 15, g 16, g 17, g 18, g 19, g 20, g 21, g 22, g 23]) ∧
      H id = some ⟨.int .i64 (mulL (e, 1, false) (L.take j)).1 :: rest, true, esz, false⟩ ∧ H nx = some ⟨[.bool false, .lst true []], true, 2, false⟩ ∧
      H (nx + 1) = some ⟨[.bool (ng (mulL (e, 1, false) (L.take j)).2.1), .lst (mulL (e, 1, false) (L.take j)).2.2 ((dg (mulL (e, 1, false) (L.take j)).2.1).map wd)], true, 2, false⟩ ∧
      nx + 2 ≤ n ∧ (∀ i, i < nx → i ≠ id → H i = h i) ∧ j + k = L.length) L.length ⟨0, garb rfl, ?_, ?_, ?_, Nat.le_refl _, ?_, by omega⟩ ?_
    · simp (disch := omega) only [upd_apply, if_pos, if_neg, ↓reduceIte]; exact hH
    · simp (disch := omega) only [upd_apply, if_pos, if_neg, ↓reduceIte]
    · simp (disch := omega) only [upd_apply, if_pos, if_neg, ↓reduceIte]; rfl
    · intro i hi1 hi2; simp (disch := omega) only [upd_apply, if_pos, if_neg, ↓reduceIte]
    rintro k _ H n ⟨j, ⟨g, rfl⟩, f1, f2, f3, f4, f5, f6⟩
    by_cases hk : k = 0
    · have hj : L.take j = L := List.take_of_length_le (by omega)
      rw [hj] at f1 f3
      simp (maxSteps := 4000000) (disch := omega) only [go_sem, ↓reduceIte, Nat.reduceAdd, Nat.reduceSub, Nat.reduceMul, Nat.reduceEqDiff, reduceCtorEq, Int.reduceAdd, Int.reduceLT, Int.reduceLE, Int.reduceToNat, Int.reduceNeg, Int.reduceSub, ← List.map_take, ← List.map_drop, wrap64, wrapu64, wrapu32, f1, f2, f3]
      refine ⟨by omega, fun i hi1 hi2 => ?_⟩
      simp (disch := omega) only [upd_apply, if_pos, if_neg, ↓reduceIte]
      exact f5 i hi1 hi2
    · obtain ⟨⟨fl, y⟩, hy⟩ : ∃ p, L[j]? = some p := ⟨_, List.getElem?_eq_getElem (show j < L.length by omega)⟩
      have hyl := hL _ (List.mem_of_getElem? hy)
      have htk : L.take (j + 1) = L.take j ++ [(fl, y)] := by rw [List.take_add_one, hy]; rfl
      have hS' : H sid = some ⟨rowI L, true, 2, false⟩ := by rw [f5 sid hs hne]; exact hS
      have hrow := rowI_take L j fl y hy
      have hlen := rowI_len L
      have hvl : (dg (mulL (e, 1, false) (L.take j)).2.1).length ≤ 4096 := mulL_len _ _ (by show (dg 1).length ≤ 4096; have := dg_small (z := 1) (by decide); omega)
      have hst := mulL_snoc (L.take j) (e, 1, false) fl y
      rw [← htk] at hst
      generalize hs1 : mulL (e, 1, false) (L.take j) = s at *
      obtain ⟨e1, v, fv⟩ := s
      dsimp only at *
      have m1 := mul_spec fv v fl y hvl hyl
      simp (maxSteps := 4000000) (disch := omega) only [go_sem, ↓reduceIte, Nat.reduceAdd, Nat.reduceSub, Nat.reduceMul, Nat.reduceEqDiff, reduceCtorEq, Int.reduceAdd, Int.reduceLT, Int.reduceLE, Int.reduceToNat, Int.reduceNeg, Int.reduceSub, ← List.map_take, ← List.map_drop, wrap64, wrapu64, wrapu32, f1, f2, f3, hS', hrow, hlen, m1]
      refine openK_kept (keep_open id esz e1 (v * y) (mz v y) rest _ _ (by omega) ?_) ?_
      · simp (disch := omega) only [upd_apply, if_pos, if_neg, ↓reduceIte]; exact f1
      intro h' n' k1 k2 k3
      have q1 := k3 (nx + 1) (by omega) (by omega)
      have q2 := k3 nx (by omega) (by omega)
      simp (disch := omega) only [upd_apply, if_pos, if_neg, ↓reduceIte] at q1
      simp (disch := omega) only [upd_apply, if_pos, if_neg, ↓reduceIte] at q2
      rw [f3] at q1
      rw [f2] at q2
      simp (maxSteps := 4000000) (disch := omega) only [go_sem, ↓reduceIte, Nat.reduceAdd, Nat.reduceSub, Nat.reduceMul, Nat.reduceEqDiff, reduceCtorEq, Int.reduceAdd, Int.reduceLT, Int.reduceLE, Int.reduceToNat, Int.reduceNeg, Int.reduceSub, ← List.map_take, ← List.map_drop, wrap64, wrapu64, wrapu32, k1, q1, q2]
      refine ⟨k - 1, by omega, j + 1, garb rfl, ?_, ?_, by omega, fun i hi1 hi2 => ?_, by omega⟩
      · rw [hst]
      · rw [hst]
      · have q := k3 i (by omega) hi2
        simp (disch := omega) only [upd_apply, if_pos, if_neg, ↓reduceIte] at q
        simp (disch := omega) only [upd_apply, if_pos, if_neg, ↓reduceIte]
        rw [q]
        exact f5 i hi1 hi2
  obtain ⟨v, h', n', h1, rfl, h2⟩ := key
  exact ⟨h', n', h1, h2⟩
end Go.Proofs.Ytmgmcnoobgljpaa

/- Walks: rows of words moved to the left. (Own work of this repo.) -/
namespace Go.Proofs.Ytmgmcnoobgljpaa
open Vm
set_option maxRecDepth 10000

theorem pow32 (n : Nat) : 2 ^ n = 2 ^ (n % 32) * BB ^ (n / 32) := by
  rw [show BB = 2 ^ 32 from rfl, ← Nat.pow_mul, ← Nat.pow_add, Nat.mod_add_div]
theorem shl_nat {x k : Nat} (hk : k < 32) (hx : x < 4294967296) : IntKind.u64.wrap ((x : Int) * 2 ^ min k (kb .u64)) = ((x * 2 ^ k : Nat) : Int) := by
  have h1 := pow_lt32 hk
  have h2 : x * 2 ^ k ≤ 4294967296 * 2147483648 := Nat.mul_le_mul (Nat.le_of_lt hx) h1
  rw [show min k (kb .u64) = k from Nat.min_eq_left (by show k ≤ 64; omega)]
  have e : (x : Int) * 2 ^ k = ((x * 2 ^ k : Nat) : Int) := by push_cast; rfl
  rw [e]
  exact wrapu64 (by omega) (by omega)
theorem left_or {h x k : Nat} (hk : k < 32) (hx : x < 4294967296) (hh : h < 2 ^ k) : IntKind.u32.wrap ((BitVec.ofInt (kb .u32) (h : Int) ||| BitVec.ofInt (kb .u32) ((x * 2 ^ k % 4294967296 : Nat) : Int)).toNat : Int) = ((h + x * 2 ^ k % 4294967296 : Nat) : Int) := by
  have h1 := pow_lt32 hk
  rw [or32b (by omega) (Nat.mod_lt _ (by decide)), (left_word hk hx).2, or_add hh]
theorem left_sum {h x k : Nat} (hk : k < 32) (hx : x < 4294967296) (hh : h < 2 ^ k) : h + x * 2 ^ k % 4294967296 < 4294967296 := by
  rw [(left_word hk hx).2]
  have hp := pow_split hk
  have h3 : x % 2 ^ (32 - k) < 2 ^ (32 - k) := Nat.mod_lt _ (Nat.pow_pos (by decide))
  have h4 : (x % 2 ^ (32 - k) + 1) * 2 ^ k ≤ 2 ^ (32 - k) * 2 ^ k := Nat.mul_le_mul_right _ h3
  rw [Nat.add_mul, Nat.mul_comm (2 ^ (32 - k)), hp] at h4
  omega
theorem left_spec (m : Bool) (a : List Nat) (n : Nat) (ha : InR a) (la : a.length < 2 ^ 38) (hn : n < 2 ^ 38) : denP E 100 [.lst m (a.map wd), .int .i64 n] = some (.ret (.lst (decide (a.length = 0)) ((dig (val a * 2 ^ n)).map wd))) := by
  refine denP_eq E100 rfl (by simp [AV.pureL, AV.pure, pure_wd]) ?_
  by_cases h0 : a.length = 0
  · obtain rfl := List.length_eq_zero_iff.1 h0
    rw [val_nil, Nat.zero_mul, dig_zero]
    simp (maxSteps := 4000000) (disch := omega) only [go_sem, ↓reduceIte, Nat.reduceAdd, Nat.reduceSub, Nat.reduceMul, Nat.reduceEqDiff, reduceCtorEq, Int.reduceAdd, Int.reduceLT, Int.reduceLE, Int.reduceToNat, Int.reduceNeg, Int.reduceSub, ← List.map_take, ← List.map_drop, wrap64, wrapu64, wrapu32, ← Int.natCast_add, ← Int.natCast_mul, cast_succ, wrapu32_nat, shr32, reps_wd, map_set_wd, List.length_set, zs_len, Try.f100]
  · have e1 : (n : Int).tdiv 32 = ((n / 32 : Nat) : Int) := rfl
    have e2 : (n : Int).tmod 32 = ((n % 32 : Nat) : Int) := rfl
    have hpow := pow32 n
    generalize hq : n / 32 = q at *
    generalize hk : n % 32 = k at *
    have hk' : k < 32 := by omega
    have hq' : q < 2 ^ 38 := by omega
    rw [decide_eq_false h0]
    simp (maxSteps := 4000000) (disch := omega) only [go_sem, ↓reduceIte, Nat.reduceAdd, Nat.reduceSub, Nat.reduceMul, Nat.reduceEqDiff, reduceCtorEq, Int.reduceAdd, Int.reduceLT, Int.reduceLE, Int.reduceToNat, Int.reduceNeg, Int.reduceSub, ← List.map_take, ← List.map_drop, wrap64, wrapu64, wrapu32, ← Int.natCast_add, ← Int.natCast_mul, cast_succ, wrapu32_nat, shr32, reps_wd, map_set_wd, List.length_set, zs_len, Try.f100, e1, e2]
    refine W_loopS (fun j sl H nx => ∃ (i : Nat) (o : List Nat), (∃ g : Nat → AV, sl = [g 0, .int .i64 n, g 2, g 3, g 4, .ref 0 0 (q + a.length + 1), .int .u64 k, g 7, g 8, g 9, g 10, g 11, g 12, g 13, g 14, g 15, g 16, g 17, g 18, g 19, g 20, g 21, g 22, .lst m (a.map wd), .int .i64 a.length, .int .i64 i, g 26, g 27, g 28, g 29, g 30, g 31, g 32, g 33, g 34, g 35, g 36, g 37, g 38, g 39, g 40, g 41, g 42, g 43, g 44, g 45, g 46, g 47, g 48, g 49, g 50, g 51, g 52, g 53, g 54, g 55, g 56, g 57]) ∧ nx = 1 ∧
      H 0 = some ⟨o.map wd, false, 1, false⟩ ∧ o.length = q + a.length + 1 ∧ InR o ∧ i + j = a.length ∧ Hd (vp o (q + i + 1) = vp a i * (2 ^ k * BB ^ q)) ∧ Hd (o.getD (q + i) 0 < 2 ^ k) ∧ ∀ t, q + i < t → o.getD t 0 = 0) a.length
      ⟨0, _, garb rfl, rfl, rfl, zs_len _, zs_inR _, by omega, ⟨by rw [zs_vp]; simp [vp]⟩, ⟨by rw [zs_get]; exact Nat.pow_pos (by decide)⟩, fun t _ => zs_get _ t⟩ ?_
    rintro j _ H _ ⟨i, o, ⟨g, rfl⟩, rfl, hH, ho, hr, hi, hv, hh, hz⟩
    by_cases hj : j = 0
    · obtain rfl : i = a.length := by omega
      have hval : val o = val a * 2 ^ n := by rw [val, ho, hv.out, hpow]; rfl
      have ht := trim_spec false o hr (by omega)
      rw [hval] at ht
      clear hv hh hpow
      simp (maxSteps := 4000000) (disch := omega) only [go_sem, ↓reduceIte, Nat.reduceAdd, Nat.reduceSub, Nat.reduceMul, Nat.reduceEqDiff, reduceCtorEq, Int.reduceAdd, Int.reduceLT, Int.reduceLE, Int.reduceToNat, Int.reduceNeg, Int.reduceSub, ← List.map_take, ← List.map_drop, wrap64, wrapu64, wrapu32, ← Int.natCast_add, ← Int.natCast_mul, cast_succ, wrapu32_nat, shr32, reps_wd, map_set_wd, List.length_set, zs_len, hH, ho, List.take_of_length_le, ht]
    · have hx := ha.get i
      have e3 := left_or hk' hx hh.out
      have e4 := left_sum hk' hx hh.out
      have e5 := (left_word hk' hx).1
      have e6 := pow_lt32 hk'
      have e7 := shl_nat hk' hx
      have st := left_step (o := o) hk' hx (by omega) rfl hv.out
      have e8 : a.getD i 0 * 2 ^ k / 4294967296 % 4294967296 = a.getD i 0 * 2 ^ k / 4294967296 := Nat.mod_eq_of_lt (by omega)
      clear hv hh hpow
      simp (maxSteps := 4000000) (disch := omega) only [go_sem, ↓reduceIte, Nat.reduceAdd, Nat.reduceSub, Nat.reduceMul, Nat.reduceEqDiff, reduceCtorEq, Int.reduceAdd, Int.reduceLT, Int.reduceLE, Int.reduceToNat, Int.reduceNeg, Int.reduceSub, ← List.map_take, ← List.map_drop, wrap64, wrapu64, wrapu32, ← Int.natCast_add, ← Int.natCast_mul, cast_succ, wrapu32_nat, shr32, reps_wd, map_set_wd, List.length_set, zs_len, hH, ho, e1, e3, e7, e8]
      refine ⟨j - 1, by omega, i + 1, (o.set (q + i) (o.getD (q + i) 0 + a.getD i 0 * 2 ^ k % 4294967296)).set (q + i + 1) (a.getD i 0 * 2 ^ k / 4294967296), garb rfl, rfl, by rw [List.length_set, List.length_set, ho], (hr.set e4).set (Nat.lt_of_lt_of_le e5 (by show _ ≤ 4294967296; omega)), by omega, ⟨st⟩, ⟨?_⟩, fun t ht => ?_⟩
      · rw [show q + (i + 1) = q + i + 1 by omega, lget_set_self (by rw [List.length_set]; omega)]; exact e5
      · rw [lget_set_ne (by omega), lget_set_ne (by omega)]; exact hz t (by omega)
theorem shifted_walk (m : Bool) (a : List Nat) (k : Nat) (ha : InR a) (la : a.length < 2 ^ 38) (hk' : k < 32) : ∃ o : List Nat, denP E 86 [.lst m (a.map wd), .int .i64 k] = some (.ret (.lst false (o.map wd))) ∧ InR o ∧ o.length = a.length + 1 ∧ val o = val a * 2 ^ k := by
  refine denP_ex E86 rfl (by simp [AV.pureL, AV.pure, pure_wd]) ?_
  simp (maxSteps := 4000000) (disch := omega) only [go_sem, ↓reduceIte, Nat.reduceAdd, Nat.reduceSub, Nat.reduceMul, Nat.reduceEqDiff, reduceCtorEq, Int.reduceAdd, Int.reduceLT, Int.reduceLE, Int.reduceToNat, Int.reduceNeg, Int.reduceSub, ← List.map_take, ← List.map_drop, wrap64, wrapu64, wrapu32, ← Int.natCast_add, ← Int.natCast_mul, cast_succ, wrapu32_nat, shr32, reps_wd, map_set_wd, List.length_set, zs_len, Try.f86]
  refine W_loopS (fun j sl H nx => ∃ (i : Nat) (o : List Nat), (∃ g : Nat → AV, sl = [.lst m (a.map wd), .int .i64 k, g 2, g 3, g 4, .ref 0 0 (a.length + 1), .int .i64 i, g 7, g 8, g 9, g 10, g 11, g 12, g 13, g 14, g 15, g 16, g 17, g 18, g 19, g 20, g 21, g 22, g 23, g 24, g 25, g 26, g 27, g 28, g 29, g 30, g 31, g 32, g 33, g 34, g 35, g 36, g 37, g 38, g 39, g 40, g 41]) ∧ nx = 1 ∧
    H 0 = some ⟨o.map wd, false, 1, false⟩ ∧ o.length = a.length + 1 ∧ InR o ∧ i + j = a.length ∧ Hd (vp o (0 + i + 1) = vp a i * (2 ^ k * BB ^ 0)) ∧ Hd (o.getD (0 + i) 0 < 2 ^ k) ∧ ∀ t, i < t → o.getD t 0 = 0) a.length
    ⟨0, _, garb rfl, rfl, rfl, zs_len _, zs_inR _, by omega, ⟨by rw [zs_vp]; simp [vp]⟩, ⟨by rw [zs_get]; exact Nat.pow_pos (by decide)⟩, fun t _ => zs_get _ t⟩ ?_
  rintro j _ H _ ⟨i, o, ⟨g, rfl⟩, rfl, hH, ho, hr, hi, hv, hh, hz⟩
  by_cases hj : j = 0
  · obtain rfl : i = a.length := by omega
    have hval : val o = val a * 2 ^ k := by
      have := hv.out
      rw [Nat.pow_zero, Nat.mul_one, Nat.zero_add] at this
      rw [val, ho, this]; rfl
    clear hv hh
    simp (maxSteps := 4000000) (disch := omega) only [go_sem, ↓reduceIte, Nat.reduceAdd, Nat.reduceSub, Nat.reduceMul, Nat.reduceEqDiff, reduceCtorEq, Int.reduceAdd, Int.reduceLT, Int.reduceLE, Int.reduceToNat, Int.reduceNeg, Int.reduceSub, ← List.map_take, ← List.map_drop, wrap64, wrapu64, wrapu32, ← Int.natCast_add, ← Int.natCast_mul, cast_succ, wrapu32_nat, shr32, reps_wd, map_set_wd, List.length_set, zs_len, hH, ho, List.take_of_length_le]
    exact ⟨o, rfl, hr, ho, hval⟩
  · have hx := ha.get i
    have hh' := hh.out
    rw [Nat.zero_add] at hh'
    have e3 := left_or hk' hx hh'
    have e4 := left_sum hk' hx hh'
    have e5 := (left_word hk' hx).1
    have e6 := pow_lt32 hk'
    have e7 := shl_nat hk' hx
    have st := left_step (o := o) (q := 0) hk' hx (by omega) rfl hv.out
    simp only [Nat.zero_add] at st
    have e8 : a.getD i 0 * 2 ^ k / 4294967296 % 4294967296 = a.getD i 0 * 2 ^ k / 4294967296 := Nat.mod_eq_of_lt (by omega)
    have e9 := and_low (n := a.getD i 0 * 2 ^ k) (by
      have : a.getD i 0 * 2 ^ k ≤ 4294967296 * 2147483648 := Nat.mul_le_mul (Nat.le_of_lt hx) e6
      omega)
    have e10 : a.getD i 0 * 2 ^ k % 4294967296 % 4294967296 = a.getD i 0 * 2 ^ k % 4294967296 := Nat.mod_mod _ _
    clear hv hh hh'
    simp (maxSteps := 4000000) (disch := omega) only [go_sem, ↓reduceIte, Nat.reduceAdd, Nat.reduceSub, Nat.reduceMul, Nat.reduceEqDiff, reduceCtorEq, Int.reduceAdd, Int.reduceLT, Int.reduceLE, Int.reduceToNat, Int.reduceNeg, Int.reduceSub, ← List.map_take, ← List.map_drop, wrap64, wrapu64, wrapu32, ← Int.natCast_add, ← Int.natCast_mul, cast_succ, wrapu32_nat, shr32, reps_wd, map_set_wd, List.length_set, zs_len, hH, ho, e3, e7, e8, e9, e10]
    refine ⟨j - 1, by omega, i + 1, (o.set i (o.getD i 0 + a.getD i 0 * 2 ^ k % 4294967296)).set (i + 1) (a.getD i 0 * 2 ^ k / 4294967296), garb rfl, rfl, by rw [List.length_set, List.length_set, ho], (hr.set e4).set (Nat.lt_of_lt_of_le e5 (by show _ ≤ 4294967296; omega)), by omega, ⟨by simpa using st⟩, ⟨?_⟩, fun t ht => ?_⟩
    · rw [lget_set_self (by rw [List.length_set]; omega)]; exact e5
    · rw [lget_set_ne (by omega), lget_set_ne (by omega)]; exact hz t (by omega)
theorem shifted_open (m : Bool) (a : List Nat) (k : Nat) (ha : InR a) (la : a.length < 2 ^ 38) (hk' : k < 32) (h : Heap) (nx : Nat) : ∃ (o : List Nat) (h' : Heap), denO E 86 [.lst m (a.map wd), .int .i64 k] h nx = some (.ret (.ref nx 0 (a.length + 1)), h', nx + 1) ∧
    h' nx = some ⟨o.map wd, false, 1, false⟩ ∧ (∀ j, j ≠ nx → h' j = h j) ∧ InR o ∧ o.length = a.length + 1 ∧ val o = val a * 2 ^ k := by
  have key : ∃ v h' n, denO E 86 [.lst m (a.map wd), .int .i64 k] h nx = some (.ret v, h', n) ∧ ∃ o : List Nat, v = .ref nx 0 (a.length + 1) ∧ n = nx + 1 ∧ h' nx = some ⟨o.map wd, false, 1, false⟩ ∧ (∀ j, j ≠ nx → h' j = h j) ∧ InR o ∧ o.length = a.length + 1 ∧ val o = val a * 2 ^ k := by
    refine denO_intro E86 rfl ?_
    simp (maxSteps := 4000000) (disch := omega) only [go_sem, ↓reduceIte, Nat.reduceAdd, Nat.reduceSub, Nat.reduceMul, Nat.reduceEqDiff, reduceCtorEq, Int.reduceAdd, Int.reduceLT, Int.reduceLE, Int.reduceToNat, Int.reduceNeg, Int.reduceSub, ← List.map_take, ← List.map_drop, wrap64, wrapu64, wrapu32, ← Int.natCast_add, ← Int.natCast_mul, cast_succ, wrapu32_nat, shr32, reps_wd, map_set_wd, List.length_set, zs_len, Try.f86]
    refine W_loopS (fun j sl H n => ∃ (i : Nat) (o : List Nat), (∃ g : Nat → AV, sl = [.lst m (a.map wd), .int .i64 k, g 2, g 3, g 4, .ref nx 0 (a.length + 1), .int .i64 i, g 7, g 8, g 9, g 10, g 11, g 12, g 13, g 14, g 15, g 16, g 17, g 18, g 19, g 20, g 21, g 22, g 23, g 24, g 25, g 26, g 27, g 28, g 29, g 30, g 31, g 32, g 33, g 34, g 35, g 36, g 37, g 38, g 39, g 40, g 41]) ∧ n = nx + 1 ∧
      H nx = some ⟨o.map wd, false, 1, false⟩ ∧ Hd (∀ j, j ≠ nx → H j = h j) ∧ o.length = a.length + 1 ∧ InR o ∧ i + j = a.length ∧ Hd (vp o (0 + i + 1) = vp a i * (2 ^ k * BB ^ 0)) ∧ Hd (o.getD (0 + i) 0 < 2 ^ k) ∧ ∀ t, i < t → o.getD t 0 = 0) a.length
      ⟨0, _, garb rfl, rfl, upd_same, ⟨fun j hj => upd_ne hj⟩, zs_len _, zs_inR _, by omega, ⟨by rw [zs_vp]; simp [vp]⟩, ⟨by rw [zs_get]; exact Nat.pow_pos (by decide)⟩, fun t _ => zs_get _ t⟩ ?_
    rintro j _ H _ ⟨i, o, ⟨g, rfl⟩, rfl, hH, hF, ho, hr, hi, hv, hh, hz⟩
    by_cases hj : j = 0
    · obtain rfl : i = a.length := by omega
      have hval : val o = val a * 2 ^ k := by
        have := hv.out
        rw [Nat.pow_zero, Nat.mul_one, Nat.zero_add] at this
        rw [val, ho, this]; rfl
      clear hv hh
      simp (maxSteps := 4000000) (disch := omega) only [go_sem, ↓reduceIte, Nat.reduceAdd, Nat.reduceSub, Nat.reduceMul, Nat.reduceEqDiff, reduceCtorEq, Int.reduceAdd, Int.reduceLT, Int.reduceLE, Int.reduceToNat, Int.reduceNeg, Int.reduceSub, ← List.map_take, ← List.map_drop, wrap64, wrapu64, wrapu32, ← Int.natCast_add, ← Int.natCast_mul, cast_succ, wrapu32_nat, shr32, reps_wd, map_set_wd, List.length_set, zs_len, hH, ho, List.take_of_length_le]
      exact ⟨o, rfl, hF.out, hr, ho, hval⟩
    · have hx := ha.get i
      have hh' := hh.out
      rw [Nat.zero_add] at hh'
      have e3 := left_or hk' hx hh'
      have e4 := left_sum hk' hx hh'
      have e5 := (left_word hk' hx).1
      have e6 := pow_lt32 hk'
      have e7 := shl_nat hk' hx
      have st := left_step (o := o) (q := 0) hk' hx (by omega) rfl hv.out
      simp only [Nat.zero_add] at st
      have e8 : a.getD i 0 * 2 ^ k / 4294967296 % 4294967296 = a.getD i 0 * 2 ^ k / 4294967296 := Nat.mod_eq_of_lt (by omega)
      have e9 := and_low (n := a.getD i 0 * 2 ^ k) (by
        have : a.getD i 0 * 2 ^ k ≤ 4294967296 * 2147483648 := Nat.mul_le_mul (Nat.le_of_lt hx) e6
        omega)
      have e10 : a.getD i 0 * 2 ^ k % 4294967296 % 4294967296 = a.getD i 0 * 2 ^ k % 4294967296 := Nat.mod_mod _ _
      clear hv hh hh'
      simp (maxSteps := 4000000) (disch := omega) only [go_sem, ↓reduceIte, Nat.reduceAdd, Nat.reduceSub, Nat.reduceMul, Nat.reduceEqDiff, reduceCtorEq, Int.reduceAdd, Int.reduceLT, Int.reduceLE, Int.reduceToNat, Int.reduceNeg, Int.reduceSub, ← List.map_take, ← List.map_drop, wrap64, wrapu64, wrapu32, ← Int.natCast_add, ← Int.natCast_mul, cast_succ, wrapu32_nat, shr32, reps_wd, map_set_wd, List.length_set, zs_len, hH, ho, e3, e7, e8, e9, e10]
      refine ⟨j - 1, by omega, i + 1, (o.set i (o.getD i 0 + a.getD i 0 * 2 ^ k % 4294967296)).set (i + 1) (a.getD i 0 * 2 ^ k / 4294967296), garb rfl, rfl, ⟨fun t ht => ?_⟩, by rw [List.length_set, List.length_set, ho], (hr.set e4).set (Nat.lt_of_lt_of_le e5 (by show _ ≤ 4294967296; omega)), by omega, ⟨by simpa using st⟩, ⟨?_⟩, fun t ht => ?_⟩
      · rw [if_neg ht]; exact hF.out t ht
      · rw [lget_set_self (by rw [List.length_set]; omega)]; exact e5
      · rw [lget_set_ne (by omega), lget_set_ne (by omega)]; exact hz t (by omega)
  obtain ⟨v, h', n, h1, o, rfl, rfl, h2, h3, h4, h5, h6⟩ := key
  exact ⟨o, h', h1, h2, h3, h4, h5, h6⟩
end Go.Proofs.Ytmgmcnoobgljpaa

/- Walks: rows of words moved to the right. (Own work of this repo.) -/
namespace Go.Proofs.Ytmgmcnoobgljpaa
open Vm
set_option maxRecDepth 10000

theorem right1_spec (x : Nat) : denP E 104 [.int .u32 x] = some (.ret (.bool (!decide (x = 0)))) := by
  refine denP_eq E104 rfl (by simp [AV.pureL, AV.pure]) ?_
  by_cases h : x = 0
  · subst h; simp (maxSteps := 4000000) (disch := omega) only [go_sem, ↓reduceIte, Nat.reduceAdd, Nat.reduceSub, Nat.reduceMul, Nat.reduceEqDiff, reduceCtorEq, Int.reduceAdd, Int.reduceLT, Int.reduceLE, Int.reduceToNat, Int.reduceNeg, Int.reduceSub, ← List.map_take, ← List.map_drop, wrap64, wrapu64, wrapu32, Try.f104]
  · simp (maxSteps := 4000000) (disch := omega) only [go_sem, ↓reduceIte, Nat.reduceAdd, Nat.reduceSub, Nat.reduceMul, Nat.reduceEqDiff, reduceCtorEq, Int.reduceAdd, Int.reduceLT, Int.reduceLE, Int.reduceToNat, Int.reduceNeg, Int.reduceSub, ← List.map_take, ← List.map_drop, wrap64, wrapu64, wrapu32, Try.f104]
theorem index_walk (m : Bool) (a : List Nat) (la : a.length < 2 ^ 60) : ∃ r : Int, denP E 105 [.lst m (a.map wd), .fn 104 [] []] = some (.ret (.int .i64 r)) ∧ (0 ≤ r ↔ vp a a.length ≠ 0) := by
  refine denP_ex E105 rfl (by simp [AV.pureL, AV.pure, pure_wd]) ?_
  simp (maxSteps := 4000000) (disch := omega) only [go_sem, ↓reduceIte, Nat.reduceAdd, Nat.reduceSub, Nat.reduceMul, Nat.reduceEqDiff, reduceCtorEq, Int.reduceAdd, Int.reduceLT, Int.reduceLE, Int.reduceToNat, Int.reduceNeg, Int.reduceSub, ← List.map_take, ← List.map_drop, wrap64, wrapu64, wrapu32, ← Int.natCast_add, ← Int.natCast_mul, cast_succ, wrapu32_nat, shr32, reps_wd, map_set_wd, List.length_set, zs_len, Try.f105]
  refine W_loopS (fun j sl H nx => ∃ i : Nat, (∃ g : Nat → AV, sl = [.lst m (a.map wd), .fn 104 [] [], g 2, g 3, g 4, g 5, g 6, .int .i64 a.length, .int .i64 i, g 9, g 10, g 11, g 12, g 13, g 14, g 15, g 16, g 17, g 18]) ∧ i + j = a.length ∧ ∀ t, t < i → a.getD t 0 = 0) a.length ⟨0, garb rfl, by omega, by omega⟩ ?_
  rintro j _ H nx ⟨i, ⟨g, rfl⟩, hi, hz⟩
  by_cases hj : j = 0
  · have h0 : vp a a.length = 0 := (vp_nz _).2 fun t ht => hz t (by omega)
    simp (maxSteps := 4000000) (disch := omega) only [go_sem, ↓reduceIte, Nat.reduceAdd, Nat.reduceSub, Nat.reduceMul, Nat.reduceEqDiff, reduceCtorEq, Int.reduceAdd, Int.reduceLT, Int.reduceLE, Int.reduceToNat, Int.reduceNeg, Int.reduceSub, ← List.map_take, ← List.map_drop, wrap64, wrapu64, wrapu32, ← Int.natCast_add, ← Int.natCast_mul, cast_succ, wrapu32_nat, shr32, reps_wd, map_set_wd, List.length_set, zs_len]
    exact ⟨-1, rfl, by omega, fun h => absurd h0 h⟩
  · by_cases h : a.getD i 0 = 0
    · have h1 := right1_spec (a.getD i 0)
      rw [decide_eq_true h, Bool.not_true] at h1
      simp (maxSteps := 4000000) (disch := omega) only [go_sem, ↓reduceIte, Nat.reduceAdd, Nat.reduceSub, Nat.reduceMul, Nat.reduceEqDiff, reduceCtorEq, Int.reduceAdd, Int.reduceLT, Int.reduceLE, Int.reduceToNat, Int.reduceNeg, Int.reduceSub, ← List.map_take, ← List.map_drop, wrap64, wrapu64, wrapu32, ← Int.natCast_add, ← Int.natCast_mul, cast_succ, wrapu32_nat, shr32, reps_wd, map_set_wd, List.length_set, zs_len, h1]
      refine ⟨j - 1, by omega, i + 1, garb rfl, by omega, fun t ht => ?_⟩
      by_cases hti : t = i
      · subst hti; exact h
      · exact hz t (by omega)
    · have h1 := right1_spec (a.getD i 0)
      rw [decide_eq_false h, Bool.not_false] at h1
      simp (maxSteps := 4000000) (disch := omega) only [go_sem, ↓reduceIte, Nat.reduceAdd, Nat.reduceSub, Nat.reduceMul, Nat.reduceEqDiff, reduceCtorEq, Int.reduceAdd, Int.reduceLT, Int.reduceLE, Int.reduceToNat, Int.reduceNeg, Int.reduceSub, ← List.map_take, ← List.map_drop, wrap64, wrapu64, wrapu32, ← Int.natCast_add, ← Int.natCast_mul, cast_succ, wrapu32_nat, shr32, reps_wd, map_set_wd, List.length_set, zs_len, h1]
      exact ⟨i, rfl, fun _ e => h ((vp_nz _).1 e i (by omega)), fun _ => by omega⟩
theorem contains_spec (m : Bool) (a : List Nat) (la : a.length < 2 ^ 60) : denP E 103 [.lst m (a.map wd), .fn 104 [] []] = some (.ret (.bool (!decide (vp a a.length = 0)))) := by
  obtain ⟨r, h1, h2⟩ := index_walk m a la
  refine denP_eq E103 rfl (by simp [AV.pureL, AV.pure, pure_wd]) ?_
  by_cases h : vp a a.length = 0
  · have : ¬ 0 ≤ r := fun h' => h2.1 h' h
    rw [decide_eq_true h]
    simp (maxSteps := 4000000) (disch := omega) only [go_sem, ↓reduceIte, Nat.reduceAdd, Nat.reduceSub, Nat.reduceMul, Nat.reduceEqDiff, reduceCtorEq, Int.reduceAdd, Int.reduceLT, Int.reduceLE, Int.reduceToNat, Int.reduceNeg, Int.reduceSub, ← List.map_take, ← List.map_drop, wrap64, wrapu64, wrapu32, ← Int.natCast_add, ← Int.natCast_mul, cast_succ, wrapu32_nat, shr32, reps_wd, map_set_wd, List.length_set, zs_len, Try.f103, h1]
  · have : 0 ≤ r := h2.2 h
    rw [decide_eq_false h]
    simp (maxSteps := 4000000) (disch := omega) only [go_sem, ↓reduceIte, Nat.reduceAdd, Nat.reduceSub, Nat.reduceMul, Nat.reduceEqDiff, reduceCtorEq, Int.reduceAdd, Int.reduceLT, Int.reduceLE, Int.reduceToNat, Int.reduceNeg, Int.reduceSub, ← List.map_take, ← List.map_drop, wrap64, wrapu64, wrapu32, ← Int.natCast_add, ← Int.natCast_mul, cast_succ, wrapu32_nat, shr32, reps_wd, map_set_wd, List.length_set, zs_len, Try.f103, h1]
theorem getD_range (f : Nat → Nat) {n i : Nat} (h : i < n) : ((List.range n).map f).getD i 0 = f i := by
  rw [List.getD_eq_getElem?_getD, List.getElem?_map, List.getElem?_range h]; rfl
/-- What the bits below a place are. -/
theorem mask_low {x k : Nat} (hk : k < 32) (hx : x < 4294967296) : IntKind.u32.wrap ((BitVec.ofInt (kb .u32) (x : Int) &&& BitVec.ofInt (kb .u32) (IntKind.u32.wrap (IntKind.u32.wrap (1 * 2 ^ min k (kb .u32)) - 1))).toNat : Int) = ((x % 2 ^ k : Nat) : Int) := by
  have h1 := pow_lt32 hk
  have h0 : 0 < 2 ^ k := Nat.pow_pos (by decide)
  rw [show min k (kb .u32) = k from Nat.min_eq_left (by show k ≤ 32; omega)]
  have e : (1 : Int) * 2 ^ k = ((2 ^ k : Nat) : Int) := by push_cast; rw [Int.one_mul]
  rw [e, wrapu32 (x := ((2 ^ k : Nat) : Int)) (by omega) (by omega)]
  have e2 : ((2 ^ k : Nat) : Int) - 1 = ((2 ^ k - 1 : Nat) : Int) := by omega
  rw [e2, wrapu32 (x := ((2 ^ k - 1 : Nat) : Int)) (by omega) (by omega), and32b hx (by omega), Nat.and_two_pow_sub_one_eq_mod]
theorem shl32 {y : Nat} (h : y < 4294967296) : IntKind.u64.wrap ((y : Int) * 2 ^ min 32 (kb .u64)) = ((y * 4294967296 : Nat) : Int) := by
  rw [show min 32 (kb .u64) = 32 from rfl, show (y : Int) * 2 ^ 32 = ((y * 4294967296 : Nat) : Int) by rw [Int.natCast_mul]; rfl]
  exact wrapu64 (by omega) (by omega)
theorem or_high {x y : Nat} (hx : x < 4294967296) (hy : y < 4294967296) : IntKind.u64.wrap ((BitVec.ofInt (kb .u64) (x : Int) ||| BitVec.ofInt (kb .u64) ((y * 4294967296 : Nat) : Int)).toNat : Int) = ((x + y * 4294967296 : Nat) : Int) := by
  rw [or64 (by omega) (by omega), show (4294967296 : Nat) = 2 ^ 32 from rfl, or_add hx]
theorem shr_k {x k : Nat} (hk : k < 32) : (x : Int).fdiv (2 ^ min k (kb .u64)) = ((x / 2 ^ k : Nat) : Int) := by
  rw [shr_nat, show min k (kb .u64) = k from Nat.min_eq_left (by show k ≤ 64; omega)]
theorem val_nz {a : List Nat} (h : Norm a) (h0 : a.length ≠ 0) : val a ≠ 0 := by
  have := norm_pos h (fun e => h0 (by rw [e]; rfl)); omega
theorem right_spec (m : Bool) (a : List Nat) (n : Nat) (hn : Norm a) (la : a.length < 2 ^ 38) (ln : n < 2 ^ 38) : denP E 102 [.lst m (a.map wd), .int .i64 n] = some (.ret (.tup [.lst (decide (a.length ≤ n / 32)) ((dig (val a / 2 ^ n)).map wd), .bool (!decide (val a % 2 ^ n = 0))])) := by
  have ha := hn.1
  refine denP_eq E102 rfl (by simp [AV.pureL, AV.pure, pure_wd]) ?_
  have e1 : (n : Int).tdiv 32 = ((n / 32 : Nat) : Int) := rfl
  have e2 : (n : Int).tmod 32 = ((n % 32 : Nat) : Int) := rfl
  have hpow := pow32 n
  generalize hq : n / 32 = q at *
  generalize hk : n % 32 = k at *
  have hk' : k < 32 := by omega
  have hq' : q < 2 ^ 38 := by omega
  by_cases hql : a.length ≤ q
  · have hlt : val a < 2 ^ n := by
      have h1 := val_lt ha
      have h2 : BB ^ a.length ≤ BB ^ q := Nat.pow_le_pow_right (by decide) hql
      have h3 : 1 * BB ^ q ≤ 2 ^ k * BB ^ q := Nat.mul_le_mul_right _ (Nat.pow_pos (by decide))
      rw [hpow]; omega
    rw [decide_eq_true hql, Nat.div_eq_of_lt hlt, Nat.mod_eq_of_lt hlt, dig_zero]
    by_cases h0 : a.length = 0
    · have : val a = 0 := by rw [List.length_eq_zero_iff.1 h0]; rfl
      rw [decide_eq_true this]
      simp (maxSteps := 4000000) (disch := omega) only [go_sem, ↓reduceIte, Nat.reduceAdd, Nat.reduceSub, Nat.reduceMul, Nat.reduceEqDiff, reduceCtorEq, Int.reduceAdd, Int.reduceLT, Int.reduceLE, Int.reduceToNat, Int.reduceNeg, Int.reduceSub, ← List.map_take, ← List.map_drop, wrap64, wrapu64, wrapu32, ← Int.natCast_add, ← Int.natCast_mul, cast_succ, wrapu32_nat, shr32, reps_wd, map_set_wd, List.length_set, zs_len, Try.f102, e1, e2]
    · rw [decide_eq_false (val_nz hn h0)]
      simp (maxSteps := 4000000) (disch := omega) only [go_sem, ↓reduceIte, Nat.reduceAdd, Nat.reduceSub, Nat.reduceMul, Nat.reduceEqDiff, reduceCtorEq, Int.reduceAdd, Int.reduceLT, Int.reduceLE, Int.reduceToNat, Int.reduceNeg, Int.reduceSub, ← List.map_take, ← List.map_drop, wrap64, wrapu64, wrapu32, ← Int.natCast_add, ← Int.natCast_mul, cast_succ, wrapu32_nat, shr32, reps_wd, map_set_wd, List.length_set, zs_len, Try.f102, e1, e2]
  · rw [decide_eq_false hql]
    obtain ⟨b, hb⟩ : ∃ b, b = a.drop q := ⟨_, rfl⟩
    have hbl : b.length = a.length - q := by rw [hb, List.length_drop]
    have hbr : InR b := by rw [hb]; exact ha.drop q
    have hsplit := val_split (a := a) (q := q) (by omega)
    rw [← hb] at hsplit
    have htl : (a.take q).length = q := by rw [List.length_take]; omega
    have hc := contains_spec m (a.take q) (by omega)
    rw [htl, vp_congr q (fun i hi => getD_take hi)] at hc
    have b0 := hbr.get 0
    have em := mask_low hk' b0
    have hb0 : b[0]? = some (b.getD 0 0) := by
      rw [List.getD_eq_getElem?_getD, List.getElem?_eq_getElem (by omega)]; rfl
    have hp0 : 0 < BB ^ q := Nat.pow_pos (by decide)
    have hp1 : 0 < 2 ^ k := Nat.pow_pos (by decide)
    have hvq := vp_lt ha q
    -- what is handed back
    have fin : ∀ o : List Nat, o.length = b.length → (∀ i, i < b.length → o.getD i 0 = (b.getD i 0 + b.getD (i + 1) 0 * 4294967296) / 2 ^ k % 4294967296) →
        val o = val a / 2 ^ n ∧ (val a % 2 ^ n = 0 ↔ vp a q = 0 ∧ b.getD 0 0 % 2 ^ k = 0) := by
      intro o ho hf
      have h1 := right_val hk' hbr ho hf
      have h2 : b.getD 0 0 % 2 ^ k < 2 ^ k := Nat.mod_lt _ hp1
      generalize b.getD 0 0 % 2 ^ k = r at *
      have h3 : val a = (vp a q + BB ^ q * r) + 2 ^ n * val o := by
        rw [hsplit, h1, hpow]; generalize BB ^ q = z; generalize 2 ^ k = w; generalize val o = v; grind
      have h4 : vp a q + BB ^ q * r < 2 ^ n := by
        have : BB ^ q * (r + 1) ≤ BB ^ q * 2 ^ k := Nat.mul_le_mul_left _ h2
        rw [hpow, Nat.mul_comm (2 ^ k)]
        rw [Nat.mul_add] at this; omega
      constructor
      · rw [h3, Nat.add_mul_div_left _ _ (Nat.pow_pos (by decide)), Nat.div_eq_of_lt h4, Nat.zero_add]
      · rw [h3, Nat.add_mul_mod_self_left, Nat.mod_eq_of_lt h4, Nat.add_eq_zero_iff, Nat.mul_eq_zero]
        constructor
        · rintro ⟨x, y⟩; exact ⟨x, y.resolve_left (by omega)⟩
        · rintro ⟨x, y⟩; exact ⟨x, .inr y⟩
    have hlost : val a % 2 ^ n = 0 ↔ vp a q = 0 ∧ b.getD 0 0 % 2 ^ k = 0 := by
      refine (fin ((List.range b.length).map fun i => (b.getD i 0 + b.getD (i + 1) 0 * 4294967296) / 2 ^ k % 4294967296) (by rw [List.length_map, List.length_range]) fun i hi => ?_).2
      exact getD_range _ hi
    have hb' : a.drop q = b := hb.symm
    have e3 : (a.length : Int) - q = (b.length : Int) := by omega
    simp (maxSteps := 4000000) (disch := omega) only [go_sem, ↓reduceIte, Nat.reduceAdd, Nat.reduceSub, Nat.reduceMul, Nat.reduceEqDiff, reduceCtorEq, Int.reduceAdd, Int.reduceLT, Int.reduceLE, Int.reduceToNat, Int.reduceNeg, Int.reduceSub, ← List.map_take, ← List.map_drop, wrap64, wrapu64, wrapu32, ← Int.natCast_add, ← Int.natCast_mul, cast_succ, wrapu32_nat, shr32, reps_wd, map_set_wd, List.length_set, zs_len, Try.f102, e1, e2, cutBounds, hc, List.take_of_length_le, hb']
    refine wantK_mono (Q := fun e σ => e = .norm ∧ (∃ g : Nat → AV, σ.sl = [.lst m (b.map wd), g 1, g 2, g 3, g 4, g 5, .bool (!decide (val a % 2 ^ n = 0)), .int .u64 k, g 8, g 9, g 10, g 11, g 12, g 13, g 14, g 15, g 16, g 17, g 18, g 19, g 20, g 21, g 22, g 23, g 24, g 25, g 26, g 27, g 28, g 29, g 30, g 31, g 32, g 33, g 34, g 35, g 36, g 37, g 38, g 39, g 40, g 41, g 42, g 43, g 44, g 45, g 46, g 47, g 48, g 49, g 50, g 51, g 52, g 53, g 54, g 55, g 56, g 57, g 58, g 59, g 60, g 61, g 62, g 63, g 64, g 65, g 66, g 67, g 68, g 69, g 70, g 71, g 72, g 73, g 74, g 75, g 76, g 77, g 78, g 79]) ∧ σ.nx = 0 ∧ σ.h = Heap.empty) ?_ ?_
    · rintro e ⟨sl, h, nx⟩ ⟨rfl, ⟨g, hs⟩, rfl, rfl⟩
      dsimp only at hs
      subst hs
      generalize (!decide (val a % 2 ^ n = 0)) = lost at *
      have hb2 := hbr
      clear hc em hlost e1 e2 e3 hpow hsplit hvq hn ha
      simp (maxSteps := 4000000) (disch := omega) only [go_sem, ↓reduceIte, Nat.reduceAdd, Nat.reduceSub, Nat.reduceMul, Nat.reduceEqDiff, reduceCtorEq, Int.reduceAdd, Int.reduceLT, Int.reduceLE, Int.reduceToNat, Int.reduceNeg, Int.reduceSub, ← List.map_take, ← List.map_drop, wrap64, wrapu64, wrapu32, ← Int.natCast_add, ← Int.natCast_mul, cast_succ, wrapu32_nat, shr32, reps_wd, map_set_wd, List.length_set, zs_len]
      refine W_loopS (fun j sl H nx => ∃ (i : Nat) (o : List Nat), (∃ g : Nat → AV, sl = [.lst m (b.map wd), g 1, g 2, g 3, g 4, g 5, .bool lost, .int .u64 k, .ref 0 0 b.length, g 9, g 10, g 11, g 12, g 13, g 14, g 15, g 16, g 17, g 18, g 19, g 20, g 21, g 22, g 23, g 24, g 25, g 26, g 27, g 28, g 29, g 30, g 31, g 32, g 33, g 34, g 35, g 36, g 37, g 38, g 39, g 40, g 41, g 42, g 43, g 44, g 45, .lst m (b.map wd), .int .i64 b.length, .int .i64 i, g 49, g 50, g 51, g 52, g 53, g 54, g 55, g 56, g 57, g 58, g 59, g 60, g 61, g 62, g 63, g 64, g 65, g 66, g 67, g 68, g 69, g 70, g 71, g 72, g 73, g 74, g 75, g 76, g 77, g 78, g 79]) ∧ nx = 1 ∧
        H 0 = some ⟨o.map wd, false, 1, false⟩ ∧ o.length = b.length ∧ InR o ∧ i + j = b.length ∧ Hd (∀ t, t < i → o.getD t 0 = (b.getD t 0 + b.getD (t + 1) 0 * 4294967296) / 2 ^ k % 4294967296)) b.length
        ⟨0, _, garb rfl, rfl, rfl, zs_len _, zs_inR _, by omega, ⟨fun t ht => by omega⟩⟩ ?_
      rintro j _ H _ ⟨i, o, ⟨g, rfl⟩, rfl, hH, ho, hr, hi, hv⟩
      by_cases hj : j = 0
      · obtain rfl : i = b.length := by omega
        have hval := (fin o ho hv.out).1
        have ht := trim_spec false o hr (by omega)
        rw [hval] at ht
        clear hv fin
        simp (maxSteps := 4000000) (disch := omega) only [go_sem, ↓reduceIte, Nat.reduceAdd, Nat.reduceSub, Nat.reduceMul, Nat.reduceEqDiff, reduceCtorEq, Int.reduceAdd, Int.reduceLT, Int.reduceLE, Int.reduceToNat, Int.reduceNeg, Int.reduceSub, ← List.map_take, ← List.map_drop, wrap64, wrapu64, wrapu32, ← Int.natCast_add, ← Int.natCast_mul, cast_succ, wrapu32_nat, shr32, reps_wd, map_set_wd, List.length_set, zs_len, hH, ho, List.take_of_length_le, ht]
      · have hx := hbr.get i
        have hy := hbr.get (i + 1)
        have e5 := or_high hx hy
        have e6 := shl32 hy
        obtain ⟨Y, hY⟩ : ∃ Y, Y = b.getD (i + 1) 0 * 4294967296 := ⟨_, rfl⟩
        obtain ⟨X, hX⟩ : ∃ X, X = b.getD i 0 + Y := ⟨_, rfl⟩
        rw [← hY, ← hX] at e5
        rw [← hY] at e6
        clear fin
        have stp : ∀ x : Nat, x = (b.getD i 0 + b.getD (i + 1) 0 * 4294967296) / 2 ^ k % 4294967296 → Hd (∀ t, t < i + 1 → (o.set i x).getD t 0 = (b.getD t 0 + b.getD (t + 1) 0 * 4294967296) / 2 ^ k % 4294967296) := by
          intro x hx
          refine ⟨fun t ht => ?_⟩
          by_cases hti : t = i
          · subst hti; rw [lget_set_self (by omega)]; exact hx
          · rw [lget_set_ne (by omega)]; exact hv.out t (by omega)
        by_cases hlast : i + 1 < b.length
        · simp (maxSteps := 4000000) (disch := omega) only [go_sem, ↓reduceIte, Nat.reduceAdd, Nat.reduceSub, Nat.reduceMul, Nat.reduceEqDiff, reduceCtorEq, Int.reduceAdd, Int.reduceLT, Int.reduceLE, Int.reduceToNat, Int.reduceNeg, Int.reduceSub, ← List.map_take, ← List.map_drop, wrap64, wrapu64, wrapu32, ← Int.natCast_add, ← Int.natCast_mul, cast_succ, wrapu32_nat, shr32, reps_wd, map_set_wd, List.length_set, zs_len, hH, ho, e5, e6, shr_k]
          exact ⟨j - 1, by omega, i + 1, o.set i (X / 2 ^ k % 4294967296), garb rfl, rfl, by rw [List.length_set, ho], hr.set (Nat.mod_lt _ (by decide)), by omega, stp _ (by rw [hX, hY])⟩
        · have h0 := getD_ge (l := b) (i := i + 1) (by omega)
          simp (maxSteps := 4000000) (disch := omega) only [go_sem, ↓reduceIte, Nat.reduceAdd, Nat.reduceSub, Nat.reduceMul, Nat.reduceEqDiff, reduceCtorEq, Int.reduceAdd, Int.reduceLT, Int.reduceLE, Int.reduceToNat, Int.reduceNeg, Int.reduceSub, ← List.map_take, ← List.map_drop, wrap64, wrapu64, wrapu32, ← Int.natCast_add, ← Int.natCast_mul, cast_succ, wrapu32_nat, shr32, reps_wd, map_set_wd, List.length_set, zs_len, hH, ho, shr_k]
          exact ⟨j - 1, by omega, i + 1, o.set i (b.getD i 0 / 2 ^ k % 4294967296), garb rfl, rfl, by rw [List.length_set, ho], hr.set (Nat.mod_lt _ (by decide)), by omega, stp _ (by rw [h0, Nat.zero_mul, Nat.add_zero])⟩
    · by_cases hl : vp a q = 0
      · rw [decide_eq_true hl]
        by_cases hr : b.getD 0 0 % 2 ^ k = 0
        · rw [decide_eq_true (hlost.2 ⟨hl, hr⟩)]
          rw [hr] at em
          clear fin hlost
          simp (maxSteps := 4000000) (disch := omega) only [go_sem, ↓reduceIte, Nat.reduceAdd, Nat.reduceSub, Nat.reduceMul, Nat.reduceEqDiff, reduceCtorEq, Int.reduceAdd, Int.reduceLT, Int.reduceLE, Int.reduceToNat, Int.reduceNeg, Int.reduceSub, ← List.map_take, ← List.map_drop, wrap64, wrapu64, wrapu32, ← Int.natCast_add, ← Int.natCast_mul, cast_succ, wrapu32_nat, shr32, reps_wd, map_set_wd, List.length_set, zs_len, em]
          exact garb rfl
        · rw [decide_eq_false (fun h => hr (hlost.1 h).2)]
          clear fin hlost
          simp (maxSteps := 4000000) (disch := omega) only [go_sem, ↓reduceIte, Nat.reduceAdd, Nat.reduceSub, Nat.reduceMul, Nat.reduceEqDiff, reduceCtorEq, Int.reduceAdd, Int.reduceLT, Int.reduceLE, Int.reduceToNat, Int.reduceNeg, Int.reduceSub, ← List.map_take, ← List.map_drop, wrap64, wrapu64, wrapu32, ← Int.natCast_add, ← Int.natCast_mul, cast_succ, wrapu32_nat, shr32, reps_wd, map_set_wd, List.length_set, zs_len, em]
          exact garb rfl
      · rw [decide_eq_false hl, decide_eq_false (fun h => hl (hlost.1 h).1)]
        clear fin hlost
        simp (maxSteps := 4000000) (disch := omega) only [go_sem, ↓reduceIte, Nat.reduceAdd, Nat.reduceSub, Nat.reduceMul, Nat.reduceEqDiff, reduceCtorEq, Int.reduceAdd, Int.reduceLT, Int.reduceLE, Int.reduceToNat, Int.reduceNeg, Int.reduceSub, ← List.map_take, ← List.map_drop, wrap64, wrapu64, wrapu32, ← Int.natCast_add, ← Int.natCast_mul, cast_succ, wrapu32_nat, shr32, reps_wd, map_set_wd, List.length_set, zs_len]
        exact garb rfl
end Go.Proofs.Ytmgmcnoobgljpaa

/- Plain facts: dividing rows of words, word by word. (Own work of this repo.) -/
namespace Vm

/-- What n words from place j on are worth. -/
def wv (o : List Nat) (j : Nat) : Nat → Nat
  | 0 => 0
  | k + 1 => wv o j k + o.getD (j + k) 0 * BB ^ k
theorem vp_wv (o : List Nat) (j : Nat) : ∀ n, vp o (j + n) = vp o j + BB ^ j * wv o j n
  | 0 => by simp [wv]
  | n + 1 => by
    rw [← Nat.add_assoc, vp, vp_wv o j n, wv, Nat.mul_add, Nat.pow_add, Nat.add_assoc]
    congr 2
    rw [Nat.mul_comm (BB ^ j) (BB ^ n), ← Nat.mul_assoc, Nat.mul_comm (BB ^ j)]
theorem wv_lt {o : List Nat} (h : InR o) (j : Nat) : ∀ n, wv o j n < BB ^ n
  | 0 => by simp [wv]
  | n + 1 => by
    have h1 := wv_lt h j n
    have h2 := h.get (j + n)
    rw [wv, Nat.pow_succ, Nat.mul_comm (BB ^ n)]
    have h3 : (o.getD (j + n) 0 + 1) * BB ^ n ≤ BB * BB ^ n := Nat.mul_le_mul_right _ h2
    rw [Nat.add_mul] at h3
    omega
theorem wv_set (o : List Nat) (j i x : Nat) : ∀ n, n ≤ i → wv (o.set (j + i) x) j n = wv o j n
  | 0, _ => rfl
  | n + 1, h => by rw [wv, wv, wv_set o j i x n (by omega), lget_set_ne (by omega)]
theorem wv_congr {o p : List Nat} {j : Nat} : ∀ n, (∀ t, j ≤ t → t < j + n → o.getD t 0 = p.getD t 0) → wv o j n = wv p j n
  | 0, _ => rfl
  | n + 1, h => by rw [wv, wv, wv_congr n (fun t h1 h2 => h t h1 (by omega)), h (j + n) (by omega) (by omega)]
theorem split_mul' (s p : Nat) : s % 4294967296 * p + s / 4294967296 * (p * BB) = s * p := split_mul s p
/-- One word of a multiple is subtracted. -/
theorem ms_step {o p v : List Nat} {j i q c0 b0 b1 w x : Nat} (hp : j + i < p.length) (hv : wv p j i + q * vp v i = wv o j i + (c0 + b0) * BB ^ i) (hx : x = q * v.getD i 0 + c0)
    (hw : w + x % 4294967296 + b0 = o.getD (j + i) 0 + b1 * 4294967296) :
    wv (p.set (j + i) w) j (i + 1) + q * vp v (i + 1) = wv o j (i + 1) + (x / 4294967296 + b1) * BB ^ (i + 1) := by
  rw [wv, wv, vp, wv_set p j i w i (Nat.le_refl _), lget_set_self hp, Nat.pow_succ]
  have h1 := split_mul' x (BB ^ i)
  have e : BB = 4294967296 := rfl
  have h2 : w * BB ^ i + x % 4294967296 * BB ^ i + b0 * BB ^ i = o.getD (j + i) 0 * BB ^ i + b1 * (BB ^ i * BB) := by
    rw [← Nat.add_mul, ← Nat.add_mul, hw, Nat.add_mul, Nat.mul_assoc b1, Nat.mul_comm (BB ^ i)]
  have h3 : x * BB ^ i = q * (v.getD i 0 * BB ^ i) + c0 * BB ^ i := by rw [hx, Nat.add_mul, Nat.mul_assoc]
  rw [Nat.mul_add, Nat.add_mul]
  rw [Nat.add_mul] at hv
  omega
theorem ms_last {o p : List Nat} {j n c w b C : Nat} (hp : j + n < p.length) (hv : wv p j n + C = wv o j n + c * BB ^ n) (hw : w + c = o.getD (j + n) 0 + b * 4294967296) :
    wv (p.set (j + n) w) j (n + 1) + C = wv o j (n + 1) + b * BB ^ (n + 1) := by
  rw [wv, wv, wv_set p j n w n (Nat.le_refl _), lget_set_self hp, Nat.pow_succ]
  have e : BB = 4294967296 := rfl
  have h2 : w * BB ^ n + c * BB ^ n = o.getD (j + n) 0 * BB ^ n + b * (BB ^ n * BB) := by
    rw [← Nat.add_mul, hw, Nat.add_mul, Nat.mul_assoc b, Nat.mul_comm (BB ^ n)]
  omega
/-- One word is added. -/
theorem as_step {o p v : List Nat} {j i c s : Nat} (hp : j + i < p.length) (hv : wv p j i + c * BB ^ i = wv o j i + vp v i) (hs : s = c + o.getD (j + i) 0 + v.getD i 0) :
    wv (p.set (j + i) (s % 4294967296)) j (i + 1) + s / 4294967296 * BB ^ (i + 1) = wv o j (i + 1) + vp v (i + 1) := by
  have h := split_mul' s (BB ^ i)
  rw [wv, wv, vp, wv_set p j i _ i (Nat.le_refl _), lget_set_self hp, Nat.pow_succ]
  have h3 : s * BB ^ i = c * BB ^ i + o.getD (j + i) 0 * BB ^ i + v.getD i 0 * BB ^ i := by rw [hs, Nat.add_mul, Nat.add_mul]
  omega
theorem as_last {P p : List Nat} {j n c w V : Nat} (hp : j + n < p.length) (hv : wv p j n + c * BB ^ n = wv P j n + V) (hw : w = P.getD (j + n) 0 + c) :
    wv (p.set (j + n) (w % 4294967296)) j (n + 1) + w / 4294967296 * BB ^ (n + 1) = wv P j (n + 1) + V := by
  have h := split_mul' w (BB ^ n)
  rw [wv, wv, wv_set p j n _ n (Nat.le_refl _), lget_set_self hp, Nat.pow_succ]
  have h3 : w * BB ^ n = P.getD (j + n) 0 * BB ^ n + c * BB ^ n := by rw [hw, Nat.add_mul]
  omega
/-- The guess is too great: it may fall. -/
theorem kn_dec {q r v1 v2 u2 top U V p : Nat} (ht : q * v1 + r = top) (hV : (v1 * 4294967296 + v2) * p ≤ V) (hU : U < (top * 4294967296 + u2 + 1) * p) (hUV : U < V * 4294967296)
    (h : 4294967296 ≤ q ∨ r * 4294967296 + u2 < q * v2) : U < q * V := by
  rcases h with h | h
  · have : 4294967296 * V ≤ q * V := Nat.mul_le_mul_right _ h
    rw [Nat.mul_comm V] at hUV
    omega
  · have h1 : top * 4294967296 + u2 + 1 ≤ q * (v1 * 4294967296 + v2) := by
      rw [Nat.mul_add, ← Nat.mul_assoc, ← ht, Nat.add_mul]; omega
    have h2 := Nat.mul_le_mul_right p h1
    have h3 : q * (v1 * 4294967296 + v2) * p ≤ q * V := by rw [Nat.mul_assoc]; exact Nat.mul_le_mul_left _ hV
    omega
/-- The guess is one too great at most. -/
theorem kn_end {q r v1 v2 u2 top U V p : Nat} (ht : q * v1 + r = top) (hv1 : 1 ≤ v1) (hV : (v1 * 4294967296 + v2) * p ≤ V) (hV2 : V < (v1 * 4294967296 + v2 + 1) * p) (hU : (top * 4294967296 + u2) * p ≤ U)
    (hq : q < 4294967296) (hv2 : v2 < 4294967296) (h : q * v2 ≤ r * 4294967296 + u2 ∨ 4294967296 ≤ r) : q * V ≤ U + V := by
  have h0 : q * v2 ≤ r * 4294967296 + u2 := by
    rcases h with h | h
    · exact h
    · have := Nat.mul_le_mul (Nat.le_of_lt hq) (Nat.le_of_lt hv2)
      omega
  have h1 : q * (v1 * 4294967296 + v2 + 1) ≤ top * 4294967296 + u2 + q := by
    rw [Nat.mul_add, Nat.mul_add, ← Nat.mul_assoc, ← ht, Nat.add_mul]; omega
  have h2 := Nat.mul_le_mul_right p h1
  have h3 : q * V ≤ q * (v1 * 4294967296 + v2 + 1) * p := by rw [Nat.mul_assoc]; exact Nat.mul_le_mul_left _ (Nat.le_of_lt hV2)
  have h4 : q * p ≤ V := by
    refine Nat.le_trans ?_ hV
    refine Nat.mul_le_mul_right _ ?_
    have : 1 * 4294967296 ≤ v1 * 4294967296 := Nat.mul_le_mul_right _ hv1
    omega
  rw [Nat.add_mul] at h2
  omega
theorem kn_fin0 {q U V u' : Nat} (h1 : u' + q * V = U) (h2 : U < (q + 1) * V) : q = U / V ∧ u' = U % V := by
  have hV : 0 < V := by
    rcases Nat.eq_zero_or_pos V with h | h
    · subst h; simp at h2
    · exact h
  rw [Nat.add_mul, Nat.one_mul] at h2
  have h3 : u' < V := by omega
  constructor
  · symm; rw [← h1, Nat.add_mul_div_right _ _ hV, Nat.div_eq_of_lt h3, Nat.zero_add]
  · rw [← h1, Nat.add_mul_mod_self_right, Nat.mod_eq_of_lt h3]
theorem kn_fin0' {q U V u' b w : Nat} (h1 : u' + q * V = U + b * w) (hb : b = 0) (h2 : U < (q + 1) * V) : q = U / V ∧ u' = U % V := by
  rw [hb, Nat.zero_mul] at h1
  exact kn_fin0 h1 h2
theorem kn_one {A U b w : Nat} (h1 : A = U + b * w) (hb : b = 1) : A = U + w := by rw [h1, hb, Nat.one_mul]
theorem kn_fin1 {q U V u' : Nat} (h1 : U < q * V) (h2 : q * V ≤ U + V) (h3 : u' + q * V = U + V) : q - 1 = U / V ∧ u' = U % V ∧ 1 ≤ q := by
  have hq : 1 ≤ q := by
    rcases Nat.eq_zero_or_pos q with h | h
    · subst h; simp at h1
    · exact h
  obtain ⟨k, rfl⟩ : ∃ k, q = k + 1 := ⟨q - 1, by omega⟩
  rw [Nat.add_mul, Nat.one_mul] at h3 h1
  have := kn_fin0 (q := k) (U := U) (V := V) (u' := u') (by omega) (by rw [Nat.add_mul]; omega)
  exact ⟨by simpa using this.1, this.2, hq⟩
theorem kn_back {U V q P A t n : Nat} (hA : A + q * V = U + BB ^ n) (hP : P + t * BB ^ n = A + V) (hPl : P < BB ^ n) (h2 : q * V ≤ U + V) (hVl : V ≤ BB ^ n) (h1 : U < q * V) : P + q * V = U + V := by
  -- t is 1
  have h3 : P + t * BB ^ n + q * V = U + BB ^ n + V := by omega
  have ht : t = 1 := by
    rcases Nat.lt_or_ge t 1 with h | h
    · have : t = 0 := by omega
      subst this; omega
    · rcases Nat.lt_or_ge 1 t with h4 | h4
      · have : 2 * BB ^ n ≤ t * BB ^ n := Nat.mul_le_mul_right _ h4
        omega
      · omega
  subst ht
  omega
/-- The words of a number above its length are zeros. -/
theorem vp_val {o : List Nat} {m : Nat} (h : val o < BB ^ m) : vp o m = val o := by
  rcases Nat.lt_or_ge m o.length with hm | hm
  · have h1 := vp_wv o m (o.length - m)
    rw [show m + (o.length - m) = o.length by omega] at h1
    have h2 : wv o m (o.length - m) = 0 := by
      rcases Nat.eq_zero_or_pos (wv o m (o.length - m)) with h0 | h0
      · exact h0
      · have : BB ^ m * 1 ≤ BB ^ m * wv o m (o.length - m) := Nat.mul_le_mul_left _ h0
        rw [val] at h; omega
    rw [h2, Nat.mul_zero, Nat.add_zero] at h1
    exact h1.symm
  · exact vp_ge o m hm
theorem getD_of_lt {o : List Nat} {m i : Nat} (h : val o < BB ^ m) (hi : m ≤ i) : o.getD i 0 = 0 := by
  have h1 := vp_val h
  have h2 : vp o (i + 1) = val o := vp_val (Nat.lt_of_lt_of_le h (Nat.pow_le_pow_right (by decide) (by omega)))
  have h3 : vp o i = val o := vp_val (Nat.lt_of_lt_of_le h (Nat.pow_le_pow_right (by decide) hi))
  rw [vp, h3] at h2
  have h4 : o.getD i 0 * BB ^ i = 0 := by omega
  rcases Nat.mul_eq_zero.1 h4 with h5 | h5
  · exact h5
  · exact absurd h5 (Nat.ne_of_gt (Nat.pow_pos (by decide)))
theorem val_of_zero {o : List Nat} {m : Nat} (h : ∀ i, m ≤ i → o.getD i 0 = 0) : val o = vp o m := by
  rcases Nat.lt_or_ge m o.length with hm | hm
  · have h1 := vp_hi (a := o) (b := List.replicate m 0) (k := m) o.length (by omega) (fun t h2 h3 => by rw [h t h2, getD_replicate])
    rw [vp_replicate, vp_replicate] at h1
    rw [val]; omega
  · exact (vp_ge o m hm).symm
theorem val_set0 {o : List Nat} {j x : Nat} (hj : j < o.length) (h : o.getD j 0 = 0) : val (o.set j x) = val o + x * BB ^ j := by
  have h1 := vp_hi (a := o.set j x) (b := o) (k := j + 1) o.length (by omega) (fun t h2 h3 => by rw [lget_set_ne (by omega)])
  rw [vp, vp, vp_set o j x j (Nat.le_refl _), lget_set_self hj, h] at h1
  rw [val, val, List.length_set]; omega
/-- One word of the quotient. -/
theorem kn_outer {o p out : List Nat} {V X j n : Nat} (ho : InR o) (hVn : V < BB ^ n) (hj : j < out.length) (h1 : val o + val out * V = X) (h2 : val o < V * BB ^ (j + 1)) (h3 : out.getD j 0 = 0)
    (hp : wv p j (n + 1) = wv o j (n + 1) % V) (hs : ∀ t, t < j ∨ j + n + 1 ≤ t → p.getD t 0 = o.getD t 0) :
    val p + val (out.set j (wv o j (n + 1) / V)) * V = X ∧ val p < V * BB ^ j := by
  have hlt : val o < BB ^ (j + (n + 1)) := by
    refine Nat.lt_of_lt_of_le h2 ?_
    rw [show j + (n + 1) = n + (j + 1) by omega, Nat.pow_add BB n (j + 1)]
    exact Nat.mul_le_mul_right _ (Nat.le_of_lt hVn)
  have e1 : val o = vp o j + BB ^ j * wv o j (n + 1) := by rw [← vp_wv, vp_val hlt]
  have e2 : val p = vp o j + BB ^ j * (wv o j (n + 1) % V) := by
    rw [val_of_zero (m := j + (n + 1)) (fun i hi => by rw [hs i (.inr (by omega)), getD_of_lt hlt hi]), vp_wv, hp]
    congr 1
    exact vp_congr j fun i hi => hs i (.inl hi)
  have hV : 0 < V := by
    rcases Nat.eq_zero_or_pos V with h | h
    · subst h; simp at h2
    · exact h
  generalize wv o j (n + 1) = U at *
  have h4 := Nat.div_add_mod U V
  constructor
  · rw [val_set0 hj h3, Nat.add_mul, ← h1, e1, e2]
    have : BB ^ j * U = BB ^ j * (U % V) + U / V * BB ^ j * V := by
      conv => lhs; rw [← h4]
      rw [Nat.mul_add, Nat.add_comm, Nat.mul_comm (U / V), Nat.mul_assoc, Nat.mul_comm V]
    omega
  · rw [e2]
    have h5 := vp_lt ho j
    have h6 : BB ^ j * (U % V + 1) ≤ BB ^ j * V := Nat.mul_le_mul_left _ (Nat.mod_lt _ hV)
    rw [Nat.mul_add, Nat.mul_one] at h6
    rw [Nat.mul_comm V]
    omega
theorem kn_window {o : List Nat} {V j n : Nat} (hVn : V < BB ^ n) (h2 : val o < V * BB ^ (j + 1)) : wv o j (n + 1) < V * 4294967296 := by
  have hlt : val o < BB ^ (j + (n + 1)) := by
    refine Nat.lt_of_lt_of_le h2 ?_
    rw [show j + (n + 1) = n + (j + 1) by omega, Nat.pow_add BB n (j + 1)]
    exact Nat.mul_le_mul_right _ (Nat.le_of_lt hVn)
  have e1 : val o = vp o j + BB ^ j * wv o j (n + 1) := by rw [← vp_wv, vp_val hlt]
  rw [Nat.pow_succ, ← Nat.mul_assoc, Nat.mul_comm V, Nat.mul_assoc] at h2
  have h3 : BB ^ j * wv o j (n + 1) < BB ^ j * (V * BB) := by omega
  exact Nat.lt_of_mul_lt_mul_left h3
/-- What a row's three highest words and the row are worth. -/
theorem wv_top {o : List Nat} (h : InR o) {j n : Nat} : (o.getD (j + n + 2) 0 * 4294967296 * 4294967296 + o.getD (j + n + 1) 0 * 4294967296 + o.getD (j + n) 0) * BB ^ n ≤ wv o j (n + 3) ∧ wv o j (n + 3) < (o.getD (j + n + 2) 0 * 4294967296 * 4294967296 + o.getD (j + n + 1) 0 * 4294967296 + o.getD (j + n) 0 + 1) * BB ^ n := by
  have h1 := wv_lt h j n
  have e : wv o j (n + 3) = wv o j n + (o.getD (j + n + 2) 0 * 4294967296 * 4294967296 + o.getD (j + n + 1) 0 * 4294967296 + o.getD (j + n) 0) * BB ^ n := by
    rw [wv, wv, wv, Nat.pow_succ, Nat.pow_succ, Nat.pow_succ]
    have e : BB = 4294967296 := rfl
    simp only [← Nat.add_assoc, e]
    generalize (4294967296 : Nat) ^ n = P
    generalize o.getD (j + n + 2) 0 = a
    generalize o.getD (j + n + 1) 0 = b
    generalize o.getD (j + n) 0 = c
    grind
  rw [e, Nat.add_mul _ 1]
  omega
theorem vp_top {o : List Nat} (h : InR o) {n : Nat} : (o.getD (n + 1) 0 * 4294967296 + o.getD n 0) * BB ^ n ≤ vp o (n + 2) ∧ vp o (n + 2) < (o.getD (n + 1) 0 * 4294967296 + o.getD n 0 + 1) * BB ^ n := by
  have h1 := vp_lt h n
  have e : vp o (n + 2) = vp o n + (o.getD (n + 1) 0 * 4294967296 + o.getD n 0) * BB ^ n := by
    rw [vp, vp, Nat.pow_succ]
    have e : BB = 4294967296 := rfl
    simp only [e]
    generalize (4294967296 : Nat) ^ n = P
    generalize o.getD (n + 1) 0 = a
    generalize o.getD n 0 = c
    grind
  rw [e, Nat.add_mul _ 1]
  omega
theorem wv_cons (o : List Nat) (j : Nat) : ∀ n, wv o j (n + 1) = o.getD j 0 + BB * wv o (j + 1) n
  | 0 => by simp [wv]
  | n + 1 => by
    rw [wv, wv_cons o j n, wv, Nat.mul_add, show j + (n + 1) = j + 1 + n by omega, Nat.pow_succ, Nat.add_assoc]
    congr 2
    rw [Nat.mul_comm (BB ^ n), ← Nat.mul_assoc, ← Nat.mul_assoc, Nat.mul_comm BB]
theorem wv_zero (o : List Nat) : ∀ n, wv o 0 n = vp o n
  | 0 => rfl
  | n + 1 => by rw [wv, vp, wv_zero o n, Nat.zero_add]
theorem vp_succ0 {o : List Nat} {n : Nat} (h : o.getD n 0 = 0) : vp o (n + 1) = vp o n := by rw [vp, h]; omega
/-- One word of a quotient by a word. -/
theorem short_step {o a : List Nat} {i n b r T : Nat} (hi : i < o.length) (hr : r < b) (hT : T = a.getD i 0 + r * 4294967296) (hv : wv o (i + 1) n * b + r = wv a (i + 1) n) :
    wv (o.set i (T / b)) i (n + 1) * b + T % b = wv a i (n + 1) := by
  have e : wv (o.set i (T / b)) (i + 1) n = wv o (i + 1) n := wv_congr n fun t h1 h2 => by rw [lget_set_ne (by omega)]
  rw [wv_cons, wv_cons, lget_set_self hi, e, ← hv, Nat.add_mul, Nat.mul_add]
  have h1 := Nat.div_add_mod T b
  rw [Nat.mul_comm b] at h1
  have e2 : BB * r = r * 4294967296 := Nat.mul_comm _ _
  rw [e2, ← Nat.mul_assoc]
  omega
end Vm

/- Walks: one word of a quotient. (Own work of this repo.) -/
namespace Go.Proofs.Ytmgmcnoobgljpaa
open Vm
set_option maxRecDepth 100000

theorem high_or {x y : Nat} (hx : x < 4294967296) (hy : y < 4294967296) : IntKind.u64.wrap ((BitVec.ofInt (kb .u64) ((y * 4294967296 : Nat) : Int) ||| BitVec.ofInt (kb .u64) (x : Int)).toNat : Int) = ((x + y * 4294967296 : Nat) : Int) := by
  rw [BitVec.or_comm]; exact or_high hx hy
theorem kn_init {v1 v2 u2 top U V p : Nat} (hv1 : 1 ≤ v1) (hu2 : u2 < 4294967296) (hV : (v1 * 4294967296 + v2) * p ≤ V) (hU : U < (top * 4294967296 + u2 + 1) * p) : U < (top / v1 + 1) * V := by
  have h1 : top + 1 ≤ (top / v1 + 1) * v1 := by
    have := Nat.lt_div_mul_add (a := top) (b := v1) (by omega)
    rw [Nat.add_mul]; omega
  have h2 : (top * 4294967296 + u2 + 1) * p ≤ (top / v1 + 1) * V := by
    refine Nat.le_trans (Nat.mul_le_mul_right p (show _ ≤ (top / v1 + 1) * (v1 * 4294967296) by rw [← Nat.mul_assoc]; omega)) ?_
    rw [Nat.mul_assoc]
    refine Nat.mul_le_mul_left _ (Nat.le_trans (Nat.mul_le_mul_right p ?_) hV)
    omega
  omega
theorem kn_htop {v1 v2 u2 top U V p : Nat} (hv2 : v2 < 4294967296) (hV2 : V < (v1 * 4294967296 + v2 + 1) * p) (hU : (top * 4294967296 + u2) * p ≤ U) (hUV : U < V * 4294967296) : top < (v1 + 1) * 4294967296 := by
  rcases Nat.lt_or_ge top ((v1 + 1) * 4294967296) with h | h
  · exact h
  · have h1 : (v1 * 4294967296 + v2 + 1) * 4294967296 ≤ top * 4294967296 + u2 := by
      have h3 : (v1 * 4294967296 + v2 + 1) * 4294967296 ≤ top * 4294967296 := Nat.mul_le_mul_right 4294967296 (by omega)
      exact Nat.le_trans h3 (Nat.le_add_right _ _)
    have h2 := Nat.mul_le_mul_right p h1
    have h3 : (v1 * 4294967296 + v2 + 1) * 4294967296 * p = (v1 * 4294967296 + v2 + 1) * p * 4294967296 := by rw [Nat.mul_assoc, Nat.mul_comm 4294967296, ← Nat.mul_assoc]
    omega
set_option maxHeartbeats 4000000 in
theorem digit_open (id off : Nat) (o v : List Nat) (mv : Bool) (h : Heap) (nx m : Nat) (hH : h id = some ⟨o.map wd, false, 1, false⟩) (ro : InR o) (rv : InR v) (hm : v.length = m + 2) (hv1 : 1 ≤ v.getD (m + 1) 0)
    (hl : off + m + 3 ≤ o.length) (lo : o.length < 2 ^ 40) (hU : wv o off (m + 3) < val v * 4294967296) :
    ∃ (p : List Nat) (h' : Heap), denO E 101 [.ref id off (m + 3), .lst mv (v.map wd)] h nx = some (.ret (.int .u32 (wv o off (m + 3) / val v : Nat)), h', nx) ∧
      h' id = some ⟨p.map wd, false, 1, false⟩ ∧ (∀ j, j ≠ id → h' j = h j) ∧ InR p ∧ p.length = o.length ∧ wv p off (m + 3) = wv o off (m + 3) % val v ∧ ∀ t, t < off ∨ off + m + 3 ≤ t → p.getD t 0 = o.getD t 0 := by
  have key : ∃ x h' n, denO E 101 [.ref id off (m + 3), .lst mv (v.map wd)] h nx = some (.ret x, h', n) ∧ ∃ p : List Nat, x = .int .u32 (wv o off (m + 3) / val v : Nat) ∧ n = nx ∧
      h' id = some ⟨p.map wd, false, 1, false⟩ ∧ (∀ j, j ≠ id → h' j = h j) ∧ InR p ∧ p.length = o.length ∧ wv p off (m + 3) = wv o off (m + 3) % val v ∧ ∀ t, t < off ∨ off + m + 3 ≤ t → p.getD t 0 = o.getD t 0 := by
    refine denO_intro E101 rfl ?_
    have hV0 : val v = vp v (m + 2) := by rw [val, hm]
    have hVt := vp_top rv (n := m)
    have hUt := wv_top ro (j := off) (n := m)
    have hVn : val v < BB ^ (m + 2) := by rw [hV0]; exact vp_lt rv _
    have bu2 := ro.get (off + m + 2)
    have bu1 := ro.get (off + m + 1)
    have bu0 := ro.get (off + m)
    have bv1 := rv.get (m + 1)
    have bv0 := rv.get m
    obtain ⟨T, hT⟩ : ∃ T, T = o.getD (off + m + 1) 0 + o.getD (off + m + 2) 0 * 4294967296 := ⟨_, rfl⟩
    have hT2 : o.getD (off + m + 2) 0 * 4294967296 * 4294967296 + o.getD (off + m + 1) 0 * 4294967296 + o.getD (off + m) 0 = T * 4294967296 + o.getD (off + m) 0 := by rw [hT, Nat.add_mul]; omega
    rw [hT2] at hUt
    rw [← hV0] at hVt
    have e1 := shl32 bu2
    have e2 := high_or bu1 bu2
    rw [← hT] at e2
    have hTb : T < 18446744073709551616 := by omega
    clear hT2
    obtain ⟨Y, hY⟩ : ∃ Y, Y = o.getD (off + m + 2) 0 * 4294967296 := ⟨_, rfl⟩
    rw [← hY] at e1 e2
    clear hY hT
    generalize hVV : val v = V at *
    generalize hUU : wv o off (m + 3) = U at *
    have hin := kn_init (top := T) hv1 bu0 hVt.1 hUt.2
    have htop := kn_htop bv0 hVt.2 hUt.1 hU
    obtain ⟨Pm, hPm⟩ : ∃ Pm, Pm = BB ^ m := ⟨_, rfl⟩
    rw [← hPm] at hVt hUt
    obtain ⟨v1, hv1e⟩ : ∃ v1, v1 = v.getD (m + 1) 0 := ⟨_, rfl⟩
    rw [← hv1e] at hVt hv1 bv1 hin htop
    obtain ⟨v2, hv2e⟩ : ∃ v2, v2 = v.getD m 0 := ⟨_, rfl⟩
    rw [← hv2e] at hVt bv0
    obtain ⟨u2, hu2e⟩ : ∃ u2, u2 = o.getD (off + m) 0 := ⟨_, rfl⟩
    rw [← hu2e] at hUt bu0
    have f1 : v.getD (m + 1) 0 = v1 := hv1e.symm
    have f2 : v.getD m 0 = v2 := hv2e.symm
    have f3 : o.getD (off + m) 0 = u2 := hu2e.symm
    have a1 : ((m + 2 : Nat) : Int) - 1 = ((m + 1 : Nat) : Int) := by omega
    have a2 : ((m + 2 : Nat) : Int) - 2 = ((m : Nat) : Int) := by omega
    have a3 : off + (m + 2) = off + m + 2 := by omega
    have a4 : off + (m + 1) = off + m + 1 := by omega
    have d1 : (T : Int).tdiv (v1 : Int) = ((T / v1 : Nat) : Int) := rfl
    have d2 : (T : Int).tmod (v1 : Int) = ((T % v1 : Nat) : Int) := rfl
    have d3 : T % v1 < v1 := Nat.mod_lt _ hv1
    have d4 : T / v1 < 18446744073709551616 := Nat.lt_of_le_of_lt (Nat.div_le_self _ _) hTb
    have d5 : T / v1 * v1 + T % v1 = T := by rw [Nat.mul_comm]; exact Nat.div_add_mod T v1
    replace hin := Hd.mk hin
    replace d5 := Hd.mk d5
    replace hVt := Hd.mk hVt
    replace hUt := Hd.mk hUt
    replace hU := Hd.mk hU
    replace hVn := Hd.mk hVn
    generalize T / v1 = q0 at *
    generalize T % v1 = r0 at *
    clear hv1e hv2e hu2e hPm
    simp (maxSteps := 4000000) (disch := omega) only [go_sem, ↓reduceIte, Nat.reduceAdd, Nat.reduceSub, Nat.reduceMul, Nat.reduceEqDiff, reduceCtorEq, Int.reduceAdd, Int.reduceLT, Int.reduceLE, Int.reduceToNat, Int.reduceNeg, Int.reduceSub, ← List.map_take, ← List.map_drop, wrap64, wrapu64, wrapu32, ← Int.natCast_add, ← Int.natCast_mul, cast_succ, wrapu32_nat, shr32, reps_wd, map_set_wd, List.length_set, zs_len, Try.f101, hm, a1, a2]
    refine W_drawn ?_
    simp (maxSteps := 4000000) (disch := omega) only [go_sem, ↓reduceIte, Nat.reduceAdd, Nat.reduceSub, Nat.reduceMul, Nat.reduceEqDiff, reduceCtorEq, Int.reduceAdd, Int.reduceLT, Int.reduceLE, Int.reduceToNat, Int.reduceNeg, Int.reduceSub, ← List.map_take, ← List.map_drop, wrap64, wrapu64, wrapu32, ← Int.natCast_add, ← Int.natCast_mul, cast_succ, wrapu32_nat, shr32, reps_wd, map_set_wd, List.length_set, zs_len, hH, hm, a1, a2, a3, a4, e1, e2]
    refine ⟨by rfl, ?_⟩
    refine W_drawn ?_
    simp (maxSteps := 4000000) (disch := omega) only [go_sem, ↓reduceIte, Nat.reduceAdd, Nat.reduceSub, Nat.reduceMul, Nat.reduceEqDiff, reduceCtorEq, Int.reduceAdd, Int.reduceLT, Int.reduceLE, Int.reduceToNat, Int.reduceNeg, Int.reduceSub, ← List.map_take, ← List.map_drop, wrap64, wrapu64, wrapu32, ← Int.natCast_add, ← Int.natCast_mul, cast_succ, wrapu32_nat, shr32, reps_wd, map_set_wd, List.length_set, zs_len, hm, a1, a2, f1, d1, d2]
    refine ⟨by rfl, ?_⟩
    refine W_mono (Q := fun e σ => e = .exit 0 ∧ ∃ (q : Nat), (∃ g : Nat → AV, σ.sl = [.ref id off (m + 3), .lst mv (v.map wd), g 2, g 3, g 4, .int .i64 (m + 2 : Nat), g 6, .int .u64 q, g 8, g 9, g 10, g 11, g 12, g 13, g 14, g 15, g 16, g 17, g 18, g 19, g 20, g 21, g 22, g 23, g 24, g 25, g 26, g 27, g 28, g 29, g 30, g 31, g 32, g 33, g 34, g 35, g 36, g 37, g 38, g 39, g 40, g 41, g 42, g 43, g 44, g 45, g 46, g 47, g 48, g 49, g 50, g 51, g 52, g 53, g 54, g 55, g 56, g 57, g 58, g 59, g 60, g 61, g 62, g 63, g 64, g 65, g 66, g 67, g 68, g 69, g 70, g 71, g 72, g 73, g 74, g 75, g 76, g 77, g 78, g 79, g 80, g 81, g 82, g 83, g 84, g 85, g 86, g 87, g 88, g 89, g 90, g 91, g 92, g 93, g 94, g 95, g 96, g 97, g 98, g 99, g 100, g 101, g 102, g 103, g 104, g 105, g 106, g 107, g 108, g 109, g 110, g 111, g 112, g 113, g 114, g 115, g 116, g 117, g 118, g 119, g 120, g 121, g 122, g 123, g 124, g 125, g 126, g 127, g 128, g 129, g 130, g 131, g 132, g 133, g 134, g 135, g 136, g 137, g 138, g 139, g 140, g 141, g 142, g 143, g 144, g 145, g 146, g 147, g 148, g 149, g 150, g 151, g 152, g 153, g 154, g 155, g 156, g 157, g 158, g 159, g 160, g 161, g 162, g 163, g 164, g 165, g 166, g 167, g 168, g 169]) ∧ σ.h = h ∧ σ.nx = nx ∧ q < 4294967296 ∧ Hd (q * V ≤ U + V) ∧ Hd (U < (q + 1) * V)) ?_ ?_
    · refine W_loopS (fun k sl H n => ∃ (r : Nat), (∃ g : Nat → AV, sl = [.ref id off (m + 3), .lst mv (v.map wd), g 2, g 3, g 4, .int .i64 (m + 2 : Nat), g 6, .int .u64 k, .int .u64 r, g 9, g 10, g 11, g 12, g 13, g 14, g 15, g 16, g 17, g 18, g 19, g 20, g 21, g 22, g 23, g 24, g 25, g 26, g 27, g 28, g 29, g 30, g 31, g 32, g 33, g 34, g 35, g 36, g 37, g 38, g 39, g 40, g 41, g 42, g 43, g 44, g 45, g 46, g 47, g 48, g 49, g 50, g 51, g 52, g 53, g 54, g 55, g 56, g 57, g 58, g 59, g 60, g 61, g 62, g 63, g 64, g 65, g 66, g 67, g 68, g 69, g 70, g 71, g 72, g 73, g 74, g 75, g 76, g 77, g 78, g 79, g 80, g 81, g 82, g 83, g 84, g 85, g 86, g 87, g 88, g 89, g 90, g 91, g 92, g 93, g 94, g 95, g 96, g 97, g 98, g 99, g 100, g 101, g 102, g 103, g 104, g 105, g 106, g 107, g 108, g 109, g 110, g 111, g 112, g 113, g 114, g 115, g 116, g 117, g 118, g 119, g 120, g 121, g 122, g 123, g 124, g 125, g 126, g 127, g 128, g 129, g 130, g 131, g 132, g 133, g 134, g 135, g 136, g 137, g 138, g 139, g 140, g 141, g 142, g 143, g 144, g 145, g 146, g 147, g 148, g 149, g 150, g 151, g 152, g 153, g 154, g 155, g 156, g 157, g 158, g 159, g 160, g 161, g 162, g 163, g 164, g 165, g 166, g 167, g 168, g 169]) ∧ H = h ∧ n = nx ∧
        k < 18446744073709551616 ∧ r < 4294967296 ∧ Hd (k * v1 + r = T) ∧ Hd (U < (k + 1) * V)) q0 ⟨r0, garb rfl, rfl, rfl, d4, by omega, d5, hin⟩ ?_
      clear d1 d2 d3 d4 d5 hin e1 e2
      rintro q _ _ _ ⟨r, ⟨g, rfl⟩, rfl, rfl, hq, hr, ht, hb⟩
      have g1 := shl32 hr
      have g2 := high_or bu0 hr
      obtain ⟨R, hR⟩ : ∃ R, R = r * 4294967296 := ⟨_, rfl⟩
      rw [← hR] at g1 g2
      have hR1 : R ≤ 18446744069414584320 := by omega
      by_cases hq2 : 4294967296 ≤ q
      · have hlt := kn_dec ht.out hVt.out.1 hUt.out.2 hU.out (.inl hq2)
        have g4 : (q : Int) - 1 = ((q - 1 : Nat) : Int) := by omega
        have ht2 : (q - 1) * v1 + (r + v1) = T := by
          have e := ht.out
          obtain ⟨k, rfl⟩ : ∃ k, q = k + 1 := ⟨q - 1, by omega⟩
          rw [Nat.add_mul] at e; simp only [Nat.add_sub_cancel]; omega
        have hb2 : U < (q - 1 + 1) * V := by rw [show q - 1 + 1 = q by omega]; exact hlt
        have hq3 : q / 4294967296 ≠ 0 := by omega
        clear hR g1 g2
        by_cases hr2 : 4294967296 ≤ r + v1
        · have hq1 : q - 1 < 4294967296 := by
            have h1 : (q - 1) * v1 < 4294967296 * v1 := by rw [Nat.add_mul] at htop; rw [Nat.mul_comm 4294967296]; omega
            exact Nat.lt_of_mul_lt_mul_right h1
          have hend := kn_end ht2 hv1 hVt.out.1 hVt.out.2 hUt.out.1 hq1 bv0 (.inr hr2)
          have hr3 : (r + v1) / 4294967296 ≠ 0 := by omega
          replace hb2 := Hd.mk hb2
          replace hend := Hd.mk hend
          clear ht ht2 hlt hq2 htop
          simp (maxSteps := 4000000) (disch := omega) only [go_sem, ↓reduceIte, Nat.reduceAdd, Nat.reduceSub, Nat.reduceMul, Nat.reduceEqDiff, reduceCtorEq, Int.reduceAdd, Int.reduceLT, Int.reduceLE, Int.reduceToNat, Int.reduceNeg, Int.reduceSub, ← List.map_take, ← List.map_drop, wrap64, wrapu64, wrapu32, ← Int.natCast_add, ← Int.natCast_mul, cast_succ, wrapu32_nat, shr32, reps_wd, map_set_wd, List.length_set, zs_len]
          refine W_drawn ?_
          simp (maxSteps := 4000000) (disch := omega) only [go_sem, ↓reduceIte, Nat.reduceAdd, Nat.reduceSub, Nat.reduceMul, Nat.reduceEqDiff, reduceCtorEq, Int.reduceAdd, Int.reduceLT, Int.reduceLE, Int.reduceToNat, Int.reduceNeg, Int.reduceSub, ← List.map_take, ← List.map_drop, wrap64, wrapu64, wrapu32, ← Int.natCast_add, ← Int.natCast_mul, cast_succ, wrapu32_nat, shr32, reps_wd, map_set_wd, List.length_set, zs_len, hm, a1, a2, shr32]
          refine ⟨by rfl, ?_⟩
          simp (maxSteps := 4000000) (disch := omega) only [go_sem, ↓reduceIte, Nat.reduceAdd, Nat.reduceSub, Nat.reduceMul, Nat.reduceEqDiff, reduceCtorEq, Int.reduceAdd, Int.reduceLT, Int.reduceLE, Int.reduceToNat, Int.reduceNeg, Int.reduceSub, ← List.map_take, ← List.map_drop, wrap64, wrapu64, wrapu32, ← Int.natCast_add, ← Int.natCast_mul, cast_succ, wrapu32_nat, shr32, reps_wd, map_set_wd, List.length_set, zs_len, hm, a1, a2, f1, g4, shr32]
          exact ⟨q - 1, garb rfl, hq1, hend, hb2⟩
        · have hr3 : (r + v1) / 4294967296 = 0 := by omega
          replace hb2 := Hd.mk hb2
          replace ht2 := Hd.mk ht2
          clear ht hlt hq2 htop
          simp (maxSteps := 4000000) (disch := omega) only [go_sem, ↓reduceIte, Nat.reduceAdd, Nat.reduceSub, Nat.reduceMul, Nat.reduceEqDiff, reduceCtorEq, Int.reduceAdd, Int.reduceLT, Int.reduceLE, Int.reduceToNat, Int.reduceNeg, Int.reduceSub, ← List.map_take, ← List.map_drop, wrap64, wrapu64, wrapu32, ← Int.natCast_add, ← Int.natCast_mul, cast_succ, wrapu32_nat, shr32, reps_wd, map_set_wd, List.length_set, zs_len]
          refine W_drawn ?_
          simp (maxSteps := 4000000) (disch := omega) only [go_sem, ↓reduceIte, Nat.reduceAdd, Nat.reduceSub, Nat.reduceMul, Nat.reduceEqDiff, reduceCtorEq, Int.reduceAdd, Int.reduceLT, Int.reduceLE, Int.reduceToNat, Int.reduceNeg, Int.reduceSub, ← List.map_take, ← List.map_drop, wrap64, wrapu64, wrapu32, ← Int.natCast_add, ← Int.natCast_mul, cast_succ, wrapu32_nat, shr32, reps_wd, map_set_wd, List.length_set, zs_len, hm, a1, a2, shr32]
          refine ⟨by rfl, ?_⟩
          simp (maxSteps := 4000000) (disch := omega) only [go_sem, ↓reduceIte, Nat.reduceAdd, Nat.reduceSub, Nat.reduceMul, Nat.reduceEqDiff, reduceCtorEq, Int.reduceAdd, Int.reduceLT, Int.reduceLE, Int.reduceToNat, Int.reduceNeg, Int.reduceSub, ← List.map_take, ← List.map_drop, wrap64, wrapu64, wrapu32, ← Int.natCast_add, ← Int.natCast_mul, cast_succ, wrapu32_nat, shr32, reps_wd, map_set_wd, List.length_set, zs_len, hm, a1, a2, f1, g4, shr32]
          exact ⟨q - 1, by omega, r + v1, garb rfl, by omega, by omega, ht2, hb2⟩
      · have hq3 : q / 4294967296 = 0 := by omega
        obtain ⟨X, hX⟩ : ∃ X, X = q * v2 := ⟨_, rfl⟩
        have hX2 : q * v2 = X := hX.symm
        have hXb := mul_word (show q < 4294967296 by omega) bv0
        rw [hX2] at hXb
        by_cases hc : R + u2 < X
        · have hlt := kn_dec ht.out hVt.out.1 hUt.out.2 hU.out (.inr (by rw [← hR, ← hX]; exact hc))
          have hq0 : q ≠ 0 := fun e => by rw [e, Nat.zero_mul] at hlt; omega
          have g4 : (q : Int) - 1 = ((q - 1 : Nat) : Int) := by omega
          have ht2 : (q - 1) * v1 + (r + v1) = T := by
            have e := ht.out
            obtain ⟨k, rfl⟩ : ∃ k, q = k + 1 := ⟨q - 1, by omega⟩
            rw [Nat.add_mul] at e; simp only [Nat.add_sub_cancel]; omega
          have hb2 : U < (q - 1 + 1) * V := by rw [show q - 1 + 1 = q by omega]; exact hlt
          clear hR hX
          by_cases hr2 : 4294967296 ≤ r + v1
          · have hend := kn_end ht2 hv1 hVt.out.1 hVt.out.2 hUt.out.1 (by omega) bv0 (.inr hr2)
            have hr3 : (r + v1) / 4294967296 ≠ 0 := by omega
            replace hb2 := Hd.mk hb2
            replace hend := Hd.mk hend
            have hc' : u2 + R < X := by omega
            clear ht ht2 hlt htop
            simp (maxSteps := 4000000) (disch := omega) only [go_sem, ↓reduceIte, Nat.reduceAdd, Nat.reduceSub, Nat.reduceMul, Nat.reduceEqDiff, reduceCtorEq, Int.reduceAdd, Int.reduceLT, Int.reduceLE, Int.reduceToNat, Int.reduceNeg, Int.reduceSub, ← List.map_take, ← List.map_drop, wrap64, wrapu64, wrapu32, ← Int.natCast_add, ← Int.natCast_mul, cast_succ, wrapu32_nat, shr32, reps_wd, map_set_wd, List.length_set, zs_len]
            refine W_drawn ?_
            simp (maxSteps := 4000000) (disch := omega) only [go_sem, ↓reduceIte, Nat.reduceAdd, Nat.reduceSub, Nat.reduceMul, Nat.reduceEqDiff, reduceCtorEq, Int.reduceAdd, Int.reduceLT, Int.reduceLE, Int.reduceToNat, Int.reduceNeg, Int.reduceSub, ← List.map_take, ← List.map_drop, wrap64, wrapu64, wrapu32, ← Int.natCast_add, ← Int.natCast_mul, cast_succ, wrapu32_nat, shr32, reps_wd, map_set_wd, List.length_set, zs_len, hH, hm, a1, a2, f2, f3, g1, g2, hX2, shr32]
            refine ⟨by rfl, ?_⟩
            simp (maxSteps := 4000000) (disch := omega) only [go_sem, ↓reduceIte, Nat.reduceAdd, Nat.reduceSub, Nat.reduceMul, Nat.reduceEqDiff, reduceCtorEq, Int.reduceAdd, Int.reduceLT, Int.reduceLE, Int.reduceToNat, Int.reduceNeg, Int.reduceSub, ← List.map_take, ← List.map_drop, wrap64, wrapu64, wrapu32, ← Int.natCast_add, ← Int.natCast_mul, cast_succ, wrapu32_nat, shr32, reps_wd, map_set_wd, List.length_set, zs_len, hm, a1, a2, f1, g4, shr32]
            exact ⟨q - 1, garb rfl, by omega, hend, hb2⟩
          · have hr3 : (r + v1) / 4294967296 = 0 := by omega
            replace hb2 := Hd.mk hb2
            replace ht2 := Hd.mk ht2
            have hc' : u2 + R < X := by omega
            clear ht hlt htop
            simp (maxSteps := 4000000) (disch := omega) only [go_sem, ↓reduceIte, Nat.reduceAdd, Nat.reduceSub, Nat.reduceMul, Nat.reduceEqDiff, reduceCtorEq, Int.reduceAdd, Int.reduceLT, Int.reduceLE, Int.reduceToNat, Int.reduceNeg, Int.reduceSub, ← List.map_take, ← List.map_drop, wrap64, wrapu64, wrapu32, ← Int.natCast_add, ← Int.natCast_mul, cast_succ, wrapu32_nat, shr32, reps_wd, map_set_wd, List.length_set, zs_len]
            refine W_drawn ?_
            simp (maxSteps := 4000000) (disch := omega) only [go_sem, ↓reduceIte, Nat.reduceAdd, Nat.reduceSub, Nat.reduceMul, Nat.reduceEqDiff, reduceCtorEq, Int.reduceAdd, Int.reduceLT, Int.reduceLE, Int.reduceToNat, Int.reduceNeg, Int.reduceSub, ← List.map_take, ← List.map_drop, wrap64, wrapu64, wrapu32, ← Int.natCast_add, ← Int.natCast_mul, cast_succ, wrapu32_nat, shr32, reps_wd, map_set_wd, List.length_set, zs_len, hH, hm, a1, a2, f2, f3, g1, g2, hX2, shr32]
            refine ⟨by rfl, ?_⟩
            simp (maxSteps := 4000000) (disch := omega) only [go_sem, ↓reduceIte, Nat.reduceAdd, Nat.reduceSub, Nat.reduceMul, Nat.reduceEqDiff, reduceCtorEq, Int.reduceAdd, Int.reduceLT, Int.reduceLE, Int.reduceToNat, Int.reduceNeg, Int.reduceSub, ← List.map_take, ← List.map_drop, wrap64, wrapu64, wrapu32, ← Int.natCast_add, ← Int.natCast_mul, cast_succ, wrapu32_nat, shr32, reps_wd, map_set_wd, List.length_set, zs_len, hm, a1, a2, f1, g4, shr32]
            exact ⟨q - 1, by omega, r + v1, garb rfl, by omega, by omega, ht2, hb2⟩
        · have hend := kn_end ht.out hv1 hVt.out.1 hVt.out.2 hUt.out.1 (by omega) bv0 (.inl (by rw [← hR, ← hX]; omega))
          replace hend := Hd.mk hend
          have hc' : ¬ u2 + R < X := by omega
          clear ht htop hR hX
          simp (maxSteps := 4000000) (disch := omega) only [go_sem, ↓reduceIte, Nat.reduceAdd, Nat.reduceSub, Nat.reduceMul, Nat.reduceEqDiff, reduceCtorEq, Int.reduceAdd, Int.reduceLT, Int.reduceLE, Int.reduceToNat, Int.reduceNeg, Int.reduceSub, ← List.map_take, ← List.map_drop, wrap64, wrapu64, wrapu32, ← Int.natCast_add, ← Int.natCast_mul, cast_succ, wrapu32_nat, shr32, reps_wd, map_set_wd, List.length_set, zs_len]
          refine W_drawn ?_
          simp (maxSteps := 4000000) (disch := omega) only [go_sem, ↓reduceIte, Nat.reduceAdd, Nat.reduceSub, Nat.reduceMul, Nat.reduceEqDiff, reduceCtorEq, Int.reduceAdd, Int.reduceLT, Int.reduceLE, Int.reduceToNat, Int.reduceNeg, Int.reduceSub, ← List.map_take, ← List.map_drop, wrap64, wrapu64, wrapu32, ← Int.natCast_add, ← Int.natCast_mul, cast_succ, wrapu32_nat, shr32, reps_wd, map_set_wd, List.length_set, zs_len, hH, hm, a1, a2, f2, f3, g1, g2, hX2, shr32]
          refine ⟨by rfl, ?_⟩
          exact ⟨q, garb rfl, by omega, hend, hb⟩
    · clear d1 d2 d3 d4 d5 hin e1 e2 f1 f2 f3 a1 a2 htop hUt hVt bu2 bu1 bu0 bv1 bv0 hTb hv1
      rintro e ⟨sl, H, nx'⟩ ⟨rfl, q, ⟨g, hs⟩, hh, hnn, hq, hle, hgt⟩
      dsimp only at hs hh hnn
      subst hs; subst H; subst nx'
      simp (maxSteps := 4000000) (disch := omega) only [go_sem, ↓reduceIte, Nat.reduceAdd, Nat.reduceSub, Nat.reduceMul, Nat.reduceEqDiff, reduceCtorEq, Int.reduceAdd, Int.reduceLT, Int.reduceLE, Int.reduceToNat, Int.reduceNeg, Int.reduceSub, ← List.map_take, ← List.map_drop, wrap64, wrapu64, wrapu32, ← Int.natCast_add, ← Int.natCast_mul, cast_succ, wrapu32_nat, shr32, reps_wd, map_set_wd, List.length_set, zs_len, hm]
      refine W_loopS (fun k sl H n => ∃ (i c : Nat) (p : List Nat), (∃ g : Nat → AV, sl = [.ref id off (m + 3), .lst mv (v.map wd), g 2, g 3, g 4, .int .i64 (m + 2 : Nat), g 6, .int .u64 q, g 8, .int .u64 c, g 10, g 11, g 12, g 13, g 14, g 15, g 16, g 17, g 18, g 19, g 20, g 21, g 22, g 23, g 24, g 25, g 26, g 27, g 28, g 29, g 30, g 31, g 32, g 33, g 34, g 35, g 36, g 37, g 38, g 39, g 40, g 41, g 42, g 43, g 44, g 45, g 46, g 47, g 48, g 49, g 50, g 51, g 52, g 53, g 54, g 55, g 56, g 57, g 58, g 59, g 60, g 61, g 62, g 63, g 64, g 65, g 66, g 67, g 68, g 69, g 70, g 71, g 72, g 73, g 74, g 75, g 76, g 77, g 78, g 79, g 80, g 81, g 82, g 83, g 84, .lst mv (v.map wd), .int .i64 (m + 2 : Nat), .int .i64 i, g 88, g 89, g 90, g 91, g 92, g 93, g 94, g 95, g 96, g 97, g 98, g 99, g 100, g 101, g 102, g 103, g 104, g 105, g 106, g 107, g 108, g 109, g 110, g 111, g 112, g 113, g 114, g 115, g 116, g 117, g 118, g 119, g 120, g 121, g 122, g 123, g 124, g 125, g 126, g 127, g 128, g 129, g 130, g 131, g 132, g 133, g 134, g 135, g 136, g 137, g 138, g 139, g 140, g 141, g 142, g 143, g 144, g 145, g 146, g 147, g 148, g 149, g 150, g 151, g 152, g 153, g 154, g 155, g 156, g 157, g 158, g 159, g 160, g 161, g 162, g 163, g 164, g 165, g 166, g 167, g 168, g 169]) ∧ n = nx ∧
        H id = some ⟨p.map wd, false, 1, false⟩ ∧ Hd (∀ j, j ≠ id → H j = h j) ∧ p.length = o.length ∧ InR p ∧ i + k = m + 2 ∧ c ≤ 4294967296 ∧ Hd (wv p off i + q * vp v i = wv o off i + (c + 0) * BB ^ i) ∧ Hd (∀ t, t < off ∨ off + i ≤ t → p.getD t 0 = o.getD t 0)) (m + 2)
        ⟨0, 0, o, garb rfl, rfl, hH, ⟨fun _ _ => rfl⟩, rfl, ro, by omega, by omega, ⟨by simp [wv, vp]⟩, ⟨fun _ _ => rfl⟩⟩ ?_
      rintro k _ H nx ⟨i, c, p, ⟨g, rfl⟩, rfl, hHp, hF, hp, rp, hi, hc, hv, hz⟩
      by_cases hk : k = 0
      · obtain rfl : i = m + 2 := by omega
        have hz0 := hz.out (off + m + 2) (.inr (by omega))
        have bx := rp.get (off + m + 2)
        obtain ⟨X, hX⟩ : ∃ X : Nat, (c ≤ p.getD (off + m + 2) 0 ∧ X = p.getD (off + m + 2) 0 - c) ∨ (p.getD (off + m + 2) 0 < c ∧ X = 18446744073709551616 + p.getD (off + m + 2) 0 - c) := by
          by_cases h : c ≤ p.getD (off + m + 2) 0
          · exact ⟨_, .inl ⟨h, rfl⟩⟩
          · exact ⟨_, .inr ⟨by omega, rfl⟩⟩
        have hw : X % 4294967296 + c = p.getD (off + m + 2) 0 + X / 9223372036854775808 * 4294967296 := by omega
        have hb1 : X / 9223372036854775808 ≤ 1 := by omega
        have eX : IntKind.u64.wrap (((p.getD (off + m + 2) 0 : Nat) : Int) - (c : Int)) = (X : Int) := by rw [IntKind.wrap_u64]; omega
        have hlast := ms_last (o := o) (p := p) (j := off) (n := m + 2) (c := c) (w := X % 4294967296) (b := X / 9223372036854775808) (C := q * V) (by omega) (by rw [← hVV, val, hm]; exact hv.out) (by rw [a3, hw, hz0])
        rw [show off + (m + 2) = off + m + 2 by omega, show m + 2 + 1 = m + 3 by omega, hUU] at hlast
        obtain ⟨bt, hbt⟩ : ∃ bt, bt = X / 9223372036854775808 := ⟨_, rfl⟩
        have eb : (X : Int).fdiv (2 ^ min 63 (kb .u64)) = (bt : Int) := by rw [shr63, hbt]
        rw [← hbt] at hlast hb1
        clear hbt
        have rp2 : InR (p.set (off + m + 2) (X % 4294967296)) := rp.set (Nat.mod_lt _ (by decide))
        have hz2 : ∀ t, t < off ∨ off + m + 3 ≤ t → (p.set (off + m + 2) (X % 4294967296)).getD t 0 = o.getD t 0 := fun t ht => by
          rw [lget_set_ne (by omega)]; exact hz.out t (by omega)
        have hF2 : ∀ b, ∀ j, j ≠ id → (H.upd id b) j = h j := fun b j hj => by rw [upd_ne hj]; exact hF.out j hj
        have hpl : (p.set (off + m + 2) (X % 4294967296)).length = o.length := by rw [List.length_set, hp]
        clear hX
        generalize hP1 : p.set (off + m + 2) (X % 4294967296) = P1 at *
        by_cases hbit : bt = 0
        · have hfin := kn_fin0' hlast hbit hgt.out
          clear hlast
          have hqq : q % 4294967296 = q := Nat.mod_eq_of_lt hq
          clear hgt hle hU hVn hv hz
          subst hbit
          simp (maxSteps := 4000000) (disch := omega) only [go_sem, ↓reduceIte, Nat.reduceAdd, Nat.reduceSub, Nat.reduceMul, Nat.reduceEqDiff, reduceCtorEq, Int.reduceAdd, Int.reduceLT, Int.reduceLE, Int.reduceToNat, Int.reduceNeg, Int.reduceSub, ← List.map_take, ← List.map_drop, wrap64, wrapu64, wrapu32, ← Int.natCast_add, ← Int.natCast_mul, cast_succ, wrapu32_nat, shr32, reps_wd, map_set_wd, List.length_set, zs_len, hHp, hp, a3, eX, eb, hP1, hqq]
          exact ⟨P1, by rw [hfin.1], by simp, hF2 _, rp2, hpl, hfin.2, hz2⟩
        · have hbit1 : bt = 1 := by omega
          replace hlast := kn_one hlast hbit1
          have hlt : U < q * V := by
            have h1 := wv_lt rp2 off (m + 3)
            omega
          clear hv hz
          replace hgt := Hd.mk hlt
          replace hlast := Hd.mk hlast
          clear hlt
          subst hbit1
          simp (maxSteps := 4000000) (disch := omega) only [go_sem, ↓reduceIte, Nat.reduceAdd, Nat.reduceSub, Nat.reduceMul, Nat.reduceEqDiff, reduceCtorEq, Int.reduceAdd, Int.reduceLT, Int.reduceLE, Int.reduceToNat, Int.reduceNeg, Int.reduceSub, ← List.map_take, ← List.map_drop, wrap64, wrapu64, wrapu32, ← Int.natCast_add, ← Int.natCast_mul, cast_succ, wrapu32_nat, shr32, reps_wd, map_set_wd, List.length_set, zs_len, hHp, hp, a3, eX, eb, hP1, hm]
          refine W_loopS (fun k sl H2 n => ∃ (i c : Nat) (p2 : List Nat), (∃ g : Nat → AV, sl = [.ref id off (m + 3), .lst mv (v.map wd), g 2, g 3, g 4, .int .i64 (m + 2 : Nat), g 6, .int .u64 q, g 8, g 9, g 10, g 11, g 12, g 13, g 14, .int .u64 c, g 16, g 17, g 18, g 19, g 20, g 21, g 22, g 23, g 24, g 25, g 26, g 27, g 28, g 29, g 30, g 31, g 32, g 33, g 34, g 35, g 36, g 37, g 38, g 39, g 40, g 41, g 42, g 43, g 44, g 45, g 46, g 47, g 48, g 49, g 50, g 51, g 52, g 53, g 54, g 55, g 56, g 57, g 58, g 59, g 60, g 61, g 62, g 63, g 64, g 65, g 66, g 67, g 68, g 69, g 70, g 71, g 72, g 73, g 74, g 75, g 76, g 77, g 78, g 79, g 80, g 81, g 82, g 83, g 84, g 85, g 86, g 87, g 88, g 89, g 90, g 91, g 92, g 93, g 94, g 95, g 96, g 97, g 98, g 99, g 100, g 101, g 102, g 103, g 104, g 105, g 106, g 107, g 108, g 109, g 110, g 111, g 112, g 113, g 114, g 115, g 116, g 117, g 118, g 119, g 120, g 121, g 122, g 123, g 124, g 125, g 126, g 127, g 128, g 129, g 130, g 131, g 132, g 133, .lst mv (v.map wd), .int .i64 (m + 2 : Nat), .int .i64 i, g 137, g 138, g 139, g 140, g 141, g 142, g 143, g 144, g 145, g 146, g 147, g 148, g 149, g 150, g 151, g 152, g 153, g 154, g 155, g 156, g 157, g 158, g 159, g 160, g 161, g 162, g 163, g 164, g 165, g 166, g 167, g 168, g 169]) ∧ n = nx ∧
            H2 id = some ⟨p2.map wd, false, 1, false⟩ ∧ Hd (∀ j, j ≠ id → H2 j = h j) ∧ p2.length = o.length ∧ InR p2 ∧ i + k = m + 2 ∧ c ≤ 1 ∧ Hd (wv p2 off i + c * BB ^ i = wv P1 off i + vp v i) ∧ Hd (∀ t, t < off ∨ off + i ≤ t → p2.getD t 0 = P1.getD t 0)) (m + 2)
            ⟨0, 0, P1, garb rfl, rfl, upd_same, ⟨hF2 _⟩, hpl, rp2, by omega, by omega, ⟨by simp [wv, vp]⟩, ⟨fun _ _ => rfl⟩⟩ ?_
          clear hHp hF eX hbit eb hb1 hc hF2 hz0 bx
          rintro k _ H2 _ ⟨i, c, p2, ⟨g, rfl⟩, rfl, hHp, hF, hp2, rp3, hi, hc, hv, hz⟩
          by_cases hk2 : k = 0
          · obtain rfl : i = m + 2 := by omega
            have hz0 := hz.out (off + m + 2) (.inr (by omega))
            have bx := rp3.get (off + m + 2)
            obtain ⟨w, hw⟩ : ∃ w, w = p2.getD (off + m + 2) 0 + c := ⟨_, rfl⟩
            have hw2 : p2.getD (off + m + 2) 0 + c = w := hw.symm
            have hfin : wv (p2.set (off + m + 2) (w % 4294967296)) off (m + 3) + w / 4294967296 * BB ^ (m + 3) = wv P1 off (m + 3) + V := by
              have h2 := hv.out
              rw [← hV0] at h2
              have h3 := as_last (p := p2) (P := P1) (j := off) (n := m + 2) (c := c) (w := w) (V := V) (by omega) h2 (by rw [a3, hw, hz0])
              rw [a3] at h3
              exact h3
            have rp4 : InR (p2.set (off + m + 2) (w % 4294967296)) := rp3.set (Nat.mod_lt _ (by decide))
            have hback := kn_back (U := U) (V := V) (q := q) (n := m + 3) (by rw [← hlast.out]) hfin (wv_lt rp4 _ _) hle.out (Nat.le_trans (Nat.le_of_lt hVn.out) (Nat.pow_le_pow_right (by decide) (by omega))) hgt.out
            have hres := kn_fin1 hgt.out hle.out hback
            have hz3 : ∀ t, t < off ∨ off + m + 3 ≤ t → (p2.set (off + m + 2) (w % 4294967296)).getD t 0 = o.getD t 0 := fun t ht => by
              rw [lget_set_ne (by omega), hz.out t (by omega), hz2 t (by omega)]
            have hF2 : ∀ b, ∀ j, j ≠ id → (H2.upd id b) j = h j := fun b j hj => by rw [upd_ne hj]; exact hF.out j hj
            have hpl2 : (p2.set (off + m + 2) (w % 4294967296)).length = o.length := by rw [List.length_set, hp2]
            have hq1 := hres.2.2
            have hqq : (q - 1) % 4294967296 = q - 1 := Nat.mod_eq_of_lt (by omega)
            have g4 : (q : Int) - 1 = ((q - 1 : Nat) : Int) := by omega
            have hcm : c % 4294967296 = c := Nat.mod_eq_of_lt (by omega)
            clear hgt hle hU hVn hv hz hw hfin hback hlast hz0
            simp (maxSteps := 4000000) (disch := omega) only [go_sem, ↓reduceIte, Nat.reduceAdd, Nat.reduceSub, Nat.reduceMul, Nat.reduceEqDiff, reduceCtorEq, Int.reduceAdd, Int.reduceLT, Int.reduceLE, Int.reduceToNat, Int.reduceNeg, Int.reduceSub, ← List.map_take, ← List.map_drop, wrap64, wrapu64, wrapu32, ← Int.natCast_add, ← Int.natCast_mul, cast_succ, wrapu32_nat, shr32, reps_wd, map_set_wd, List.length_set, zs_len, hHp, hp2, a3, hw2, hcm, g4, hqq]
            exact ⟨_, by rw [hres.1], by simp, hF2 _, rp4, hpl2, hres.2.1, hz3⟩
          · have hx := rp3.get (off + i)
            have hy := rv.get i
            have hz0 := hz.out (off + i) (.inr (by omega))
            obtain ⟨s, hs⟩ : ∃ s, s = c + (p2.getD (off + i) 0 + v.getD i 0) := ⟨_, rfl⟩
            have hs2 : c + (p2.getD (off + i) 0 + v.getD i 0) = s := hs.symm
            have stp := as_step (o := P1) (p := p2) (v := v) (j := off) (i := i) (c := c) (s := s) (by omega) hv.out (by rw [hs, hz0]; omega)
            have stz : ∀ t, t < off ∨ off + (i + 1) ≤ t → (p2.set (off + i) (s % 4294967296)).getD t 0 = P1.getD t 0 := fun t ht => by
              rw [lget_set_ne (by omega)]; exact hz.out t (by omega)
            have hF2 : ∀ b, ∀ j, j ≠ id → (H2.upd id b) j = h j := fun b j hj => by rw [upd_ne hj]; exact hF.out j hj
            have hsb : s / 4294967296 ≤ 1 := by omega
            have hsb2 : s < 18446744073709551616 := by omega
            have hs3 : p2.getD (off + i) 0 + v.getD i 0 < 18446744073709551616 := by omega
            clear hgt hle hU hVn hv hz hs hlast hz0
            simp (maxSteps := 4000000) (disch := omega) only [go_sem, ↓reduceIte, Nat.reduceAdd, Nat.reduceSub, Nat.reduceMul, Nat.reduceEqDiff, reduceCtorEq, Int.reduceAdd, Int.reduceLT, Int.reduceLE, Int.reduceToNat, Int.reduceNeg, Int.reduceSub, ← List.map_take, ← List.map_drop, wrap64, wrapu64, wrapu32, ← Int.natCast_add, ← Int.natCast_mul, cast_succ, wrapu32_nat, shr32, reps_wd, map_set_wd, List.length_set, zs_len, hHp, hp2, hm, hs2]
            exact ⟨k - 1, by omega, i + 1, s / 4294967296, p2.set (off + i) (s % 4294967296), garb rfl, by simp, ⟨hF2 _⟩, by rw [List.length_set, hp2], rp3.set (Nat.mod_lt _ (by decide)), by omega, hsb, ⟨stp⟩, ⟨stz⟩⟩
      · have hx := rp.get (off + i)
        have hy := rv.get i
        have hz0 := hz.out (off + i) (.inr (by omega))
        have hPb := mul_word hq hy
        obtain ⟨M, hM⟩ : ∃ M, M = q * v.getD i 0 := ⟨_, rfl⟩
        have hM2 : q * v.getD i 0 = M := hM.symm
        rw [hM2] at hPb
        have hMc : M + c < 18446744073709551616 := by omega
        have gl := and_low hMc
        obtain ⟨X, hX⟩ : ∃ X : Nat, ((M + c) % 4294967296 ≤ p.getD (off + i) 0 ∧ X = p.getD (off + i) 0 - (M + c) % 4294967296) ∨ (p.getD (off + i) 0 < (M + c) % 4294967296 ∧ X = 18446744073709551616 + p.getD (off + i) 0 - (M + c) % 4294967296) := by
          by_cases h : (M + c) % 4294967296 ≤ p.getD (off + i) 0
          · exact ⟨_, .inl ⟨h, rfl⟩⟩
          · exact ⟨_, .inr ⟨by omega, rfl⟩⟩
        have hw : X % 4294967296 + (M + c) % 4294967296 + 0 = p.getD (off + i) 0 + X / 9223372036854775808 * 4294967296 := by omega
        have hb1 : X / 9223372036854775808 ≤ 1 := by omega
        have eX : IntKind.u64.wrap (((p.getD (off + i) 0 : Nat) : Int) - (((M + c) % 4294967296 : Nat) : Int)) = (X : Int) := by rw [IntKind.wrap_u64]; omega
        have stp := ms_step (o := o) (p := p) (v := v) (j := off) (i := i) (q := q) (c0 := c) (b0 := 0) (b1 := X / 9223372036854775808) (w := X % 4294967296) (x := M + c) (by omega) hv.out (by rw [hM]) (by rw [hw, hz0])
        have stz : ∀ t, t < off ∨ off + (i + 1) ≤ t → (p.set (off + i) (X % 4294967296)).getD t 0 = o.getD t 0 := fun t ht => by
          rw [lget_set_ne (by omega)]; exact hz.out t (by omega)
        have hF2 : ∀ b, ∀ j, j ≠ id → (H.upd id b) j = h j := fun b j hj => by rw [upd_ne hj]; exact hF.out j hj
        have hcb : (M + c) / 4294967296 + X / 9223372036854775808 ≤ 4294967296 := by omega
        have hcb2 : (M + c) / 4294967296 < 4294967296 := by omega
        clear hgt hle hU hVn hv hz hX hw hM hz0
        simp (maxSteps := 4000000) (disch := omega) only [go_sem, ↓reduceIte, Nat.reduceAdd, Nat.reduceSub, Nat.reduceMul, Nat.reduceEqDiff, reduceCtorEq, Int.reduceAdd, Int.reduceLT, Int.reduceLE, Int.reduceToNat, Int.reduceNeg, Int.reduceSub, ← List.map_take, ← List.map_drop, wrap64, wrapu64, wrapu32, ← Int.natCast_add, ← Int.natCast_mul, cast_succ, wrapu32_nat, shr32, reps_wd, map_set_wd, List.length_set, zs_len, hHp, hp, hm, hM2, gl, eX, shr63]
        exact ⟨k - 1, by omega, i + 1, (M + c) / 4294967296 + X / 9223372036854775808, p.set (off + i) (X % 4294967296), garb rfl, by simp, ⟨hF2 _⟩, by rw [List.length_set, hp], rp.set (Nat.mod_lt _ (by decide)), by omega, hcb, ⟨stp⟩, ⟨stz⟩⟩
  obtain ⟨x, h', n, h1, p, rfl, rfl, h2, h3, h4, h5, h6, h7⟩ := key
  exact ⟨p, h', h1, h2, h3, h4, h5, h6, h7⟩
end Go.Proofs.Ytmgmcnoobgljpaa

/- Walks: dividing rows of words. (Own work of this repo.) -/
namespace Go.Proofs.Ytmgmcnoobgljpaa
open Vm
set_option maxRecDepth 100000

theorem div_word {T b r x : Nat} (hr : r < b) (hb : b < 4294967296) (hx : x < 4294967296) (hT : T = x + r * 4294967296) : T / b < 4294967296 := by
  rw [Nat.div_lt_iff_lt_mul (by omega), hT, Nat.mul_comm]
  have : (r + 1) * 4294967296 ≤ b * 4294967296 := Nat.mul_le_mul_right _ hr
  omega
set_option maxHeartbeats 1000000 in
theorem over_spec (m : Bool) (a : List Nat) (b : Nat) (ha : InR a) (la : a.length < 2 ^ 40) (hb : 0 < b) (hb2 : b < 4294967296) :
    denP E 98 [.lst m (a.map wd), .int .u32 b] = some (.ret (.tup [.lst false ((dig (val a / b)).map wd), .int .u32 (val a % b : Nat)])) := by
  refine denP_eq E98 rfl (by simp [AV.pureL, AV.pure, pure_wd]) ?_
  simp (maxSteps := 4000000) (disch := omega) only [go_sem, ↓reduceIte, Nat.reduceAdd, Nat.reduceSub, Nat.reduceMul, Nat.reduceEqDiff, reduceCtorEq, Int.reduceAdd, Int.reduceLT, Int.reduceLE, Int.reduceToNat, Int.reduceNeg, Int.reduceSub, ← List.map_take, ← List.map_drop, wrap64, wrapu64, wrapu32, ← Int.natCast_add, ← Int.natCast_mul, cast_succ, wrapu32_nat, shr32, reps_wd, map_set_wd, List.length_set, zs_len, Try.f98]
  refine W_loopS (fun k sl H nx => ∃ (r : Nat) (o : List Nat), (∃ g : Nat → AV, sl = [.lst m (a.map wd), .int .u32 b, g 2, g 3, g 4, g 5, .ref 0 0 a.length, .int .u64 r, .int .i64 ((k : Int) - 1), g 9, g 10, g 11, g 12, g 13, g 14, g 15, g 16, g 17, g 18, g 19, g 20, g 21, g 22, g 23, g 24, g 25, g 26, g 27, g 28, g 29, g 30, g 31, g 32, g 33, g 34, g 35, g 36, g 37, g 38, g 39, g 40, g 41, g 42]) ∧ nx = 1 ∧
    H 0 = some ⟨o.map wd, false, 1, false⟩ ∧ o.length = a.length ∧ InR o ∧ k ≤ a.length ∧ r < b ∧ Hd (wv o k (a.length - k) * b + r = wv a k (a.length - k))) a.length
    ⟨0, _, garb rfl, rfl, rfl, zs_len _, zs_inR _, by omega, hb, ⟨by rw [Nat.sub_self]; simp [wv]⟩⟩ ?_
  rintro k _ H _ ⟨r, o, ⟨g, rfl⟩, rfl, hH, ho, hr, hk, hrb, hv⟩
  by_cases hk0 : k = 0
  · subst hk0
    have h1 := hv.out
    rw [Nat.sub_zero, wv_zero, wv_zero, ← ho, show vp o o.length = val o from rfl, ho, show vp a a.length = val a from rfl] at h1
    have hq : val a / b = val o := by
      rw [← h1, Nat.mul_comm, Nat.mul_add_div hb, Nat.div_eq_of_lt hrb, Nat.add_zero]
    have hm : val a % b = r := by rw [← h1, Nat.mul_comm, Nat.mul_add_mod, Nat.mod_eq_of_lt hrb]
    have ht := trim_spec false o hr (by omega)
    have hrr : r % 4294967296 = r := Nat.mod_eq_of_lt (by omega)
    clear hv h1
    simp (maxSteps := 4000000) (disch := omega) only [go_sem, ↓reduceIte, Nat.reduceAdd, Nat.reduceSub, Nat.reduceMul, Nat.reduceEqDiff, reduceCtorEq, Int.reduceAdd, Int.reduceLT, Int.reduceLE, Int.reduceToNat, Int.reduceNeg, Int.reduceSub, ← List.map_take, ← List.map_drop, wrap64, wrapu64, wrapu32, ← Int.natCast_add, ← Int.natCast_mul, cast_succ, wrapu32_nat, shr32, reps_wd, map_set_wd, List.length_set, zs_len, hH, ho, List.take_of_length_le, ht, hq, hm, hrr]
  · have e1 : (k : Int) - 1 = ((k - 1 : Nat) : Int) := by omega
    obtain ⟨j, rfl⟩ : ∃ j, k = j + 1 := ⟨k - 1, by omega⟩
    rw [Nat.add_sub_cancel] at e1
    have hx := ha.get j
    have e2 := shl32 (show r < 4294967296 by omega)
    have e3 := high_or hx (show r < 4294967296 by omega)
    obtain ⟨T, hT⟩ : ∃ T, T = a.getD j 0 + r * 4294967296 := ⟨_, rfl⟩
    rw [← hT] at e3
    have hTb : T < 18446744073709551616 := by omega
    have hTq := div_word hrb hb2 hx hT
    have st := short_step (o := o) (a := a) (n := a.length - (j + 1)) (by omega) hrb hT hv.out
    rw [show a.length - (j + 1) + 1 = a.length - j by omega] at st
    obtain ⟨R, hR⟩ : ∃ R, R = r * 4294967296 := ⟨_, rfl⟩
    rw [← hR] at e2 e3
    have hTm : T % b < b := Nat.mod_lt _ hb
    have d1 : (T : Int).tdiv (b : Int) = ((T / b : Nat) : Int) := rfl
    have d2 : (T : Int).tmod (b : Int) = ((T % b : Nat) : Int) := rfl
    clear hv hT hR
    generalize hqe : T / b = q at *
    generalize T % b = r' at *
    have hqq : q % 4294967296 = q := Nat.mod_eq_of_lt hTq
    clear hqe
    simp (maxSteps := 4000000) (disch := omega) only [go_sem, ↓reduceIte, Nat.reduceAdd, Nat.reduceSub, Nat.reduceMul, Nat.reduceEqDiff, reduceCtorEq, Int.reduceAdd, Int.reduceLT, Int.reduceLE, Int.reduceToNat, Int.reduceNeg, Int.reduceSub, ← List.map_take, ← List.map_drop, wrap64, wrapu64, wrapu32, ← Int.natCast_add, ← Int.natCast_mul, cast_succ, wrapu32_nat, shr32, reps_wd, map_set_wd, List.length_set, zs_len, hH, ho, e1, e2, e3, d1, d2, hqq]
    exact ⟨j, by omega, r', o.set j q, garb rfl, rfl, by rw [List.length_set, ho], hr.set hTq, by omega, hTm, ⟨st⟩⟩
set_option maxHeartbeats 1000000 in
theorem rShort_spec (m : Bool) (a : List Nat) (b : Nat) (ha : InR a) (la : a.length < 2 ^ 40) (hb : 0 < b) (hb2 : b < 4294967296) :
    ∃ o : List Nat, denP E 74 [.lst m (a.map wd), .int .u32 b] = some (.ret (.tup [.lst false (o.map wd), .int .u32 (val a % b : Nat)])) ∧ InR o ∧ o.length = a.length ∧ val o = val a / b := by
  refine denP_ex E74 rfl (by simp [AV.pureL, AV.pure, pure_wd]) ?_
  simp (maxSteps := 4000000) (disch := omega) only [go_sem, ↓reduceIte, Nat.reduceAdd, Nat.reduceSub, Nat.reduceMul, Nat.reduceEqDiff, reduceCtorEq, Int.reduceAdd, Int.reduceLT, Int.reduceLE, Int.reduceToNat, Int.reduceNeg, Int.reduceSub, ← List.map_take, ← List.map_drop, wrap64, wrapu64, wrapu32, ← Int.natCast_add, ← Int.natCast_mul, cast_succ, wrapu32_nat, shr32, reps_wd, map_set_wd, List.length_set, zs_len, Try.f74]
  refine W_loopS (fun k sl H nx => ∃ (r : Nat) (o : List Nat), (∃ g : Nat → AV, sl = [.lst m (a.map wd), .int .u32 b, g 2, g 3, g 4, g 5, .ref 0 0 a.length, .int .u64 r, .int .i64 ((k : Int) - 1), g 9, g 10, g 11, g 12, g 13, g 14, g 15, g 16, g 17, g 18, g 19, g 20, g 21, g 22, g 23, g 24, g 25, g 26, g 27, g 28, g 29, g 30, g 31, g 32, g 33, g 34, g 35, g 36, g 37, g 38, g 39, g 40, g 41]) ∧ nx = 1 ∧
    H 0 = some ⟨o.map wd, false, 1, false⟩ ∧ o.length = a.length ∧ InR o ∧ k ≤ a.length ∧ r < b ∧ Hd (wv o k (a.length - k) * b + r = wv a k (a.length - k))) a.length
    ⟨0, _, garb rfl, rfl, rfl, zs_len _, zs_inR _, by omega, hb, ⟨by rw [Nat.sub_self]; simp [wv]⟩⟩ ?_
  rintro k _ H _ ⟨r, o, ⟨g, rfl⟩, rfl, hH, ho, hr, hk, hrb, hv⟩
  by_cases hk0 : k = 0
  · subst hk0
    have h1 := hv.out
    rw [Nat.sub_zero, wv_zero, wv_zero, ← ho, show vp o o.length = val o from rfl, ho, show vp a a.length = val a from rfl] at h1
    have hq : val o = val a / b := by
      rw [← h1, Nat.mul_comm, Nat.mul_add_div hb, Nat.div_eq_of_lt hrb, Nat.add_zero]
    have hm : val a % b = r := by rw [← h1, Nat.mul_comm, Nat.mul_add_mod, Nat.mod_eq_of_lt hrb]
    have hrr : r % 4294967296 = r := Nat.mod_eq_of_lt (by omega)
    clear hv h1
    simp (maxSteps := 4000000) (disch := omega) only [go_sem, ↓reduceIte, Nat.reduceAdd, Nat.reduceSub, Nat.reduceMul, Nat.reduceEqDiff, reduceCtorEq, Int.reduceAdd, Int.reduceLT, Int.reduceLE, Int.reduceToNat, Int.reduceNeg, Int.reduceSub, ← List.map_take, ← List.map_drop, wrap64, wrapu64, wrapu32, ← Int.natCast_add, ← Int.natCast_mul, cast_succ, wrapu32_nat, shr32, reps_wd, map_set_wd, List.length_set, zs_len, hH, ho, List.take_of_length_le, hm, hrr]
    exact ⟨o, rfl, hr, ho, hq⟩
  · have e1 : (k : Int) - 1 = ((k - 1 : Nat) : Int) := by omega
    obtain ⟨j, rfl⟩ : ∃ j, k = j + 1 := ⟨k - 1, by omega⟩
    rw [Nat.add_sub_cancel] at e1
    have hx := ha.get j
    have e2 := shl32 (show r < 4294967296 by omega)
    obtain ⟨T, hT⟩ : ∃ T, T = a.getD j 0 + r * 4294967296 := ⟨_, rfl⟩
    have hTb : T < 18446744073709551616 := by omega
    have hTq := div_word hrb hb2 hx hT
    have st := short_step (o := o) (a := a) (n := a.length - (j + 1)) (by omega) hrb hT hv.out
    rw [show a.length - (j + 1) + 1 = a.length - j by omega] at st
    obtain ⟨R, hR⟩ : ∃ R, R = r * 4294967296 := ⟨_, rfl⟩
    rw [← hR] at e2
    have e3 : R + a.getD j 0 = T := by omega
    have hTm : T % b < b := Nat.mod_lt _ hb
    have d1 : (T : Int).tdiv (b : Int) = ((T / b : Nat) : Int) := rfl
    have d2 : (T : Int).tmod (b : Int) = ((T % b : Nat) : Int) := rfl
    clear hv hT hR
    generalize hqe : T / b = q at *
    generalize T % b = r' at *
    have hqq : q % 4294967296 = q := Nat.mod_eq_of_lt hTq
    clear hqe
    simp (maxSteps := 4000000) (disch := omega) only [go_sem, ↓reduceIte, Nat.reduceAdd, Nat.reduceSub, Nat.reduceMul, Nat.reduceEqDiff, reduceCtorEq, Int.reduceAdd, Int.reduceLT, Int.reduceLE, Int.reduceToNat, Int.reduceNeg, Int.reduceSub, ← List.map_take, ← List.map_drop, wrap64, wrapu64, wrapu32, ← Int.natCast_add, ← Int.natCast_mul, cast_succ, wrapu32_nat, shr32, reps_wd, map_set_wd, List.length_set, zs_len, hH, ho, e1, e2, e3, d1, d2, hqq]
    exact ⟨j, by omega, r', o.set j q, garb rfl, rfl, by rw [List.length_set, ho], hr.set hTq, by omega, hTm, ⟨st⟩⟩
end Go.Proofs.Ytmgmcnoobgljpaa

/- Walks: dividing rows of words by two words or more. (Own work of this repo.) -/
namespace Go.Proofs.Ytmgmcnoobgljpaa
open Vm
set_option maxRecDepth 100000

theorem top_pow {b : List Nat} (hb : Norm b) {n : Nat} (hn : b.length = n + 1) : ∃ K, K = 32 - bl (b.getD n 0) ∧ K < 32 ∧ bl (b.getD n 0) ≤ 32 ∧ BB ^ n * 2147483648 ≤ val b * 2 ^ K ∧ val b * 2 ^ K < BB ^ (n + 1) := by
  have hne : b ≠ [] := fun e => by rw [e] at hn; simp at hn
  have h0 : b.getD n 0 ≠ 0 := by
    have := hb.2.resolve_left hne
    rwa [hn, Nat.add_sub_cancel] at this
  have hx := hb.1.get n
  have h32 : bl (b.getD n 0) ≤ 32 := bl_le.2 hx
  have h1 := bl_nz h0
  have h2 := bl_ge h0
  have h3 := bl_lt (b.getD n 0)
  have h4 := vp_lt hb.1 n
  have e : val b = vp b n + b.getD n 0 * BB ^ n := by rw [val, hn, vp]
  refine ⟨_, rfl, by omega, h32, ?_, ?_⟩
  · have h5 : 2 ^ (bl (b.getD n 0) - 1) * 2 ^ (32 - bl (b.getD n 0)) = 2147483648 := by
      rw [← Nat.pow_add, show bl (b.getD n 0) - 1 + (32 - bl (b.getD n 0)) = 31 by omega]
    have h6 := Nat.mul_le_mul_right (2 ^ (32 - bl (b.getD n 0))) h2
    rw [h5] at h6
    have h7 := Nat.mul_le_mul_left (BB ^ n) h6
    refine Nat.le_trans h7 ?_
    rw [e, Nat.add_mul, ← Nat.mul_assoc, Nat.mul_comm (BB ^ n)]
    exact Nat.le_add_left _ _
  · have h5 : 2 ^ (bl (b.getD n 0)) * 2 ^ (32 - bl (b.getD n 0)) = 4294967296 := by
      rw [← Nat.pow_add, show bl (b.getD n 0) + (32 - bl (b.getD n 0)) = 32 by omega]
    have h6 : val b < 2 ^ bl (b.getD n 0) * BB ^ n := by
      have : (b.getD n 0 + 1) * BB ^ n ≤ 2 ^ bl (b.getD n 0) * BB ^ n := Nat.mul_le_mul_right _ h3
      rw [Nat.add_mul] at this
      omega
    have h7 := Nat.mul_lt_mul_of_pos_right h6 (show 0 < 2 ^ (32 - bl (b.getD n 0)) from Nat.pow_pos (by decide))
    rw [Nat.mul_assoc, Nat.mul_comm (BB ^ n), ← Nat.mul_assoc, h5] at h7
    rw [Nat.pow_succ, Nat.mul_comm]
    rwa [Nat.mul_comm, Nat.mul_comm 4294967296] at h7
theorem dig_eq_len {N k : Nat} (h1 : BB ^ k ≤ N) (h2 : N < BB ^ (k + 1)) : (dig N).length = k + 1 := by
  have h3 := dig_len.2 h2
  rcases Nat.lt_or_ge (dig N).length (k + 1) with h | h
  · have := dig_len.1 (show (dig N).length ≤ k by omega)
    omega
  · omega
/-- The start of a long division. -/
theorem kn_start {a b K n la : Nat} (ha : a < BB ^ la) (hb : BB ^ n * 2147483648 ≤ b * 2 ^ K) (hK : K < 32) (hn : n ≤ la) : a * 2 ^ K < b * 2 ^ K * BB ^ (la - n) := by
  have h1 : BB ^ n * 2147483648 * BB ^ (la - n) ≤ b * 2 ^ K * BB ^ (la - n) := Nat.mul_le_mul_right _ hb
  have h2 : BB ^ n * 2147483648 * BB ^ (la - n) = BB ^ la * 2147483648 := by
    rw [Nat.mul_assoc, Nat.mul_comm 2147483648, ← Nat.mul_assoc, ← Nat.pow_add, show n + (la - n) = la by omega]
  have h3 : a * 2 ^ K < BB ^ la * 2 ^ K := Nat.mul_lt_mul_of_pos_right ha (Nat.pow_pos (by decide))
  have h4 : BB ^ la * 2 ^ K ≤ BB ^ la * 2147483648 := Nat.mul_le_mul_left _ (pow_lt32 hK)
  omega
theorem div_shift {a b K q r : Nat} (hb : 0 < b) (h : r + q * (b * 2 ^ K) = a * 2 ^ K) (hr : r < b * 2 ^ K) : q = a / b ∧ r / 2 ^ K = a % b := by
  have hp : 0 < 2 ^ K := Nat.pow_pos (by decide)
  have h1 : q = a * 2 ^ K / (b * 2 ^ K) := by
    rw [← h, Nat.add_mul_div_right _ _ (Nat.mul_pos hb hp), Nat.div_eq_of_lt hr, Nat.zero_add]
  have h2 : r = a * 2 ^ K % (b * 2 ^ K) := by
    rw [← h, Nat.add_mul_mod_self_right, Nat.mod_eq_of_lt hr]
  constructor
  · rw [h1, Nat.mul_div_mul_right _ _ hp]
  · rw [h2, Nat.mul_mod_mul_right, Nat.mul_div_cancel _ hp]
theorem inR_pad {l : List Nat} (h : InR l) (n : Nat) : InR (l ++ zs n) := fun x hx => by
  rcases List.mem_append.1 hx with h1 | h1
  · exact h x h1
  · exact zs_inR n x h1
theorem val_pad (l : List Nat) (n : Nat) : val (l ++ zs n) = val l := by
  have h1 := val_of_zero (o := l ++ zs n) (m := l.length) (fun i hi => by
    rw [List.getD_eq_getElem?_getD, List.getElem?_append_right hi, ← List.getD_eq_getElem?_getD, zs_get])
  rw [h1, val]
  exact vp_congr _ fun i hi => by rw [List.getD_eq_getElem?_getD, List.getD_eq_getElem?_getD, List.getElem?_append_left hi]
theorem wd_zero : AV.int .u32 0 = wd 0 := rfl
set_option maxHeartbeats 4000000 in
theorem divide_spec (ma : Bool) (a : List Nat) (mb : Bool) (b : List Nat) (ha : Norm a) (hb : Norm b) (hb0 : b ≠ []) (la : a.length < 2 ^ 36) (lb : b.length < 2 ^ 36) (hna : ma = true → a = []) :
    ∃ m : Bool × Bool, denP E 89 [.lst ma (a.map wd), .lst mb (b.map wd)] = some (.ret (.tup [.lst m.1 ((dig (val a / val b)).map wd), .lst m.2 ((dig (val a % val b)).map wd)])) ∧ (m.1 = true → val a / val b = 0) ∧ (m.2 = true → val a % val b = 0) := by
  refine denP_ex E89 rfl (by simp [AV.pureL, AV.pure, pure_wd]) ?_
  have hpos := norm_pos hb hb0
  have hc := compare_spec ma a mb b ha hb (by omega) (by omega)
  by_cases hlt : val a < val b
  · rw [cmpN, if_pos hlt] at hc
    rw [Nat.div_eq_of_lt hlt, Nat.mod_eq_of_lt hlt, dig_zero, dig_val ha]
    cases ma with
    | true =>
      obtain rfl := hna rfl
      simp only [List.map_nil] at hc
      simp (maxSteps := 4000000) (disch := omega) only [go_sem, ↓reduceIte, Nat.reduceAdd, Nat.reduceSub, Nat.reduceMul, Nat.reduceEqDiff, reduceCtorEq, Int.reduceAdd, Int.reduceLT, Int.reduceLE, Int.reduceToNat, Int.reduceNeg, Int.reduceSub, ← List.map_take, ← List.map_drop, wrap64, wrapu64, wrapu32, ← Int.natCast_add, ← Int.natCast_mul, cast_succ, wrapu32_nat, shr32, reps_wd, map_set_wd, List.length_set, zs_len, Try.f89, hc, clone_nil, List.map_nil]
      exact ⟨(true, true), rfl, by simp, by simp [val_nil]⟩
    | false =>
      by_cases h0 : a.length = 0
      · obtain rfl := List.length_eq_zero_iff.1 h0
        simp only [List.map_nil] at hc
        simp (maxSteps := 4000000) (disch := omega) only [go_sem, ↓reduceIte, Nat.reduceAdd, Nat.reduceSub, Nat.reduceMul, Nat.reduceEqDiff, reduceCtorEq, Int.reduceAdd, Int.reduceLT, Int.reduceLE, Int.reduceToNat, Int.reduceNeg, Int.reduceSub, ← List.map_take, ← List.map_drop, wrap64, wrapu64, wrapu32, ← Int.natCast_add, ← Int.natCast_mul, cast_succ, wrapu32_nat, shr32, reps_wd, map_set_wd, List.length_set, zs_len, Try.f89, hc, clone_empty, List.map_nil, refP_zero]
        exact ⟨(true, false), rfl, by simp, by simp⟩
      · have hcl := clone_ne a (by omega) (by omega)
        simp (maxSteps := 4000000) (disch := omega) only [go_sem, ↓reduceIte, Nat.reduceAdd, Nat.reduceSub, Nat.reduceMul, Nat.reduceEqDiff, reduceCtorEq, Int.reduceAdd, Int.reduceLT, Int.reduceLE, Int.reduceToNat, Int.reduceNeg, Int.reduceSub, ← List.map_take, ← List.map_drop, wrap64, wrapu64, wrapu32, ← Int.natCast_add, ← Int.natCast_mul, cast_succ, wrapu32_nat, shr32, reps_wd, map_set_wd, List.length_set, zs_len, Try.f89, hc, hcl, List.map_nil, List.take_of_length_le]
        exact ⟨(true, false), rfl, by simp, by simp⟩
  · have hcn : ¬ cmpN (val a) (val b) < 0 := by unfold cmpN; rw [if_neg hlt]; split <;> omega
    generalize cmpN (val a) (val b) = cv at *
    by_cases hb1 : b.length = 1
    · have hov := over_spec ma a (b.getD 0 0) ha.1 (by omega) (by
        have := hb.2.resolve_left hb0
        rw [hb1] at this; simp only [Nat.sub_self] at this; omega) (hb.1.get 0)
      have hvb : val b = b.getD 0 0 := by rw [val, hb1, vp, vp]; simp
      rw [← hvb] at hov
      have hmb : val a % val b < 4294967296 := by
        have := Nat.mod_lt (val a) hpos
        have := hb.1.get 0
        omega
      have hcell : b.getD 0 0 = val b := hvb.symm
      have ht := trim_spec false [val a % val b] (fun x hx => by simp at hx; subst hx; exact hmb) (by simp)
      rw [show val [val a % val b] = val a % val b by rw [val_cons, val_nil, Nat.mul_zero, Nat.add_zero]] at ht
      simp only [List.map_cons, List.map_nil, wd] at ht
      clear hvb
      simp (maxSteps := 4000000) (disch := omega) only [go_sem, ↓reduceIte, Nat.reduceAdd, Nat.reduceSub, Nat.reduceMul, Nat.reduceEqDiff, reduceCtorEq, Int.reduceAdd, Int.reduceLT, Int.reduceLE, Int.reduceToNat, Int.reduceNeg, Int.reduceSub, ← List.map_take, ← List.map_drop, wrap64, wrapu64, wrapu32, ← Int.natCast_add, ← Int.natCast_mul, cast_succ, wrapu32_nat, shr32, reps_wd, map_set_wd, List.length_set, zs_len, Try.f89, hc, hb1, hcell, hov, reps, fillAll, refP, elems, List.headD, ht]
      exact ⟨(false, false), by simp, by simp, by simp⟩
    · obtain ⟨m, hm⟩ : ∃ m, b.length = m + 1 + 1 := ⟨b.length - 2, by have := List.length_pos_iff.2 hb0; omega⟩
      obtain ⟨K, hK, hK32, hbl, hlo, hhi⟩ := top_pow hb hm
      have hlz := lz32_spec (b.getD (m + 1) 0) (hb.1.get _)
      have eK : (32 : Int) - (bl (b.getD (m + 1) 0) : Int) = (K : Int) := by omega
      rw [eK] at hlz
      have hle : val b ≤ val a := by omega
      have hab : b.length ≤ a.length := by
        rcases Nat.lt_or_ge a.length b.length with h | h
        · have := val_less_len ha.1 hb h; omega
        · exact h
      have hl1 := left_spec mb b K hb.1 (by omega) (by omega)
      have hl2 := left_spec ma a K ha.1 (by omega) (by omega)
      have hst := kn_start (n := m + 1) (la := a.length) (val_lt ha.1) hlo hK32 (by omega)
      have e2 : (2 : Nat) ^ K ≤ 2147483648 := pow_lt32 hK32
      have hV : ∃ V, V = val b * 2 ^ K := ⟨_, rfl⟩
      obtain ⟨V, hV⟩ := hV
      obtain ⟨X, hX⟩ : ∃ X, X = val a * 2 ^ K := ⟨_, rfl⟩
      have hfin : ∀ q r, r + q * V = X → r < V → q = val a / val b ∧ r / 2 ^ K = val a % val b := fun q r h1 h2 => by
        rw [hV, hX] at h1; rw [hV] at h2; exact div_shift hpos h1 h2
      rw [← hV] at hl1 hst hlo hhi
      rw [← hX] at hl2 hst
      have hVl : (dig V).length = m + 1 + 1 := dig_eq_len (Nat.le_trans (Nat.le_mul_of_pos_right _ (by decide)) hlo) hhi
      have hXl1 : (dig X).length ≤ a.length + 1 := by
        rw [dig_len]
        have h1 : val a * 2 ^ K < BB ^ a.length * 4294967296 := by
          have h3 := Nat.mul_le_mul_left (BB ^ a.length) (show (2 : Nat) ^ K ≤ 4294967296 by omega)
          have h4 : val a * 2 ^ K < BB ^ a.length * 2 ^ K := Nat.mul_lt_mul_of_pos_right (val_lt ha.1) (Nat.pow_pos (by decide))
          omega
        rw [hX, Nat.pow_succ]; exact h1
      have hXl2 : a.length ≤ (dig X).length := by
        have h1 : (dig (val a)).length ≤ (dig X).length := dig_mono (by rw [hX]; exact Nat.le_mul_of_pos_right _ (Nat.pow_pos (by decide)))
        rwa [dig_val ha] at h1
      have hv1 : 1 ≤ (dig V).getD (m + 1) 0 := by
        have h1 := (dig_norm V).2.resolve_left (fun e => by rw [e] at hVl; simp at hVl)
        rw [hVl, Nat.add_sub_cancel] at h1; omega
      have hb1' : ((m + 1 + 1 : Nat) : Int) - 1 = ((m + 1 : Nat) : Int) := by omega
      obtain ⟨L, hL⟩ : ∃ L, a.length = m + 1 + L := ⟨a.length - (m + 1), by omega⟩
      have hL0 : 0 < L := by omega
      rw [show a.length - (m + 1) = L by omega] at hst
      have eL : ((m + 1 + L + 1 : Nat) : Int) - ((m + 1 + 1 : Nat) : Int) = ((L : Nat) : Int) := by omega
      obtain ⟨xl, hxl⟩ : ∃ xl, xl = (dig X).length := ⟨_, rfl⟩
      have hcl := clone_ne (dig X) (by omega) (by omega)
      rw [← hxl] at hcl hXl1 hXl2
      have hxl' : (dig X).length = xl := hxl.symm
      have hpad : List.map wd (dig X) ++ [AV.int .u32 0, AV.int .u32 0] = List.map wd (dig X ++ zs 2) := by
        rw [List.map_append]; rfl
      have hgK := bl_le.2 (show b.getD (m + 1) 0 < 2 ^ 32 from hb.1.get _)
      replace hfin := Hd.mk hfin
      replace hst := Hd.mk hst
      replace hlo := Hd.mk hlo
      replace hhi := Hd.mk hhi
      clear hV hX hxl hK eK hbl hpos hle
      simp (maxSteps := 4000000) (disch := omega) only [go_sem, ↓reduceIte, Nat.reduceAdd, Nat.reduceSub, Nat.reduceMul, Nat.reduceEqDiff, reduceCtorEq, Int.reduceAdd, Int.reduceLT, Int.reduceLE, Int.reduceToNat, Int.reduceNeg, Int.reduceSub, ← List.map_take, ← List.map_drop, wrap64, wrapu64, wrapu32, ← Int.natCast_add, ← Int.natCast_mul, cast_succ, wrapu32_nat, shr32, reps_wd, map_set_wd, List.length_set, zs_len, Try.f89, hc, hm, hb1', hlz, hl1, hl2, hcl, reps, fillAll, appendEff, srcCells, List.headD, cutBounds, hxl', hL, hVl, eL, hpad, Nat.sub_zero]
      refine W_loopS (fun k sl H nx => ∃ (o out : List Nat), (∃ g : Nat → AV, sl = [g 0, g 1, g 2, g 3, g 4, g 5, g 6, g 7, .int .i64 K, .lst false ((dig V).map wd), .ref 3 0 (m + 1 + L + 1), .int .i64 (m + 1 + 1 : Nat), .ref 4 0 L, .int .i64 ((k : Int) - 1), g 14, g 15, g 16, g 17, g 18, g 19, g 20, g 21, g 22, g 23, g 24, g 25, g 26, g 27, g 28, g 29, g 30, g 31, g 32, g 33, g 34, g 35, g 36, g 37, g 38, g 39, g 40, g 41, g 42, g 43, g 44, g 45, g 46, g 47, g 48, g 49, g 50, g 51, g 52, g 53, g 54, g 55, g 56, g 57, g 58, g 59, g 60, g 61, g 62, g 63, g 64, g 65, g 66, g 67, g 68, g 69, g 70, g 71, g 72, g 73, g 74, g 75, g 76, g 77, g 78, g 79, g 80, g 81, g 82, g 83, g 84, g 85, g 86, g 87, g 88, g 89, g 90, g 91, g 92]) ∧ nx = 5 ∧
        H 3 = some ⟨o.map wd, false, 1, false⟩ ∧ H 4 = some ⟨out.map wd, false, 1, false⟩ ∧ o.length = xl + 2 ∧ out.length = L ∧ InR o ∧ InR out ∧ k ≤ L ∧ Hd (val o + val out * V = X) ∧ Hd (val o < V * BB ^ k) ∧ Hd (∀ i, i < k → out.getD i 0 = 0)) L
        ⟨dig X ++ zs 2, zs L, garb rfl, rfl, rfl, rfl, by rw [List.length_append, hxl', zs_len], zs_len _, inR_pad (dig_inR X) 2, zs_inR L, by omega, ⟨by rw [val_pad, val_dig, show val (zs L) = 0 from zs_vp _ _, Nat.zero_mul, Nat.add_zero]⟩, ⟨by rw [val_pad, val_dig]; exact hst.out⟩, ⟨fun i _ => zs_get L i⟩⟩ ?_
      clear hl1 hl2 hcl hlz hpad hst eL hb1' hc hcn hgK
      rintro k _ H _ ⟨o, out, ⟨g, rfl⟩, rfl, h3, h4, ol, outl, ro, rout, hk, hv, hb', hz⟩
      by_cases hk0 : k = 0
      · subst hk0
        have hres := hfin.out _ _ hv.out (by have := hb'.out; rwa [Nat.pow_zero, Nat.mul_one] at this)
        have hltop : val o < BB ^ (m + 1 + L + 1) := by
          have h1 := hb'.out
          rw [Nat.pow_zero, Nat.mul_one] at h1
          refine Nat.lt_trans h1 (Nat.lt_of_lt_of_le hhi.out (Nat.pow_le_pow_right (by decide) (by omega)))
        have hvt : val (o.take (m + 1 + L + 1)) = val o := by rw [vp_take (by omega), vp_val hltop]
        have ht1 := trim_spec false (o.take (m + 1 + L + 1)) (ro.take _) (by rw [List.length_take]; omega)
        rw [hvt] at ht1
        have ht2 := trim_spec false out rout (by omega)
        have hol : (dig (val o)).length ≤ m + 1 + L + 1 := dig_len.2 hltop
        have hr := right_spec false (dig (val o)) K (dig_norm _) (by omega) (by omega)
        rw [val_dig, hres.2] at hr
        rw [hres.1] at ht2
        have hmz : (dig (val o)).length ≤ K / 32 → val a % val b = 0 := fun h => by
          have : (dig (val o)).length = 0 := by omega
          have h0 := dig_nil.1 (List.length_eq_zero_iff.1 this)
          rw [← hres.2, h0, Nat.zero_div]
        clear hv hb' hz hres hvt hfin hltop hhi hlo
        simp (maxSteps := 4000000) (disch := omega) only [go_sem, ↓reduceIte, Nat.reduceAdd, Nat.reduceSub, Nat.reduceMul, Nat.reduceEqDiff, reduceCtorEq, Int.reduceAdd, Int.reduceLT, Int.reduceLE, Int.reduceToNat, Int.reduceNeg, Int.reduceSub, ← List.map_take, ← List.map_drop, wrap64, wrapu64, wrapu32, ← Int.natCast_add, ← Int.natCast_mul, cast_succ, wrapu32_nat, shr32, reps_wd, map_set_wd, List.length_set, zs_len, h3, h4, ol, outl, List.take_of_length_le, ht1, ht2, hr]
        exact ⟨(false, decide ((dig (val o)).length ≤ K / 32)), rfl, by simp, fun h => hmz (of_decide_eq_true h)⟩
      · obtain ⟨j, rfl⟩ : ∃ j, k = j + 1 := ⟨k - 1, by omega⟩
        have e1 : ((j + 1 : Nat) : Int) - 1 = (j : Int) := by omega
        have hVn : V < BB ^ (m + 2) := hhi.out
        have hwin := kn_window (n := m + 2) (j := j) hVn hb'.out
        have hdg := digit_open (h := H) 3 j o (dig V) false 5 m h3 ro (dig_inR V) hVl hv1 (by omega) (by omega) (by rw [val_dig]; exact hwin)
        rw [val_dig] at hdg
        have e3 : j + (m + 1 + 1) + 1 - j = m + 3 := by omega
        have hqlt : wv o j (m + 3) / V < 4294967296 := Nat.div_lt_of_lt_mul hwin
        replace hwin := Hd.mk hwin
        replace hVn := Hd.mk hVn
        simp (maxSteps := 4000000) (disch := omega) only [go_sem, ↓reduceIte, Nat.reduceAdd, Nat.reduceSub, Nat.reduceMul, Nat.reduceEqDiff, reduceCtorEq, Int.reduceAdd, Int.reduceLT, Int.reduceLE, Int.reduceToNat, Int.reduceNeg, Int.reduceSub, ← List.map_take, ← List.map_drop, wrap64, wrapu64, wrapu32, ← Int.natCast_add, ← Int.natCast_mul, cast_succ, wrapu32_nat, shr32, reps_wd, map_set_wd, List.length_set, zs_len, h3, h4, ol, outl, e1, e3, cutBounds]
        refine openK_ex hdg ?_
        clear hdg
        rintro p H' ⟨h3', hF, rp, pl, hp, hs⟩
        have h4' := hF 4 (by decide)
        rw [h4] at h4'
        have hout := kn_outer (p := p) ro hVn.out (show j < out.length by omega) hv.out hb'.out (hz.out j (by omega)) hp hs
        have hz2 : ∀ i, i < j → (out.set j (wv o j (m + 3) / V)).getD i 0 = 0 := fun i hi => by
          rw [lget_set_ne (by omega)]; exact hz.out i (by omega)
        replace hout := Hd.mk hout
        clear hv hb' hz hp hs hF h3 h4 hwin hVn hfin hhi hlo
        rw [show m + 2 + 1 = m + 3 by omega] at hout
        generalize wv o j (m + 3) / V = q at *
        simp (maxSteps := 4000000) (disch := omega) only [go_sem, ↓reduceIte, Nat.reduceAdd, Nat.reduceSub, Nat.reduceMul, Nat.reduceEqDiff, reduceCtorEq, Int.reduceAdd, Int.reduceLT, Int.reduceLE, Int.reduceToNat, Int.reduceNeg, Int.reduceSub, ← List.map_take, ← List.map_drop, wrap64, wrapu64, wrapu32, ← Int.natCast_add, ← Int.natCast_mul, cast_succ, wrapu32_nat, shr32, reps_wd, map_set_wd, List.length_set, zs_len, h3', h4', outl, e1]
        exact ⟨j, by omega, p, out.set j q, garb rfl, rfl, rfl, by rw [pl, ol], by rw [List.length_set, outl], rp, rout.set hqlt, by omega, ⟨hout.out.1⟩, ⟨hout.out.2⟩, ⟨hz2⟩⟩
end Go.Proofs.Ytmgmcnoobgljpaa

/- Walks: Div. (Own work of this repo.) -/
namespace Go.Proofs.Ytmgmcnoobgljpaa
open Vm
set_option maxRecDepth 100000

theorem divide_I (ma : Bool) (x : Int) (mb : Bool) (y : Int) (hy : y ≠ 0) (lx : (dg x).length < 2 ^ 36) (ly : (dg y).length < 2 ^ 36) (hma : ma = true → x = 0) :
    ∃ m : Bool × Bool, denP E 89 [.lst ma ((dg x).map wd), .lst mb ((dg y).map wd)] = some (.ret (.tup [.lst m.1 ((dig (x.natAbs / y.natAbs)).map wd), .lst m.2 ((dig (x.natAbs % y.natAbs)).map wd)])) ∧ (m.1 = true → x.natAbs / y.natAbs = 0) ∧ (m.2 = true → x.natAbs % y.natAbs = 0) := by
  have := divide_spec ma (dg x) mb (dg y) (dg_norm x) (dg_norm y) (by rw [ne_eq, dg_nil]; exact hy) lx ly (fun h => by rw [hma h, dg_zero])
  rwa [val_dg, val_dg] at this
/-- Quotients with a rest that is not negative, out of those of absolute values. -/
theorem ediv_nat (x y : Int) (hy : y ≠ 0) (h : ¬ (x < 0 ∧ x.natAbs % y.natAbs ≠ 0)) : sg (ng x != ng y) (x.natAbs / y.natAbs) = x / y ∧ ((x.natAbs % y.natAbs : Nat) : Int) = x % y := by
  have hb : 0 < y.natAbs := by omega
  have key : ∀ b : Nat, 0 < b → ¬ (x < 0 ∧ x.natAbs % b ≠ 0) → sg (ng x) (x.natAbs / b) = x / (b : Int) ∧ ((x.natAbs % b : Nat) : Int) = x % (b : Int) := by
    intro b hb h
    by_cases hx : x < 0
    · have h0 : x.natAbs % b = 0 := by
        rcases Nat.eq_zero_or_pos (x.natAbs % b) with h1 | h1
        · exact h1
        · exact absurd ⟨hx, by omega⟩ h
      have hd := Nat.div_add_mod x.natAbs b
      rw [h0, Nat.add_zero] at hd
      have hu := (Int.ediv_emod_unique (a := x) (b := (b : Int)) (r := 0) (q := -((x.natAbs / b : Nat) : Int)) (by omega)).2 ⟨by
        rw [Int.mul_neg, ← Int.natCast_mul, hd]; omega, by omega, by omega⟩
      rw [h0, ng_true.2 hx]
      exact ⟨by rw [hu.1]; rfl, by rw [hu.2]; rfl⟩
    · obtain ⟨n, rfl⟩ : ∃ n : Nat, x = (n : Int) := ⟨x.natAbs, by omega⟩
      rw [ng_nat]
      exact ⟨by simp [sg], by simp⟩
  rcases Int.natAbs_eq y with h1 | h1
  · have hn : ng y = false := ng_false.2 (by omega)
    have := key y.natAbs hb h
    rw [← h1] at this
    rw [hn, Bool.bne_false]; exact this
  · have hn : ng y = true := ng_true.2 (by omega)
    have := key y.natAbs hb h
    rw [hn, show (y : Int) = -(y.natAbs : Int) from h1, Int.natAbs_neg, Int.natAbs_natCast, Int.ediv_neg, Int.emod_neg, ← this.1, ← this.2]
    refine ⟨?_, rfl⟩
    cases ng x <;> simp [sg]
theorem ediv_nat' (x y : Int) (hy : y ≠ 0) (hx : x < 0) (h : x.natAbs % y.natAbs ≠ 0) : sg (ng x != ng y) (x.natAbs / y.natAbs + 1) = x / y ∧ ((y.natAbs - x.natAbs % y.natAbs : Nat) : Int) = x % y := by
  have hb : 0 < y.natAbs := by omega
  have key : ∀ b : Nat, 0 < b → x.natAbs % b ≠ 0 → sg (ng x) (x.natAbs / b + 1) = x / (b : Int) ∧ ((b - x.natAbs % b : Nat) : Int) = x % (b : Int) := by
    intro b hb h
    have hm := Nat.mod_lt x.natAbs hb
    have hd := Nat.div_add_mod x.natAbs b
    have hu := (Int.ediv_emod_unique (a := x) (b := (b : Int)) (r := ((b - x.natAbs % b : Nat) : Int)) (q := -((x.natAbs / b + 1 : Nat) : Int)) (by omega)).2 ⟨by
        rw [Int.mul_neg, ← Int.natCast_mul, Nat.mul_add, Nat.mul_one]
        generalize b * (x.natAbs / b) = z at *
        omega, by omega, by omega⟩
    rw [ng_true.2 hx]
    exact ⟨by rw [hu.1]; rfl, by rw [hu.2]⟩
  rcases Int.natAbs_eq y with h1 | h1
  · have hn : ng y = false := ng_false.2 (by omega)
    have := key y.natAbs hb h
    rw [← h1] at this
    rw [hn, Bool.bne_false]; exact this
  · have hn : ng y = true := ng_true.2 (by omega)
    have := key y.natAbs hb h
    rw [hn, show (y : Int) = -(y.natAbs : Int) from h1, Int.natAbs_neg, Int.natAbs_natCast, Int.ediv_neg, Int.emod_neg, ← this.1, ← this.2]
    refine ⟨?_, rfl⟩
    cases ng x <;> simp [sg]
theorem dg_ediv (x y : Int) : (dg (x / y)).length ≤ (dg x).length := dg_mono (Int.natAbs_ediv_le_natAbs x y)
theorem dg_emod (x y : Int) (hy : y ≠ 0) : (dg (x % y)).length ≤ (dg y).length := by
  refine dg_mono ?_
  have h1 := Int.emod_nonneg x hy
  have h2 := Int.emod_lt x hy
  omega
set_option maxHeartbeats 2000000 in
theorem div_spec (ma : Bool) (x : Int) (mb : Bool) (y : Int) (hx : (dg x).length ≤ 4096) (hy : (dg y).length ≤ 4096) (hy0 : y ≠ 0) (hma : ma = true → x = 0) :
    ∃ m : Bool × Bool, denP E 76 [I ma x, I mb y] = some (.ret (.tup [I m.1 (x / y), I m.2 (x % y), .int .i64 0])) ∧ (m.1 = true → x / y = 0) ∧ (m.2 = true → x % y = 0) := by
  refine denP_ex E76 rfl (by simp [AV.pureL, AV.pure, pure_wd]) ?_
  have h1 := valid2_I ma x mb y hx hy
  obtain ⟨m, h2, h3, h4⟩ := divide_I ma x mb y hy0 (by omega) (by omega) hma
  have hl := dg_pos.2 hy0
  have lq := dg_ediv x y
  have lr := dg_emod x y hy0
  have zq : (x.natAbs / y.natAbs) ≤ x.natAbs := Nat.div_le_self _ _
  have zr : (x.natAbs % y.natAbs) < y.natAbs := Nat.mod_lt _ (by omega)
  have lq2 : (dig (x.natAbs / y.natAbs)).length ≤ 4096 := Nat.le_trans (dig_mono zq) hx
  have lr2 : (dig (x.natAbs % y.natAbs)).length ≤ 4096 := Nat.le_trans (dig_mono (Nat.le_of_lt zr)) hy
  by_cases hc : x < 0 ∧ x.natAbs % y.natAbs ≠ 0
  · have hn : ng x = true := ng_true.2 hc.1
    have he := ediv_nat' x y hy0 hc.1 hc.2
    have hr0 : 0 < (dig (x.natAbs % y.natAbs)).length := List.length_pos_iff.2 (fun e => hc.2 (dig_nil.1 e))
    have p1 := plus_spec m.1 (dig (x.natAbs / y.natAbs)) false [1] (dig_inR _) (fun z hz => by simp at hz; subst hz; decide) (by omega) (by simp)
    rw [val_dig, show val [1] = 1 from rfl] at p1
    have p2 := minus_spec mb (dg y) m.2 (dig (x.natAbs % y.natAbs)) (dg_inR y) (dig_inR _) (by omega) (dig_mono (Nat.le_of_lt zr)) (by rw [val_dg, val_dig]; omega)
    rw [val_dg, val_dig] at p2
    have p3 := made_dig (ng x != ng y) false (x.natAbs / y.natAbs + 1) (by simp) (by have := dig_add (x.natAbs / y.natAbs) 1; have : (dig 1).length ≤ 1 := dig_len.2 (by decide); omega)
    rw [he.1] at p3
    have p4 := made_dig false false (y.natAbs - x.natAbs % y.natAbs) (by simp) (by have := dig_mono (a := y.natAbs - x.natAbs % y.natAbs) (b := y.natAbs) (by omega); unfold dg at hy; omega)
    rw [show sg false (y.natAbs - x.natAbs % y.natAbs) = x % y from he.2] at p4
    have l1 : (dg (x / y)).length ≤ 4096 := by omega
    have l2 : (dg (x % y)).length ≤ 4096 := by omega
    rw [RI, fm_of l1, fit_of l1, er_of l1] at p3
    rw [RI, fm_of l2, fit_of l2, er_of l2] at p4
    simp only [List.map_cons, List.map_nil, wd, Int.natCast_one] at p1
    simp only [I, hn, Bool.true_bne, Bool.false_bne] at h1 p3
    clear he lq lr zq zr hc h3 h4 l1 l2
    generalize hx1 : ng y = ny at *
    generalize x.natAbs / y.natAbs = q at *
    generalize y.natAbs - x.natAbs % y.natAbs = r2 at *
    generalize x.natAbs % y.natAbs = r at *
    simp (maxSteps := 4000000) (disch := omega) only [go_sem, ↓reduceIte, Nat.reduceAdd, Nat.reduceSub, Nat.reduceMul, Nat.reduceEqDiff, reduceCtorEq, Int.reduceAdd, Int.reduceLT, Int.reduceLE, Int.reduceToNat, Int.reduceNeg, Int.reduceSub, ← List.map_take, ← List.map_drop, wrap64, wrapu64, wrapu32, ← Int.natCast_add, ← Int.natCast_mul, cast_succ, wrapu32_nat, shr32, reps_wd, map_set_wd, List.length_set, zs_len, Try.f76, reps, fillAll, refP, elems, List.headD, h1, h2, hn, hx1]
    refine W_drawn ?_
    simp (maxSteps := 4000000) (disch := omega) only [go_sem, ↓reduceIte, Nat.reduceAdd, Nat.reduceSub, Nat.reduceMul, Nat.reduceEqDiff, reduceCtorEq, Int.reduceAdd, Int.reduceLT, Int.reduceLE, Int.reduceToNat, Int.reduceNeg, Int.reduceSub, ← List.map_take, ← List.map_drop, wrap64, wrapu64, wrapu32, ← Int.natCast_add, ← Int.natCast_mul, cast_succ, wrapu32_nat, shr32, reps_wd, map_set_wd, List.length_set, zs_len, reps, fillAll, refP, elems, List.headD, p1, p2]
    refine ⟨by rfl, ?_⟩
    simp (maxSteps := 4000000) (disch := omega) only [go_sem, ↓reduceIte, Nat.reduceAdd, Nat.reduceSub, Nat.reduceMul, Nat.reduceEqDiff, reduceCtorEq, Int.reduceAdd, Int.reduceLT, Int.reduceLE, Int.reduceToNat, Int.reduceNeg, Int.reduceSub, ← List.map_take, ← List.map_drop, wrap64, wrapu64, wrapu32, ← Int.natCast_add, ← Int.natCast_mul, cast_succ, wrapu32_nat, shr32, reps_wd, map_set_wd, List.length_set, zs_len, p3, p4, hx1, hn]
    refine W_drawn ?_
    simp (maxSteps := 4000000) (disch := omega) only [go_sem, ↓reduceIte, Nat.reduceAdd, Nat.reduceSub, Nat.reduceMul, Nat.reduceEqDiff, reduceCtorEq, Int.reduceAdd, Int.reduceLT, Int.reduceLE, Int.reduceToNat, Int.reduceNeg, Int.reduceSub, ← List.map_take, ← List.map_drop, wrap64, wrapu64, wrapu32, ← Int.natCast_add, ← Int.natCast_mul, cast_succ, wrapu32_nat, shr32, reps_wd, map_set_wd, List.length_set, zs_len]
    exact ⟨by rfl, (false, false), rfl, by simp, by simp⟩
  · have he := ediv_nat x y hy0 hc
    have p3 := made_dig (ng x != ng y) m.1 (x.natAbs / y.natAbs) h3 (by omega)
    rw [he.1] at p3
    have p4 := made_dig false m.2 (x.natAbs % y.natAbs) h4 (by omega)
    rw [show sg false (x.natAbs % y.natAbs) = x % y from he.2] at p4
    have l1 : (dg (x / y)).length ≤ 4096 := by omega
    have l2 : (dg (x % y)).length ≤ 4096 := by omega
    rw [RI, fm_of l1, fit_of l1, er_of l1] at p3
    rw [RI, fm_of l2, fit_of l2, er_of l2] at p4
    have hm1 : m.1 = true → x / y = 0 := fun h => by rw [← he.1, h3 h]; cases (ng x != ng y) <;> rfl
    have hm2 : m.2 = true → x % y = 0 := fun h => by rw [← he.2, h4 h]; rfl
    have hcond : (ng x && decide (0 < ((dig (x.natAbs % y.natAbs)).length : Int))) = false := by
      rw [Bool.eq_false_iff]
      intro h
      rw [Bool.and_eq_true, decide_eq_true_eq] at h
      refine hc ⟨ng_true.1 h.1, fun e => ?_⟩
      rw [e, dig_zero] at h; simp at h
    clear he lq lr zq zr hc h3 h4 l1 l2
    generalize x.natAbs / y.natAbs = q at *
    generalize x.natAbs % y.natAbs = r at *
    cases hn : ng x with
    | true =>
      rw [hn, Bool.true_and] at hcond
      simp only [I, hn, Bool.true_bne, Bool.false_bne] at h1 p3
      generalize hx1 : ng y = ny at *
      simp (maxSteps := 4000000) (disch := omega) only [go_sem, ↓reduceIte, Nat.reduceAdd, Nat.reduceSub, Nat.reduceMul, Nat.reduceEqDiff, reduceCtorEq, Int.reduceAdd, Int.reduceLT, Int.reduceLE, Int.reduceToNat, Int.reduceNeg, Int.reduceSub, ← List.map_take, ← List.map_drop, wrap64, wrapu64, wrapu32, ← Int.natCast_add, ← Int.natCast_mul, cast_succ, wrapu32_nat, shr32, reps_wd, map_set_wd, List.length_set, zs_len, Try.f76, reps, fillAll, refP, elems, List.headD, h1, h2, hn, hcond, p3, p4, hx1]
      refine W_drawn ?_
      simp (maxSteps := 4000000) (disch := omega) only [go_sem, ↓reduceIte, Nat.reduceAdd, Nat.reduceSub, Nat.reduceMul, Nat.reduceEqDiff, reduceCtorEq, Int.reduceAdd, Int.reduceLT, Int.reduceLE, Int.reduceToNat, Int.reduceNeg, Int.reduceSub, ← List.map_take, ← List.map_drop, wrap64, wrapu64, wrapu32, ← Int.natCast_add, ← Int.natCast_mul, cast_succ, wrapu32_nat, shr32, reps_wd, map_set_wd, List.length_set, zs_len]
      exact ⟨by rfl, m, rfl, hm1, hm2⟩
    | false =>
      simp only [I, hn, Bool.true_bne, Bool.false_bne] at h1 p3
      generalize hx1 : ng y = ny at *
      simp (maxSteps := 4000000) (disch := omega) only [go_sem, ↓reduceIte, Nat.reduceAdd, Nat.reduceSub, Nat.reduceMul, Nat.reduceEqDiff, reduceCtorEq, Int.reduceAdd, Int.reduceLT, Int.reduceLE, Int.reduceToNat, Int.reduceNeg, Int.reduceSub, ← List.map_take, ← List.map_drop, wrap64, wrapu64, wrapu32, ← Int.natCast_add, ← Int.natCast_mul, cast_succ, wrapu32_nat, shr32, reps_wd, map_set_wd, List.length_set, zs_len, Try.f76, reps, fillAll, refP, elems, List.headD, h1, h2, hn, p3, p4, hx1, Bool.not_not]
      refine W_drawn ?_
      simp (maxSteps := 4000000) (disch := omega) only [go_sem, ↓reduceIte, Nat.reduceAdd, Nat.reduceSub, Nat.reduceMul, Nat.reduceEqDiff, reduceCtorEq, Int.reduceAdd, Int.reduceLT, Int.reduceLE, Int.reduceToNat, Int.reduceNeg, Int.reduceSub, ← List.map_take, ← List.map_drop, wrap64, wrapu64, wrapu32, ← Int.natCast_add, ← Int.natCast_mul, cast_succ, wrapu32_nat, shr32, reps_wd, map_set_wd, List.length_set, zs_len]
      exact ⟨by rfl, m, rfl, hm1, hm2⟩
theorem div_zero (ma : Bool) (x : Int) (mb : Bool) (hx : (dg x).length ≤ 4096) : denP E 76 [I ma x, I mb 0] = some (.ret (.tup [I true 0, I true 0, .int .i64 2])) := by
  refine denP_eq E76 rfl (by simp [AV.pureL, AV.pure, pure_wd]) ?_
  have h1 := valid2_I ma x mb 0 hx (by rw [dg_zero]; simp)
  simp only [I, ng_zero, dg_zero, List.map_nil] at h1
  simp (maxSteps := 4000000) (disch := omega) only [go_sem, ↓reduceIte, Nat.reduceAdd, Nat.reduceSub, Nat.reduceMul, Nat.reduceEqDiff, reduceCtorEq, Int.reduceAdd, Int.reduceLT, Int.reduceLE, Int.reduceToNat, Int.reduceNeg, Int.reduceSub, ← List.map_take, ← List.map_drop, wrap64, wrapu64, wrapu32, ← Int.natCast_add, ← Int.natCast_mul, cast_succ, wrapu32_nat, shr32, reps_wd, map_set_wd, List.length_set, zs_len, Try.f76, reps, fillAll, refP, elems, List.headD, h1, ng_zero, dg_zero, List.map_nil, places]
end Go.Proofs.Ytmgmcnoobgljpaa

/- Walks: rests in computations that keep their first error. (Own work of this repo.) -/
namespace Go.Proofs.Ytmgmcnoobgljpaa
open Vm
set_option maxRecDepth 10000

theorem rest_len {x y : Int} (hy : (dg y).length ≤ 4096) (hy0 : y ≠ 0) : (dg (x % y)).length ≤ 4096 := by
  refine Nat.le_trans (dg_mono ?_) hy
  have h1 := Int.emod_nonneg x hy0
  have h2 := Int.emod_lt x hy0
  omega
theorem chainRest_open (id esz : Nat) (e x y : Int) (f g : Bool) (hx : (dg x).length ≤ 4096) (hy : (dg y).length ≤ 4096) (hy0 : y ≠ 0) (hf : f = true → x = 0) (rest : List AV) (h : Heap) (nx : Nat) (hi : id < nx) (hH : h id = some ⟨.int .i64 e :: rest, true, esz, false⟩) :
    ∃ (fl : Bool) (h' : Heap) (n' : Nat), denO E 60 [.ptr id 0, I f x, I g y] h nx = some (.ret (I fl (if e = 0 then x % y else 0)), h', n') ∧ (fl = true → (if e = 0 then x % y else 0) = 0) ∧ Kept id ⟨.int .i64 e :: rest, true, esz, false⟩ h nx h' n' := by
  have key : ∃ v h' n', denO E 60 [.ptr id 0, I f x, I g y] h nx = some (.ret v, h', n') ∧ ∃ fl : Bool, v = I fl (if e = 0 then x % y else 0) ∧ (fl = true → (if e = 0 then x % y else 0) = 0) ∧
      h' id = some ⟨.int .i64 e :: rest, true, esz, false⟩ ∧ nx ≤ n' ∧ ∀ i, i < nx → i ≠ id → h' i = h i := by
    refine denO_intro E60 rfl ?_
    by_cases he : e = 0
    · subst he
      obtain ⟨⟨m1, m2⟩, h1, h2, h3⟩ := div_spec f x g y hx hy hy0 hf
      have hr := rest_len (x := x) hy hy0
      have hk := keep_open id esz 0 (x % y) m2 rest
      simp only [fit_of hr, fm_of hr, er_of hr, kf_fit hr, kval_fit hr, ke_fit hr] at hk
      dsimp only at h1 h3
      generalize x % y = r at *
      generalize x / y = q at *
      simp (maxSteps := 4000000) (disch := omega) only [go_sem, ↓reduceIte, Nat.reduceAdd, Nat.reduceSub, Nat.reduceMul, Nat.reduceEqDiff, reduceCtorEq, Int.reduceAdd, Int.reduceLT, Int.reduceLE, Int.reduceToNat, Int.reduceNeg, Int.reduceSub, ← List.map_take, ← List.map_drop, wrap64, wrapu64, wrapu32, Try.f60, hH, h1]
      refine openK_kept (hk _ _ (by omega) ?_) ?_
      · simp (disch := omega) only [upd_apply, if_pos, if_neg, ↓reduceIte]; exact hH
      intro h' n' k1 k2 k3
      have q := k3 (nx + 1 + 1) (by omega) (by omega)
      simp (disch := omega) only [upd_apply, if_pos, if_neg, ↓reduceIte] at q
      simp (maxSteps := 4000000) (disch := omega) only [go_sem, ↓reduceIte, Nat.reduceAdd, Nat.reduceSub, Nat.reduceMul, Nat.reduceEqDiff, reduceCtorEq, Int.reduceAdd, Int.reduceLT, Int.reduceLE, Int.reduceToNat, Int.reduceNeg, Int.reduceSub, ← List.map_take, ← List.map_drop, wrap64, wrapu64, wrapu32, k1, q]
      refine ⟨m2, rfl, h3, by omega, fun i hi1 hi2 => ?_⟩
      have q := k3 i (by omega) hi2
      simp (disch := omega) only [upd_apply, if_pos, if_neg, ↓reduceIte] at q
      simp (disch := omega) only [upd_apply, if_pos, if_neg, ↓reduceIte]
      exact q
    · simp (maxSteps := 4000000) (disch := omega) only [go_sem, ↓reduceIte, Nat.reduceAdd, Nat.reduceSub, Nat.reduceMul, Nat.reduceEqDiff, reduceCtorEq, Int.reduceAdd, Int.reduceLT, Int.reduceLE, Int.reduceToNat, Int.reduceNeg, Int.reduceSub, ← List.map_take, ← List.map_drop, wrap64, wrapu64, wrapu32, Try.f60, hH, he, places, fillAll, ng_zero, dg_zero]
      exact ⟨true, rfl, fun _ => trivial, by omega, fun i hi1 hi2 => by simp (disch := omega) only [upd_apply, if_pos, if_neg, ↓reduceIte]⟩
  obtain ⟨v, h', n', h1, fl, rfl, h2, h3⟩ := key
  exact ⟨fl, h', n', h1, h2, h3⟩
end Go.Proofs.Ytmgmcnoobgljpaa

/- Walks: one step along both sequences. (Own work of this repo.) -/
namespace Go.Proofs.Ytmgmcnoobgljpaa
open Vm
set_option maxRecDepth 10000

/-- The row of a walker without a modulus. -/
abbrev wrow (e : Int) (fa : Bool) (a : Int) : Blk := ⟨[.int .i64 e, .bool (ng a), .lst fa ((dg a).map wd), .fn 82 [] []], true, 4, false⟩
abbrev pr (f : Bool) (x : Int) (g : Bool) (y : Int) : AV := .agg [.bool (ng x), .lst f ((dg x).map wd), .bool (ng y), .lst g ((dg y).map wd)]
theorem walk1_spec (f : Bool) (x : Int) : denP E 82 [I f x] = some (.ret (I f x)) := by
  refine denP_eq E82 rfl (by simp [AV.pureL, AV.pure, pure_wd]) ?_
  simp (maxSteps := 4000000) (disch := omega) only [go_sem, ↓reduceIte, Nat.reduceAdd, Nat.reduceSub, Nat.reduceMul, Nat.reduceEqDiff, reduceCtorEq, Int.reduceAdd, Int.reduceLT, Int.reduceLE, Int.reduceToNat, Int.reduceNeg, Int.reduceSub, ← List.map_take, ← List.map_drop, wrap64, wrapu64, wrapu32, Try.f82]
/-- What a step leads to: the error, the number. -/
def addW (s : Int × Int × Bool) (x : Int) : Int × Int × Bool := (ke s.1 (x + s.2.1), kval s.1 (x + s.2.1), kf s.1 false (x + s.2.1))
def psiW (e a : Int) (fa : Bool) (x y : Int) (g : Bool) : Int × Int × Bool := addW (mulL (e, 1, false) [(fa, a), (g, y)]) x
def upW (e a : Int) (fa : Bool) (y : Int) (g : Bool) : Int × Int × Bool :=
  match mulL (e, 1, false) [(fa, a), (g, y)] with
  | (e1, v1, f1) => match mulL (e1, 1, false) [(fa, a), (f1, v1)] with
    | (e2, v2, _) => (ke e2 (v2 - y), kval e2 (v2 - y), kf e2 false (v2 - y))
def chiW (e a : Int) (fa : Bool) (x : Int) (f : Bool) (y : Int) (g : Bool) : Int × Int × Bool :=
  match upW e a fa y g with
  | (e3, v3, _) => match mulL (e3, 1, false) [(fa, a), (f, x)] with
    | (e4, v4, _) => (ke e4 (v4 + v3), kval e4 (v4 + v3), kf e4 false (v4 + v3))
theorem one_len : (dg 1).length ≤ 4096 := by have := dg_small (z := 1) (by decide); omega
theorem wpsi_open (wid : Nat) (e a x y : Int) (fa f g : Bool) (ha : (dg a).length ≤ 4096) (hx : (dg x).length ≤ 4096) (hy : (dg y).length ≤ 4096) (h : Heap) (nx : Nat) (hi : wid < nx) (hH : h wid = some (wrow e fa a)) :
    ∃ (h' : Heap) (n' : Nat), denO E 44 [.ptr wid 0, pr f x g y] h nx = some (.ret (I (psiW e a fa x y g).2.2 (psiW e a fa x y g).2.1), h', n') ∧ Kept wid (wrow (psiW e a fa x y g).1 fa a) h nx h' n' := by
  have key : ∃ v h' n', denO E 44 [.ptr wid 0, pr f x g y] h nx = some (.ret v, h', n') ∧ v = I (psiW e a fa x y g).2.2 (psiW e a fa x y g).2.1 ∧
      h' wid = some (wrow (psiW e a fa x y g).1 fa a) ∧ nx ≤ n' ∧ ∀ i, i < nx → i ≠ wid → h' i = h i := by
    refine denO_intro E44 rfl ?_
    have m1 := chainMul_open wid 4 (nx + 2) e [(fa, a), (g, y)] (by simp [ha, hy]) (by simp) [.bool (ng a), .lst fa ((dg a).map wd), .fn 82 [] []]
    have l1 := mulL_len [(fa, a), (g, y)] (e, 1, false) one_len
    unfold psiW addW
    generalize mulL (e, 1, false) [(fa, a), (g, y)] = s1 at *
    obtain ⟨e1, v1, f1⟩ := s1
    dsimp only at *
    have m2 := chainAdd_open wid 4 e1 x v1 f f1 hx l1 [.bool (ng a), .lst fa ((dg a).map wd), .fn 82 [] []]
    have hw := walk1_spec (kf e1 false (x + v1)) (kval e1 (x + v1))
    generalize kf e1 false (x + v1) = f2 at *
    generalize kval e1 (x + v1) = v2 at *
    generalize ke e1 (x + v1) = e2 at *
    have iwidnx0 : (wid = nx) = False := eq_false (by omega); have jwidnx0 : (nx = wid) = False := eq_false (by omega); have iwidnx1 : (wid = nx + 1) = False := eq_false (by omega); have jwidnx1 : (nx + 1 = wid) = False := eq_false (by omega); have iwidnx2 : (wid = nx + 2) = False := eq_false (by omega); have jwidnx2 : (nx + 2 = wid) = False := eq_false (by omega); have iwidnx3 : (wid = nx + 3) = False := eq_false (by omega); have jwidnx3 : (nx + 3 = wid) = False := eq_false (by omega); have iwidnx4 : (wid = nx + 4) = False := eq_false (by omega); have jwidnx4 : (nx + 4 = wid) = False := eq_false (by omega); have iwidnx5 : (wid = nx + 5) = False := eq_false (by omega); have jwidnx5 : (nx + 5 = wid) = False := eq_false (by omega); have iwidnx6 : (wid = nx + 6) = False := eq_false (by omega); have jwidnx6 : (nx + 6 = wid) = False := eq_false (by omega); have iwidnx7 : (wid = nx + 7) = False := eq_false (by omega); have jwidnx7 : (nx + 7 = wid) = False := eq_false (by omega); have iwidnx8 : (wid = nx + 8) = False := eq_false (by omega); have jwidnx8 : (nx + 8 = wid) = False := eq_false (by omega)
    simp (maxSteps := 4000000) only [go_sem, ↓reduceIte, Nat.reduceAdd, Nat.reduceSub, Nat.reduceMul, Nat.reduceEqDiff, reduceCtorEq, Int.reduceAdd, Int.reduceLT, Int.reduceLE, Int.reduceToNat, Int.reduceNeg, Int.reduceSub, ← List.map_take, ← List.map_drop, ne_eq, Nat.reduceLeDiff, Nat.reduceLT, Nat.zero_le, Nat.le_refl, wrap64, wrapu64, wrapu32, ← Int.natCast_add, ← Int.natCast_mul, cast_succ, wrapu32_nat, shr32, reps_wd, map_set_wd, List.length_set, zs_len, Try.f44, hH, Nat.add_assoc, Nat.reduceAdd, off_ne, ne_off, iwidnx0, jwidnx0, iwidnx1, jwidnx1, iwidnx2, jwidnx2, iwidnx3, jwidnx3, iwidnx4, jwidnx4, iwidnx5, jwidnx5, iwidnx6, jwidnx6, iwidnx7, jwidnx7, iwidnx8, jwidnx8]
    refine W_drawn2 ?_
    simp (maxSteps := 4000000) only [go_sem, ↓reduceIte, Nat.reduceAdd, Nat.reduceSub, Nat.reduceMul, Nat.reduceEqDiff, reduceCtorEq, Int.reduceAdd, Int.reduceLT, Int.reduceLE, Int.reduceToNat, Int.reduceNeg, Int.reduceSub, ← List.map_take, ← List.map_drop, ne_eq, Nat.reduceLeDiff, Nat.reduceLT, Nat.zero_le, Nat.le_refl, wrap64, wrapu64, wrapu32, ← Int.natCast_add, ← Int.natCast_mul, cast_succ, wrapu32_nat, shr32, reps_wd, map_set_wd, List.length_set, zs_len, hH, Nat.add_assoc, Nat.reduceAdd, off_ne, ne_off, iwidnx0, jwidnx0, iwidnx1, jwidnx1, iwidnx2, jwidnx2, iwidnx3, jwidnx3, iwidnx4, jwidnx4, iwidnx5, jwidnx5, iwidnx6, jwidnx6, iwidnx7, jwidnx7, iwidnx8, jwidnx8, reps, fillAll]
    refine lnK2_kept [wid, nx + 2] (wid) rfl rfl (by (simp only [upd_apply, ↓reduceIte, Nat.reduceEqDiff, hH, Nat.add_assoc, Nat.reduceAdd, off_ne, ne_off, iwidnx0, jwidnx0, iwidnx1, jwidnx1, iwidnx2, jwidnx2, iwidnx3, jwidnx3, iwidnx4, jwidnx4, iwidnx5, jwidnx5, iwidnx6, jwidnx6, iwidnx7, jwidnx7, iwidnx8, jwidnx8, reach, AV.surfL, AV.surf, cellsAt, List.map_cons, List.map_nil, List.append_nil, List.nil_append, List.cons_append, List.flatMap_cons, List.flatMap_nil]); try rfl) (by (repeat rw [List.forall_mem_cons]); (refine ⟨?_, ?_⟩ <;> (try omega)); simp; (try omega)) (m1 _ _ (by omega) (by omega) (by omega) (by simp (disch := omega) [Heap.only, upd_apply, if_neg, hH]) (by simp (disch := omega) [Heap.only, upd_apply, if_neg, rowI])) (by simp only [AV.pure, AV.pureL, pure_wd]; rfl) (by (simp only [upd_apply, ↓reduceIte, Nat.reduceEqDiff, hH, Nat.add_assoc, Nat.reduceAdd, off_ne, ne_off, iwidnx0, jwidnx0, iwidnx1, jwidnx1, iwidnx2, jwidnx2, iwidnx3, jwidnx3, iwidnx4, jwidnx4, iwidnx5, jwidnx5, iwidnx6, jwidnx6, iwidnx7, jwidnx7, iwidnx8, jwidnx8, List.all_cons, List.all_nil, AV.withinL, AV.within, pure_wd, Option.isSome_some, Bool.true_and, Bool.and_true, Bool.and_self, List.contains_cons, beq_self_eq_true, Bool.or_true, Bool.true_or]); try rfl) ?_
    simp (maxSteps := 4000000) only [go_sem, ↓reduceIte, Nat.reduceAdd, Nat.reduceSub, Nat.reduceMul, Nat.reduceEqDiff, reduceCtorEq, Int.reduceAdd, Int.reduceLT, Int.reduceLE, Int.reduceToNat, Int.reduceNeg, Int.reduceSub, ← List.map_take, ← List.map_drop, ne_eq, Nat.reduceLeDiff, Nat.reduceLT, Nat.zero_le, Nat.le_refl, wrap64, wrapu64, wrapu32, ← Int.natCast_add, ← Int.natCast_mul, cast_succ, wrapu32_nat, shr32, reps_wd, map_set_wd, List.length_set, zs_len, hH, Nat.add_assoc, Nat.reduceAdd, off_ne, ne_off, iwidnx0, jwidnx0, iwidnx1, jwidnx1, iwidnx2, jwidnx2, iwidnx3, jwidnx3, iwidnx4, jwidnx4, iwidnx5, jwidnx5, iwidnx6, jwidnx6, iwidnx7, jwidnx7, iwidnx8, jwidnx8, reps, fillAll]
    refine lnK2_kept [wid] (wid) rfl rfl (by (simp only [upd_apply, ↓reduceIte, Nat.reduceEqDiff, hH, Nat.add_assoc, Nat.reduceAdd, off_ne, ne_off, iwidnx0, jwidnx0, iwidnx1, jwidnx1, iwidnx2, jwidnx2, iwidnx3, jwidnx3, iwidnx4, jwidnx4, iwidnx5, jwidnx5, iwidnx6, jwidnx6, iwidnx7, jwidnx7, iwidnx8, jwidnx8, reach, AV.surfL, AV.surf, cellsAt, List.map_cons, List.map_nil, List.append_nil, List.nil_append, List.cons_append, List.flatMap_cons, List.flatMap_nil]); try rfl) (by (repeat rw [List.forall_mem_cons]); (refine ⟨?_, ?_⟩ <;> (try omega)); simp; (try omega)) (m2 _ _ (by omega) (by simp (disch := omega) [Heap.only, upd_apply, if_neg, hH])) (by simp only [AV.pure, AV.pureL, pure_wd]; rfl) (by (simp only [upd_apply, ↓reduceIte, Nat.reduceEqDiff, hH, Nat.add_assoc, Nat.reduceAdd, off_ne, ne_off, iwidnx0, jwidnx0, iwidnx1, jwidnx1, iwidnx2, jwidnx2, iwidnx3, jwidnx3, iwidnx4, jwidnx4, iwidnx5, jwidnx5, iwidnx6, jwidnx6, iwidnx7, jwidnx7, iwidnx8, jwidnx8, List.all_cons, List.all_nil, AV.withinL, AV.within, pure_wd, Option.isSome_some, Bool.true_and, Bool.and_true, Bool.and_self, List.contains_cons, beq_self_eq_true, Bool.or_true, Bool.true_or]); try rfl) ?_
    simp (maxSteps := 4000000) only [go_sem, ↓reduceIte, Nat.reduceAdd, Nat.reduceSub, Nat.reduceMul, Nat.reduceEqDiff, reduceCtorEq, Int.reduceAdd, Int.reduceLT, Int.reduceLE, Int.reduceToNat, Int.reduceNeg, Int.reduceSub, ← List.map_take, ← List.map_drop, ne_eq, Nat.reduceLeDiff, Nat.reduceLT, Nat.zero_le, Nat.le_refl, wrap64, wrapu64, wrapu32, ← Int.natCast_add, ← Int.natCast_mul, cast_succ, wrapu32_nat, shr32, reps_wd, map_set_wd, List.length_set, zs_len, hH, Nat.add_assoc, Nat.reduceAdd, off_ne, ne_off, iwidnx0, jwidnx0, iwidnx1, jwidnx1, iwidnx2, jwidnx2, iwidnx3, jwidnx3, iwidnx4, jwidnx4, iwidnx5, jwidnx5, iwidnx6, jwidnx6, iwidnx7, jwidnx7, iwidnx8, jwidnx8, reps, fillAll, hw]
    refine ⟨by exact allW_of [(44, 3), (24, 1)] [0, 1, 3, 7, 0, 16, 48, 0, 128, 0, 512, 1536, 0, 4096, 12288, 28672, 0, 65536, 258048, 523776, 1048560, 2097151, 4194303] (by kernel_rfl) (by ((simp only [List.flatMap_cons, List.flatMap_nil, cr, List.append_nil, List.nil_append, List.cons_append]); rfl)) (by ((simp (disch := omega) [sts, stB, allS, stOk, cr, Dep.ok, loadEff, upd_apply, if_neg, T1, T2, T3, T4, T5, T6, T7, T8, T9, T10, T11, T12, T13, T14, T15, T16, T17, T18, T19, T20, T21, T22, T23, T24, T25, T26, T27, T29, T30, T31, T33, T34, T35, T37, T38, T39, T40, T42, T43, T44, T45, T46, T47, T48, T50, T51, T53, T55, T56, T57, T58, T59, T60, T61, T62, T63, T64, T65, T66, T67, T68, T69, T70, T71, T72, T73, T74, T75, T76, T77, T78, T79, T80, T81, T82, T83, T84, T85, T86, T87, T88, T89, T90, T92, T94, T95, T96, T97, T98, T99, T100, T101, T102, T104, T105, T106, T107, T108, T109, T111, T112, T113, T115, T116, T117, T118, T119, T120, T121, T122, T123, T124, T125, T126, T127, T128, T129, T130, T131, T132, T133, hH, wrow]) <;> (repeat (any_goals apply And.intro)) <;> (first | omega | rfl | (intro hx; first | omega | rfl)))) (by ((repeat ((with_unfolding_all refine And.intro ?_ ?_); (focus ((with_unfolding_all refine ⟨?_, ?_, ?_⟩) <;> ((intro i hi hj); (simp only [cr, Rec.ids, List.map_cons, List.map_nil, List.mem_cons, List.not_mem_nil, or_false, false_or] at hi hj); (first | done | omega)))))); (with_unfolding_all exact True.intro))), ?_⟩
    (refine ⟨by omega, fun i hi1 hi2 => ?_⟩; ((try simp only [upd_apply]); (repeat rw [if_neg (by omega)])))
  obtain ⟨v, h', n', h1, rfl, h2⟩ := key
  exact ⟨h', n', h1, h2⟩
set_option maxHeartbeats 8000000 in
theorem wchi_open (wid : Nat) (e a x y : Int) (fa f g : Bool) (ha : (dg a).length ≤ 4096) (hx : (dg x).length ≤ 4096) (hy : (dg y).length ≤ 4096) (h : Heap) (nx : Nat) (hi : wid < nx) (hH : h wid = some (wrow e fa a)) :
    ∃ (h' : Heap) (n' : Nat), denO E 45 [.ptr wid 0, pr f x g y] h nx = some (.ret (I (chiW e a fa x f y g).2.2 (chiW e a fa x f y g).2.1), h', n') ∧ Kept wid (wrow (chiW e a fa x f y g).1 fa a) h nx h' n' := by
  have key : ∃ v h' n', denO E 45 [.ptr wid 0, pr f x g y] h nx = some (.ret v, h', n') ∧ v = I (chiW e a fa x f y g).2.2 (chiW e a fa x f y g).2.1 ∧
      h' wid = some (wrow (chiW e a fa x f y g).1 fa a) ∧ nx ≤ n' ∧ ∀ i, i < nx → i ≠ wid → h' i = h i := by
    refine denO_intro E45 rfl ?_
    have m1 := chainMul_open wid 4 (nx + 1 + 1) e [(fa, a), (g, y)] (by simp [ha, hy]) (by simp) [.bool (ng a), .lst fa ((dg a).map wd), .fn 82 [] []]
    have l1 := mulL_len [(fa, a), (g, y)] (e, 1, false) one_len
    unfold chiW upW
    generalize mulL (e, 1, false) [(fa, a), (g, y)] = s1 at *
    obtain ⟨e1, v1, f1⟩ := s1
    dsimp only at *
    have m2 := chainMul_open wid 4 (nx + 1 + 1 + 1) e1 [(fa, a), (f1, v1)] (by simp [ha, l1]) (by simp) [.bool (ng a), .lst fa ((dg a).map wd), .fn 82 [] []]
    have l2 := mulL_len [(fa, a), (f1, v1)] (e1, 1, false) one_len
    have hw1 := walk1_spec f1 v1
    generalize mulL (e1, 1, false) [(fa, a), (f1, v1)] = s2 at *
    obtain ⟨e2, v2, f2⟩ := s2
    dsimp only at *
    have m3 := chainSub_open wid 4 e2 v2 y f2 g l2 hy [.bool (ng a), .lst fa ((dg a).map wd), .fn 82 [] []]
    have l3 := kval_len e2 (v2 - y)
    generalize kf e2 false (v2 - y) = f3 at *
    generalize kval e2 (v2 - y) = v3 at *
    generalize ke e2 (v2 - y) = e3 at *
    have m4 := fun k => chainMul_open wid 4 k e3 [(fa, a), (f, x)] (by simp [ha, hx]) (by simp) [.bool (ng a), .lst fa ((dg a).map wd), .fn 82 [] []]
    have l4 := mulL_len [(fa, a), (f, x)] (e3, 1, false) one_len
    generalize mulL (e3, 1, false) [(fa, a), (f, x)] = s4 at *
    obtain ⟨e4, v4, f4⟩ := s4
    dsimp only at *
    have m5 := chainAdd_open wid 4 e4 v4 v3 f4 f3 l4 l3 [.bool (ng a), .lst fa ((dg a).map wd), .fn 82 [] []]
    have hw := walk1_spec (kf e4 false (v4 + v3)) (kval e4 (v4 + v3))
    generalize kf e4 false (v4 + v3) = f5 at *
    generalize kval e4 (v4 + v3) = v5 at *
    generalize ke e4 (v4 + v3) = e5 at *
    have iwidnx0 : (wid = nx) = False := eq_false (by omega); have jwidnx0 : (nx = wid) = False := eq_false (by omega); have iwidnx1 : (wid = nx + 1) = False := eq_false (by omega); have jwidnx1 : (nx + 1 = wid) = False := eq_false (by omega); have iwidnx2 : (wid = nx + 2) = False := eq_false (by omega); have jwidnx2 : (nx + 2 = wid) = False := eq_false (by omega); have iwidnx3 : (wid = nx + 3) = False := eq_false (by omega); have jwidnx3 : (nx + 3 = wid) = False := eq_false (by omega); have iwidnx4 : (wid = nx + 4) = False := eq_false (by omega); have jwidnx4 : (nx + 4 = wid) = False := eq_false (by omega); have iwidnx5 : (wid = nx + 5) = False := eq_false (by omega); have jwidnx5 : (nx + 5 = wid) = False := eq_false (by omega); have iwidnx6 : (wid = nx + 6) = False := eq_false (by omega); have jwidnx6 : (nx + 6 = wid) = False := eq_false (by omega); have iwidnx7 : (wid = nx + 7) = False := eq_false (by omega); have jwidnx7 : (nx + 7 = wid) = False := eq_false (by omega); have iwidnx8 : (wid = nx + 8) = False := eq_false (by omega); have jwidnx8 : (nx + 8 = wid) = False := eq_false (by omega)
    simp (maxSteps := 4000000) only [go_sem, ↓reduceIte, Nat.reduceAdd, Nat.reduceSub, Nat.reduceMul, Nat.reduceEqDiff, reduceCtorEq, Int.reduceAdd, Int.reduceLT, Int.reduceLE, Int.reduceToNat, Int.reduceNeg, Int.reduceSub, ← List.map_take, ← List.map_drop, ne_eq, Nat.reduceLeDiff, Nat.reduceLT, Nat.zero_le, Nat.le_refl, wrap64, wrapu64, wrapu32, ← Int.natCast_add, ← Int.natCast_mul, cast_succ, wrapu32_nat, shr32, reps_wd, map_set_wd, List.length_set, zs_len, Try.f45, hH, Nat.add_assoc, Nat.reduceAdd, off_ne, ne_off, iwidnx0, jwidnx0, iwidnx1, jwidnx1, iwidnx2, jwidnx2, iwidnx3, jwidnx3, iwidnx4, jwidnx4, iwidnx5, jwidnx5, iwidnx6, jwidnx6, iwidnx7, jwidnx7, iwidnx8, jwidnx8]
    obtain ⟨QQ, hQQ⟩ : ∃ QQ : Ex → St → Prop, QQ = fun ex τ => ex = .norm ∧ (∃ g : Nat → AV, τ.sl = [.ptr wid 0, g 1, g 2, .ptr nx 0, .ptr (nx + 1) 0, .ptr (nx + 4) 0, g 6, g 7, g 8, g 9, g 10, g 11, g 12, g 13, g 14, g 15, g 16, g 17, g 18, g 19, g 20, g 21, g 22, g 23, g 24, g 25, g 26, g 27, g 28, g 29, g 30, g 31, g 32, g 33, g 34, g 35, g 36, g 37, g 38, g 39, g 40, g 41, g 42, g 43, g 44, g 45, g 46, g 47, g 48, g 49, g 50, g 51, g 52, g 53, g 54, g 55, g 56, g 57]) ∧ nx + 5 ≤ τ.nx ∧ τ.h wid = some (wrow e3 fa a) ∧
      τ.h nx = some ⟨[.bool (ng x), .lst f ((dg x).map wd), .bool (ng y), .lst g ((dg y).map wd)], true, 4, false⟩ ∧ τ.h (nx + 1) = some ⟨[.bool false, .lst true []], true, 2, false⟩ ∧ τ.h (nx + 4) = some ⟨[.bool (ng v3), .lst f3 ((dg v3).map wd)], true, 2, false⟩ ∧
      ∀ i, i < nx → i ≠ wid → τ.h i = h i := ⟨_, rfl⟩
    refine W_mono (Q := QQ) ?_ ?_
    · refine W_drawn2 ?_
      simp (maxSteps := 4000000) only [go_sem, ↓reduceIte, Nat.reduceAdd, Nat.reduceSub, Nat.reduceMul, Nat.reduceEqDiff, reduceCtorEq, Int.reduceAdd, Int.reduceLT, Int.reduceLE, Int.reduceToNat, Int.reduceNeg, Int.reduceSub, ← List.map_take, ← List.map_drop, ne_eq, Nat.reduceLeDiff, Nat.reduceLT, Nat.zero_le, Nat.le_refl, wrap64, wrapu64, wrapu32, ← Int.natCast_add, ← Int.natCast_mul, cast_succ, wrapu32_nat, shr32, reps_wd, map_set_wd, List.length_set, zs_len, hH, Nat.add_assoc, Nat.reduceAdd, off_ne, ne_off, iwidnx0, jwidnx0, iwidnx1, jwidnx1, iwidnx2, jwidnx2, iwidnx3, jwidnx3, iwidnx4, jwidnx4, iwidnx5, jwidnx5, iwidnx6, jwidnx6, iwidnx7, jwidnx7, iwidnx8, jwidnx8, reps, fillAll]
      refine lnK2_kept [wid, nx + 2] (wid) rfl rfl (by (simp only [upd_apply, ↓reduceIte, Nat.reduceEqDiff, hH, Nat.add_assoc, Nat.reduceAdd, off_ne, ne_off, iwidnx0, jwidnx0, iwidnx1, jwidnx1, iwidnx2, jwidnx2, iwidnx3, jwidnx3, iwidnx4, jwidnx4, iwidnx5, jwidnx5, iwidnx6, jwidnx6, iwidnx7, jwidnx7, iwidnx8, jwidnx8, reach, AV.surfL, AV.surf, cellsAt, List.map_cons, List.map_nil, List.append_nil, List.nil_append, List.cons_append, List.flatMap_cons, List.flatMap_nil]); try rfl) (by (repeat rw [List.forall_mem_cons]); (refine ⟨?_, ?_⟩ <;> (try omega)); simp; (try omega)) (m1 _ _ (by omega) (by omega) (by omega) (by simp (disch := omega) [Heap.only, upd_apply, if_neg, hH]) (by simp (disch := omega) [Heap.only, upd_apply, if_neg, rowI])) (by simp only [AV.pure, AV.pureL, pure_wd]; rfl) (by (simp only [upd_apply, ↓reduceIte, Nat.reduceEqDiff, hH, Nat.add_assoc, Nat.reduceAdd, off_ne, ne_off, iwidnx0, jwidnx0, iwidnx1, jwidnx1, iwidnx2, jwidnx2, iwidnx3, jwidnx3, iwidnx4, jwidnx4, iwidnx5, jwidnx5, iwidnx6, jwidnx6, iwidnx7, jwidnx7, iwidnx8, jwidnx8, List.all_cons, List.all_nil, AV.withinL, AV.within, pure_wd, Option.isSome_some, Bool.true_and, Bool.and_true, Bool.and_self, List.contains_cons, beq_self_eq_true, Bool.or_true, Bool.true_or]); try rfl) ?_
      simp (maxSteps := 4000000) only [go_sem, ↓reduceIte, Nat.reduceAdd, Nat.reduceSub, Nat.reduceMul, Nat.reduceEqDiff, reduceCtorEq, Int.reduceAdd, Int.reduceLT, Int.reduceLE, Int.reduceToNat, Int.reduceNeg, Int.reduceSub, ← List.map_take, ← List.map_drop, ne_eq, Nat.reduceLeDiff, Nat.reduceLT, Nat.zero_le, Nat.le_refl, wrap64, wrapu64, wrapu32, ← Int.natCast_add, ← Int.natCast_mul, cast_succ, wrapu32_nat, shr32, reps_wd, map_set_wd, List.length_set, zs_len, hH, Nat.add_assoc, Nat.reduceAdd, off_ne, ne_off, iwidnx0, jwidnx0, iwidnx1, jwidnx1, iwidnx2, jwidnx2, iwidnx3, jwidnx3, iwidnx4, jwidnx4, iwidnx5, jwidnx5, iwidnx6, jwidnx6, iwidnx7, jwidnx7, iwidnx8, jwidnx8, reps, fillAll, hw1]
      refine lnK2_kept [wid, nx + 3] (wid) rfl rfl (by (simp only [upd_apply, ↓reduceIte, Nat.reduceEqDiff, hH, Nat.add_assoc, Nat.reduceAdd, off_ne, ne_off, iwidnx0, jwidnx0, iwidnx1, jwidnx1, iwidnx2, jwidnx2, iwidnx3, jwidnx3, iwidnx4, jwidnx4, iwidnx5, jwidnx5, iwidnx6, jwidnx6, iwidnx7, jwidnx7, iwidnx8, jwidnx8, reach, AV.surfL, AV.surf, cellsAt, List.map_cons, List.map_nil, List.append_nil, List.nil_append, List.cons_append, List.flatMap_cons, List.flatMap_nil]); try rfl) (by (repeat rw [List.forall_mem_cons]); (refine ⟨?_, ?_⟩ <;> (try omega)); simp; (try omega)) (m2 _ _ (by omega) (by omega) (by omega) (by simp (disch := omega) [Heap.only, upd_apply, if_neg, hH]) (by simp (disch := omega) [Heap.only, upd_apply, if_neg, rowI])) (by simp only [AV.pure, AV.pureL, pure_wd]; rfl) (by (simp only [upd_apply, ↓reduceIte, Nat.reduceEqDiff, hH, Nat.add_assoc, Nat.reduceAdd, off_ne, ne_off, iwidnx0, jwidnx0, iwidnx1, jwidnx1, iwidnx2, jwidnx2, iwidnx3, jwidnx3, iwidnx4, jwidnx4, iwidnx5, jwidnx5, iwidnx6, jwidnx6, iwidnx7, jwidnx7, iwidnx8, jwidnx8, List.all_cons, List.all_nil, AV.withinL, AV.within, pure_wd, Option.isSome_some, Bool.true_and, Bool.and_true, Bool.and_self, List.contains_cons, beq_self_eq_true, Bool.or_true, Bool.true_or]); try rfl) ?_
      simp (maxSteps := 4000000) only [go_sem, ↓reduceIte, Nat.reduceAdd, Nat.reduceSub, Nat.reduceMul, Nat.reduceEqDiff, reduceCtorEq, Int.reduceAdd, Int.reduceLT, Int.reduceLE, Int.reduceToNat, Int.reduceNeg, Int.reduceSub, ← List.map_take, ← List.map_drop, ne_eq, Nat.reduceLeDiff, Nat.reduceLT, Nat.zero_le, Nat.le_refl, wrap64, wrapu64, wrapu32, ← Int.natCast_add, ← Int.natCast_mul, cast_succ, wrapu32_nat, shr32, reps_wd, map_set_wd, List.length_set, zs_len, hH, Nat.add_assoc, Nat.reduceAdd, off_ne, ne_off, iwidnx0, jwidnx0, iwidnx1, jwidnx1, iwidnx2, jwidnx2, iwidnx3, jwidnx3, iwidnx4, jwidnx4, iwidnx5, jwidnx5, iwidnx6, jwidnx6, iwidnx7, jwidnx7, iwidnx8, jwidnx8, reps, fillAll]
      refine lnK2_kept [wid] (wid) rfl rfl (by (simp only [upd_apply, ↓reduceIte, Nat.reduceEqDiff, hH, Nat.add_assoc, Nat.reduceAdd, off_ne, ne_off, iwidnx0, jwidnx0, iwidnx1, jwidnx1, iwidnx2, jwidnx2, iwidnx3, jwidnx3, iwidnx4, jwidnx4, iwidnx5, jwidnx5, iwidnx6, jwidnx6, iwidnx7, jwidnx7, iwidnx8, jwidnx8, reach, AV.surfL, AV.surf, cellsAt, List.map_cons, List.map_nil, List.append_nil, List.nil_append, List.cons_append, List.flatMap_cons, List.flatMap_nil]); try rfl) (by (repeat rw [List.forall_mem_cons]); (refine ⟨?_, ?_⟩ <;> (try omega)); simp; (try omega)) (m3 _ _ (by omega) (by simp (disch := omega) [Heap.only, upd_apply, if_neg, hH])) (by simp only [AV.pure, AV.pureL, pure_wd]; rfl) (by (simp only [upd_apply, ↓reduceIte, Nat.reduceEqDiff, hH, Nat.add_assoc, Nat.reduceAdd, off_ne, ne_off, iwidnx0, jwidnx0, iwidnx1, jwidnx1, iwidnx2, jwidnx2, iwidnx3, jwidnx3, iwidnx4, jwidnx4, iwidnx5, jwidnx5, iwidnx6, jwidnx6, iwidnx7, jwidnx7, iwidnx8, jwidnx8, List.all_cons, List.all_nil, AV.withinL, AV.within, pure_wd, Option.isSome_some, Bool.true_and, Bool.and_true, Bool.and_self, List.contains_cons, beq_self_eq_true, Bool.or_true, Bool.true_or]); try rfl) ?_
      simp (maxSteps := 4000000) only [go_sem, ↓reduceIte, Nat.reduceAdd, Nat.reduceSub, Nat.reduceMul, Nat.reduceEqDiff, reduceCtorEq, Int.reduceAdd, Int.reduceLT, Int.reduceLE, Int.reduceToNat, Int.reduceNeg, Int.reduceSub, ← List.map_take, ← List.map_drop, ne_eq, Nat.reduceLeDiff, Nat.reduceLT, Nat.zero_le, Nat.le_refl, wrap64, wrapu64, wrapu32, ← Int.natCast_add, ← Int.natCast_mul, cast_succ, wrapu32_nat, shr32, reps_wd, map_set_wd, List.length_set, zs_len, hH, Nat.add_assoc, Nat.reduceAdd, off_ne, ne_off, iwidnx0, jwidnx0, iwidnx1, jwidnx1, iwidnx2, jwidnx2, iwidnx3, jwidnx3, iwidnx4, jwidnx4, iwidnx5, jwidnx5, iwidnx6, jwidnx6, iwidnx7, jwidnx7, iwidnx8, jwidnx8, reps, fillAll]
      refine ⟨by exact allW_of [(44, 3), (24, 1)] [0, 1, 3, 0, 8, 24, 0, 64, 192, 448, 0, 1024, 3072, 7168, 0, 16384, 49152, 0, 131072, 393216, 917504, 0, 2097152, 8257536, 16760832, 33553408, 67108800, 134217720, 0, 268435456, 1073741823, 0, 4294967295] (by kernel_rfl) (by ((simp only [List.flatMap_cons, List.flatMap_nil, cr, List.append_nil, List.nil_append, List.cons_append]); rfl)) (by ((simp (disch := omega) [sts, stB, allS, stOk, cr, Dep.ok, loadEff, upd_apply, if_neg, T1, T2, T3, T4, T5, T6, T7, T8, T9, T10, T11, T12, T13, T14, T15, T16, T17, T18, T19, T20, T21, T22, T23, T24, T25, T26, T27, T29, T30, T31, T33, T34, T35, T37, T38, T39, T40, T42, T43, T44, T45, T46, T47, T48, T50, T51, T53, T55, T56, T57, T58, T59, T60, T61, T62, T63, T64, T65, T66, T67, T68, T69, T70, T71, T72, T73, T74, T75, T76, T77, T78, T79, T80, T81, T82, T83, T84, T85, T86, T87, T88, T89, T90, T92, T94, T95, T96, T97, T98, T99, T100, T101, T102, T104, T105, T106, T107, T108, T109, T111, T112, T113, T115, T116, T117, T118, T119, T120, T121, T122, T123, T124, T125, T126, T127, T128, T129, T130, T131, T132, T133, hH, wrow]) <;> (repeat (any_goals apply And.intro)) <;> (first | omega | rfl | (intro hx; first | omega | rfl)))) (by ((repeat ((with_unfolding_all refine And.intro ?_ ?_); (focus ((with_unfolding_all refine ⟨?_, ?_, ?_⟩) <;> ((intro i hi hj); (simp only [cr, Rec.ids, List.map_cons, List.map_nil, List.mem_cons, List.not_mem_nil, or_false, false_or] at hi hj); (first | done | omega)))))); (with_unfolding_all exact True.intro))), ?_⟩
      rw [hQQ]
      refine ⟨rfl, garb rfl, Nat.le_refl _, ?_, ?_, ?_, ?_, ?_⟩
      · simp only [upd_apply, ↓reduceIte, Nat.reduceEqDiff, Nat.add_assoc, Nat.reduceAdd, off_ne, ne_off, iwidnx0, jwidnx0, iwidnx1, jwidnx1, iwidnx2, jwidnx2, iwidnx3, jwidnx3, iwidnx4, jwidnx4, iwidnx5, jwidnx5, iwidnx6, jwidnx6, iwidnx7, jwidnx7, iwidnx8, jwidnx8]
      · simp only [upd_apply, ↓reduceIte, Nat.reduceEqDiff, Nat.add_assoc, Nat.reduceAdd, off_ne, ne_off, iwidnx0, jwidnx0, iwidnx1, jwidnx1, iwidnx2, jwidnx2, iwidnx3, jwidnx3, iwidnx4, jwidnx4, iwidnx5, jwidnx5, iwidnx6, jwidnx6, iwidnx7, jwidnx7, iwidnx8, jwidnx8]
      · simp only [upd_apply, ↓reduceIte, Nat.reduceEqDiff, Nat.add_assoc, Nat.reduceAdd, off_ne, ne_off, iwidnx0, jwidnx0, iwidnx1, jwidnx1, iwidnx2, jwidnx2, iwidnx3, jwidnx3, iwidnx4, jwidnx4, iwidnx5, jwidnx5, iwidnx6, jwidnx6, iwidnx7, jwidnx7, iwidnx8, jwidnx8]
      · simp only [upd_apply, ↓reduceIte, Nat.reduceEqDiff, Nat.add_assoc, Nat.reduceAdd, off_ne, ne_off, iwidnx0, jwidnx0, iwidnx1, jwidnx1, iwidnx2, jwidnx2, iwidnx3, jwidnx3, iwidnx4, jwidnx4, iwidnx5, jwidnx5, iwidnx6, jwidnx6, iwidnx7, jwidnx7, iwidnx8, jwidnx8]
      · intro i hi1 hi2
        (repeat (refine (upd_ne (by omega)).trans ?_))
        rfl
    · rw [hQQ]
      clear hQQ QQ
      rintro ex ⟨sl, H, n⟩ ⟨rfl, ⟨g', rfl⟩, hn, q1, q2, q3, q4, q5⟩
      dsimp only at hn q1 q2 q3 q4 q5
      clear hH m1 m2 m3
      generalize hp1 : nx + 1 = tid at *
      generalize hp4 : nx + 4 = uid at *
      have iwidn0 : (wid = n) = False := eq_false (by omega); have jwidn0 : (n = wid) = False := eq_false (by omega); have iwidn1 : (wid = n + 1) = False := eq_false (by omega); have jwidn1 : (n + 1 = wid) = False := eq_false (by omega); have iwidn2 : (wid = n + 2) = False := eq_false (by omega); have jwidn2 : (n + 2 = wid) = False := eq_false (by omega); have iwidn3 : (wid = n + 3) = False := eq_false (by omega); have jwidn3 : (n + 3 = wid) = False := eq_false (by omega); have iwidn4 : (wid = n + 4) = False := eq_false (by omega); have jwidn4 : (n + 4 = wid) = False := eq_false (by omega); have iwidn5 : (wid = n + 5) = False := eq_false (by omega); have jwidn5 : (n + 5 = wid) = False := eq_false (by omega); have iwidn6 : (wid = n + 6) = False := eq_false (by omega); have jwidn6 : (n + 6 = wid) = False := eq_false (by omega)
      have inxn0 : (nx = n) = False := eq_false (by omega); have jnxn0 : (n = nx) = False := eq_false (by omega); have inxn1 : (nx = n + 1) = False := eq_false (by omega); have jnxn1 : (n + 1 = nx) = False := eq_false (by omega); have inxn2 : (nx = n + 2) = False := eq_false (by omega); have jnxn2 : (n + 2 = nx) = False := eq_false (by omega); have inxn3 : (nx = n + 3) = False := eq_false (by omega); have jnxn3 : (n + 3 = nx) = False := eq_false (by omega); have inxn4 : (nx = n + 4) = False := eq_false (by omega); have jnxn4 : (n + 4 = nx) = False := eq_false (by omega); have inxn5 : (nx = n + 5) = False := eq_false (by omega); have jnxn5 : (n + 5 = nx) = False := eq_false (by omega); have inxn6 : (nx = n + 6) = False := eq_false (by omega); have jnxn6 : (n + 6 = nx) = False := eq_false (by omega)
      have itidn0 : (tid = n) = False := eq_false (by omega); have jtidn0 : (n = tid) = False := eq_false (by omega); have itidn1 : (tid = n + 1) = False := eq_false (by omega); have jtidn1 : (n + 1 = tid) = False := eq_false (by omega); have itidn2 : (tid = n + 2) = False := eq_false (by omega); have jtidn2 : (n + 2 = tid) = False := eq_false (by omega); have itidn3 : (tid = n + 3) = False := eq_false (by omega); have jtidn3 : (n + 3 = tid) = False := eq_false (by omega); have itidn4 : (tid = n + 4) = False := eq_false (by omega); have jtidn4 : (n + 4 = tid) = False := eq_false (by omega); have itidn5 : (tid = n + 5) = False := eq_false (by omega); have jtidn5 : (n + 5 = tid) = False := eq_false (by omega); have itidn6 : (tid = n + 6) = False := eq_false (by omega); have jtidn6 : (n + 6 = tid) = False := eq_false (by omega)
      have iuidn0 : (uid = n) = False := eq_false (by omega); have juidn0 : (n = uid) = False := eq_false (by omega); have iuidn1 : (uid = n + 1) = False := eq_false (by omega); have juidn1 : (n + 1 = uid) = False := eq_false (by omega); have iuidn2 : (uid = n + 2) = False := eq_false (by omega); have juidn2 : (n + 2 = uid) = False := eq_false (by omega); have iuidn3 : (uid = n + 3) = False := eq_false (by omega); have juidn3 : (n + 3 = uid) = False := eq_false (by omega); have iuidn4 : (uid = n + 4) = False := eq_false (by omega); have juidn4 : (n + 4 = uid) = False := eq_false (by omega); have iuidn5 : (uid = n + 5) = False := eq_false (by omega); have juidn5 : (n + 5 = uid) = False := eq_false (by omega); have iuidn6 : (uid = n + 6) = False := eq_false (by omega); have juidn6 : (n + 6 = uid) = False := eq_false (by omega)
      simp (maxSteps := 4000000) only [go_sem, ↓reduceIte, Nat.reduceAdd, Nat.reduceSub, Nat.reduceMul, Nat.reduceEqDiff, reduceCtorEq, Int.reduceAdd, Int.reduceLT, Int.reduceLE, Int.reduceToNat, Int.reduceNeg, Int.reduceSub, ← List.map_take, ← List.map_drop, ne_eq, Nat.reduceLeDiff, Nat.reduceLT, Nat.zero_le, Nat.le_refl, wrap64, wrapu64, wrapu32, ← Int.natCast_add, ← Int.natCast_mul, cast_succ, wrapu32_nat, shr32, reps_wd, map_set_wd, List.length_set, zs_len, q1, q2, q3, q4]
      refine W_drawn2 ?_
      simp (maxSteps := 4000000) only [go_sem, ↓reduceIte, Nat.reduceAdd, Nat.reduceSub, Nat.reduceMul, Nat.reduceEqDiff, reduceCtorEq, Int.reduceAdd, Int.reduceLT, Int.reduceLE, Int.reduceToNat, Int.reduceNeg, Int.reduceSub, ← List.map_take, ← List.map_drop, ne_eq, Nat.reduceLeDiff, Nat.reduceLT, Nat.zero_le, Nat.le_refl, wrap64, wrapu64, wrapu32, ← Int.natCast_add, ← Int.natCast_mul, cast_succ, wrapu32_nat, shr32, reps_wd, map_set_wd, List.length_set, zs_len, q1, q2, q3, q4, Nat.add_assoc, Nat.reduceAdd, off_ne, ne_off, iwidnx0, jwidnx0, iwidnx1, jwidnx1, iwidnx2, jwidnx2, iwidnx3, jwidnx3, iwidnx4, jwidnx4, iwidnx5, jwidnx5, iwidnx6, jwidnx6, iwidnx7, jwidnx7, iwidnx8, jwidnx8, Nat.add_assoc, Nat.reduceAdd, off_ne, ne_off, iwidn0, jwidn0, iwidn1, jwidn1, iwidn2, jwidn2, iwidn3, jwidn3, iwidn4, jwidn4, iwidn5, jwidn5, iwidn6, jwidn6, Nat.add_assoc, Nat.reduceAdd, off_ne, ne_off, inxn0, jnxn0, inxn1, jnxn1, inxn2, jnxn2, inxn3, jnxn3, inxn4, jnxn4, inxn5, jnxn5, inxn6, jnxn6, Nat.add_assoc, Nat.reduceAdd, off_ne, ne_off, itidn0, jtidn0, itidn1, jtidn1, itidn2, jtidn2, itidn3, jtidn3, itidn4, jtidn4, itidn5, jtidn5, itidn6, jtidn6, Nat.add_assoc, Nat.reduceAdd, off_ne, ne_off, iuidn0, juidn0, iuidn1, juidn1, iuidn2, juidn2, iuidn3, juidn3, iuidn4, juidn4, iuidn5, juidn5, iuidn6, juidn6, reps, fillAll]
      refine lnK2_kept [wid, n] (wid) rfl rfl (by (simp only [upd_apply, ↓reduceIte, Nat.reduceEqDiff, q1, Nat.add_assoc, Nat.reduceAdd, off_ne, ne_off, iwidnx0, jwidnx0, iwidnx1, jwidnx1, iwidnx2, jwidnx2, iwidnx3, jwidnx3, iwidnx4, jwidnx4, iwidnx5, jwidnx5, iwidnx6, jwidnx6, iwidnx7, jwidnx7, iwidnx8, jwidnx8, Nat.add_assoc, Nat.reduceAdd, off_ne, ne_off, iwidn0, jwidn0, iwidn1, jwidn1, iwidn2, jwidn2, iwidn3, jwidn3, iwidn4, jwidn4, iwidn5, jwidn5, iwidn6, jwidn6, reach, AV.surfL, AV.surf, cellsAt, List.map_cons, List.map_nil, List.append_nil, List.nil_append, List.cons_append, List.flatMap_cons, List.flatMap_nil]); try rfl) (by (repeat rw [List.forall_mem_cons]); (refine ⟨?_, ?_⟩ <;> (try omega)); simp; (try omega)) (m4 _ _ _ (by omega) (by omega) (by omega) (by simp (disch := omega) [Heap.only, upd_apply, if_neg, q1]) (by simp (disch := omega) [Heap.only, upd_apply, if_neg, rowI])) (by simp only [AV.pure, AV.pureL, pure_wd]; rfl) (by (simp only [upd_apply, ↓reduceIte, Nat.reduceEqDiff, q1, Nat.add_assoc, Nat.reduceAdd, off_ne, ne_off, iwidnx0, jwidnx0, iwidnx1, jwidnx1, iwidnx2, jwidnx2, iwidnx3, jwidnx3, iwidnx4, jwidnx4, iwidnx5, jwidnx5, iwidnx6, jwidnx6, iwidnx7, jwidnx7, iwidnx8, jwidnx8, Nat.add_assoc, Nat.reduceAdd, off_ne, ne_off, iwidn0, jwidn0, iwidn1, jwidn1, iwidn2, jwidn2, iwidn3, jwidn3, iwidn4, jwidn4, iwidn5, jwidn5, iwidn6, jwidn6, List.all_cons, List.all_nil, AV.withinL, AV.within, pure_wd, Option.isSome_some, Bool.true_and, Bool.and_true, Bool.and_self, List.contains_cons, beq_self_eq_true, Bool.or_true, Bool.true_or]); try rfl) ?_
      simp (maxSteps := 4000000) only [go_sem, ↓reduceIte, Nat.reduceAdd, Nat.reduceSub, Nat.reduceMul, Nat.reduceEqDiff, reduceCtorEq, Int.reduceAdd, Int.reduceLT, Int.reduceLE, Int.reduceToNat, Int.reduceNeg, Int.reduceSub, ← List.map_take, ← List.map_drop, ne_eq, Nat.reduceLeDiff, Nat.reduceLT, Nat.zero_le, Nat.le_refl, wrap64, wrapu64, wrapu32, ← Int.natCast_add, ← Int.natCast_mul, cast_succ, wrapu32_nat, shr32, reps_wd, map_set_wd, List.length_set, zs_len, q1, q2, q3, q4, Nat.add_assoc, Nat.reduceAdd, off_ne, ne_off, iwidnx0, jwidnx0, iwidnx1, jwidnx1, iwidnx2, jwidnx2, iwidnx3, jwidnx3, iwidnx4, jwidnx4, iwidnx5, jwidnx5, iwidnx6, jwidnx6, iwidnx7, jwidnx7, iwidnx8, jwidnx8, Nat.add_assoc, Nat.reduceAdd, off_ne, ne_off, iwidn0, jwidn0, iwidn1, jwidn1, iwidn2, jwidn2, iwidn3, jwidn3, iwidn4, jwidn4, iwidn5, jwidn5, iwidn6, jwidn6, Nat.add_assoc, Nat.reduceAdd, off_ne, ne_off, inxn0, jnxn0, inxn1, jnxn1, inxn2, jnxn2, inxn3, jnxn3, inxn4, jnxn4, inxn5, jnxn5, inxn6, jnxn6, Nat.add_assoc, Nat.reduceAdd, off_ne, ne_off, itidn0, jtidn0, itidn1, jtidn1, itidn2, jtidn2, itidn3, jtidn3, itidn4, jtidn4, itidn5, jtidn5, itidn6, jtidn6, Nat.add_assoc, Nat.reduceAdd, off_ne, ne_off, iuidn0, juidn0, iuidn1, juidn1, iuidn2, juidn2, iuidn3, juidn3, iuidn4, juidn4, iuidn5, juidn5, iuidn6, juidn6, reps, fillAll]
      refine lnK2_kept [wid] (wid) rfl rfl (by (simp only [upd_apply, ↓reduceIte, Nat.reduceEqDiff, q1, Nat.add_assoc, Nat.reduceAdd, off_ne, ne_off, iwidnx0, jwidnx0, iwidnx1, jwidnx1, iwidnx2, jwidnx2, iwidnx3, jwidnx3, iwidnx4, jwidnx4, iwidnx5, jwidnx5, iwidnx6, jwidnx6, iwidnx7, jwidnx7, iwidnx8, jwidnx8, Nat.add_assoc, Nat.reduceAdd, off_ne, ne_off, iwidn0, jwidn0, iwidn1, jwidn1, iwidn2, jwidn2, iwidn3, jwidn3, iwidn4, jwidn4, iwidn5, jwidn5, iwidn6, jwidn6, reach, AV.surfL, AV.surf, cellsAt, List.map_cons, List.map_nil, List.append_nil, List.nil_append, List.cons_append, List.flatMap_cons, List.flatMap_nil]); try rfl) (by (repeat rw [List.forall_mem_cons]); (refine ⟨?_, ?_⟩ <;> (try omega)); simp; (try omega)) (m5 _ _ (by omega) (by simp (disch := omega) [Heap.only, upd_apply, if_neg, q1])) (by simp only [AV.pure, AV.pureL, pure_wd]; rfl) (by (simp only [upd_apply, ↓reduceIte, Nat.reduceEqDiff, q1, Nat.add_assoc, Nat.reduceAdd, off_ne, ne_off, iwidnx0, jwidnx0, iwidnx1, jwidnx1, iwidnx2, jwidnx2, iwidnx3, jwidnx3, iwidnx4, jwidnx4, iwidnx5, jwidnx5, iwidnx6, jwidnx6, iwidnx7, jwidnx7, iwidnx8, jwidnx8, Nat.add_assoc, Nat.reduceAdd, off_ne, ne_off, iwidn0, jwidn0, iwidn1, jwidn1, iwidn2, jwidn2, iwidn3, jwidn3, iwidn4, jwidn4, iwidn5, jwidn5, iwidn6, jwidn6, List.all_cons, List.all_nil, AV.withinL, AV.within, pure_wd, Option.isSome_some, Bool.true_and, Bool.and_true, Bool.and_self, List.contains_cons, beq_self_eq_true, Bool.or_true, Bool.true_or]); try rfl) ?_
      simp (maxSteps := 4000000) only [go_sem, ↓reduceIte, Nat.reduceAdd, Nat.reduceSub, Nat.reduceMul, Nat.reduceEqDiff, reduceCtorEq, Int.reduceAdd, Int.reduceLT, Int.reduceLE, Int.reduceToNat, Int.reduceNeg, Int.reduceSub, ← List.map_take, ← List.map_drop, ne_eq, Nat.reduceLeDiff, Nat.reduceLT, Nat.zero_le, Nat.le_refl, wrap64, wrapu64, wrapu32, ← Int.natCast_add, ← Int.natCast_mul, cast_succ, wrapu32_nat, shr32, reps_wd, map_set_wd, List.length_set, zs_len, q1, q2, q3, q4, Nat.add_assoc, Nat.reduceAdd, off_ne, ne_off, iwidnx0, jwidnx0, iwidnx1, jwidnx1, iwidnx2, jwidnx2, iwidnx3, jwidnx3, iwidnx4, jwidnx4, iwidnx5, jwidnx5, iwidnx6, jwidnx6, iwidnx7, jwidnx7, iwidnx8, jwidnx8, Nat.add_assoc, Nat.reduceAdd, off_ne, ne_off, iwidn0, jwidn0, iwidn1, jwidn1, iwidn2, jwidn2, iwidn3, jwidn3, iwidn4, jwidn4, iwidn5, jwidn5, iwidn6, jwidn6, Nat.add_assoc, Nat.reduceAdd, off_ne, ne_off, inxn0, jnxn0, inxn1, jnxn1, inxn2, jnxn2, inxn3, jnxn3, inxn4, jnxn4, inxn5, jnxn5, inxn6, jnxn6, Nat.add_assoc, Nat.reduceAdd, off_ne, ne_off, itidn0, jtidn0, itidn1, jtidn1, itidn2, jtidn2, itidn3, jtidn3, itidn4, jtidn4, itidn5, jtidn5, itidn6, jtidn6, Nat.add_assoc, Nat.reduceAdd, off_ne, ne_off, iuidn0, juidn0, iuidn1, juidn1, iuidn2, juidn2, iuidn3, juidn3, iuidn4, juidn4, iuidn5, juidn5, iuidn6, juidn6, reps, fillAll, hw]
      refine ⟨by exact allW_of [(44, 3), (24, 1)] [0, 1, 3, 7, 0, 16, 48, 0, 128, 384, 0, 1024, 3072, 7168, 0, 16384, 64512, 130944, 0, 524272, 1048575, 2097151] (by kernel_rfl) (by ((simp only [List.flatMap_cons, List.flatMap_nil, cr, List.append_nil, List.nil_append, List.cons_append]); rfl)) (by ((simp (disch := omega) [sts, stB, allS, stOk, cr, Dep.ok, loadEff, upd_apply, if_neg, T1, T2, T3, T4, T5, T6, T7, T8, T9, T10, T11, T12, T13, T14, T15, T16, T17, T18, T19, T20, T21, T22, T23, T24, T25, T26, T27, T29, T30, T31, T33, T34, T35, T37, T38, T39, T40, T42, T43, T44, T45, T46, T47, T48, T50, T51, T53, T55, T56, T57, T58, T59, T60, T61, T62, T63, T64, T65, T66, T67, T68, T69, T70, T71, T72, T73, T74, T75, T76, T77, T78, T79, T80, T81, T82, T83, T84, T85, T86, T87, T88, T89, T90, T92, T94, T95, T96, T97, T98, T99, T100, T101, T102, T104, T105, T106, T107, T108, T109, T111, T112, T113, T115, T116, T117, T118, T119, T120, T121, T122, T123, T124, T125, T126, T127, T128, T129, T130, T131, T132, T133, q1, q2, q3, q4, wrow]) <;> (repeat (any_goals apply And.intro)) <;> (first | omega | rfl | (intro hx; first | omega | rfl)))) (by ((repeat ((with_unfolding_all refine And.intro ?_ ?_); (focus ((with_unfolding_all refine ⟨?_, ?_, ?_⟩) <;> ((intro i hi hj); (simp only [cr, Rec.ids, List.map_cons, List.map_nil, List.mem_cons, List.not_mem_nil, or_false, false_or] at hi hj); (first | done | omega)))))); (with_unfolding_all exact True.intro))), ?_⟩
      refine ⟨by omega, fun i hi1 hi2 => ?_⟩
      (repeat rw [if_neg (by omega)])
      exact q5 i hi1 hi2
  obtain ⟨v, h', n', h1, rfl, h2⟩ := key
  exact ⟨h', n', h1, h2⟩
end Go.Proofs.Ytmgmcnoobgljpaa

/- Walks: Power. (Own work of this repo.) -/
namespace Go.Proofs.Ytmgmcnoobgljpaa
open Vm
set_option maxRecDepth 10000

theorem pow_big {x : Int} {e n : Nat} (h : ¬ (dg (x ^ e)).length ≤ 4096) (hen : e ≤ n) : ¬ (dg (x ^ n)).length ≤ 4096 := by
  intro h2
  apply h
  by_cases hx : x.natAbs = 0
  · have hx0 : x = 0 := by omega
    subst hx0
    have : ((0 : Int) ^ e).natAbs ≤ 1 := by
      rw [Int.natAbs_pow]
      cases e with
      | zero => decide
      | succ e => rw [Nat.pow_succ]; simp
    have h3 : (dg ((0 : Int) ^ e)).length ≤ (dg 1).length := dg_mono (by simpa using this)
    have h4 : (dg 1).length ≤ 2 := dg_small (by decide)
    omega
  · refine Nat.le_trans (dg_mono ?_) h2
    rw [Int.natAbs_pow, Int.natAbs_pow]
    exact Nat.pow_le_pow_right (by omega) hen
theorem half_step (n k : Nat) : n / 2 ^ k = 2 * (n / 2 ^ (k + 1)) + n / 2 ^ k % 2 := by
  rw [Nat.pow_succ, ← Nat.div_div_eq_div_mul]
  omega
theorem bit63 {n k : Nat} (hn : n < 9223372036854775808) (hk : k < 63) : IntKind.i64.wrap ((BitVec.ofInt (kb .i64) ((n : Int).fdiv (2 ^ min k (kb .i64))) &&& BitVec.ofInt (kb .i64) 1).toNat : Int) = ((n / 2 ^ k % 2 : Nat) : Int) := by
  rw [shr_nat, show min k (kb .i64) = k from Nat.min_eq_left (by show k ≤ 64; omega)]
  have h1 : n / 2 ^ k ≤ n := Nat.div_le_self _ _
  have := and63 (a := n / 2 ^ k) (b := 1) (by omega) (by decide)
  rw [show (1 : Int) = ((1 : Nat) : Int) from rfl, this, Nat.and_one_is_mod]
end Go.Proofs.Ytmgmcnoobgljpaa
