/- Part 4 of a proof about this seat: Stat, Exa, Lis, Cel, Sys, Rf, Wid, Sy2, Rgt, Dot, Stab, Chn, Chn1, Trd, Hol, Ho2, Ho3, Sca, Sum, Rwm, Row5, Ker. (Own work of this repo.) -/
import Derived.Test.YtnpomadbaanpkaaGreatZLinearHolds3
set_option linter.unusedVariables false
set_option linter.unusedSimpArgs false
/- The machine over pure values: a statement that leaves its order open, when what is written always stands in order. (Own work of this repo.) -/
namespace Vm
open Go
def orderOne (all : List Oper) (i : Nat) (r : Rec) : Nat → List Rec → Bool
  | _, [] => true
  | j, s :: ss => (r.quiet && s.quiet || befBit all j i) && orderOne all i r (j + 1) ss
def orderOk (all : List Oper) : Nat → List Rec → Bool
  | _, [] => true
  | i, r :: rs => orderOne all i r (i + 1) rs && orderOk all (i + 1) rs
theorem quiet_ids {r : Rec} (h : r.quiet = true) : r.ids = [] := by
  unfold Rec.quiet at h; unfold Rec.ids
  rw [List.isEmpty_iff] at h; rw [h]; rfl
theorem free_quiet {r s : Rec} (h1 : r.quiet = true) (h2 : s.quiet = true) : r.free s = true := by
  unfold Rec.free; rw [quiet_ids h1, quiet_ids h2]; rfl
theorem orderOne_ok {all : List Oper} {i : Nat} {r : Rec} : ∀ (ss : List Rec) (j : Nat), orderOne all i r j ss = true → dynOne all i r j ss = true
  | [], _, _ => rfl
  | s :: ss, j, h => by
    rw [orderOne, Bool.and_eq_true, Bool.or_eq_true, Bool.and_eq_true] at h
    rw [dynOne, Bool.and_eq_true]
    refine ⟨?_, orderOne_ok ss (j + 1) h.2⟩
    rcases h.1 with ⟨h1, h2⟩ | h1
    · rw [free_quiet h1 h2]
    · rw [h1]; split <;> rfl
theorem orderOk_ok {all : List Oper} : ∀ (rs : List Rec) (i : Nat), orderOk all i rs = true → dynOk all i rs = true
  | [], _, _ => rfl
  | r :: rs, i, h => by
    rw [orderOk, Bool.and_eq_true] at h
    rw [dynOk, orderOne_ok rs _ h.1, orderOk_ok rs _ h.2]; rfl
theorem okR_stat {all : List Oper} {rs : List Rec} (h : orderOk all 0 rs = true) : okR all rs = true := by
  unfold okR; rw [orderOk_ok rs 0 h]; split <;> rfl
/-- The pairs that nothing keeps in order. -/
def pairsOne (all : List Oper) (i : Nat) (r : Rec) : Nat → List Rec → List (Rec × Rec)
  | _, [] => []
  | j, s :: ss => (match r.quiet && s.quiet || befBit all j i with | true => pairsOne all i r (j + 1) ss | false => (r, s) :: pairsOne all i r (j + 1) ss)
def pairs (all : List Oper) : Nat → List Rec → List (Rec × Rec)
  | _, [] => []
  | i, r :: rs => pairsOne all i r (i + 1) rs ++ pairs all (i + 1) rs
def allFree : List (Rec × Rec) → Prop
  | [] => True
  | p :: ps => p.1.free p.2 = true ∧ allFree ps
theorem allFree_mem {l : List (Rec × Rec)} (h : allFree l) : ∀ p ∈ l, p.1.free p.2 = true := by
  induction l with
  | nil => intro p hp; cases hp
  | cons x xs ih =>
    intro p hp
    rcases List.mem_cons.1 hp with rfl | hp
    · exact h.1
    · exact ih h.2 p hp
theorem pairsOne_ok {all : List Oper} {i : Nat} {r : Rec} : ∀ (ss : List Rec) (j : Nat), (∀ p ∈ pairsOne all i r j ss, p.1.free p.2 = true) → dynOne all i r j ss = true
  | [], _, _ => rfl
  | s :: ss, j, h => by
    rw [dynOne, Bool.and_eq_true]
    rw [pairsOne] at h
    cases hc : r.quiet && s.quiet || befBit all j i with
    | true =>
      rw [hc] at h
      refine ⟨?_, pairsOne_ok ss (j + 1) h⟩
      rw [Bool.or_eq_true, Bool.and_eq_true] at hc
      rcases hc with ⟨h1, h2⟩ | h1
      · rw [free_quiet h1 h2]
      · rw [h1]; split <;> rfl
    | false =>
      rw [hc] at h
      refine ⟨?_, pairsOne_ok ss (j + 1) fun p hp => h p (List.mem_cons_of_mem _ hp)⟩
      rw [h (r, s) (List.mem_cons_self ..)]
theorem pairs_ok {all : List Oper} : ∀ (rs : List Rec) (i : Nat), (∀ p ∈ pairs all i rs, p.1.free p.2 = true) → dynOk all i rs = true
  | [], _, _ => rfl
  | r :: rs, i, h => by
    rw [dynOk, Bool.and_eq_true]
    exact ⟨pairsOne_ok rs _ fun p hp => h p (List.mem_append.2 (.inl hp)), pairs_ok rs _ fun p hp => h p (List.mem_append.2 (.inr hp))⟩
theorem okR_pairs {all : List Oper} {rs : List Rec} (h : allFree (pairs all 0 rs)) : okR all rs = true := by
  unfold okR; rw [pairs_ok rs 0 (allFree_mem h)]; split <;> rfl
theorem free_mk {a b c d : List Nat} : (mk a b).free (mk c d) = (b.all (fun x => !(c ++ d).contains x) && d.all (fun x => !a.contains x)) := by
  unfold Rec.free; rw [mk_ids, mk_ids]; rfl
end Vm

/- Walks: further operations that throw. (Own work of this repo.) -/
namespace Go.Proofs.YtnpomadbaanpkaaGreat
open Vm
set_option maxRecDepth 10000

theorem exSub_ret (f g : Bool) (x y : Int) (hx : (dg x).length ≤ 4096) (hy : (dg y).length ≤ 4096) (h : (dg (x - y)).length ≤ 4096) : denP E 70 [I f x, I g y] = some (.ret (I false (x - y))) := by
  refine denP_eq E70 rfl (by simp [AV.pureL, AV.pure, pure_wd]) ?_
  have h1 := sub_spec f x g y hx hy
  rw [RI, fit_of h, fm_of h, er_of h] at h1
  have h2 := exOk_ret false (x - y)
  generalize x - y = z at *
  simp (maxSteps := 4000000) only [go_sem, ↓reduceIte, Nat.reduceAdd, Nat.reduceSub, Nat.reduceMul, Nat.reduceEqDiff, reduceCtorEq, Int.reduceAdd, Int.reduceLT, Int.reduceLE, Int.reduceToNat, Int.reduceNeg, Int.reduceSub, ← List.map_take, ← List.map_drop, ne_eq, Nat.reduceLeDiff, Nat.reduceLT, Nat.zero_le, Nat.le_refl, wrap64, wrapu64, wrapu32, ← Int.natCast_add, ← Int.natCast_mul, cast_succ, wrapu32_nat, shr32, reps_wd, map_set_wd, List.length_set, zs_len, Tryz.f70, h1, h2, places, fillAll]
theorem exSub_pan (f g : Bool) (x y : Int) (hx : (dg x).length ≤ 4096) (hy : (dg y).length ≤ 4096) (h : ¬ (dg (x - y)).length ≤ 4096) : denP E 70 [I f x, I g y] = some (.panic (Thr 4)) := by
  refine denP_pan E70 rfl (by simp [AV.pureL, AV.pure, pure_wd]) ?_
  have h1 := sub_spec f x g y hx hy
  rw [RI, er_no h] at h1
  have h2 := exOk_pan (fm false (x - y)) (fit (x - y)) 4 (by decide)
  generalize fit (x - y) = z at *
  generalize fm false (x - y) = fl at *
  simp (maxSteps := 4000000) only [go_sem, ↓reduceIte, Nat.reduceAdd, Nat.reduceSub, Nat.reduceMul, Nat.reduceEqDiff, reduceCtorEq, Int.reduceAdd, Int.reduceLT, Int.reduceLE, Int.reduceToNat, Int.reduceNeg, Int.reduceSub, ← List.map_take, ← List.map_drop, ne_eq, Nat.reduceLeDiff, Nat.reduceLT, Nat.zero_le, Nat.le_refl, wrap64, wrapu64, wrapu32, ← Int.natCast_add, ← Int.natCast_mul, cast_succ, wrapu32_nat, shr32, reps_wd, map_set_wd, List.length_set, zs_len, Tryz.f70, h1, h2, places, fillAll]
theorem exDiv_ret (f g : Bool) (x y : Int) (hx : (dg x).length ≤ 4096) (hy : (dg y).length ≤ 4096) (hy0 : y ≠ 0) (hf : f = true → x = 0) :
    ∃ m : Bool × Bool, denP E 61 [I f x, I g y] = some (.ret (.tup [I m.1 (x / y), I m.2 (x % y)])) ∧ (m.1 = true → x / y = 0) ∧ (m.2 = true → x % y = 0) := by
  obtain ⟨m, h1, h2, h3⟩ := div_spec f x g y hx hy hy0 hf
  refine ⟨m, ?_, h2, h3⟩
  refine denP_eq E61 rfl (by simp [AV.pureL, AV.pure, pure_wd]) ?_
  clear h2 h3
  generalize x / y = q at *
  generalize x % y = r at *
  simp (maxSteps := 4000000) only [go_sem, ↓reduceIte, Nat.reduceAdd, Nat.reduceSub, Nat.reduceMul, Nat.reduceEqDiff, reduceCtorEq, Int.reduceAdd, Int.reduceLT, Int.reduceLE, Int.reduceToNat, Int.reduceNeg, Int.reduceSub, ← List.map_take, ← List.map_drop, ne_eq, Nat.reduceLeDiff, Nat.reduceLT, Nat.zero_le, Nat.le_refl, wrap64, wrapu64, wrapu32, ← Int.natCast_add, ← Int.natCast_mul, cast_succ, wrapu32_nat, shr32, reps_wd, map_set_wd, List.length_set, zs_len, Tryz.f61, h1, Int.reduceEq, places, fillAll]
  refine W_drawn ?_
  simp (maxSteps := 4000000) only [go_sem, ↓reduceIte, Nat.reduceAdd, Nat.reduceSub, Nat.reduceMul, Nat.reduceEqDiff, reduceCtorEq, Int.reduceAdd, Int.reduceLT, Int.reduceLE, Int.reduceToNat, Int.reduceNeg, Int.reduceSub, ← List.map_take, ← List.map_drop, ne_eq, Nat.reduceLeDiff, Nat.reduceLT, Nat.zero_le, Nat.le_refl, wrap64, wrapu64, wrapu32, ← Int.natCast_add, ← Int.natCast_mul, cast_succ, wrapu32_nat, shr32, reps_wd, map_set_wd, List.length_set, zs_len, places, fillAll]
  refine okR_pairs ?_; (repeat ((with_unfolding_all refine And.intro ?_ ?_); (focus (rw [free_mk] <;> (try simp) <;> (try omega))))); (with_unfolding_all exact True.intro)
theorem exZero (f : Bool) (x : Int) : denP E 60 [I f x] = some (.ret (.bool (decide (x = 0)))) := by
  refine denP_eq E60 rfl (by simp [AV.pureL, AV.pure, pure_wd]) ?_
  have e : (((dg x).length : Int) = 0) = (x = 0) := propext (by rw [← dg_len0 (z := x)]; omega)
  simp (maxSteps := 4000000) only [go_sem, ↓reduceIte, Nat.reduceAdd, Nat.reduceSub, Nat.reduceMul, Nat.reduceEqDiff, reduceCtorEq, Int.reduceAdd, Int.reduceLT, Int.reduceLE, Int.reduceToNat, Int.reduceNeg, Int.reduceSub, ← List.map_take, ← List.map_drop, ne_eq, Nat.reduceLeDiff, Nat.reduceLT, Nat.zero_le, Nat.le_refl, wrap64, wrapu64, wrapu32, ← Int.natCast_add, ← Int.natCast_mul, cast_succ, wrapu32_nat, shr32, reps_wd, map_set_wd, List.length_set, zs_len, Tryz.f60, e, places, fillAll]
theorem exNeg_ret (f : Bool) (x : Int) (hx : (dg x).length ≤ 4096) : denP E 116 [I f x] = some (.ret (I false (-x))) := by
  refine denP_eq E116 rfl (by simp [AV.pureL, AV.pure, pure_wd]) ?_
  have h1 := exSub_ret true f 0 x (by rw [dg_zero]; simp) hx (by rw [Int.zero_sub, dg_neg]; exact hx)
  rw [Int.zero_sub] at h1
  simp only [I, ng_zero, dg_zero, List.map_nil] at h1
  simp (maxSteps := 4000000) only [go_sem, ↓reduceIte, Nat.reduceAdd, Nat.reduceSub, Nat.reduceMul, Nat.reduceEqDiff, reduceCtorEq, Int.reduceAdd, Int.reduceLT, Int.reduceLE, Int.reduceToNat, Int.reduceNeg, Int.reduceSub, ← List.map_take, ← List.map_drop, ne_eq, Nat.reduceLeDiff, Nat.reduceLT, Nat.zero_le, Nat.le_refl, wrap64, wrapu64, wrapu32, ← Int.natCast_add, ← Int.natCast_mul, cast_succ, wrapu32_nat, shr32, reps_wd, map_set_wd, List.length_set, zs_len, Tryz.f116, h1, places, fillAll]
theorem size_ret (f : Bool) (x : Int) (hx : (dg x).length ≤ 4096) : ∃ o : Bool, denP E 106 [I f x] = some (.ret (I o x.natAbs)) ∧ (o = true → f = true) := by
  by_cases h : x < 0
  · refine ⟨false, ?_, by simp⟩
    refine denP_eq E106 rfl (by simp [AV.pureL, AV.pure, pure_wd]) ?_
    have h1 := exNeg_ret f x hx
    have h2 : ng x = true := by unfold ng; exact decide_eq_true h
    rw [show ((x.natAbs : Nat) : Int) = -x by omega]
    simp only [I, h2] at h1
    simp (maxSteps := 4000000) only [go_sem, ↓reduceIte, Nat.reduceAdd, Nat.reduceSub, Nat.reduceMul, Nat.reduceEqDiff, reduceCtorEq, Int.reduceAdd, Int.reduceLT, Int.reduceLE, Int.reduceToNat, Int.reduceNeg, Int.reduceSub, ← List.map_take, ← List.map_drop, ne_eq, Nat.reduceLeDiff, Nat.reduceLT, Nat.zero_le, Nat.le_refl, wrap64, wrapu64, wrapu32, ← Int.natCast_add, ← Int.natCast_mul, cast_succ, wrapu32_nat, shr32, reps_wd, map_set_wd, List.length_set, zs_len, Tryz.f106, h1, h2, places, fillAll]
  · refine ⟨f, ?_, fun h => h⟩
    refine denP_eq E106 rfl (by simp [AV.pureL, AV.pure, pure_wd]) ?_
    have h2 : ng x = false := by unfold ng; exact decide_eq_false h
    rw [show ((x.natAbs : Nat) : Int) = x by omega]
    simp (maxSteps := 4000000) only [go_sem, ↓reduceIte, Nat.reduceAdd, Nat.reduceSub, Nat.reduceMul, Nat.reduceEqDiff, reduceCtorEq, Int.reduceAdd, Int.reduceLT, Int.reduceLE, Int.reduceToNat, Int.reduceNeg, Int.reduceSub, ← List.map_take, ← List.map_drop, ne_eq, Nat.reduceLeDiff, Nat.reduceLT, Nat.zero_le, Nat.le_refl, wrap64, wrapu64, wrapu32, ← Int.natCast_add, ← Int.natCast_mul, cast_succ, wrapu32_nat, shr32, reps_wd, map_set_wd, List.length_set, zs_len, Tryz.f106, h2, places, fillAll]
theorem valid_eq (neg : Bool) (l : List Nat) : validW neg l = rvalidW neg l := by
  unfold validW rvalidW
  by_cases h : l.length = 0
  · simp [h]
  · by_cases h1 : l.length ≤ 4096 <;> by_cases h2 : l.getD (l.length - 1) 0 = 0 <;> simp [h, h1, h2] <;> omega
theorem validAny (neg nl : Bool) (l : List Nat) (hl : l.length < 9223372036854775808) : denP E 35 [iv neg nl l] = some (.ret (.bool (rvalidW neg l))) := by
  rw [← valid_eq]
  refine denP_eq E35 rfl (by simp [AV.pureL, AV.pure, pure_wd, iv]) ?_
  unfold validW
  by_cases h1 : l.length ≤ 4096
  · by_cases h2 : l.length = 0
    · simp (maxSteps := 4000000) (disch := omega) only [go_sem, ↓reduceIte, Nat.reduceAdd, Nat.reduceSub, Nat.reduceMul, Nat.reduceEqDiff, reduceCtorEq, Int.reduceAdd, Int.reduceLT, Int.reduceLE, Int.reduceToNat, Int.reduceNeg, Int.reduceSub, ← List.map_take, ← List.map_drop, wrap64, wrapu64, wrapu32, Tryz.f35, iv]
    · have e : (l.length : Int) - 1 = (l.length - 1 : Nat) := by omega
      by_cases h3 : l.getD (l.length - 1) 0 = 0
      · simp (maxSteps := 4000000) (disch := omega) only [go_sem, ↓reduceIte, Nat.reduceAdd, Nat.reduceSub, Nat.reduceMul, Nat.reduceEqDiff, reduceCtorEq, Int.reduceAdd, Int.reduceLT, Int.reduceLE, Int.reduceToNat, Int.reduceNeg, Int.reduceSub, ← List.map_take, ← List.map_drop, wrap64, wrapu64, wrapu32, Tryz.f35, iv, e, ne_eq]
      · simp (maxSteps := 4000000) (disch := omega) only [go_sem, ↓reduceIte, Nat.reduceAdd, Nat.reduceSub, Nat.reduceMul, Nat.reduceEqDiff, reduceCtorEq, Int.reduceAdd, Int.reduceLT, Int.reduceLE, Int.reduceToNat, Int.reduceNeg, Int.reduceSub, ← List.map_take, ← List.map_drop, wrap64, wrapu64, wrapu32, Tryz.f35, iv, e, ne_eq]
  · simp (maxSteps := 4000000) (disch := omega) only [go_sem, ↓reduceIte, Nat.reduceAdd, Nat.reduceSub, Nat.reduceMul, Nat.reduceEqDiff, reduceCtorEq, Int.reduceAdd, Int.reduceLT, Int.reduceLE, Int.reduceToNat, Int.reduceNeg, Int.reduceSub, ← List.map_take, ← List.map_drop, wrap64, wrapu64, wrapu32, Tryz.f35, iv]
theorem rValidAny (neg nl : Bool) (l : List Nat) (hl : l.length < 9223372036854775808) : denP E 16 [iv neg nl l] = some (.ret (.bool (rvalidW neg l))) := by
  refine denP_eq E16 rfl (by simp [AV.pureL, AV.pure, pure_wd]) ?_
  unfold rvalidW
  by_cases h2 : l.length = 0
  · simp (maxSteps := 4000000) (disch := omega) only [go_sem, ↓reduceIte, Nat.reduceAdd, Nat.reduceSub, Nat.reduceMul, Nat.reduceEqDiff, reduceCtorEq, Int.reduceAdd, Int.reduceLT, Int.reduceLE, Int.reduceToNat, Int.reduceNeg, Int.reduceSub, ← List.map_take, ← List.map_drop, wrap64, wrapu64, wrapu32, Tryz.f16]
  · have e : (l.length : Int) - 1 = (l.length - 1 : Nat) := by omega
    by_cases h1 : l.length ≤ 4096
    · by_cases h3 : l.getD (l.length - 1) 0 = 0
      · simp (maxSteps := 4000000) (disch := omega) only [go_sem, ↓reduceIte, Nat.reduceAdd, Nat.reduceSub, Nat.reduceMul, Nat.reduceEqDiff, reduceCtorEq, Int.reduceAdd, Int.reduceLT, Int.reduceLE, Int.reduceToNat, Int.reduceNeg, Int.reduceSub, ← List.map_take, ← List.map_drop, wrap64, wrapu64, wrapu32, Tryz.f16, e, ne_eq]
      · simp (maxSteps := 4000000) (disch := omega) only [go_sem, ↓reduceIte, Nat.reduceAdd, Nat.reduceSub, Nat.reduceMul, Nat.reduceEqDiff, reduceCtorEq, Int.reduceAdd, Int.reduceLT, Int.reduceLE, Int.reduceToNat, Int.reduceNeg, Int.reduceSub, ← List.map_take, ← List.map_drop, wrap64, wrapu64, wrapu32, Tryz.f16, e, ne_eq]
    · simp (maxSteps := 4000000) (disch := omega) only [go_sem, ↓reduceIte, Nat.reduceAdd, Nat.reduceSub, Nat.reduceMul, Nat.reduceEqDiff, reduceCtorEq, Int.reduceAdd, Int.reduceLT, Int.reduceLE, Int.reduceToNat, Int.reduceNeg, Int.reduceSub, ← List.map_take, ← List.map_drop, wrap64, wrapu64, wrapu32, Tryz.f16]
end Go.Proofs.YtnpomadbaanpkaaGreat

/- Walks: lists of numbers that are valid. (Own work of this repo.) -/
namespace Go.Proofs.YtnpomadbaanpkaaGreat
open Vm
set_option maxRecDepth 10000

/-- A list of numbers as it comes. -/
abbrev lraw (nl : Bool) (L : List Raw) : AV := .lst nl (L.map ivr)
def okV (q : Raw) : Bool := rvalidW q.1 q.2.2
def okB (q : Raw) : Bool := okV q && decide (bl (val q.2.2) ≤ 200)
/-- No list is longer than the memory. -/
def Short (L : List Raw) : Prop := L.length < 9223372036854775808 ∧ ∀ q ∈ L, q.2.2.length < 9223372036854775808
theorem Short.get {L : List Raw} (h : Short L) (i : Nat) : (L.getD i default).2.2.length < 9223372036854775808 := by
  rw [List.getD_eq_getElem?_getD]
  rcases Nat.lt_or_ge i L.length with h1 | h1
  · rw [List.getElem?_eq_getElem h1]; exact h.2 _ (List.getElem_mem _)
  · rw [List.getElem?_eq_none h1]; show [].length < _; decide
theorem all_upto {p : Raw → Bool} {L : List Raw} (h : ∀ j, j < L.length → p (L.getD j default) = true) : L.all p = true := by
  rw [List.all_eq_true]
  intro q hq
  obtain ⟨j, hj, rfl⟩ := List.getElem_of_mem hq
  have := h j hj
  rwa [List.getD_eq_getElem?_getD, List.getElem?_eq_getElem hj] at this
theorem all_not {p : Raw → Bool} {L : List Raw} {i : Nat} (hi : i < L.length) (h : p (L.getD i default) = false) : L.all p = false := by
  rw [List.all_eq_false]
  refine ⟨L.getD i default, ?_, by rw [h]; simp⟩
  rw [List.getD_eq_getElem?_getD, List.getElem?_eq_getElem hi]
  exact List.getElem_mem _
theorem exValidL (nl : Bool) (L : List Raw) (hs : Short L) : denP E 31 [lraw nl L] = some (.ret (.bool (L.all okV))) := by
  refine denP_eq E31 rfl (by simp [AV.pureL, AV.pure, pure_ivr]) ?_
  have hL := hs.1
  simp (maxSteps := 4000000) (disch := omega) only [go_sem, ↓reduceIte, Nat.reduceAdd, Nat.reduceSub, Nat.reduceMul, Nat.reduceEqDiff, reduceCtorEq, Int.reduceAdd, Int.reduceLT, Int.reduceLE, Int.reduceToNat, Int.reduceNeg, Int.reduceSub, ← List.map_take, ← List.map_drop, wrap64, wrapu64, wrapu32, ← Int.natCast_add, ← Int.natCast_mul, cast_succ, wrapu32_nat, shr32, reps_wd, map_set_wd, List.length_set, zs_len, Tryz.f31]
  refine W_loopS (fun k sl h nx => ∃ i : Nat, (∃ g : Nat → AV, sl = [g 0, g 1, g 2, g 3, g 4, lraw nl L, .int .i64 (L.length : Int), .int .i64 i, g 8, g 9, g 10, g 11, g 12, g 13, g 14]) ∧ i + k = L.length ∧ ∀ j, j < i → okV (L.getD j default) = true) L.length ⟨0, garb rfl, by omega, by omega⟩ ?_
  rintro k _ h nx ⟨i, ⟨g, rfl⟩, hk, hall⟩
  by_cases hk0 : k = 0
  · have hv : L.all okV = true := all_upto fun j hj => hall j (by omega)
    simp (maxSteps := 4000000) (disch := omega) only [go_sem, ↓reduceIte, Nat.reduceAdd, Nat.reduceSub, Nat.reduceMul, Nat.reduceEqDiff, reduceCtorEq, Int.reduceAdd, Int.reduceLT, Int.reduceLE, Int.reduceToNat, Int.reduceNeg, Int.reduceSub, ← List.map_take, ← List.map_drop, wrap64, wrapu64, wrapu32, ← Int.natCast_add, ← Int.natCast_mul, cast_succ, wrapu32_nat, shr32, reps_wd, map_set_wd, List.length_set, zs_len, hv]
  · have hg := get_ivr (L := L) (i := i) (by omega)
    have hq1 := hs.get i
    have hno : okV (L.getD i default) = false → L.all okV = false := all_not (by omega)
    generalize hq : L.getD i default = q at *
    obtain ⟨neg, nlq, l⟩ := q
    dsimp only at hg hq1
    have h1 := validAny neg nlq l hq1
    simp only [iv] at h1
    cases h3 : rvalidW neg l with
    | true =>
      rw [h3] at h1
      simp (maxSteps := 4000000) (disch := omega) only [go_sem, ↓reduceIte, Nat.reduceAdd, Nat.reduceSub, Nat.reduceMul, Nat.reduceEqDiff, reduceCtorEq, Int.reduceAdd, Int.reduceLT, Int.reduceLE, Int.reduceToNat, Int.reduceNeg, Int.reduceSub, ← List.map_take, ← List.map_drop, wrap64, wrapu64, wrapu32, ← Int.natCast_add, ← Int.natCast_mul, cast_succ, wrapu32_nat, shr32, reps_wd, map_set_wd, List.length_set, zs_len, hg, h1]
      refine ⟨k - 1, by omega, i + 1, garb rfl, by omega, fun j hj => ?_⟩
      by_cases hji : j = i
      · subst hji; rw [hq]; exact h3
      · exact hall j (by omega)
    | false =>
      rw [h3] at h1
      have hv := hno h3
      simp (maxSteps := 4000000) (disch := omega) only [go_sem, ↓reduceIte, Nat.reduceAdd, Nat.reduceSub, Nat.reduceMul, Nat.reduceEqDiff, reduceCtorEq, Int.reduceAdd, Int.reduceLT, Int.reduceLE, Int.reduceToNat, Int.reduceNeg, Int.reduceSub, ← List.map_take, ← List.map_drop, wrap64, wrapu64, wrapu32, ← Int.natCast_add, ← Int.natCast_mul, cast_succ, wrapu32_nat, shr32, reps_wd, map_set_wd, List.length_set, zs_len, hg, h1, hv]
theorem refAll (nl : Bool) (L : List Raw) (hs : Short L) : denP E 11 [lraw nl L] = some (.ret (.bool (L.all okV))) := by
  refine denP_eq E11 rfl (by simp [AV.pureL, AV.pure, pure_ivr]) ?_
  have hL := hs.1
  simp (maxSteps := 4000000) (disch := omega) only [go_sem, ↓reduceIte, Nat.reduceAdd, Nat.reduceSub, Nat.reduceMul, Nat.reduceEqDiff, reduceCtorEq, Int.reduceAdd, Int.reduceLT, Int.reduceLE, Int.reduceToNat, Int.reduceNeg, Int.reduceSub, ← List.map_take, ← List.map_drop, wrap64, wrapu64, wrapu32, ← Int.natCast_add, ← Int.natCast_mul, cast_succ, wrapu32_nat, shr32, reps_wd, map_set_wd, List.length_set, zs_len, Tryz.f11]
  refine W_loopS (fun k sl h nx => ∃ i : Nat, (∃ g : Nat → AV, sl = [lraw nl L, g 1, g 2, .int .i64 i, g 4, g 5, g 6, g 7, g 8, g 9, g 10, g 11, g 12, g 13, g 14, g 15]) ∧ i + k = L.length ∧ ∀ j, j < i → okV (L.getD j default) = true) L.length ⟨0, garb rfl, by omega, by omega⟩ ?_
  rintro k _ h nx ⟨i, ⟨g, rfl⟩, hk, hall⟩
  by_cases hk0 : k = 0
  · have hv : L.all okV = true := all_upto fun j hj => hall j (by omega)
    simp (maxSteps := 4000000) (disch := omega) only [go_sem, ↓reduceIte, Nat.reduceAdd, Nat.reduceSub, Nat.reduceMul, Nat.reduceEqDiff, reduceCtorEq, Int.reduceAdd, Int.reduceLT, Int.reduceLE, Int.reduceToNat, Int.reduceNeg, Int.reduceSub, ← List.map_take, ← List.map_drop, wrap64, wrapu64, wrapu32, ← Int.natCast_add, ← Int.natCast_mul, cast_succ, wrapu32_nat, shr32, reps_wd, map_set_wd, List.length_set, zs_len, hv]
  · have hg := get_ivr (L := L) (i := i) (by omega)
    have hq1 := hs.get i
    have hno : okV (L.getD i default) = false → L.all okV = false := all_not (by omega)
    generalize hq : L.getD i default = q at *
    obtain ⟨neg, nlq, l⟩ := q
    dsimp only at hg hq1
    have h1 := rValidAny neg nlq l hq1
    simp only [iv] at h1
    cases h3 : rvalidW neg l with
    | true =>
      rw [h3] at h1
      simp (maxSteps := 4000000) (disch := omega) only [go_sem, ↓reduceIte, Nat.reduceAdd, Nat.reduceSub, Nat.reduceMul, Nat.reduceEqDiff, reduceCtorEq, Int.reduceAdd, Int.reduceLT, Int.reduceLE, Int.reduceToNat, Int.reduceNeg, Int.reduceSub, ← List.map_take, ← List.map_drop, wrap64, wrapu64, wrapu32, ← Int.natCast_add, ← Int.natCast_mul, cast_succ, wrapu32_nat, shr32, reps_wd, map_set_wd, List.length_set, zs_len, hg, h1]
      refine ⟨k - 1, by omega, i + 1, garb rfl, by omega, fun j hj => ?_⟩
      by_cases hji : j = i
      · subst hji; rw [hq]; exact h3
      · exact hall j (by omega)
    | false =>
      rw [h3] at h1
      have hv := hno h3
      simp (maxSteps := 4000000) (disch := omega) only [go_sem, ↓reduceIte, Nat.reduceAdd, Nat.reduceSub, Nat.reduceMul, Nat.reduceEqDiff, reduceCtorEq, Int.reduceAdd, Int.reduceLT, Int.reduceLE, Int.reduceToNat, Int.reduceNeg, Int.reduceSub, ← List.map_take, ← List.map_drop, wrap64, wrapu64, wrapu32, ← Int.natCast_add, ← Int.natCast_mul, cast_succ, wrapu32_nat, shr32, reps_wd, map_set_wd, List.length_set, zs_len, hg, h1, hv]
theorem refNumbers (nl : Bool) (L : List Raw) (hs : Short L) (hr : ∀ q ∈ L, InR q.2.2) : denP E 40 [lraw nl L] = some (.ret (.bool (L.all okB))) := by
  refine denP_eq E40 rfl (by simp [AV.pureL, AV.pure, pure_ivr]) ?_
  have hL := hs.1
  simp (maxSteps := 4000000) (disch := omega) only [go_sem, ↓reduceIte, Nat.reduceAdd, Nat.reduceSub, Nat.reduceMul, Nat.reduceEqDiff, reduceCtorEq, Int.reduceAdd, Int.reduceLT, Int.reduceLE, Int.reduceToNat, Int.reduceNeg, Int.reduceSub, ← List.map_take, ← List.map_drop, wrap64, wrapu64, wrapu32, ← Int.natCast_add, ← Int.natCast_mul, cast_succ, wrapu32_nat, shr32, reps_wd, map_set_wd, List.length_set, zs_len, Tryz.f40]
  refine W_loopS (fun k sl h nx => ∃ i : Nat, (∃ g : Nat → AV, sl = [lraw nl L, g 1, g 2, .int .i64 i, g 4, g 5, g 6, g 7, g 8, g 9, g 10, g 11, g 12, g 13, g 14, g 15, g 16, g 17, g 18, g 19, g 20, g 21, g 22, g 23]) ∧ i + k = L.length ∧ ∀ j, j < i → okB (L.getD j default) = true) L.length ⟨0, garb rfl, by omega, by omega⟩ ?_
  rintro k _ h nx ⟨i, ⟨g, rfl⟩, hk, hall⟩
  by_cases hk0 : k = 0
  · have hv : L.all okB = true := all_upto fun j hj => hall j (by omega)
    simp (maxSteps := 4000000) (disch := omega) only [go_sem, ↓reduceIte, Nat.reduceAdd, Nat.reduceSub, Nat.reduceMul, Nat.reduceEqDiff, reduceCtorEq, Int.reduceAdd, Int.reduceLT, Int.reduceLE, Int.reduceToNat, Int.reduceNeg, Int.reduceSub, ← List.map_take, ← List.map_drop, wrap64, wrapu64, wrapu32, ← Int.natCast_add, ← Int.natCast_mul, cast_succ, wrapu32_nat, shr32, reps_wd, map_set_wd, List.length_set, zs_len, hv]
  · have hg := get_ivr (L := L) (i := i) (by omega)
    have hq1 := hs.get i
    have hno : okB (L.getD i default) = false → L.all okB = false := all_not (by omega)
    have hin : InR (L.getD i default).2.2 := hr _ (by rw [List.getD_eq_getElem?_getD, List.getElem?_eq_getElem (by omega)]; exact List.getElem_mem _)
    generalize hq : L.getD i default = q at *
    obtain ⟨neg, nlq, l⟩ := q
    dsimp only at hg hq1 hin
    have h1 := rValidAny neg nlq l hq1
    simp only [iv] at h1
    cases h3 : rvalidW neg l with
    | true =>
      rw [h3] at h1
      obtain ⟨kl, z, sz, dz⟩ := rvalid_norm (neg := neg) hin h3
      have h2 := rBits_spec nlq z (by rw [dz]; omega)
      simp only [I, sz, dz] at h2
      have hval : val l = z.natAbs := by rw [← dz, val_dg]
      by_cases h4 : bl z.natAbs ≤ 200
      · have z1 : ((200 : Int) < (bl z.natAbs : Int)) = False := eq_false (by omega)
        simp (maxSteps := 4000000) (disch := omega) only [go_sem, ↓reduceIte, Nat.reduceAdd, Nat.reduceSub, Nat.reduceMul, Nat.reduceEqDiff, reduceCtorEq, Int.reduceAdd, Int.reduceLT, Int.reduceLE, Int.reduceToNat, Int.reduceNeg, Int.reduceSub, ← List.map_take, ← List.map_drop, wrap64, wrapu64, wrapu32, ← Int.natCast_add, ← Int.natCast_mul, cast_succ, wrapu32_nat, shr32, reps_wd, map_set_wd, List.length_set, zs_len, hg, h1, h2, z1]
        refine ⟨k - 1, by omega, i + 1, garb rfl, by omega, fun j hj => ?_⟩
        by_cases hji : j = i
        · subst hji; rw [hq]; show (rvalidW neg l && decide (bl (val l) ≤ 200)) = true; rw [h3, hval, decide_eq_true h4]; rfl
        · exact hall j (by omega)
      · have z1 : ((200 : Int) < (bl z.natAbs : Int)) = True := eq_true (by omega)
        have hv := hno (by show (rvalidW neg l && decide (bl (val l) ≤ 200)) = false; rw [hval, decide_eq_false h4, Bool.and_false])
        simp (maxSteps := 4000000) (disch := omega) only [go_sem, ↓reduceIte, Nat.reduceAdd, Nat.reduceSub, Nat.reduceMul, Nat.reduceEqDiff, reduceCtorEq, Int.reduceAdd, Int.reduceLT, Int.reduceLE, Int.reduceToNat, Int.reduceNeg, Int.reduceSub, ← List.map_take, ← List.map_drop, wrap64, wrapu64, wrapu32, ← Int.natCast_add, ← Int.natCast_mul, cast_succ, wrapu32_nat, shr32, reps_wd, map_set_wd, List.length_set, zs_len, hg, h1, h2, z1, hv]
    | false =>
      rw [h3] at h1
      have hv := hno (by show (rvalidW neg l && decide (bl (val l) ≤ 200)) = false; rw [h3, Bool.false_and])
      simp (maxSteps := 4000000) (disch := omega) only [go_sem, ↓reduceIte, Nat.reduceAdd, Nat.reduceSub, Nat.reduceMul, Nat.reduceEqDiff, reduceCtorEq, Int.reduceAdd, Int.reduceLT, Int.reduceLE, Int.reduceToNat, Int.reduceNeg, Int.reduceSub, ← List.map_take, ← List.map_drop, wrap64, wrapu64, wrapu32, ← Int.natCast_add, ← Int.natCast_mul, cast_succ, wrapu32_nat, shr32, reps_wd, map_set_wd, List.length_set, zs_len, hg, h1, hv]
end Go.Proofs.YtnpomadbaanpkaaGreat

/- Cells of lists of numbers. (Own work of this repo.) -/
namespace Go.Proofs.YtnpomadbaanpkaaGreat
open Vm
set_option maxRecDepth 10000

/-- The cells of a list of numbers. -/
def fr : List Raw → List AV
  | [] => []
  | q :: L => .bool q.1 :: .lst q.2.1 (q.2.2.map wd) :: fr L
theorem flat_fr (L : List Raw) : flat (L.map ivr) = fr L := by
  induction L with
  | nil => rfl
  | cons q L ih => simp only [List.map_cons, flat, ih]; rfl
theorem fr_app (L M : List Raw) : fr (L ++ M) = fr L ++ fr M := by
  induction L with
  | nil => rfl
  | cons q L ih => simp only [List.cons_append, fr, ih]
theorem fr_len (L : List Raw) : (fr L).length = L.length * 2 := by
  induction L with
  | nil => rfl
  | cons q L ih => simp only [fr, List.length_cons, ih]; omega
theorem fr_drop : ∀ (L : List Raw) (i : Nat), (fr L).drop (i * 2) = fr (L.drop i)
  | L, 0 => rfl
  | [], i + 1 => by simp [fr]
  | q :: L, i + 1 => by
    rw [Nat.succ_mul]
    simp only [fr, List.drop_succ_cons]
    exact fr_drop L i
theorem fr_take : ∀ (L : List Raw) (i : Nat), (fr L).take (i * 2) = fr (L.take i)
  | L, 0 => rfl
  | [], i + 1 => by simp [fr]
  | q :: L, i + 1 => by
    rw [Nat.succ_mul]
    simp only [fr, List.take_succ_cons, fr_take L i]
theorem fr_get {L : List Raw} {i : Nat} (h : i < L.length) : ((fr L).drop (i * 2)).take 2 = [.bool (L.getD i default).1, .lst (L.getD i default).2.1 ((L.getD i default).2.2.map wd)] := by
  rw [fr_drop, List.drop_eq_getElem_cons h]
  rw [List.getD_eq_getElem?_getD, List.getElem?_eq_getElem h]
  rfl
theorem elems_fr (L : List Raw) : ∀ n, n = L.length → elems true 2 n (fr L) = L.map ivr := by
  induction L with
  | nil => rintro _ rfl; rfl
  | cons q L ih => rintro _ rfl; simp only [List.length_cons, elems, fr, List.map_cons, if_true]; rw [show List.drop 2 (AV.bool q.1 :: AV.lst q.2.1 (q.2.2.map wd) :: fr L) = fr L from rfl, ih _ rfl]; rfl
theorem mapL_fr {n : Nat} {H : Heap} (L : List Raw) : mapL (purify (n + 1) H) (fr L) = some (fr L, []) := by
  induction L with
  | nil => rfl
  | cons q L ih => simp only [fr, mapL, ih, purify_bool, purify_wd]; rfl
theorem fr_set : ∀ (L : List Raw) (i : Nat) (q : Raw), i < L.length → setCells (fr L) (i * 2) [.bool q.1, .lst q.2.1 (q.2.2.map wd)] = fr (L.set i q)
  | [], i, q, h => by simp at h
  | x :: L, 0, q, h => rfl
  | x :: L, i + 1, q, h => by
    have ih := fr_set L i q (by simpa using h)
    rw [Nat.succ_mul]
    simp only [List.set_cons_succ, fr, ← ih]
    simp only [setCells_cons, setCells_nil, List.set_cons_succ]
theorem refP_fr {n : Nat} {H : Heap} {id len : Nat} {L : List Raw} {fz : Bool} (hl : L.length = len) : refP (n + 1) H id 0 len (some ⟨fr L, true, 2, fz⟩) = some (.lst false (L.map ivr), [id]) := by
  subst hl
  unfold refP
  have h1 : ((fr L).drop 0).take (L.length * 2) = fr L := by rw [List.drop_zero, ← fr_len, List.take_length]
  dsimp only
  rw [if_pos ⟨by rw [fr_len]; omega, by simp, .inl rfl⟩, h1, mapL_fr]
  dsimp only
  rw [elems_fr L _ rfl]
/-- Numbers as raw ones. -/
abbrev rz (e : Bool × Int) : Raw := (ng e.2, e.1, dg e.2)
theorem ivr_rz (e : Bool × Int) : ivr (rz e) = I e.1 e.2 := rfl
/-- A list of lists, as it comes. -/
abbrev lr (r : Bool × List Raw) : AV := .lst r.1 (r.2.map ivr)
abbrev mraw (nl : Bool) (A : List (Bool × List Raw)) : AV := .lst nl (A.map lr)
theorem flat_lr (A : List (Bool × List Raw)) : flat (A.map lr) = A.map lr := by
  induction A with
  | nil => rfl
  | cons q L ih => simp only [List.map_cons, flat, ih]; rfl
theorem pure_lr (A : List (Bool × List Raw)) : AV.pureL (A.map lr) = true := by
  induction A with
  | nil => rfl
  | cons q L ih => simp only [List.map_cons, AV.pureL, AV.pure, pure_ivr, ih]; rfl
theorem get_lr {A : List (Bool × List Raw)} {i : Nat} (h : i < A.length) : (A.map lr)[i]? = some (.lst (A.getD i default).1 ((A.getD i default).2.map ivr)) := by
  simp [h]
theorem mapL_lr {n : Nat} {H : Heap} (A : List (Bool × List Raw)) : mapL (purify (n + 1) H) (A.map lr) = some (A.map lr, []) := by
  induction A with
  | nil => rfl
  | cons q L ih => simp only [List.map_cons, mapL, ih, purify_lst (pure_ivr q.2)]; rfl
theorem refP_lr {n : Nat} {H : Heap} {id len : Nat} {A : List (Bool × List Raw)} {fz : Bool} (hl : A.length = len) : refP (n + 1) H id 0 len (some ⟨A.map lr, false, 1, fz⟩) = some (.lst false (A.map lr), [id]) := by
  subst hl
  unfold refP
  dsimp only
  rw [if_pos ⟨by simp, by simp, .inr rfl⟩]
  rw [show ((A.map lr).drop 0).take (A.length * 1) = A.map lr from by rw [List.drop_zero]; exact List.take_of_length_le (by simp), mapL_lr]
  dsimp only
  rw [elems_one _ _ (by simp)]
theorem purify_lraw {n : Nat} {H : Heap} {nl : Bool} {L : List Raw} : purify (n + 1) H (.lst nl (L.map ivr)) = some (.lst nl (L.map ivr), []) := purify_lst (pure_ivr _)
theorem purify_mraw {n : Nat} {H : Heap} {nl : Bool} {A : List (Bool × List Raw)} : purify (n + 1) H (.lst nl (A.map lr)) = some (.lst nl (A.map lr), []) := purify_lst (pure_lr _)
end Go.Proofs.YtnpomadbaanpkaaGreat

/- Walks: systems, and how wide lists are. (Own work of this repo.) -/
namespace Go.Proofs.YtnpomadbaanpkaaGreat
open Vm
set_option maxRecDepth 10000

abbrev Mat := List (Bool × List Raw)
def ShortM (A : Mat) : Prop := A.length < 9223372036854775808 ∧ ∀ r ∈ A, Short r.2
theorem ShortM.get {A : Mat} (h : ShortM A) (i : Nat) : Short (A.getD i default).2 := by
  rw [List.getD_eq_getElem?_getD]
  rcases Nat.lt_or_ge i A.length with h1 | h1
  · rw [List.getElem?_eq_getElem h1]; exact h.2 _ (List.getElem_mem _)
  · rw [List.getElem?_eq_none h1]; exact ⟨by show [].length < _; decide, fun q hq => by cases hq⟩
/-- The greatest number of words. -/
theorem words_spec (nl : Bool) (A : Mat) (hs : ShortM A) : ∃ n : Nat, denP E 12 [mraw nl A] = some (.ret (.int .i64 (n : Int))) ∧ ∀ c : Nat, n ≤ c ↔ ∀ i, i < A.length → ∀ t, t < (A.getD i default).2.length → ((A.getD i default).2.getD t default).2.2.length ≤ c := by
  refine denP_ex (F := fun n : Nat => AV.int .i64 (n : Int)) E12 rfl (by simp [AV.pureL, AV.pure, pure_lr]) ?_
  have hL := hs.1
  simp (maxSteps := 4000000) (disch := omega) only [go_sem, ↓reduceIte, Nat.reduceAdd, Nat.reduceSub, Nat.reduceMul, Nat.reduceEqDiff, reduceCtorEq, Int.reduceAdd, Int.reduceLT, Int.reduceLE, Int.reduceToNat, Int.reduceNeg, Int.reduceSub, ← List.map_take, ← List.map_drop, wrap64, wrapu64, wrapu32, ← Int.natCast_add, ← Int.natCast_mul, cast_succ, wrapu32_nat, shr32, reps_wd, map_set_wd, List.length_set, zs_len, Tryz.f12]
  refine W_loopS (fun k sl h nx => ∃ i n : Nat, (∃ g : Nat → AV, sl = [mraw nl A, g 1, g 2, .int .i64 (n : Int), .int .i64 i, g 5, g 6, g 7, g 8, g 9, g 10, g 11, g 12, g 13, g 14, g 15, g 16, g 17, g 18, g 19, g 20, g 21, g 22, g 23, g 24, g 25, g 26, g 27, g 28, g 29, g 30, g 31, g 32]) ∧ i + k = A.length ∧ n < 9223372036854775808 ∧ ∀ c : Nat, n ≤ c ↔ ∀ j, j < i → ∀ t, t < (A.getD j default).2.length → ((A.getD j default).2.getD t default).2.2.length ≤ c) A.length ⟨0, 0, garb rfl, by omega, by decide, fun c => ⟨fun _ j hj => by omega, fun _ => Nat.zero_le _⟩⟩ ?_
  rintro k _ h nx ⟨i, n, ⟨g, rfl⟩, hk, hn, hall⟩
  by_cases hk0 : k = 0
  · obtain rfl : i = A.length := by omega
    have z1 : ((A.length : Int) < (A.length : Int)) = False := eq_false (by omega)
    simp (maxSteps := 4000000) (disch := omega) only [go_sem, ↓reduceIte, Nat.reduceAdd, Nat.reduceSub, Nat.reduceMul, Nat.reduceEqDiff, reduceCtorEq, Int.reduceAdd, Int.reduceLT, Int.reduceLE, Int.reduceToNat, Int.reduceNeg, Int.reduceSub, ← List.map_take, ← List.map_drop, wrap64, wrapu64, wrapu32, ← Int.natCast_add, ← Int.natCast_mul, cast_succ, wrapu32_nat, shr32, reps_wd, map_set_wd, List.length_set, zs_len, z1]
    exact ⟨n, rfl, hall⟩
  · have hg := get_lr (A := A) (i := i) (by omega)
    have hS := hs.get i
    have hS1 := hS.1
    have z1 : ((i : Int) < (A.length : Int)) = True := eq_true (by omega)
    obtain ⟨R, hR⟩ : ∃ R, R = A.getD i default := ⟨_, rfl⟩
    rw [← hR] at hg hS hS1
    have hout : ∀ n' : Nat, n' < 9223372036854775808 → (∀ c : Nat, n' ≤ c ↔ n ≤ c ∧ ∀ t, t < R.2.length → (R.2.getD t default).2.2.length ≤ c) → ∀ (sl : List AV), (∃ g : Nat → AV, sl = [mraw nl A, g 1, g 2, .int .i64 (n' : Int), .int .i64 ((i + 1 : Nat) : Int), g 5, g 6, g 7, g 8, g 9, g 10, g 11, g 12, g 13, g 14, g 15, g 16, g 17, g 18, g 19, g 20, g 21, g 22, g 23, g 24, g 25, g 26, g 27, g 28, g 29, g 30, g 31, g 32]) →
        ∃ k', k' < k ∧ ∃ i n : Nat, (∃ g : Nat → AV, sl = [mraw nl A, g 1, g 2, .int .i64 (n : Int), .int .i64 i, g 5, g 6, g 7, g 8, g 9, g 10, g 11, g 12, g 13, g 14, g 15, g 16, g 17, g 18, g 19, g 20, g 21, g 22, g 23, g 24, g 25, g 26, g 27, g 28, g 29, g 30, g 31, g 32]) ∧ i + k' = A.length ∧ n < 9223372036854775808 ∧ ∀ c : Nat, n ≤ c ↔ ∀ j, j < i → ∀ t, t < (A.getD j default).2.length → ((A.getD j default).2.getD t default).2.2.length ≤ c := fun n' h1 h2 sl h3 => by
      refine ⟨k - 1, by omega, i + 1, n', h3, by omega, h1, fun c => ?_⟩
      rw [h2 c, hall c, hR]
      constructor
      · rintro ⟨g1, g2⟩ j hj t ht
        by_cases e : j = i
        · subst e; exact g2 t ht
        · exact g1 j (by omega) t ht
      · intro g1
        exact ⟨fun j hj => g1 j (by omega), g1 i (by omega)⟩
    generalize hIQ : (fun (k : Nat) (σ : St) => ∃ i n : Nat, (∃ g : Nat → AV, σ.sl = [mraw nl A, g 1, g 2, .int .i64 (n : Int), .int .i64 i, g 5, g 6, g 7, g 8, g 9, g 10, g 11, g 12, g 13, g 14, g 15, g 16, g 17, g 18, g 19, g 20, g 21, g 22, g 23, g 24, g 25, g 26, g 27, g 28, g 29, g 30, g 31, g 32]) ∧ i + k = A.length ∧ n < 9223372036854775808 ∧ ∀ c : Nat, n ≤ c ↔ ∀ j, j < i → ∀ t, t < (A.getD j default).2.length → ((A.getD j default).2.getD t default).2.2.length ≤ c) = IQ
    clear hall
    simp (maxSteps := 4000000) (disch := omega) only [go_sem, ↓reduceIte, Nat.reduceAdd, Nat.reduceSub, Nat.reduceMul, Nat.reduceEqDiff, reduceCtorEq, Int.reduceAdd, Int.reduceLT, Int.reduceLE, Int.reduceToNat, Int.reduceNeg, Int.reduceSub, ← List.map_take, ← List.map_drop, wrap64, wrapu64, wrapu32, ← Int.natCast_add, ← Int.natCast_mul, cast_succ, wrapu32_nat, shr32, reps_wd, map_set_wd, List.length_set, zs_len, z1]
    refine W_loopS (fun k sl h nx => ∃ t n' : Nat, (∃ g : Nat → AV, sl = [mraw nl A, g 1, g 2, .int .i64 (n' : Int), .int .i64 i, .int .i64 t, g 6, g 7, g 8, g 9, g 10, g 11, g 12, g 13, g 14, g 15, g 16, g 17, g 18, g 19, g 20, g 21, g 22, g 23, g 24, g 25, g 26, g 27, g 28, g 29, g 30, g 31, g 32]) ∧ t + k = R.2.length ∧ n' < 9223372036854775808 ∧ ∀ c : Nat, n' ≤ c ↔ n ≤ c ∧ ∀ u, u < t → (R.2.getD u default).2.2.length ≤ c) R.2.length ⟨0, n, garb rfl, by omega, hn, fun c => ⟨fun h => ⟨h, fun u hu => by omega⟩, fun h => h.1⟩⟩ ?_
    rintro k2 _ h2 nx2 ⟨t, n', ⟨g2, rfl⟩, hk2, hn', hin⟩
    by_cases ht : t = R.2.length
    · have z2 : ((t : Int) < (R.2.length : Int)) = False := eq_false (by omega)
      simp (maxSteps := 4000000) (disch := omega) only [go_sem, ↓reduceIte, Nat.reduceAdd, Nat.reduceSub, Nat.reduceMul, Nat.reduceEqDiff, reduceCtorEq, Int.reduceAdd, Int.reduceLT, Int.reduceLE, Int.reduceToNat, Int.reduceNeg, Int.reduceSub, ← List.map_take, ← List.map_drop, wrap64, wrapu64, wrapu32, ← Int.natCast_add, ← Int.natCast_mul, cast_succ, wrapu32_nat, shr32, reps_wd, map_set_wd, List.length_set, zs_len, hg, z2]
      rw [← hIQ]
      exact hout n' hn' (fun c => by rw [hin c, ht]) _ (garb rfl)
    · have z2 : ((t : Int) < (R.2.length : Int)) = True := eq_true (by omega)
      have hg2 := get_ivr (L := R.2) (i := t) (by omega)
      have hq := hS.get t
      obtain ⟨q, hq0⟩ : ∃ q, q = R.2.getD t default := ⟨_, rfl⟩
      rw [← hq0] at hg2 hq
      obtain ⟨M, hM⟩ : ∃ M, M = max n' q.2.2.length := ⟨_, rfl⟩
      have hmax : (if (n' : Int) < (q.2.2.length : Int) then (q.2.2.length : Int) else (n' : Int)) = (M : Int) := by split <;> omega
      have w1 : IntKind.i64.wrap ((t + 1 : Nat) : Int) = ((t + 1 : Nat) : Int) := wrap64 (by omega) (by omega)
      obtain ⟨qa, qb, qc⟩ := q
      dsimp only at hg2 hq hM hmax
      have hnew : ∀ c : Nat, M ≤ c ↔ n ≤ c ∧ ∀ u, u < t + 1 → (R.2.getD u default).2.2.length ≤ c := fun c => by
        have h3 := hin c
        constructor
        · intro h
          have g := h3.1 (by omega)
          refine ⟨g.1, fun u hu => ?_⟩
          by_cases e : u = t
          · subst e; rw [← hq0]; dsimp only; omega
          · exact g.2 u (by omega)
        · rintro ⟨g1, g3⟩
          have g4 := h3.2 ⟨g1, fun u hu => g3 u (by omega)⟩
          have g5 := g3 t (by omega)
          rw [← hq0] at g5
          dsimp only at g5
          omega
      have hMlt : M < 9223372036854775808 := by omega
      clear hM hin hout hIQ hq0 hq
      simp (maxSteps := 4000000) (disch := omega) only [go_sem, ↓reduceIte, Nat.reduceAdd, Nat.reduceSub, Nat.reduceMul, Nat.reduceEqDiff, reduceCtorEq, Int.reduceAdd, Int.reduceLT, Int.reduceLE, Int.reduceToNat, Int.reduceNeg, Int.reduceSub, ← List.map_take, ← List.map_drop, wrap64, wrapu64, wrapu32, ← Int.natCast_add, ← Int.natCast_mul, cast_succ, wrapu32_nat, shr32, reps_wd, map_set_wd, List.length_set, zs_len, hg, hg2, z2, hmax]
      exact ⟨k2 - 1, by omega, t + 1, M, garb rfl, by omega, hMlt, hnew⟩
/-- What is not wide. -/
def Narrow (L : List Raw) : Prop := L.length ≤ 40 ∧ ∀ t, t < L.length → (L.getD t default).2.2.length ≤ 4200
theorem words_one (nl : Bool) (L : List Raw) (hs : Short L) : ∃ n : Nat, denP E 12 [.lst false [.lst nl (L.map ivr)]] = some (.ret (.int .i64 (n : Int))) ∧ ∀ c : Nat, n ≤ c ↔ ∀ t, t < L.length → (L.getD t default).2.2.length ≤ c := by
  obtain ⟨n, h1, h2⟩ := words_spec false [(nl, L)] ⟨by show 1 < _; decide, fun r hr => by simp at hr; subst hr; exact hs⟩
  refine ⟨n, h1, fun c => ?_⟩
  rw [h2 c]
  constructor
  · intro h; exact h 0 (by simp)
  · intro h i hi
    obtain rfl : i = 0 := by simpa using hi
    exact h
end Go.Proofs.YtnpomadbaanpkaaGreat

/- The machine over pure values: how one walks through a loop over a function. (Own work of this repo.) -/
namespace Vm
open Go
section
variable {E : Env} {σ : St} {Q : Ex → St → Prop}
/-- The loop, its row's states being L. -/
def rfK (E : Env) (Q : Ex → St → Prop) (σ : St) (L : Nat → Blk) : Option AV → Prop
  | some (.fn g a b) => g ≠ 1000003 ∧ ∃ v h' n' s e, denO E g (a ++ [.fn 1000003 [] [.ref σ.nx 0 0]] ++ b) (σ.h.upd σ.nx (some (L 0))) (σ.nx + 1) = some (.ret v, h', n') ∧ h' σ.nx = some (L s) ∧ leftBy s = some e ∧ Q e ⟨σ.sl, h'.upd σ.nx none, n'⟩
  | _ => False
def IsLoop (L : Nat → Blk) (ps : Array Tmp) (asg bd : Code) (sl : List AV) : Prop := ∀ s, L s = loopRow s ps asg bd sl
theorem W_rangeFunc {fo : Operand} {ps : Array Tmp} {asg bd : Code} (h : ∀ L : Nat → Blk, IsLoop L ps asg bd σ.sl → rfK E Q σ L (ev σ.sl fo)) : W E (.rangeFunc fo ps asg bd) σ Q := by
  have h1 := h _ (fun _ => rfl)
  unfold rfK at h1
  split at h1
  · rename_i g a b he
    obtain ⟨hg, v, h', n', s, e, hd, hs, hl, hq⟩ := h1
    refine W_of (r := (e, ⟨σ.sl, h'.upd σ.nx none, n'⟩)) ?_ hq
    have hd' : (cl E (den E)).o g (a ++ [.fn 1000003 [] [.ref σ.nx 0 0]] ++ b) (σ.h.upd σ.nx (some (loopRow 0 ps asg bd σ.sl))) (σ.nx + 1) = some (.ret v, h', n') := hd
    have hst : statusOf (h' σ.nx) = some s := by rw [hs]; unfold statusOf loopRow; rfl
    simp only [step, he]
    rw [if_neg hg, hd']
    simp only [hst, hl]
  · exact h1.elim
/-- A round begins: the loop's variables are set. -/
def beginK (E : Env) (L : Nat → Blk) (id : Nat) (bd : Code) (Q : Ex → St → Prop) : Ex → St → Prop
  | .norm, σ => σ.h id = some (L 0) ∧ W E bd ⟨σ.sl, σ.h.upd id (some (L 1)), σ.nx⟩ Q
  | _, _ => False
/-- It ends. -/
def endK (L : Nat → Blk) (id : Nat) (R : Bool → Heap → Nat → Prop) : Ex → St → Prop
  | .norm, σ => σ.h id = some (L 1) ∧ R true (σ.h.upd id (some (L 0))) σ.nx
  | .ret, σ => σ.h id = some (L 1) ∧ R false (σ.h.upd id (some (L 2))) σ.nx
  | .exit i, σ => σ.h id = some (L 1) ∧ R false (σ.h.upd id (some (L (i + 3)))) σ.nx
  | .panic _, _ => False
theorem beginK_norm {L : Nat → Blk} {id : Nat} {bd : Code} : beginK E L id bd Q .norm σ = (σ.h id = some (L 0) ∧ W E bd ⟨σ.sl, σ.h.upd id (some (L 1)), σ.nx⟩ Q) := rfl
theorem endK_norm {L : Nat → Blk} {id : Nat} {R : Bool → Heap → Nat → Prop} : endK L id R .norm σ = (σ.h id = some (L 1) ∧ R true (σ.h.upd id (some (L 0))) σ.nx) := rfl
theorem endK_ret {L : Nat → Blk} {id : Nat} {R : Bool → Heap → Nat → Prop} : endK L id R .ret σ = (σ.h id = some (L 1) ∧ R false (σ.h.upd id (some (L 2))) σ.nx) := rfl
theorem endK_exit {L : Nat → Blk} {id i : Nat} {R : Bool → Heap → Nat → Prop} : endK L id R (.exit i) σ = (σ.h id = some (L 1) ∧ R false (σ.h.upd id (some (L (i + 3)))) σ.nx) := rfl
theorem turn_loop {L : Nat → Blk} {ps : Array Tmp} {asg bd : Code} {sl : List AV} (hL : IsLoop L ps asg bd sl) (s s' : Nat) : turn s s' (some (L s)) = some (L s') := by
  rw [hL s, hL s']
  unfold turn loopRow
  simp
theorem denO_yield {L : Nat → Blk} {ps : Array Tmp} {asg bd : Code} {sl args : List AV} (hL : IsLoop L ps asg bd sl) {id : Nat} {h : Heap} {nx : Nat} {R : Bool → Heap → Nat → Prop} (hE : E.fn 1000003 = none ∧ E.df 1000003 = none) (hrow : h id = some (L 0)) (hlen : args.length = ps.size)
    (hw : W E asg ⟨setAll sl (ps.toList.zip args), h, nx⟩ (beginK E L id bd (endK L id R))) : ∃ b h' n', denO E 1000003 (args ++ [.ref id 0 0]) h nx = some (.ret (.bool b), h', n') ∧ R b h' n' := by
  obtain ⟨e, σ1, h1, h2⟩ := hw
  cases e with
  | norm =>
    obtain ⟨h3, e2, σ2, h4, h5⟩ := h2
    have hr : rowOf (h id) = some (ps, asg, bd, sl) := by rw [hrow, hL 0]; rfl
    have t1 : turn 0 1 (σ1.h id) = some (L 1) := by rw [h3]; exact turn_loop hL 0 1
    have main : ∀ s b, roundBy e2 = some (s, b) → σ2.h id = some (L 1) → R b (σ2.h.upd id (some (L s))) σ2.nx → ∃ b h' n', denO E 1000003 (args ++ [.ref id 0 0]) h nx = some (.ret (.bool b), h', n') ∧ R b h' n' := by
      intro s b hb h6 hR
      refine ⟨b, _, _, ?_, hR⟩
      have t2 : turn 1 s (σ2.h id) = some (L s) := by rw [h6]; exact turn_loop hL 1 s
      unfold denO
      simp only [body, hE.1, hE.2, if_true, yieldB, List.getLast?_append, List.getLast?_singleton, Option.some_or, refOf, List.dropLast_concat, yieldR, hr, hlen, h1, t1, h4, roundEnd, hb, t2]
    cases e2 with
    | norm => exact main 0 true rfl h5.1 h5.2
    | ret => exact main 2 false rfl h5.1 h5.2
    | exit i => exact main (i + 3) false rfl h5.1 h5.2
    | panic v => exact h5.elim
  | ret => exact h2.elim
  | exit i => exact h2.elim
  | panic v => exact h2.elim
theorem setAll_two {sl : List AV} {t u : Tmp} {x y : AV} : setAll sl (([t, u] : List Tmp).zip [x, y]) = (sl.set t x).set u y := rfl
theorem setAll_one {sl : List AV} {t : Tmp} {x : AV} : setAll sl (([t] : List Tmp).zip [x]) = sl.set t x := rfl
end
attribute [go_sem] setAll_two setAll_one beginK_norm endK_norm endK_ret endK_exit
end Vm

/- Walks: how wide lists are. (Own work of this repo.) -/
namespace Go.Proofs.YtnpomadbaanpkaaGreat
open Vm
set_option maxRecDepth 10000

theorem take_getD {A : Mat} {i : Nat} (h : i < A.length) : A.take (i + 1) = A.take i ++ [A.getD i default] := by
  rw [List.take_add_one, List.getD_eq_getElem?_getD, List.getElem?_eq_getElem h]; rfl
set_option maxHeartbeats 1000000 in
theorem wide_open (nl : Bool) (A : Mat) (hA : ShortM A) (id : Nat) (B : Mat) (hB : ShortM B) (hb : B.length ≤ 10) (h : Heap) (nx : Nat) (hi : id < nx) (hH : h id = some ⟨B.map lr, false, 1, false⟩) :
    ∃ (b : Bool) (h' : Heap) (n' : Nat), denO E 6 [mraw nl A, .ref id 0 B.length] h nx = some (.ret (.bool b), h', n') ∧ nx ≤ n' ∧ (∀ i, i < nx → i ≠ id → h' i = h i) ∧ (b = false → A.length ≤ 20 ∧ ∀ j, j < (B ++ A).length → Narrow ((B ++ A).getD j default).2) := by
  have key : ∃ v h' n', denO E 6 [mraw nl A, .ref id 0 B.length] h nx = some (.ret v, h', n') ∧ (∃ b : Bool, v = .bool b ∧ (b = false → A.length ≤ 20 ∧ ∀ j, j < (B ++ A).length → Narrow ((B ++ A).getD j default).2)) ∧ nx ≤ n' ∧ (∀ i, i < nx → i ≠ id → h' i = h i) := by
    refine denO_intro E6 rfl ?_
    by_cases h20 : 20 < A.length
    · have z1 : ((20 : Int) < (A.length : Int)) = True := eq_true (by omega)
      simp (maxSteps := 4000000) only [go_sem, ↓reduceIte, Nat.reduceAdd, Nat.reduceSub, Nat.reduceMul, Nat.reduceEqDiff, reduceCtorEq, Int.reduceAdd, Int.reduceLT, Int.reduceLE, Int.reduceToNat, Int.reduceNeg, Int.reduceSub, ← List.map_take, ← List.map_drop, ne_eq, Nat.reduceLeDiff, Nat.reduceLT, Nat.zero_le, Nat.le_refl, wrap64, wrapu64, wrapu32, ← Int.natCast_add, ← Int.natCast_mul, cast_succ, wrapu32_nat, shr32, reps_wd, map_set_wd, List.length_set, zs_len, Tryz.f6, z1]
      refine ⟨⟨true, rfl, by simp⟩, ?_⟩
      simp
    · have z1 : ((20 : Int) < (A.length : Int)) = False := eq_false (by omega)
      simp (maxSteps := 4000000) only [go_sem, ↓reduceIte, Nat.reduceAdd, Nat.reduceSub, Nat.reduceMul, Nat.reduceEqDiff, reduceCtorEq, Int.reduceAdd, Int.reduceLT, Int.reduceLE, Int.reduceToNat, Int.reduceNeg, Int.reduceSub, ← List.map_take, ← List.map_drop, ne_eq, Nat.reduceLeDiff, Nat.reduceLT, Nat.zero_le, Nat.le_refl, wrap64, wrapu64, wrapu32, ← Int.natCast_add, ← Int.natCast_mul, cast_succ, wrapu32_nat, shr32, reps_wd, map_set_wd, List.length_set, zs_len, Tryz.f6, z1]
      refine W_loopS (fun k sl h' n' => ∃ i c : Nat, (∃ g : Nat → AV, sl = [mraw nl A, .ref c 0 (B ++ A.take i).length, g 2, g 3, g 4, .int .i64 i, g 6, g 7, g 8, g 9, g 10, g 11, g 12, g 13, g 14, g 15, g 16, g 17, g 18, g 19, g 20, g 21, g 22, g 23, g 24, g 25, g 26, g 27, g 28, g 29, g 30, g 31, g 32, g 33, g 34, g 35, g 36, g 37, g 38, g 39, g 40, g 41, g 42, g 43]) ∧ i + k = A.length ∧ h' c = some ⟨(B ++ A.take i).map lr, false, 1, false⟩ ∧ c < n' ∧ nx ≤ n' ∧ (c = id ∨ nx ≤ c) ∧ (∀ i, i < nx → i ≠ id → h' i = h i)) A.length ⟨0, id, ?_, by omega, ?_, hi, Nat.le_refl _, .inl rfl, fun i h1 h2 => rfl⟩ ?_
      · rw [List.take_zero, List.append_nil]; exact garb rfl
      · rw [List.take_zero, List.append_nil]; exact hH
      rintro k _ h' n' ⟨i, c, ⟨g, rfl⟩, hk, hc, hcn, hnn, hcid, hfr⟩
      have hlen : (B ++ A.take i).length ≤ 30 := by rw [List.length_append, List.length_take]; omega
      by_cases hi0 : i = A.length
      · have z2 : ((i : Int) < (A.length : Int)) = False := eq_false (by omega)
        simp (maxSteps := 4000000) only [go_sem, ↓reduceIte, Nat.reduceAdd, Nat.reduceSub, Nat.reduceMul, Nat.reduceEqDiff, reduceCtorEq, Int.reduceAdd, Int.reduceLT, Int.reduceLE, Int.reduceToNat, Int.reduceNeg, Int.reduceSub, ← List.map_take, ← List.map_drop, ne_eq, Nat.reduceLeDiff, Nat.reduceLT, Nat.zero_le, Nat.le_refl, wrap64, wrapu64, wrapu32, ← Int.natCast_add, ← Int.natCast_mul, cast_succ, wrapu32_nat, shr32, reps_wd, map_set_wd, List.length_set, zs_len, z2]
        have hall : B ++ A.take i = B ++ A := by rw [hi0, List.take_length]
        rw [hall] at hc hlen ⊢
        have hsh : ∀ j, Short ((B ++ A).getD j default).2 := by
          intro j
          have : ShortM (B ++ A) := ⟨by omega, fun r hr => by rcases List.mem_append.1 hr with h | h; exact hB.2 r h; exact hA.2 r h⟩
          exact this.get j
        generalize hM : B ++ A = M at *
        clear hall
        refine W_loopS (fun k sl h'' n'' => ∃ i : Nat, (∃ g : Nat → AV, sl = [g 0, .ref c 0 M.length, g 2, g 3, g 4, g 5, .int .i64 i, g 7, g 8, g 9, g 10, g 11, g 12, g 13, g 14, g 15, g 16, g 17, g 18, g 19, g 20, g 21, g 22, g 23, g 24, g 25, g 26, g 27, g 28, g 29, g 30, g 31, g 32, g 33, g 34, g 35, g 36, g 37, g 38, g 39, g 40, g 41, g 42, g 43]) ∧ i + k = M.length ∧ h'' c = some ⟨M.map lr, false, 1, false⟩ ∧ c < n'' ∧ nx ≤ n'' ∧ (∀ i, i < nx → i ≠ id → h'' i = h i) ∧ ∀ j, j < i → Narrow (M.getD j default).2) M.length ⟨0, garb rfl, by omega, hc, hcn, hnn, hfr, by omega⟩ ?_
        clear hc hcn hnn hfr
        rintro k2 _ h' n' ⟨i, ⟨g, rfl⟩, hk2, hc, hcn, hnn, hfr, hnar⟩
        by_cases hi1 : i = M.length
        · have z3 : ((i : Int) < (M.length : Int)) = False := eq_false (by omega)
          simp (maxSteps := 4000000) only [go_sem, ↓reduceIte, Nat.reduceAdd, Nat.reduceSub, Nat.reduceMul, Nat.reduceEqDiff, reduceCtorEq, Int.reduceAdd, Int.reduceLT, Int.reduceLE, Int.reduceToNat, Int.reduceNeg, Int.reduceSub, ← List.map_take, ← List.map_drop, ne_eq, Nat.reduceLeDiff, Nat.reduceLT, Nat.zero_le, Nat.le_refl, wrap64, wrapu64, wrapu32, ← Int.natCast_add, ← Int.natCast_mul, cast_succ, wrapu32_nat, shr32, reps_wd, map_set_wd, List.length_set, zs_len, z3, hc]
          refine ⟨⟨false, rfl, fun _ => ⟨by omega, fun j hj => hnar j (by omega)⟩⟩, hnn, hfr⟩
        · have z3 : ((i : Int) < (M.length : Int)) = True := eq_true (by omega)
          have z0 : ((0 : Int) ≤ (i : Int)) = True := eq_true (by omega)
          have hg := get_lr (A := M) (i := i) (by omega)
          have w1 : IntKind.i64.wrap ((i + 1 : Nat) : Int) = ((i + 1 : Nat) : Int) := wrap64 (by omega) (by omega)
          have hS := hsh i
          have hn1 := hnar
          obtain ⟨R, hR⟩ : ∃ R, R = M.getD i default := ⟨_, rfl⟩
          rw [← hR] at hg hS
          obtain ⟨n, hw, hwn⟩ := words_one R.1 R.2 hS
          have hpl : ∀ (m : Nat) (H : Heap), purify (m + 1) H (.lst R.1 (R.2.map ivr)) = some (.lst R.1 (R.2.map ivr), []) := fun m H => purify_lst (pure_ivr _)
          have x1 : (c = n') = False := eq_false (by omega)
          have x2 : (n' = c) = False := eq_false (by omega)
          have hml : (M.map lr).length = M.length := List.length_map _
          have hil : ((i : Int) < (M.length : Int)) = True := z3
          have hstep : ∀ (h'' : Heap) (n'' : Nat) (sl : List AV), Narrow R.2 → (∃ g : Nat → AV, sl = [g 0, .ref c 0 M.length, g 2, g 3, g 4, g 5, .int .i64 ((i + 1 : Nat) : Int), g 7, g 8, g 9, g 10, g 11, g 12, g 13, g 14, g 15, g 16, g 17, g 18, g 19, g 20, g 21, g 22, g 23, g 24, g 25, g 26, g 27, g 28, g 29, g 30, g 31, g 32, g 33, g 34, g 35, g 36, g 37, g 38, g 39, g 40, g 41, g 42, g 43]) → h'' c = some ⟨M.map lr, false, 1, false⟩ → c < n'' → nx ≤ n'' → (∀ i, i < nx → i ≠ id → h'' i = h i) →
              ∃ k', k' < k2 ∧ ∃ i : Nat, (∃ g : Nat → AV, sl = [g 0, .ref c 0 M.length, g 2, g 3, g 4, g 5, .int .i64 i, g 7, g 8, g 9, g 10, g 11, g 12, g 13, g 14, g 15, g 16, g 17, g 18, g 19, g 20, g 21, g 22, g 23, g 24, g 25, g 26, g 27, g 28, g 29, g 30, g 31, g 32, g 33, g 34, g 35, g 36, g 37, g 38, g 39, g 40, g 41, g 42, g 43]) ∧ i + k' = M.length ∧ h'' c = some ⟨M.map lr, false, 1, false⟩ ∧ c < n'' ∧ nx ≤ n'' ∧ (∀ i, i < nx → i ≠ id → h'' i = h i) ∧ ∀ j, j < i → Narrow (M.getD j default).2 := fun h'' n'' sl a0 a1 a2 a3 a4 a5 => ⟨k2 - 1, by omega, i + 1, a1, by omega, a2, a3, a4, a5, fun j hj => by
                by_cases e : j = i
                · rw [e, ← hR]; exact a0
                · exact hnar j (by omega)⟩
          generalize hIQ : (fun (k : Nat) (σ : St) => ∃ i : Nat, (∃ g : Nat → AV, σ.sl = [g 0, .ref c 0 M.length, g 2, g 3, g 4, g 5, .int .i64 i, g 7, g 8, g 9, g 10, g 11, g 12, g 13, g 14, g 15, g 16, g 17, g 18, g 19, g 20, g 21, g 22, g 23, g 24, g 25, g 26, g 27, g 28, g 29, g 30, g 31, g 32, g 33, g 34, g 35, g 36, g 37, g 38, g 39, g 40, g 41, g 42, g 43]) ∧ i + k = M.length ∧ σ.h c = some ⟨M.map lr, false, 1, false⟩ ∧ c < σ.nx ∧ nx ≤ σ.nx ∧ (∀ i, i < nx → i ≠ id → σ.h i = h i) ∧ ∀ j, j < i → Narrow (M.getD j default).2) = IQ
          clear hnar hn1 hsh
          by_cases h40 : 40 < R.2.length
          · have z4 : ((40 : Int) < (R.2.length : Int)) = True := eq_true (by omega)
            simp (maxSteps := 4000000) only [go_sem, ↓reduceIte, Nat.reduceAdd, Nat.reduceSub, Nat.reduceMul, Nat.reduceEqDiff, reduceCtorEq, Int.reduceAdd, Int.reduceLT, Int.reduceLE, Int.reduceToNat, Int.reduceNeg, Int.reduceSub, ← List.map_take, ← List.map_drop, ne_eq, Nat.reduceLeDiff, Nat.reduceLT, Nat.zero_le, Nat.le_refl, wrap64, wrapu64, wrapu32, ← Int.natCast_add, ← Int.natCast_mul, cast_succ, wrapu32_nat, shr32, reps_wd, map_set_wd, List.length_set, zs_len, z0, z3, hc, hg, hml, z4, x1, x2, Int.toNat_natCast]
            exact ⟨⟨true, rfl, by simp⟩, hnn, hfr⟩
          · have z4 : ((40 : Int) < (R.2.length : Int)) = False := eq_false (by omega)
            by_cases hn : 4200 < n
            · have z5 : ((4200 : Int) < (n : Int)) = True := eq_true (by omega)
              simp (maxSteps := 4000000) only [go_sem, ↓reduceIte, Nat.reduceAdd, Nat.reduceSub, Nat.reduceMul, Nat.reduceEqDiff, reduceCtorEq, Int.reduceAdd, Int.reduceLT, Int.reduceLE, Int.reduceToNat, Int.reduceNeg, Int.reduceSub, ← List.map_take, ← List.map_drop, ne_eq, Nat.reduceLeDiff, Nat.reduceLT, Nat.zero_le, Nat.le_refl, wrap64, wrapu64, wrapu32, ← Int.natCast_add, ← Int.natCast_mul, cast_succ, wrapu32_nat, shr32, reps_wd, map_set_wd, List.length_set, zs_len, z0, z3, hc, hg, hml, z4, z5, x1, x2, hpl, hw, refP, elems, List.headD_cons, reps, places, fillAll]
              refine ⟨⟨true, rfl, by simp⟩, by omega, fun j j1 j2 => ?_⟩
              rw [if_neg (by omega), if_neg (by omega)]
              exact hfr j j1 j2
            · have z5 : ((4200 : Int) < (n : Int)) = False := eq_false (by omega)
              have hnr : Narrow R.2 := ⟨by omega, (hwn 4200).1 (by omega)⟩
              simp (maxSteps := 4000000) only [go_sem, ↓reduceIte, Nat.reduceAdd, Nat.reduceSub, Nat.reduceMul, Nat.reduceEqDiff, reduceCtorEq, Int.reduceAdd, Int.reduceLT, Int.reduceLE, Int.reduceToNat, Int.reduceNeg, Int.reduceSub, ← List.map_take, ← List.map_drop, ne_eq, Nat.reduceLeDiff, Nat.reduceLT, Nat.zero_le, Nat.le_refl, wrap64, wrapu64, wrapu32, ← Int.natCast_add, ← Int.natCast_mul, cast_succ, wrapu32_nat, shr32, reps_wd, map_set_wd, List.length_set, zs_len, z0, z3, hc, hg, hml, z4, z5, x1, x2, hpl, hw, w1, refP, elems, List.headD_cons, reps, places, fillAll]
              rw [← hIQ]
              refine hstep _ _ _ hnr (garb rfl) ?_ (by dsimp only; omega) (by dsimp only; omega) fun j j1 j2 => ?_
              · simp only [upd_apply, ↓reduceIte, Nat.reduceEqDiff, hc, x1, x2]
              · simp only [upd_apply]
                rw [if_neg (by omega), if_neg (by omega)]
                exact hfr j j1 j2
      · have z2 : ((i : Int) < (A.length : Int)) = True := eq_true (by omega)
        have hg := get_lr (A := A) (i := i) (by omega)
        have ht := take_getD (A := A) (i := i) (by omega)
        have w1 : IntKind.i64.wrap ((i + 1 : Nat) : Int) = ((i + 1 : Nat) : Int) := wrap64 (by omega) (by omega)
        have z0 : ((0 : Int) ≤ (i : Int)) = True := eq_true (by omega)
        have x1 : (c = n') = False := eq_false (by omega)
        have x2 : (n' = c) = False := eq_false (by omega)
        have x3 : (c = n' + 1) = False := eq_false (by omega)
        have x4 : (n' + 1 = c) = False := eq_false (by omega)
        have hmem : ((2 * ((B ++ A.take i).length + 1) + 1000) * 24 ≤ 281474976710656) = True := eq_true (by omega)
        have hl2 : (B ++ A.take (i + 1)).length = (B ++ A.take i).length + 1 := by rw [ht, ← List.append_assoc, List.length_append]; rfl
        have hm2 : (B ++ A.take (i + 1)).map lr = (B ++ A.take i).map lr ++ [lr (A.getD i default)] := by rw [ht, ← List.append_assoc, List.map_append]; rfl
        generalize hM : B ++ A.take i = M at *
        have hml : (M.map lr).length = M.length := List.length_map _
        simp (maxSteps := 4000000) only [go_sem, ↓reduceIte, Nat.reduceAdd, Nat.reduceSub, Nat.reduceMul, Nat.reduceEqDiff, reduceCtorEq, Int.reduceAdd, Int.reduceLT, Int.reduceLE, Int.reduceToNat, Int.reduceNeg, Int.reduceSub, ← List.map_take, ← List.map_drop, ne_eq, Nat.reduceLeDiff, Nat.reduceLT, Nat.zero_le, Nat.le_refl, wrap64, wrapu64, wrapu32, ← Int.natCast_add, ← Int.natCast_mul, cast_succ, wrapu32_nat, shr32, reps_wd, map_set_wd, List.length_set, zs_len, z0, z2, hg, hc, w1, x1, x2, x3, x4, hmem, hml, flat, reps, srcCells, appendEff, Nat.le_refl, places, fillAll]
        refine ⟨k - 1, by omega, i + 1, n' + 1, ?_, by omega, ?_, by omega, by omega, .inr (by omega), ?_⟩
        · rw [hl2]; exact garb rfl
        · rw [if_pos rfl, hm2]
        · intro j j1 j2
          rw [if_neg (by omega), if_neg (by omega), if_neg (by omega)]
          exact hfr j j1 j2
  obtain ⟨v, h', n', h1, ⟨b, rfl, h2⟩, h3, h4⟩ := key
  exact ⟨b, h', n', h1, h3, h4, h2⟩
end Go.Proofs.YtnpomadbaanpkaaGreat

/- Walks: what a system is. (Own work of this repo.) -/
namespace Go.Proofs.YtnpomadbaanpkaaGreat
open Vm
set_option maxRecDepth 10000

def rowB (w : Nat) (r : Bool × List Raw) : Bool := decide (1 ≤ r.2.length ∧ r.2.length ≤ 8 ∧ r.2.length = w) && r.2.all okB
def sysB (A : Mat) (B : List Raw) : Bool := decide (1 ≤ A.length ∧ A.length ≤ 8 ∧ B.length = A.length) && B.all okB && A.all (rowB (A.getD 0 default).2.length)
theorem allM_upto {p : Bool × List Raw → Bool} {L : Mat} (h : ∀ j, j < L.length → p (L.getD j default) = true) : L.all p = true := by
  rw [List.all_eq_true]
  intro q hq
  obtain ⟨j, hj, rfl⟩ := List.getElem_of_mem hq
  have := h j hj
  rwa [List.getD_eq_getElem?_getD, List.getElem?_eq_getElem hj] at this
theorem allM_not {p : Bool × List Raw → Bool} {L : Mat} {i : Nat} (hi : i < L.length) (h : p (L.getD i default) = false) : L.all p = false := by
  rw [List.all_eq_false]
  refine ⟨L.getD i default, ?_, by rw [h]; simp⟩
  rw [List.getD_eq_getElem?_getD, List.getElem?_eq_getElem hi]
  exact List.getElem_mem _
def InM (A : Mat) : Prop := ∀ r ∈ A, ∀ q ∈ r.2, InR q.2.2
theorem InM.get {A : Mat} (h : InM A) (i : Nat) : ∀ q ∈ (A.getD i default).2, InR q.2.2 := by
  rw [List.getD_eq_getElem?_getD]
  rcases Nat.lt_or_ge i A.length with h1 | h1
  · rw [List.getElem?_eq_getElem h1]; exact h _ (List.getElem_mem _)
  · rw [List.getElem?_eq_none h1]; intro q hq; cases hq
set_option maxHeartbeats 1000000 in
theorem refSystem (nl : Bool) (A : Mat) (nb : Bool) (B : List Raw) (hA : ShortM A) (hB : Short B) (iA : InM A) (iB : ∀ q ∈ B, InR q.2.2) : denP E 10 [mraw nl A, lraw nb B] = some (.ret (.bool (sysB A B))) := by
  refine denP_eq E10 rfl (by simp [AV.pureL, AV.pure, pure_lr, pure_ivr]) ?_
  have hL := hA.1
  have hLB := hB.1
  have n1 := refNumbers nb B hB iB
  by_cases h1 : A.length < 1
  · have z1 : ((A.length : Int) < 1) = True := eq_true (by omega)
    have hv : sysB A B = false := by unfold sysB; rw [decide_eq_false (by omega)]; simp
    simp (maxSteps := 4000000) only [go_sem, ↓reduceIte, Nat.reduceAdd, Nat.reduceSub, Nat.reduceMul, Nat.reduceEqDiff, reduceCtorEq, Int.reduceAdd, Int.reduceLT, Int.reduceLE, Int.reduceToNat, Int.reduceNeg, Int.reduceSub, ← List.map_take, ← List.map_drop, ne_eq, Nat.reduceLeDiff, Nat.reduceLT, Nat.zero_le, Nat.le_refl, wrap64, wrapu64, wrapu32, ← Int.natCast_add, ← Int.natCast_mul, cast_succ, wrapu32_nat, shr32, reps_wd, map_set_wd, List.length_set, zs_len, Tryz.f10, z1, hv]
  have z1 : ((A.length : Int) < 1) = False := eq_false (by omega)
  by_cases h2 : 8 < A.length
  · have z2 : ((8 : Int) < (A.length : Int)) = True := eq_true (by omega)
    have hv : sysB A B = false := by unfold sysB; rw [decide_eq_false (by omega)]; simp
    simp (maxSteps := 4000000) only [go_sem, ↓reduceIte, Nat.reduceAdd, Nat.reduceSub, Nat.reduceMul, Nat.reduceEqDiff, reduceCtorEq, Int.reduceAdd, Int.reduceLT, Int.reduceLE, Int.reduceToNat, Int.reduceNeg, Int.reduceSub, ← List.map_take, ← List.map_drop, ne_eq, Nat.reduceLeDiff, Nat.reduceLT, Nat.zero_le, Nat.le_refl, wrap64, wrapu64, wrapu32, ← Int.natCast_add, ← Int.natCast_mul, cast_succ, wrapu32_nat, shr32, reps_wd, map_set_wd, List.length_set, zs_len, Tryz.f10, z1, z2, hv]
  have z2 : ((8 : Int) < (A.length : Int)) = False := eq_false (by omega)
  by_cases h3 : B.length = A.length
  rotate_left
  · have z3 : ((B.length : Int) = (A.length : Int)) = False := eq_false (by omega)
    have hv : sysB A B = false := by unfold sysB; rw [decide_eq_false (by omega)]; simp
    simp (maxSteps := 4000000) only [go_sem, ↓reduceIte, Nat.reduceAdd, Nat.reduceSub, Nat.reduceMul, Nat.reduceEqDiff, reduceCtorEq, Int.reduceAdd, Int.reduceLT, Int.reduceLE, Int.reduceToNat, Int.reduceNeg, Int.reduceSub, ← List.map_take, ← List.map_drop, ne_eq, Nat.reduceLeDiff, Nat.reduceLT, Nat.zero_le, Nat.le_refl, wrap64, wrapu64, wrapu32, ← Int.natCast_add, ← Int.natCast_mul, cast_succ, wrapu32_nat, shr32, reps_wd, map_set_wd, List.length_set, zs_len, Tryz.f10, z1, z2, z3, hv]
  have z3 : ((B.length : Int) = (A.length : Int)) = True := eq_true (by omega)
  have hd : decide (1 ≤ A.length ∧ A.length ≤ 8 ∧ B.length = A.length) = true := decide_eq_true (by omega)
  cases h4 : B.all okB with
  | false =>
    rw [h4] at n1
    have hv : sysB A B = false := by unfold sysB; rw [h4]; simp
    simp (maxSteps := 4000000) only [go_sem, ↓reduceIte, Nat.reduceAdd, Nat.reduceSub, Nat.reduceMul, Nat.reduceEqDiff, reduceCtorEq, Int.reduceAdd, Int.reduceLT, Int.reduceLE, Int.reduceToNat, Int.reduceNeg, Int.reduceSub, ← List.map_take, ← List.map_drop, ne_eq, Nat.reduceLeDiff, Nat.reduceLT, Nat.zero_le, Nat.le_refl, wrap64, wrapu64, wrapu32, ← Int.natCast_add, ← Int.natCast_mul, cast_succ, wrapu32_nat, shr32, reps_wd, map_set_wd, List.length_set, zs_len, Tryz.f10, z1, z2, z3, n1, hv, purify_lraw]
  | true =>
    rw [h4] at n1
    have hv : sysB A B = A.all (rowB (A.getD 0 default).2.length) := by unfold sysB; rw [h4, hd]; simp
    rw [hv]
    simp (maxSteps := 4000000) only [go_sem, ↓reduceIte, Nat.reduceAdd, Nat.reduceSub, Nat.reduceMul, Nat.reduceEqDiff, reduceCtorEq, Int.reduceAdd, Int.reduceLT, Int.reduceLE, Int.reduceToNat, Int.reduceNeg, Int.reduceSub, ← List.map_take, ← List.map_drop, ne_eq, Nat.reduceLeDiff, Nat.reduceLT, Nat.zero_le, Nat.le_refl, wrap64, wrapu64, wrapu32, ← Int.natCast_add, ← Int.natCast_mul, cast_succ, wrapu32_nat, shr32, reps_wd, map_set_wd, List.length_set, zs_len, Tryz.f10, z1, z2, z3, n1, purify_lraw]
    have hg0 := get_lr (A := A) (i := 0) (by omega)
    obtain ⟨w, hw⟩ : ∃ w, w = (A.getD 0 default).2.length := ⟨_, rfl⟩
    have hwl := (hA.get 0).1
    rw [← hw] at hwl ⊢
    refine W_loopS (fun k sl h nx => ∃ i : Nat, (∃ g : Nat → AV, sl = [mraw nl A, g 1, g 2, g 3, g 4, .int .i64 i, g 6, g 7, g 8, g 9, g 10, g 11, g 12, g 13, g 14, g 15, g 16, g 17, g 18, g 19, g 20, g 21, g 22, g 23, g 24, g 25, g 26, g 27, g 28, g 29, g 30, g 31, g 32, g 33, g 34, g 35, g 36, g 37, g 38, g 39, g 40, g 41, g 42, g 43, g 44, g 45, g 46, g 47, g 48, g 49, g 50, g 51, g 52, g 53, g 54, g 55, g 56, g 57, g 58, g 59, g 60, g 61, g 62, g 63, g 64, g 65]) ∧ i + k = A.length ∧ ∀ j, j < i → rowB w (A.getD j default) = true) A.length ⟨0, ?_, by omega, by omega⟩ ?_
    · refine garb ?_
      rfl
    rintro k _ h nx ⟨i, ⟨g, rfl⟩, hk, hall⟩
    by_cases hi : i = A.length
    · have z4 : ((i : Int) < (A.length : Int)) = False := eq_false (by omega)
      have hv : A.all (rowB w) = true := allM_upto fun j hj => hall j (by omega)
      simp (maxSteps := 4000000) only [go_sem, ↓reduceIte, Nat.reduceAdd, Nat.reduceSub, Nat.reduceMul, Nat.reduceEqDiff, reduceCtorEq, Int.reduceAdd, Int.reduceLT, Int.reduceLE, Int.reduceToNat, Int.reduceNeg, Int.reduceSub, ← List.map_take, ← List.map_drop, ne_eq, Nat.reduceLeDiff, Nat.reduceLT, Nat.zero_le, Nat.le_refl, wrap64, wrapu64, wrapu32, ← Int.natCast_add, ← Int.natCast_mul, cast_succ, wrapu32_nat, shr32, reps_wd, map_set_wd, List.length_set, zs_len, z4, hv]
    · have z4 : ((i : Int) < (A.length : Int)) = True := eq_true (by omega)
      have z0 : ((0 : Int) ≤ (i : Int)) = True := eq_true (by omega)
      have hml : (A.map lr).length = A.length := List.length_map _
      have w1 : IntKind.i64.wrap ((i + 1 : Nat) : Int) = ((i + 1 : Nat) : Int) := wrap64 (by omega) (by omega)
      have hg := get_lr (A := A) (i := i) (by omega)
      have hS := hA.get i
      have hI := iA.get i
      have hSl := hS.1
      have hno : rowB w (A.getD i default) = false → A.all (rowB w) = false := allM_not (by omega)
      have hyes : rowB w (A.getD i default) = true → ∀ j, j < i + 1 → rowB w (A.getD j default) = true := fun h j hj => by
        by_cases e : j = i
        · rw [e]; exact h
        · exact hall j (by omega)
      have hw0 : ((A.getD 0 default).2.length : Int) = (w : Int) := by rw [hw]
      have z00 : ((0 : Int) < (A.length : Int)) = True := eq_true (by omega)
      have hml0 : ((A.getD 0 default).2.map ivr).length = w := by rw [List.length_map, hw]
      generalize A.getD 0 default = R0 at *
      obtain ⟨R, hR⟩ : ∃ R, R = A.getD i default := ⟨_, rfl⟩
      rw [← hR] at hg hS hI hSl hno hyes
      have n2 := refNumbers R.1 R.2 hS hI
      have hrow : ∀ b, (decide (1 ≤ R.2.length ∧ R.2.length ≤ 8 ∧ R.2.length = w) && R.2.all okB) = b → rowB w R = b := fun b h => h
      have hnext : rowB w R = true → ∀ (sl : List AV), (∃ g : Nat → AV, sl = [mraw nl A, g 1, g 2, g 3, g 4, .int .i64 ((i + 1 : Nat) : Int), g 6, g 7, g 8, g 9, g 10, g 11, g 12, g 13, g 14, g 15, g 16, g 17, g 18, g 19, g 20, g 21, g 22, g 23, g 24, g 25, g 26, g 27, g 28, g 29, g 30, g 31, g 32, g 33, g 34, g 35, g 36, g 37, g 38, g 39, g 40, g 41, g 42, g 43, g 44, g 45, g 46, g 47, g 48, g 49, g 50, g 51, g 52, g 53, g 54, g 55, g 56, g 57, g 58, g 59, g 60, g 61, g 62, g 63, g 64, g 65]) →
          ∃ k', k' < k ∧ ∃ i : Nat, (∃ g : Nat → AV, sl = [mraw nl A, g 1, g 2, g 3, g 4, .int .i64 i, g 6, g 7, g 8, g 9, g 10, g 11, g 12, g 13, g 14, g 15, g 16, g 17, g 18, g 19, g 20, g 21, g 22, g 23, g 24, g 25, g 26, g 27, g 28, g 29, g 30, g 31, g 32, g 33, g 34, g 35, g 36, g 37, g 38, g 39, g 40, g 41, g 42, g 43, g 44, g 45, g 46, g 47, g 48, g 49, g 50, g 51, g 52, g 53, g 54, g 55, g 56, g 57, g 58, g 59, g 60, g 61, g 62, g 63, g 64, g 65]) ∧ i + k' = A.length ∧ ∀ j, j < i → rowB w (A.getD j default) = true := fun h0 sl h1 => ⟨k - 1, by omega, i + 1, h1, by omega, hyes h0⟩
      generalize hIQ : (fun (k : Nat) (σ : St) => ∃ i : Nat, (∃ g : Nat → AV, σ.sl = [mraw nl A, g 1, g 2, g 3, g 4, .int .i64 i, g 6, g 7, g 8, g 9, g 10, g 11, g 12, g 13, g 14, g 15, g 16, g 17, g 18, g 19, g 20, g 21, g 22, g 23, g 24, g 25, g 26, g 27, g 28, g 29, g 30, g 31, g 32, g 33, g 34, g 35, g 36, g 37, g 38, g 39, g 40, g 41, g 42, g 43, g 44, g 45, g 46, g 47, g 48, g 49, g 50, g 51, g 52, g 53, g 54, g 55, g 56, g 57, g 58, g 59, g 60, g 61, g 62, g 63, g 64, g 65]) ∧ i + k = A.length ∧ ∀ j, j < i → rowB w (A.getD j default) = true) = IQ
      clear hall hyes hw n1 hv hd
      by_cases r1 : R.2.length < 1
      · have y1 : ((R.2.length : Int) < 1) = True := eq_true (by omega)
        have hv := hno (hrow _ (by rw [decide_eq_false (by omega)]; rfl))
        simp (maxSteps := 4000000) only [go_sem, ↓reduceIte, Nat.reduceAdd, Nat.reduceSub, Nat.reduceMul, Nat.reduceEqDiff, reduceCtorEq, Int.reduceAdd, Int.reduceLT, Int.reduceLE, Int.reduceToNat, Int.reduceNeg, Int.reduceSub, ← List.map_take, ← List.map_drop, ne_eq, Nat.reduceLeDiff, Nat.reduceLT, Nat.zero_le, Nat.le_refl, wrap64, wrapu64, wrapu32, ← Int.natCast_add, ← Int.natCast_mul, cast_succ, wrapu32_nat, shr32, reps_wd, map_set_wd, List.length_set, zs_len, z4]
        refine W_drawn ?_
        simp (maxSteps := 4000000) only [go_sem, ↓reduceIte, Nat.reduceAdd, Nat.reduceSub, Nat.reduceMul, Nat.reduceEqDiff, reduceCtorEq, Int.reduceAdd, Int.reduceLT, Int.reduceLE, Int.reduceToNat, Int.reduceNeg, Int.reduceSub, ← List.map_take, ← List.map_drop, ne_eq, Nat.reduceLeDiff, Nat.reduceLT, Nat.zero_le, Nat.le_refl, wrap64, wrapu64, wrapu32, ← Int.natCast_add, ← Int.natCast_mul, cast_succ, wrapu32_nat, shr32, reps_wd, map_set_wd, List.length_set, zs_len, z0, z4, z00, hg, hg0, hml, y1, hml0, Int.toNat_zero, hw0]
        refine ⟨by rfl, ?_⟩
        simp (maxSteps := 4000000) only [go_sem, ↓reduceIte, Nat.reduceAdd, Nat.reduceSub, Nat.reduceMul, Nat.reduceEqDiff, reduceCtorEq, Int.reduceAdd, Int.reduceLT, Int.reduceLE, Int.reduceToNat, Int.reduceNeg, Int.reduceSub, ← List.map_take, ← List.map_drop, ne_eq, Nat.reduceLeDiff, Nat.reduceLT, Nat.zero_le, Nat.le_refl, wrap64, wrapu64, wrapu32, ← Int.natCast_add, ← Int.natCast_mul, cast_succ, wrapu32_nat, shr32, reps_wd, map_set_wd, List.length_set, zs_len, hv]
      have y1 : ((R.2.length : Int) < 1) = False := eq_false (by omega)
      by_cases r2 : 8 < R.2.length
      · have y2 : ((8 : Int) < (R.2.length : Int)) = True := eq_true (by omega)
        have hv := hno (hrow _ (by rw [decide_eq_false (by omega)]; rfl))
        simp (maxSteps := 4000000) only [go_sem, ↓reduceIte, Nat.reduceAdd, Nat.reduceSub, Nat.reduceMul, Nat.reduceEqDiff, reduceCtorEq, Int.reduceAdd, Int.reduceLT, Int.reduceLE, Int.reduceToNat, Int.reduceNeg, Int.reduceSub, ← List.map_take, ← List.map_drop, ne_eq, Nat.reduceLeDiff, Nat.reduceLT, Nat.zero_le, Nat.le_refl, wrap64, wrapu64, wrapu32, ← Int.natCast_add, ← Int.natCast_mul, cast_succ, wrapu32_nat, shr32, reps_wd, map_set_wd, List.length_set, zs_len, z4]
        refine W_drawn ?_
        simp (maxSteps := 4000000) only [go_sem, ↓reduceIte, Nat.reduceAdd, Nat.reduceSub, Nat.reduceMul, Nat.reduceEqDiff, reduceCtorEq, Int.reduceAdd, Int.reduceLT, Int.reduceLE, Int.reduceToNat, Int.reduceNeg, Int.reduceSub, ← List.map_take, ← List.map_drop, ne_eq, Nat.reduceLeDiff, Nat.reduceLT, Nat.zero_le, Nat.le_refl, wrap64, wrapu64, wrapu32, ← Int.natCast_add, ← Int.natCast_mul, cast_succ, wrapu32_nat, shr32, reps_wd, map_set_wd, List.length_set, zs_len, z0, z4, z00, hg, hg0, hml, y1, y2, hml0, Int.toNat_zero, hw0]
        refine ⟨by rfl, ?_⟩
        simp (maxSteps := 4000000) only [go_sem, ↓reduceIte, Nat.reduceAdd, Nat.reduceSub, Nat.reduceMul, Nat.reduceEqDiff, reduceCtorEq, Int.reduceAdd, Int.reduceLT, Int.reduceLE, Int.reduceToNat, Int.reduceNeg, Int.reduceSub, ← List.map_take, ← List.map_drop, ne_eq, Nat.reduceLeDiff, Nat.reduceLT, Nat.zero_le, Nat.le_refl, wrap64, wrapu64, wrapu32, ← Int.natCast_add, ← Int.natCast_mul, cast_succ, wrapu32_nat, shr32, reps_wd, map_set_wd, List.length_set, zs_len, hv]
      have y2 : ((8 : Int) < (R.2.length : Int)) = False := eq_false (by omega)
      by_cases r3 : R.2.length = w
      rotate_left
      · have y3 : ((R.2.length : Int) = (w : Int)) = False := eq_false (by omega)
        have hv := hno (hrow _ (by rw [decide_eq_false (by omega)]; rfl))
        simp (maxSteps := 4000000) only [go_sem, ↓reduceIte, Nat.reduceAdd, Nat.reduceSub, Nat.reduceMul, Nat.reduceEqDiff, reduceCtorEq, Int.reduceAdd, Int.reduceLT, Int.reduceLE, Int.reduceToNat, Int.reduceNeg, Int.reduceSub, ← List.map_take, ← List.map_drop, ne_eq, Nat.reduceLeDiff, Nat.reduceLT, Nat.zero_le, Nat.le_refl, wrap64, wrapu64, wrapu32, ← Int.natCast_add, ← Int.natCast_mul, cast_succ, wrapu32_nat, shr32, reps_wd, map_set_wd, List.length_set, zs_len, z4]
        refine W_drawn ?_
        simp (maxSteps := 4000000) only [go_sem, ↓reduceIte, Nat.reduceAdd, Nat.reduceSub, Nat.reduceMul, Nat.reduceEqDiff, reduceCtorEq, Int.reduceAdd, Int.reduceLT, Int.reduceLE, Int.reduceToNat, Int.reduceNeg, Int.reduceSub, ← List.map_take, ← List.map_drop, ne_eq, Nat.reduceLeDiff, Nat.reduceLT, Nat.zero_le, Nat.le_refl, wrap64, wrapu64, wrapu32, ← Int.natCast_add, ← Int.natCast_mul, cast_succ, wrapu32_nat, shr32, reps_wd, map_set_wd, List.length_set, zs_len, z0, z4, z00, hg, hg0, hml, y1, y2, y3, hml0, Int.toNat_zero, hw0]
        refine ⟨by rfl, ?_⟩
        simp (maxSteps := 4000000) only [go_sem, ↓reduceIte, Nat.reduceAdd, Nat.reduceSub, Nat.reduceMul, Nat.reduceEqDiff, reduceCtorEq, Int.reduceAdd, Int.reduceLT, Int.reduceLE, Int.reduceToNat, Int.reduceNeg, Int.reduceSub, ← List.map_take, ← List.map_drop, ne_eq, Nat.reduceLeDiff, Nat.reduceLT, Nat.zero_le, Nat.le_refl, wrap64, wrapu64, wrapu32, ← Int.natCast_add, ← Int.natCast_mul, cast_succ, wrapu32_nat, shr32, reps_wd, map_set_wd, List.length_set, zs_len, hv]
      have y3 : ((R.2.length : Int) = (w : Int)) = True := eq_true (by omega)
      cases r4 : R.2.all okB with
      | false =>
        rw [r4] at n2
        have hv := hno (hrow _ (by rw [r4, Bool.and_false]))
        simp (maxSteps := 4000000) only [go_sem, ↓reduceIte, Nat.reduceAdd, Nat.reduceSub, Nat.reduceMul, Nat.reduceEqDiff, reduceCtorEq, Int.reduceAdd, Int.reduceLT, Int.reduceLE, Int.reduceToNat, Int.reduceNeg, Int.reduceSub, ← List.map_take, ← List.map_drop, ne_eq, Nat.reduceLeDiff, Nat.reduceLT, Nat.zero_le, Nat.le_refl, wrap64, wrapu64, wrapu32, ← Int.natCast_add, ← Int.natCast_mul, cast_succ, wrapu32_nat, shr32, reps_wd, map_set_wd, List.length_set, zs_len, z4]
        refine W_drawn ?_
        simp (maxSteps := 4000000) only [go_sem, ↓reduceIte, Nat.reduceAdd, Nat.reduceSub, Nat.reduceMul, Nat.reduceEqDiff, reduceCtorEq, Int.reduceAdd, Int.reduceLT, Int.reduceLE, Int.reduceToNat, Int.reduceNeg, Int.reduceSub, ← List.map_take, ← List.map_drop, ne_eq, Nat.reduceLeDiff, Nat.reduceLT, Nat.zero_le, Nat.le_refl, wrap64, wrapu64, wrapu32, ← Int.natCast_add, ← Int.natCast_mul, cast_succ, wrapu32_nat, shr32, reps_wd, map_set_wd, List.length_set, zs_len, z0, z4, z00, hg, hg0, hml, y1, y2, y3, n2, purify_lraw, hml0, Int.toNat_zero, hw0]
        refine ⟨by rfl, ?_⟩
        simp (maxSteps := 4000000) only [go_sem, ↓reduceIte, Nat.reduceAdd, Nat.reduceSub, Nat.reduceMul, Nat.reduceEqDiff, reduceCtorEq, Int.reduceAdd, Int.reduceLT, Int.reduceLE, Int.reduceToNat, Int.reduceNeg, Int.reduceSub, ← List.map_take, ← List.map_drop, ne_eq, Nat.reduceLeDiff, Nat.reduceLT, Nat.zero_le, Nat.le_refl, wrap64, wrapu64, wrapu32, ← Int.natCast_add, ← Int.natCast_mul, cast_succ, wrapu32_nat, shr32, reps_wd, map_set_wd, List.length_set, zs_len, hv]
      | true =>
        rw [r4] at n2
        have hv := hnext (hrow _ (by rw [r4, decide_eq_true (by omega)]; rfl))
        simp (maxSteps := 4000000) only [go_sem, ↓reduceIte, Nat.reduceAdd, Nat.reduceSub, Nat.reduceMul, Nat.reduceEqDiff, reduceCtorEq, Int.reduceAdd, Int.reduceLT, Int.reduceLE, Int.reduceToNat, Int.reduceNeg, Int.reduceSub, ← List.map_take, ← List.map_drop, ne_eq, Nat.reduceLeDiff, Nat.reduceLT, Nat.zero_le, Nat.le_refl, wrap64, wrapu64, wrapu32, ← Int.natCast_add, ← Int.natCast_mul, cast_succ, wrapu32_nat, shr32, reps_wd, map_set_wd, List.length_set, zs_len, z4]
        refine W_drawn ?_
        simp (maxSteps := 4000000) only [go_sem, ↓reduceIte, Nat.reduceAdd, Nat.reduceSub, Nat.reduceMul, Nat.reduceEqDiff, reduceCtorEq, Int.reduceAdd, Int.reduceLT, Int.reduceLE, Int.reduceToNat, Int.reduceNeg, Int.reduceSub, ← List.map_take, ← List.map_drop, ne_eq, Nat.reduceLeDiff, Nat.reduceLT, Nat.zero_le, Nat.le_refl, wrap64, wrapu64, wrapu32, ← Int.natCast_add, ← Int.natCast_mul, cast_succ, wrapu32_nat, shr32, reps_wd, map_set_wd, List.length_set, zs_len, z0, z4, z00, hg, hg0, hml, y1, y2, y3, n2, purify_lraw, hml0, Int.toNat_zero, hw0]
        refine ⟨by rfl, ?_⟩
        simp (maxSteps := 4000000) only [go_sem, ↓reduceIte, Nat.reduceAdd, Nat.reduceSub, Nat.reduceMul, Nat.reduceEqDiff, reduceCtorEq, Int.reduceAdd, Int.reduceLT, Int.reduceLE, Int.reduceToNat, Int.reduceNeg, Int.reduceSub, ← List.map_take, ← List.map_drop, ne_eq, Nat.reduceLeDiff, Nat.reduceLT, Nat.zero_le, Nat.le_refl, wrap64, wrapu64, wrapu32, ← Int.natCast_add, ← Int.natCast_mul, cast_succ, wrapu32_nat, shr32, reps_wd, map_set_wd, List.length_set, zs_len, w1]
        rw [← hIQ]
        refine hv _ ?_
        refine garb ?_
        rfl
end Go.Proofs.YtnpomadbaanpkaaGreat

/- Walks: what the program takes for a system. (Own work of this repo.) -/
namespace Go.Proofs.YtnpomadbaanpkaaGreat
open Vm
set_option maxRecDepth 10000

def MM (A : Mat) (B : List Raw) (i : Nat) : List Raw := B ++ (A.take i).flatMap (·.2)
theorem MM_zero (A : Mat) (B : List Raw) : MM A B 0 = B := by simp [MM]
theorem MM_succ {A : Mat} {B : List Raw} {i : Nat} (h : i < A.length) : MM A B (i + 1) = MM A B i ++ (A.getD i default).2 := by
  unfold MM; rw [take_getD h, List.flatMap_append]; simp
theorem MM_len {A : Mat} {B : List Raw} {w : Nat} : ∀ i, i ≤ A.length → (∀ j, j < i → (A.getD j default).2.length = w) → (MM A B i).length = B.length + i * w
  | 0, _, _ => by rw [MM_zero]; omega
  | i + 1, h, h1 => by rw [MM_succ (by omega), List.length_append, MM_len i (by omega) (fun j hj => h1 j (by omega)), h1 i (by omega), Nat.succ_mul]; omega
theorem MM_all (A : Mat) (B : List Raw) : (MM A B A.length).all okB = (B.all okB && A.all fun r => r.2.all okB) := by
  unfold MM; rw [List.take_length, List.all_append, List.all_flatMap]

set_option maxHeartbeats 2000000 in
theorem sys_spec (nl : Bool) (A : Mat) (nb : Bool) (B : List Raw) (hA : ShortM A) (hB : Short B) (iA : InM A) (iB : ∀ q ∈ B, InR q.2.2) : denP E 30 [mraw nl A, lraw nb B] = some (.ret (.bool (sysB A B))) := by
  refine denP_eq E30 rfl (by simp [AV.pureL, AV.pure, pure_lr, pure_ivr]) ?_
  have hL := hA.1
  have hLB := hB.1
  by_cases h1 : A.length < 1
  · have z1 : ((A.length : Int) < 1) = True := eq_true (by omega)
    have hv : sysB A B = false := by unfold sysB; rw [decide_eq_false (by omega)]; simp
    simp (maxSteps := 4000000) only [go_sem, ↓reduceIte, Nat.reduceAdd, Nat.reduceSub, Nat.reduceMul, Nat.reduceEqDiff, reduceCtorEq, Int.reduceAdd, Int.reduceLT, Int.reduceLE, Int.reduceToNat, Int.reduceNeg, Int.reduceSub, ← List.map_take, ← List.map_drop, ne_eq, Nat.reduceLeDiff, Nat.reduceLT, Nat.zero_le, Nat.le_refl, wrap64, wrapu64, wrapu32, ← Int.natCast_add, ← Int.natCast_mul, cast_succ, wrapu32_nat, shr32, reps_wd, map_set_wd, List.length_set, zs_len, Tryz.f30, z1, hv]
  have z1 : ((A.length : Int) < 1) = False := eq_false (by omega)
  by_cases h2 : 8 < A.length
  · have z2 : ((8 : Int) < (A.length : Int)) = True := eq_true (by omega)
    have hv : sysB A B = false := by unfold sysB; rw [decide_eq_false (by omega)]; simp
    simp (maxSteps := 4000000) only [go_sem, ↓reduceIte, Nat.reduceAdd, Nat.reduceSub, Nat.reduceMul, Nat.reduceEqDiff, reduceCtorEq, Int.reduceAdd, Int.reduceLT, Int.reduceLE, Int.reduceToNat, Int.reduceNeg, Int.reduceSub, ← List.map_take, ← List.map_drop, ne_eq, Nat.reduceLeDiff, Nat.reduceLT, Nat.zero_le, Nat.le_refl, wrap64, wrapu64, wrapu32, ← Int.natCast_add, ← Int.natCast_mul, cast_succ, wrapu32_nat, shr32, reps_wd, map_set_wd, List.length_set, zs_len, Tryz.f30, z1, z2, hv]
  have z2 : ((8 : Int) < (A.length : Int)) = False := eq_false (by omega)
  by_cases h3 : B.length = A.length
  rotate_left
  · have z3 : ((B.length : Int) = (A.length : Int)) = False := eq_false (by omega)
    have hv : sysB A B = false := by unfold sysB; rw [decide_eq_false (by omega)]; simp
    simp (maxSteps := 4000000) only [go_sem, ↓reduceIte, Nat.reduceAdd, Nat.reduceSub, Nat.reduceMul, Nat.reduceEqDiff, reduceCtorEq, Int.reduceAdd, Int.reduceLT, Int.reduceLE, Int.reduceToNat, Int.reduceNeg, Int.reduceSub, ← List.map_take, ← List.map_drop, ne_eq, Nat.reduceLeDiff, Nat.reduceLT, Nat.zero_le, Nat.le_refl, wrap64, wrapu64, wrapu32, ← Int.natCast_add, ← Int.natCast_mul, cast_succ, wrapu32_nat, shr32, reps_wd, map_set_wd, List.length_set, zs_len, Tryz.f30, z1, z2, z3, hv]
  have z3 : ((B.length : Int) = (A.length : Int)) = True := eq_true (by omega)
  have hg0 := get_lr (A := A) (i := 0) (by omega)
  have z00 : ((0 : Int) < (A.length : Int)) = True := eq_true (by omega)
  have hml : (A.map lr).length = A.length := List.length_map _
  obtain ⟨w, hw⟩ : ∃ w, w = (A.getD 0 default).2.length := ⟨_, rfl⟩
  have hwl := (hA.get 0).1
  rw [← hw] at hwl
  have hml0 : ((A.getD 0 default).2.map ivr).length = w := by rw [List.length_map, hw]
  have hw0 : ((A.getD 0 default).2.length : Int) = (w : Int) := by rw [hw]
  have hrow0 : rowB w (A.getD 0 default) = false → sysB A B = false := fun h => by unfold sysB; rw [← hw, allM_not (i := 0) (by omega) h]; simp
  by_cases h4 : w < 1
  · have z4 : ((w : Int) < 1) = True := eq_true (by omega)
    have hv := hrow0 (by unfold rowB; rw [decide_eq_false (by omega)]; rfl)
    simp (maxSteps := 4000000) only [go_sem, ↓reduceIte, Nat.reduceAdd, Nat.reduceSub, Nat.reduceMul, Nat.reduceEqDiff, reduceCtorEq, Int.reduceAdd, Int.reduceLT, Int.reduceLE, Int.reduceToNat, Int.reduceNeg, Int.reduceSub, ← List.map_take, ← List.map_drop, ne_eq, Nat.reduceLeDiff, Nat.reduceLT, Nat.zero_le, Nat.le_refl, wrap64, wrapu64, wrapu32, ← Int.natCast_add, ← Int.natCast_mul, cast_succ, wrapu32_nat, shr32, reps_wd, map_set_wd, List.length_set, zs_len, Tryz.f30, z1, z2, z3, z4, hg0, hml, z00, hml0, hw0, Int.toNat_zero, hv]
  have z4 : ((w : Int) < 1) = False := eq_false (by omega)
  by_cases h5 : 8 < w
  · have z5 : ((8 : Int) < (w : Int)) = True := eq_true (by omega)
    have hv := hrow0 (by unfold rowB; rw [decide_eq_false (by omega)]; rfl)
    simp (maxSteps := 4000000) only [go_sem, ↓reduceIte, Nat.reduceAdd, Nat.reduceSub, Nat.reduceMul, Nat.reduceEqDiff, reduceCtorEq, Int.reduceAdd, Int.reduceLT, Int.reduceLE, Int.reduceToNat, Int.reduceNeg, Int.reduceSub, ← List.map_take, ← List.map_drop, ne_eq, Nat.reduceLeDiff, Nat.reduceLT, Nat.zero_le, Nat.le_refl, wrap64, wrapu64, wrapu32, ← Int.natCast_add, ← Int.natCast_mul, cast_succ, wrapu32_nat, shr32, reps_wd, map_set_wd, List.length_set, zs_len, Tryz.f30, z1, z2, z3, z4, z5, hg0, hml, z00, hml0, hw0, Int.toNat_zero, hv]
  have z5 : ((8 : Int) < (w : Int)) = False := eq_false (by omega)
  clear hrow0
  have zb : (B.length = 0) = False := eq_false (by omega)
  have hbl : (B.map ivr).length = B.length := List.length_map _
  have hmem : ((2 * B.length + 1000) * 32 ≤ 281474976710656) = True := eq_true (by omega)
  have hfl := fr_len B
  have hfl2 : ((fr B).length = B.length * 2) = True := eq_true hfl
  simp (maxSteps := 4000000) only [go_sem, ↓reduceIte, Nat.reduceAdd, Nat.reduceSub, Nat.reduceMul, Nat.reduceEqDiff, reduceCtorEq, Int.reduceAdd, Int.reduceLT, Int.reduceLE, Int.reduceToNat, Int.reduceNeg, Int.reduceSub, ← List.map_take, ← List.map_drop, ne_eq, Nat.reduceLeDiff, Nat.reduceLT, Nat.zero_le, Nat.le_refl, wrap64, wrapu64, wrapu32, ← Int.natCast_add, ← Int.natCast_mul, cast_succ, wrapu32_nat, shr32, reps_wd, map_set_wd, List.length_set, zs_len, Tryz.f30, z1, z2, z3, z4, z5, hg0, hml, z00, hml0, hw0, Int.toNat_zero, reps, places, fillAll, zb, hbl, hmem, hfl, flat_fr, appendEff, srcCells]
  clear hmem hfl hfl2 zb hbl
  refine W_loopS (fun k sl h nx => ∃ i c : Nat, (∃ g : Nat → AV, sl = [mraw nl A, g 1, g 2, g 3, g 4, .ref c 0 (MM A B i).length, g 6, g 7, g 8, g 9, g 10, g 11, g 12, g 13, g 14, g 15, g 16, g 17, g 18, g 19, g 20, g 21, g 22, g 23, g 24, g 25, g 26, g 27, g 28, g 29, g 30, g 31, g 32, g 33, g 34, g 35, g 36, g 37, g 38, g 39, g 40, g 41, mraw nl A, .int .i64 (A.length : Int), .int .i64 i, g 45, g 46, g 47, g 48, g 49, g 50, g 51, g 52, g 53, g 54, g 55, g 56, g 57, g 58, g 59, g 60, g 61, g 62, g 63, g 64, g 65, g 66, g 67, g 68, g 69, g 70, g 71, g 72, g 73]) ∧ i + k = A.length ∧ h c = some ⟨fr (MM A B i), true, 2, false⟩ ∧ c < nx ∧ ∀ j, j < i → (A.getD j default).2.length = w) A.length ⟨0, 1, ?_, by omega, ?_, Nat.le_refl _, by omega⟩ ?_
  · rw [MM_zero]
    refine garb ?_
    rfl
  · rw [MM_zero]; simp only [upd_apply, ↓reduceIte, Nat.reduceEqDiff, if_pos]
  rintro k _ h nx ⟨i, c, ⟨g, rfl⟩, hk, hc, hcn, hlens⟩
  have hMl := MM_len (B := B) i (by omega) hlens
  have hiw : i * w ≤ 8 * 8 := Nat.mul_le_mul (by omega) (by omega)
  by_cases hi : i = A.length
  · have z6 : ((i : Int) < (A.length : Int)) = False := eq_false (by omega)
    have hv : sysB A B = (MM A B i).all okB := by
      unfold sysB
      rw [hi, MM_all, ← hw, decide_eq_true (by omega), Bool.true_and]
      congr 1
      rw [Bool.eq_iff_iff, List.all_eq_true, List.all_eq_true]
      constructor
      · intro h r hr
        have := h r hr
        unfold rowB at this
        rw [Bool.and_eq_true] at this
        exact this.2
      · intro h r hr
        unfold rowB
        obtain ⟨j, hj, rfl⟩ := List.getElem_of_mem hr
        have hl := hlens j (by omega)
        rw [List.getD_eq_getElem?_getD, List.getElem?_eq_getElem hj] at hl
        rw [h _ hr, decide_eq_true (by exact ⟨by rw [show (A[j]).2.length = w from hl]; omega, by rw [show (A[j]).2.length = w from hl]; omega, hl⟩)]
        rfl
    have hSM : ∀ j, ((MM A B i).getD j default).2.2.length < 9223372036854775808 ∧ InR ((MM A B i).getD j default).2.2 := by
      intro j
      rcases Nat.lt_or_ge j (MM A B i).length with hj | hj
      · have hm : (MM A B i).getD j default ∈ MM A B i := by rw [List.getD_eq_getElem?_getD, List.getElem?_eq_getElem hj]; exact List.getElem_mem _
        generalize (MM A B i).getD j default = q at *
        unfold MM at hm
        rcases List.mem_append.1 hm with hm | hm
        · exact ⟨hB.2 q hm, iB q hm⟩
        · obtain ⟨r, hr, hq⟩ := List.mem_flatMap.1 hm
          have hr' := List.mem_of_mem_take hr
          exact ⟨(hA.2 r hr').2 q hq, iA r hr' q hq⟩
      · rw [List.getD_eq_getElem?_getD, List.getElem?_eq_none hj]
        exact ⟨by show [].length < _; decide, fun x hx => by cases hx⟩
    have hMlt : (MM A B i).length < 1000 := by omega
    rw [hv]
    generalize MM A B i = M at *
    clear hv hMl hlens hg0 hml0 hw0
    simp (maxSteps := 4000000) only [go_sem, ↓reduceIte, Nat.reduceAdd, Nat.reduceSub, Nat.reduceMul, Nat.reduceEqDiff, reduceCtorEq, Int.reduceAdd, Int.reduceLT, Int.reduceLE, Int.reduceToNat, Int.reduceNeg, Int.reduceSub, ← List.map_take, ← List.map_drop, ne_eq, Nat.reduceLeDiff, Nat.reduceLT, Nat.zero_le, Nat.le_refl, wrap64, wrapu64, wrapu32, ← Int.natCast_add, ← Int.natCast_mul, cast_succ, wrapu32_nat, shr32, reps_wd, map_set_wd, List.length_set, zs_len, z6, hc]
    refine W_loopS (fun k sl h nx => ∃ t : Nat, (∃ g : Nat → AV, sl = [g 0, g 1, g 2, g 3, g 4, g 5, g 6, g 7, g 8, g 9, g 10, g 11, g 12, g 13, g 14, g 15, g 16, g 17, g 18, g 19, g 20, g 21, g 22, g 23, g 24, g 25, g 26, g 27, g 28, g 29, g 30, g 31, g 32, g 33, g 34, g 35, g 36, g 37, g 38, g 39, g 40, g 41, g 42, g 43, g 44, g 45, g 46, g 47, g 48, g 49, g 50, g 51, g 52, g 53, g 54, g 55, g 56, g 57, g 58, .ref c 0 M.length, .int .i64 (M.length : Int), .int .i64 t, g 62, g 63, g 64, g 65, g 66, g 67, g 68, g 69, g 70, g 71, g 72, g 73]) ∧ t + k = M.length ∧ h c = some ⟨fr M, true, 2, false⟩ ∧ c < nx ∧ ∀ j, j < t → okB (M.getD j default) = true) M.length ⟨0, ?_, by omega, hc, hcn, by omega⟩ ?_
    · refine garb ?_
      rfl
    clear hc hcn
    rintro k2 _ h nx ⟨t, ⟨g, rfl⟩, hk2, hc, hcn, hall⟩
    by_cases ht : t = M.length
    · have z7 : ((t : Int) < (M.length : Int)) = False := eq_false (by omega)
      have hv : M.all okB = true := all_upto fun j hj => hall j (by omega)
      simp (maxSteps := 4000000) only [go_sem, ↓reduceIte, Nat.reduceAdd, Nat.reduceSub, Nat.reduceMul, Nat.reduceEqDiff, reduceCtorEq, Int.reduceAdd, Int.reduceLT, Int.reduceLE, Int.reduceToNat, Int.reduceNeg, Int.reduceSub, ← List.map_take, ← List.map_drop, ne_eq, Nat.reduceLeDiff, Nat.reduceLT, Nat.zero_le, Nat.le_refl, wrap64, wrapu64, wrapu32, ← Int.natCast_add, ← Int.natCast_mul, cast_succ, wrapu32_nat, shr32, reps_wd, map_set_wd, List.length_set, zs_len, z7, hv]
    · have z7 : ((t : Int) < (M.length : Int)) = True := eq_true (by omega)
      have z0 : ((0 : Int) ≤ (t : Int)) = True := eq_true (by omega)
      have w1 : IntKind.i64.wrap ((t + 1 : Nat) : Int) = ((t + 1 : Nat) : Int) := wrap64 (by omega) (by omega)
      have hg := fr_get (L := M) (i := t) (by omega)
      have hin : (t * 2 + 2 ≤ (fr M).length) = True := eq_true (by rw [fr_len]; omega)
      have hno : okB (M.getD t default) = false → M.all okB = false := all_not (by omega)
      have hq := hSM t
      have x1 : (c = nx) = False := eq_false (by omega)
      have x2 : (nx = c) = False := eq_false (by omega)
      have hyes : okB (M.getD t default) = true → ∀ j, j < t + 1 → okB (M.getD j default) = true := fun h j hj => by
        by_cases e : j = t
        · rw [e]; exact h
        · exact hall j (by omega)
      generalize M.getD t default = q at *
      obtain ⟨neg, nlq, l⟩ := q
      dsimp only at hg hq
      have v1 := validAny neg nlq l hq.1
      simp only [iv] at v1
      cases h3 : rvalidW neg l with
      | false =>
        rw [h3] at v1
        have hv := hno (by show (rvalidW neg l && decide (bl (val l) ≤ 200)) = false; rw [h3, Bool.false_and])
        simp (maxSteps := 4000000) only [go_sem, ↓reduceIte, Nat.reduceAdd, Nat.reduceSub, Nat.reduceMul, Nat.reduceEqDiff, reduceCtorEq, Int.reduceAdd, Int.reduceLT, Int.reduceLE, Int.reduceToNat, Int.reduceNeg, Int.reduceSub, ← List.map_take, ← List.map_drop, ne_eq, Nat.reduceLeDiff, Nat.reduceLT, Nat.zero_le, Nat.le_refl, wrap64, wrapu64, wrapu32, ← Int.natCast_add, ← Int.natCast_mul, cast_succ, wrapu32_nat, shr32, reps_wd, map_set_wd, List.length_set, zs_len, z7, z0, hc, hg, hin, x1, x2, v1, hv]
      | true =>
        rw [h3] at v1
        obtain ⟨kl, z, sz, dz⟩ := rvalid_norm (neg := neg) hq.2 h3
        have v2 := bits_spec nlq z (by rw [dz]; omega)
        simp only [I, sz, dz] at v2
        have hval : val l = z.natAbs := by rw [← dz, val_dg]
        by_cases h4 : bl z.natAbs ≤ 200
        · have z8 : ((200 : Int) < (bl z.natAbs : Int)) = False := eq_false (by omega)
          have hv := hyes (by show (rvalidW neg l && decide (bl (val l) ≤ 200)) = true; rw [h3, hval, decide_eq_true h4]; rfl)
          simp (maxSteps := 4000000) only [go_sem, ↓reduceIte, Nat.reduceAdd, Nat.reduceSub, Nat.reduceMul, Nat.reduceEqDiff, reduceCtorEq, Int.reduceAdd, Int.reduceLT, Int.reduceLE, Int.reduceToNat, Int.reduceNeg, Int.reduceSub, ← List.map_take, ← List.map_drop, ne_eq, Nat.reduceLeDiff, Nat.reduceLT, Nat.zero_le, Nat.le_refl, wrap64, wrapu64, wrapu32, ← Int.natCast_add, ← Int.natCast_mul, cast_succ, wrapu32_nat, shr32, reps_wd, map_set_wd, List.length_set, zs_len, z7, z0, hc, hg, hin, x1, x2, v1, v2, z8, w1]
          refine ⟨k2 - 1, by omega, t + 1, ?_, by omega, by omega, hv⟩
          refine garb ?_
          rfl
        · have z8 : ((200 : Int) < (bl z.natAbs : Int)) = True := eq_true (by omega)
          have hv := hno (by show (rvalidW neg l && decide (bl (val l) ≤ 200)) = false; rw [hval, decide_eq_false h4, Bool.and_false])
          simp (maxSteps := 4000000) only [go_sem, ↓reduceIte, Nat.reduceAdd, Nat.reduceSub, Nat.reduceMul, Nat.reduceEqDiff, reduceCtorEq, Int.reduceAdd, Int.reduceLT, Int.reduceLE, Int.reduceToNat, Int.reduceNeg, Int.reduceSub, ← List.map_take, ← List.map_drop, ne_eq, Nat.reduceLeDiff, Nat.reduceLT, Nat.zero_le, Nat.le_refl, wrap64, wrapu64, wrapu32, ← Int.natCast_add, ← Int.natCast_mul, cast_succ, wrapu32_nat, shr32, reps_wd, map_set_wd, List.length_set, zs_len, z7, z0, hc, hg, hin, x1, x2, v1, v2, z8, hv]
  · have z6 : ((i : Int) < (A.length : Int)) = True := eq_true (by omega)
    have z0 : ((0 : Int) ≤ (i : Int)) = True := eq_true (by omega)
    have w1 : IntKind.i64.wrap ((i + 1 : Nat) : Int) = ((i + 1 : Nat) : Int) := wrap64 (by omega) (by omega)
    have hg := get_lr (A := A) (i := i) (by omega)
    have hsu := MM_succ (B := B) (show i < A.length by omega)
    have hS := hA.get i
    have hSl := hS.1
    by_cases hlen : (A.getD i default).2.length = w
    · have hsub := hlens
      have hlens' : ∀ j, j < i + 1 → (A.getD j default).2.length = w := fun j hj => by
        by_cases e : j = i
        · rw [e]; exact hlen
        · exact hlens j (by omega)
      have hMlt : (MM A B i).length ≤ 72 := by omega
      have hfl := fr_len (MM A B i)
      have hmr : ((A.getD i default).2.map ivr).length = w := by rw [List.length_map, hlen]
      have hflr : (fr (A.getD i default).2).length = w * 2 := by rw [fr_len, hlen]
      have zl : (((A.getD i default).2.length : Int) = (w : Int)) = True := eq_true (by omega)
      have zw : (w = 0) = False := eq_false (by omega)
      have hmem : ((2 * ((MM A B i).length + w) + 1000) * 32 ≤ 281474976710656) = True := eq_true (by omega)
      have hl2 : (MM A B (i + 1)).length = (MM A B i).length + w := by rw [hsu, List.length_append, hlen]
      have hf2 : fr (MM A B (i + 1)) = fr (MM A B i) ++ fr (A.getD i default).2 := by rw [hsu, fr_app]
      have x1 : (c = nx) = False := eq_false (by omega)
      have x2 : (nx = c) = False := eq_false (by omega)
      have hfin : ∀ (h' : Heap) (n' : Nat) (sl : List AV), (∃ g : Nat → AV, sl = [mraw nl A, g 1, g 2, g 3, g 4, .ref nx 0 ((MM A B i).length + w), g 6, g 7, g 8, g 9, g 10, g 11, g 12, g 13, g 14, g 15, g 16, g 17, g 18, g 19, g 20, g 21, g 22, g 23, g 24, g 25, g 26, g 27, g 28, g 29, g 30, g 31, g 32, g 33, g 34, g 35, g 36, g 37, g 38, g 39, g 40, g 41, mraw nl A, .int .i64 (A.length : Int), .int .i64 ((i + 1 : Nat) : Int), g 45, g 46, g 47, g 48, g 49, g 50, g 51, g 52, g 53, g 54, g 55, g 56, g 57, g 58, g 59, g 60, g 61, g 62, g 63, g 64, g 65, g 66, g 67, g 68, g 69, g 70, g 71, g 72, g 73]) → h' nx = some ⟨fr (MM A B i) ++ fr (A.getD i default).2, true, 2, false⟩ → nx < n' →
          ∃ k', k' < k ∧ ∃ i c : Nat, (∃ g : Nat → AV, sl = [mraw nl A, g 1, g 2, g 3, g 4, .ref c 0 (MM A B i).length, g 6, g 7, g 8, g 9, g 10, g 11, g 12, g 13, g 14, g 15, g 16, g 17, g 18, g 19, g 20, g 21, g 22, g 23, g 24, g 25, g 26, g 27, g 28, g 29, g 30, g 31, g 32, g 33, g 34, g 35, g 36, g 37, g 38, g 39, g 40, g 41, mraw nl A, .int .i64 (A.length : Int), .int .i64 i, g 45, g 46, g 47, g 48, g 49, g 50, g 51, g 52, g 53, g 54, g 55, g 56, g 57, g 58, g 59, g 60, g 61, g 62, g 63, g 64, g 65, g 66, g 67, g 68, g 69, g 70, g 71, g 72, g 73]) ∧ i + k' = A.length ∧ h' c = some ⟨fr (MM A B i), true, 2, false⟩ ∧ c < n' ∧ ∀ j, j < i → (A.getD j default).2.length = w := fun h' n' sl a0 a1 a2 => ⟨k - 1, by omega, i + 1, nx, by rw [hl2]; exact a0, by omega, by rw [hf2]; exact a1, a2, hlens'⟩
      generalize hIQ : (fun (k : Nat) (σ : St) => ∃ i c : Nat, (∃ g : Nat → AV, σ.sl = [mraw nl A, g 1, g 2, g 3, g 4, .ref c 0 (MM A B i).length, g 6, g 7, g 8, g 9, g 10, g 11, g 12, g 13, g 14, g 15, g 16, g 17, g 18, g 19, g 20, g 21, g 22, g 23, g 24, g 25, g 26, g 27, g 28, g 29, g 30, g 31, g 32, g 33, g 34, g 35, g 36, g 37, g 38, g 39, g 40, g 41, mraw nl A, .int .i64 (A.length : Int), .int .i64 i, g 45, g 46, g 47, g 48, g 49, g 50, g 51, g 52, g 53, g 54, g 55, g 56, g 57, g 58, g 59, g 60, g 61, g 62, g 63, g 64, g 65, g 66, g 67, g 68, g 69, g 70, g 71, g 72, g 73]) ∧ i + k = A.length ∧ σ.h c = some ⟨fr (MM A B i), true, 2, false⟩ ∧ c < σ.nx ∧ ∀ j, j < i → (A.getD j default).2.length = w) = IQ
      clear hlens hlens' hsub hsu hl2 hf2 hMl
      generalize MM A B i = M at *
      generalize A.getD i default = R at *
      generalize A.getD 0 default = R0 at *
      simp (maxSteps := 4000000) only [go_sem, ↓reduceIte, Nat.reduceAdd, Nat.reduceSub, Nat.reduceMul, Nat.reduceEqDiff, reduceCtorEq, Int.reduceAdd, Int.reduceLT, Int.reduceLE, Int.reduceToNat, Int.reduceNeg, Int.reduceSub, ← List.map_take, ← List.map_drop, ne_eq, Nat.reduceLeDiff, Nat.reduceLT, Nat.zero_le, Nat.le_refl, wrap64, wrapu64, wrapu32, ← Int.natCast_add, ← Int.natCast_mul, cast_succ, wrapu32_nat, shr32, reps_wd, map_set_wd, List.length_set, zs_len, z6, z0, hg, hg0, hml, hml0, hw0, z00, Int.toNat_zero, zl, hc, hfl, hmr, hflr, zw, hmem, flat_fr, appendEff, srcCells, x1, x2, w1]
      rw [← hIQ]
      refine hfin _ _ _ ?_ ?_ ?_
      · refine garb ?_
        rfl
      · simp only [upd_apply, ↓reduceIte, Nat.reduceEqDiff, if_pos]
      · dsimp only; omega
    · have zl : (((A.getD i default).2.length : Int) = (w : Int)) = False := eq_false (by omega)
      have hv : sysB A B = false := by
        unfold sysB
        rw [← hw, allM_not (i := i) (by omega) (by unfold rowB; rw [decide_eq_false (by omega)]; rfl), Bool.and_false]
      have hmr : ((A.getD i default).2.map ivr).length = (A.getD i default).2.length := by rw [List.length_map]
      generalize A.getD i default = R at *
      generalize A.getD 0 default = R0 at *
      simp (maxSteps := 4000000) only [go_sem, ↓reduceIte, Nat.reduceAdd, Nat.reduceSub, Nat.reduceMul, Nat.reduceEqDiff, reduceCtorEq, Int.reduceAdd, Int.reduceLT, Int.reduceLE, Int.reduceToNat, Int.reduceNeg, Int.reduceSub, ← List.map_take, ← List.map_drop, ne_eq, Nat.reduceLeDiff, Nat.reduceLT, Nat.zero_le, Nat.le_refl, wrap64, wrapu64, wrapu32, ← Int.natCast_add, ← Int.natCast_mul, cast_succ, wrapu32_nat, shr32, reps_wd, map_set_wd, List.length_set, zs_len, z6, z0, hg, hg0, hml, hml0, hw0, z00, Int.toNat_zero, zl, hv]
end Go.Proofs.YtnpomadbaanpkaaGreat

/- Walks: sums of products. (Own work of this repo.) -/
namespace Go.Proofs.YtnpomadbaanpkaaGreat
open Vm
set_option maxRecDepth 10000

/-- The number of a raw one. -/
def zv (q : Raw) : Int := sg q.1 (val q.2.2)
theorem zv_spec {q : Raw} (hr : InR q.2.2) (h : okV q = true) : ivr q = I q.2.1 (zv q) ∧ (dg (zv q)).length = q.2.2.length ∧ q.2.2.length ≤ 4096 ∧ ng (zv q) = q.1 ∧ dg (zv q) = q.2.2 := by
  obtain ⟨h1, z, h2, h3⟩ := rvalid_norm hr h
  have e : zv q = z := by
    unfold zv
    rw [← h2, ← h3, val_dg]
    exact sg_ng z
  rw [e]
  exact ⟨by rw [I, h2, h3], by rw [h3], h1, h2, h3⟩
def dz (a b : Nat → Int) : Nat → Int
  | 0 => 0
  | n + 1 => dz a b n + a n * b n
/-- Entry i of a list. -/
def zg (L : List Raw) (i : Nat) : Int := zv (L.getD i default)
def AllV (L : List Raw) : Prop := ∀ q ∈ L, InR q.2.2 ∧ okV q = true
theorem AllV.get {L : List Raw} (h : AllV L) {i : Nat} (hi : i < L.length) : InR (L.getD i default).2.2 ∧ okV (L.getD i default) = true := by
  rw [List.getD_eq_getElem?_getD, List.getElem?_eq_getElem hi]; exact h _ (List.getElem_mem _)
set_option maxHeartbeats 1000000 in
theorem dot_spec (na : Bool) (A : List Raw) (nb : Bool) (B : List Raw) (hA : AllV A) (hB : AllV B) (hl : A.length ≤ B.length) (hAl : A.length < 1000000)
    (hp : ∀ i, i < A.length → (dg (zg A i * zg B i)).length ≤ 4096) (hs : ∀ i, i ≤ A.length → (dg (dz (zg A) (zg B) i)).length ≤ 4096) :
    ∃ f : Bool, denP E 38 [lraw na A, lraw nb B] = some (.ret (I f (dz (zg A) (zg B) A.length))) ∧ (f = true → dz (zg A) (zg B) A.length = 0) := by
  refine denP_ex (F := fun f : Bool => I f (dz (zg A) (zg B) A.length)) E38 rfl (by simp [AV.pureL, AV.pure, pure_ivr]) ?_
  simp (maxSteps := 4000000) only [go_sem, ↓reduceIte, Nat.reduceAdd, Nat.reduceSub, Nat.reduceMul, Nat.reduceEqDiff, reduceCtorEq, Int.reduceAdd, Int.reduceLT, Int.reduceLE, Int.reduceToNat, Int.reduceNeg, Int.reduceSub, ← List.map_take, ← List.map_drop, ne_eq, Nat.reduceLeDiff, Nat.reduceLT, Nat.zero_le, Nat.le_refl, wrap64, wrapu64, wrapu32, ← Int.natCast_add, ← Int.natCast_mul, cast_succ, wrapu32_nat, shr32, reps_wd, map_set_wd, List.length_set, zs_len, Tryz.f38, places, fillAll]
  refine W_loopS (fun k sl h nx => ∃ (i : Nat) (f : Bool), (∃ g : Nat → AV, sl = [g 0, lraw nb B, g 2, g 3, .ptr 0 0, .ptr 1 0, g 6, g 7, lraw na A, .int .i64 (A.length : Int), .int .i64 (i : Int), g 11, g 12, g 13, g 14, g 15, g 16, g 17, g 18, g 19, g 20, g 21, g 22, g 23, g 24]) ∧ i + k = A.length ∧ h 0 = some ⟨[.bool false, .lst true []], true, 2, false⟩ ∧ h 1 = some ⟨[.bool (ng (dz (zg A) (zg B) i)), .lst f ((dg (dz (zg A) (zg B) i)).map wd)], true, 2, false⟩ ∧ 2 ≤ nx ∧ (f = true → dz (zg A) (zg B) i = 0)) A.length ⟨0, true, garb rfl, by omega, ?_, ?_, Nat.le_refl _, fun _ => rfl⟩ ?_
  · simp only [upd_apply, ↓reduceIte, Nat.reduceEqDiff, if_pos]
  · rw [show dz (zg A) (zg B) 0 = 0 from rfl, ng_zero, dg_zero]; simp only [upd_apply, ↓reduceIte, Nat.reduceEqDiff, if_pos]; rfl
  rintro k _ h nx ⟨i, f, ⟨g, rfl⟩, hk, e0, e1, hnx, hff⟩
  by_cases hi : i = A.length
  · have z1 : ((i : Int) < (A.length : Int)) = False := eq_false (by omega)
    rw [hi] at e1 hff
    generalize dz (zg A) (zg B) A.length = s at *
    simp (maxSteps := 4000000) only [go_sem, ↓reduceIte, Nat.reduceAdd, Nat.reduceSub, Nat.reduceMul, Nat.reduceEqDiff, reduceCtorEq, Int.reduceAdd, Int.reduceLT, Int.reduceLE, Int.reduceToNat, Int.reduceNeg, Int.reduceSub, ← List.map_take, ← List.map_drop, ne_eq, Nat.reduceLeDiff, Nat.reduceLT, Nat.zero_le, Nat.le_refl, wrap64, wrapu64, wrapu32, ← Int.natCast_add, ← Int.natCast_mul, cast_succ, wrapu32_nat, shr32, reps_wd, map_set_wd, List.length_set, zs_len, z1, e0, e1]
    exact ⟨f, rfl, hff⟩
  · have z1 : ((i : Int) < (A.length : Int)) = True := eq_true (by omega)
    have z0 : ((0 : Int) ≤ (i : Int)) = True := eq_true (by omega)
    have zb : ((i : Int) < (B.length : Int)) = True := eq_true (by omega)
    have hga := get_ivr (L := A) (i := i) (by omega)
    have hgb := get_ivr (L := B) (i := i) (by omega)
    obtain ⟨a1, a2, a3, a4, a5⟩ := zv_spec (hA.get (show i < A.length by omega)).1 (hA.get (show i < A.length by omega)).2
    obtain ⟨b1, b2, b3, b4, b5⟩ := zv_spec (hB.get (show i < B.length by omega)).1 (hB.get (show i < B.length by omega)).2
    rw [← a4, ← a5] at hga
    rw [← b4, ← b5] at hgb
    have hp := hp i (by omega)
    have hs0 := hs i (by omega)
    have hs1 := hs (i + 1) (by omega)
    have hst : dz (zg A) (zg B) (i + 1) = dz (zg A) (zg B) i + zg A i * zg B i := rfl
    have hml : (A.map ivr).length = A.length := List.length_map _
    have hmlb : (B.map ivr).length = B.length := List.length_map _
    have w1 : IntKind.i64.wrap ((i + 1 : Nat) : Int) = ((i + 1 : Nat) : Int) := wrap64 (by omega) (by omega)
    have hfin : ∀ (h' : Heap) (n' : Nat) (sl : List AV) (f' : Bool), (∃ g : Nat → AV, sl = [g 0, lraw nb B, g 2, g 3, .ptr 0 0, .ptr 1 0, g 6, g 7, lraw na A, .int .i64 (A.length : Int), .int .i64 ((i + 1 : Nat) : Int), g 11, g 12, g 13, g 14, g 15, g 16, g 17, g 18, g 19, g 20, g 21, g 22, g 23, g 24]) → h' 0 = some ⟨[.bool false, .lst true []], true, 2, false⟩ → h' 1 = some ⟨[.bool (ng (dz (zg A) (zg B) (i + 1))), .lst f' ((dg (dz (zg A) (zg B) (i + 1))).map wd)], true, 2, false⟩ → 2 ≤ n' → (f' = true → dz (zg A) (zg B) (i + 1) = 0) →
        ∃ k', k' < k ∧ ∃ (i : Nat) (f : Bool), (∃ g : Nat → AV, sl = [g 0, lraw nb B, g 2, g 3, .ptr 0 0, .ptr 1 0, g 6, g 7, lraw na A, .int .i64 (A.length : Int), .int .i64 (i : Int), g 11, g 12, g 13, g 14, g 15, g 16, g 17, g 18, g 19, g 20, g 21, g 22, g 23, g 24]) ∧ i + k' = A.length ∧ h' 0 = some ⟨[.bool false, .lst true []], true, 2, false⟩ ∧ h' 1 = some ⟨[.bool (ng (dz (zg A) (zg B) i)), .lst f ((dg (dz (zg A) (zg B) i)).map wd)], true, 2, false⟩ ∧ 2 ≤ n' ∧ (f = true → dz (zg A) (zg B) i = 0) := fun h' n' sl f' c0 c1 c2 c3 c4 => ⟨k - 1, by omega, i + 1, f', c0, by omega, c1, c2, c3, c4⟩
    generalize hIQ : (fun (k : Nat) (σ : St) => ∃ (i : Nat) (f : Bool), (∃ g : Nat → AV, σ.sl = [g 0, lraw nb B, g 2, g 3, .ptr 0 0, .ptr 1 0, g 6, g 7, lraw na A, .int .i64 (A.length : Int), .int .i64 (i : Int), g 11, g 12, g 13, g 14, g 15, g 16, g 17, g 18, g 19, g 20, g 21, g 22, g 23, g 24]) ∧ i + k = A.length ∧ σ.h 0 = some ⟨[.bool false, .lst true []], true, 2, false⟩ ∧ σ.h 1 = some ⟨[.bool (ng (dz (zg A) (zg B) i)), .lst f ((dg (dz (zg A) (zg B) i)).map wd)], true, 2, false⟩ ∧ 2 ≤ σ.nx ∧ (f = true → dz (zg A) (zg B) i = 0)) = IQ
    rw [hst] at hs1 hfin
    clear hs hst hff
    unfold zg at *
    generalize hqa : A.getD i default = qa at *
    generalize hqb : B.getD i default = qb at *
    rw [← a2] at a3
    rw [← b2] at b3
    clear a1 a2 b1 b2 a4 a5 b4 b5 hqa hqb
    generalize zv qa = x at *
    generalize zv qb = y at *
    generalize dz (fun i => zv (A.getD i default)) (fun i => zv (B.getD i default)) i = s at *
    have m1 := exMul_ret qa.2.1 qb.2.1 x y a3 b3 hp
    have s1 := exAdd_ret f (mz x y) s (x * y) hs0 hp hs1
    generalize qa.2.1 = fa at *
    generalize qb.2.1 = fb at *
    generalize mz x y = fm at *
    generalize x * y = xy at *
    generalize s + xy = s2 at *
    clear hp hs0 hs1 a3 b3
    have x0 : (nx = 0) = False := eq_false (by omega)
    have x1 : (nx = 1) = False := eq_false (by omega)
    have x2 : (0 = nx) = False := eq_false (by omega)
    have x3 : (1 = nx) = False := eq_false (by omega)
    simp (maxSteps := 4000000) only [go_sem, ↓reduceIte, Nat.reduceAdd, Nat.reduceSub, Nat.reduceMul, Nat.reduceEqDiff, reduceCtorEq, Int.reduceAdd, Int.reduceLT, Int.reduceLE, Int.reduceToNat, Int.reduceNeg, Int.reduceSub, ← List.map_take, ← List.map_drop, ne_eq, Nat.reduceLeDiff, Nat.reduceLT, Nat.zero_le, Nat.le_refl, wrap64, wrapu64, wrapu32, ← Int.natCast_add, ← Int.natCast_mul, cast_succ, wrapu32_nat, shr32, reps_wd, map_set_wd, List.length_set, zs_len, z0, z1, hga, hml, x0, x1, x2, x3, e0, e1, places, fillAll]
    refine W_drawn ?_
    simp (maxSteps := 4000000) only [go_sem, ↓reduceIte, Nat.reduceAdd, Nat.reduceSub, Nat.reduceMul, Nat.reduceEqDiff, reduceCtorEq, Int.reduceAdd, Int.reduceLT, Int.reduceLE, Int.reduceToNat, Int.reduceNeg, Int.reduceSub, ← List.map_take, ← List.map_drop, ne_eq, Nat.reduceLeDiff, Nat.reduceLT, Nat.zero_le, Nat.le_refl, wrap64, wrapu64, wrapu32, ← Int.natCast_add, ← Int.natCast_mul, cast_succ, wrapu32_nat, shr32, reps_wd, map_set_wd, List.length_set, zs_len, z0, zb, hgb, hmlb, x0, x1, x2, x3, e0, e1, m1, s1, places, fillAll]
    refine ⟨by refine okR_pairs ?_; (repeat ((with_unfolding_all refine And.intro ?_ ?_); (focus (rw [free_mk] <;> (try simp) <;> (try omega))))); (with_unfolding_all exact True.intro), ?_⟩
    rw [w1, ← hIQ]
    refine hfin _ _ _ false (garb rfl) ?_ ?_ (by dsimp only; omega) (fun e => by cases e)
    · simp only [upd_apply, ↓reduceIte, Nat.reduceEqDiff, e0, x2]
    · simp only [upd_apply, ↓reduceIte, Nat.reduceEqDiff, if_pos]
end Go.Proofs.YtnpomadbaanpkaaGreat

/- The machine over pure values: in a statement without an order, readers that hang on little are looked at once. (Own work of this repo.) -/
namespace Vm
open Go

theorem off_ne {n k : Nat} : (n + (k + 1) = n) = False := eq_false (by omega)
theorem ne_off {n k : Nat} : (n = n + (k + 1)) = False := eq_false (by omega)
/-- A reader that hangs on little (of loads: those of the kinds in T). -/
def stB (T : List (Nat × Nat)) (r : Rec) : Bool := match r.ups with
  | [] => (match r.dep with
    | .all => false
    | .shape _ => true
    | .cells t off _ => T.any fun p => p.1 == t && p.2 == off)
  | _ => false
def trB (r : Rec) : Bool := match r.ups, r.rds with
  | [], [] => true
  | _, _ => false
def sktB (T : List (Nat × Nat)) (r : Rec) : Bool := match trB r with | true => true | false => stB T r
def stOk (E : Env) (H : Heap) (W : List (Nat × Option Blk)) : List Nat × Dep → Prop
  | ([x], d) => d.ok E (H x) ∧ ∀ p ∈ W, p.1 = x → d.ok E p.2
  | _ => False
def sts (T : List (Nat × Nat)) : List Rec → List (List Nat × Dep)
  | [] => []
  | r :: rs => match stB T r with | true => (r.rds, r.dep) :: sts T rs | false => sts T rs
def allS (E : Env) (H : Heap) (W : List (Nat × Option Blk)) : List (List Nat × Dep) → Prop
  | [] => True
  | q :: qs => stOk E H W q ∧ allS E H W qs
def gl1 (T : List (Nat × Nat)) (M : List Nat) (i : Nat) (r : Rec) : Nat → List Rec → List (Rec × Rec)
  | _, [] => []
  | j, s :: ss => (match sktB T s || (r.quiet && s.quiet) || (M.getD j 0).testBit i with | true => gl1 T M i r (j + 1) ss | false => (r, s) :: gl1 T M i r (j + 1) ss)
def gl (T : List (Nat × Nat)) (M : List Nat) : Nat → List Rec → List (Rec × Rec)
  | _, [] => []
  | i, r :: rs => (match sktB T r with | true => [] | false => gl1 T M i r (i + 1) rs) ++ gl T M (i + 1) rs
def Disj (p : Rec × Rec) : Prop := (∀ i, i ∈ p.1.ids → i ∉ p.2.ids) ∧ (∀ i, i ∈ p.1.ids → i ∉ p.2.rds) ∧ (∀ i, i ∈ p.2.ids → i ∉ p.1.rds)
def allD : List (Rec × Rec) → Prop
  | [] => True
  | p :: ps => Disj p ∧ allD ps
section
variable {E : Env} {H : Heap} {all : List Oper} {W : List (Nat × Option Blk)} {T : List (Nat × Nat)}
theorem stB_ids {r : Rec} (h : stB T r = true) : r.ids = [] := by
  unfold stB at h; unfold Rec.ids
  split at h
  · rename_i hu; rw [hu]; rfl
  · cases h
theorem allS_mem : ∀ {l : List (List Nat × Dep)}, allS E H W l → ∀ q ∈ l, stOk E H W q
  | [], _, _, h => by cases h
  | x :: xs, h, q, hq => by
    rcases List.mem_cons.1 hq with rfl | hq
    · exact h.1
    · exact allS_mem h.2 q hq
theorem sts_mem : ∀ {rs : List Rec} {r : Rec}, r ∈ rs → stB T r = true → (r.rds, r.dep) ∈ sts T rs
  | x :: xs, r, h, hb => by
    rw [sts]
    rcases List.mem_cons.1 h with rfl | h
    · rw [hb]; exact List.mem_cons_self
    · have := sts_mem h hb
      split
      · exact List.mem_cons_of_mem _ this
      · exact this
theorem allD_mem : ∀ {l : List (Rec × Rec)}, allD l → ∀ q ∈ l, Disj q
  | [], _, _, h => by cases h
  | x :: xs, h, q, hq => by
    rcases List.mem_cons.1 hq with rfl | hq
    · exact h.1
    · exact allD_mem h.2 q hq
theorem fl1_sub {i : Nat} {r : Rec} : ∀ (ss : List Rec) (j : Nat) (p : Rec × Rec), p ∈ fl1 all i r j ss → p.1 = r ∧ p.2 ∈ ss ∧ (sktB T p.2 = true ∨ p ∈ gl1 T (masks all []) i r j ss)
  | [], _, _, h => by cases h
  | s :: ss, j, p, h => by
    rw [fl1] at h
    split at h
    · rename_i hc
      obtain ⟨h1, h2, h3⟩ := fl1_sub ss (j + 1) p h
      refine ⟨h1, List.mem_cons_of_mem _ h2, h3.imp id fun h3 => ?_⟩
      rw [gl1]
      have : (sktB T s || (r.quiet && s.quiet) || ((masks all []).getD j 0).testBit i) = true := by rw [Bool.or_assoc]; unfold befBit at hc; rw [hc, Bool.or_true]
      rw [this]; exact h3
    · rename_i hc
      rcases List.mem_cons.1 h with rfl | h
      · refine ⟨rfl, List.mem_cons_self, ?_⟩
        cases hs : sktB T s with
        | true => exact .inl rfl
        | false =>
          right
          rw [gl1]
          have : (sktB T s || (r.quiet && s.quiet) || ((masks all []).getD j 0).testBit i) = false := by rw [hs, Bool.or_assoc]; unfold befBit at hc; rw [hc]; rfl
          rw [this]; exact List.mem_cons_self
      · obtain ⟨h1, h2, h3⟩ := fl1_sub ss (j + 1) p h
        refine ⟨h1, List.mem_cons_of_mem _ h2, h3.imp id fun h3 => ?_⟩
        rw [gl1]
        split
        · exact h3
        · exact List.mem_cons_of_mem _ h3
theorem fl_sub : ∀ (rs : List Rec) (i : Nat) (p : Rec × Rec), p ∈ fl all i rs → p.1 ∈ rs ∧ p.2 ∈ rs ∧ (sktB T p.1 = true ∨ sktB T p.2 = true ∨ p ∈ gl T (masks all []) i rs)
  | [], _, _, h => by cases h
  | r :: rs, i, p, h => by
    rw [fl] at h
    rcases List.mem_append.1 h with h | h
    · obtain ⟨h1, h2, h3⟩ := fl1_sub rs (i + 1) p h
      refine ⟨by rw [h1]; exact List.mem_cons_self, List.mem_cons_of_mem _ h2, ?_⟩
      cases hs : sktB T r with
      | true => exact .inl (by rw [h1]; exact hs)
      | false => exact .inr (h3.imp id fun h3 => by rw [gl, hs]; exact List.mem_append_left _ h3)
    · obtain ⟨h1, h2, h3⟩ := fl_sub rs (i + 1) p h
      exact ⟨List.mem_cons_of_mem _ h1, List.mem_cons_of_mem _ h2, h3.imp id fun h3 => h3.imp id fun h3 => by rw [gl]; exact List.mem_append_right _ h3⟩
theorem allW_of {rs : List Rec} (T : List (Nat × Nat)) (M : List Nat) (hM : masks all [] = M) (hW : rs.flatMap (·.ups) = W) (h1 : allS E H W (sts T rs)) (h2 : allD (gl T M 0 rs)) : allW E rs H (fl all 0 rs) := by
  subst hM
  have st : ∀ r ∈ rs, stB T r = true → StW E rs H r := by
    intro r hr hb
    have := allS_mem h1 _ (sts_mem hr hb)
    unfold stOk at this
    split at this
    · rename_i x d he
      simp only [Prod.mk.injEq] at he
      obtain ⟨e1, e2⟩ := he
      subst e2
      exact ⟨stB_ids hb, x, e1, this.1, fun s hs p hp => this.2 p (by rw [← hW]; exact List.mem_flatMap.2 ⟨s, hs, hp⟩)⟩
    · exact this.elim
  have key : ∀ l : List (Rec × Rec), (∀ p ∈ l, PairW E rs H p.1 p.2) → allW E rs H l := by
    intro l
    induction l with
    | nil => intro _; trivial
    | cons p ps ih => exact fun h => ⟨h p List.mem_cons_self, ih fun q hq => h q (List.mem_cons_of_mem _ hq)⟩
  refine key _ fun p hp => ?_
  obtain ⟨m1, m2, h⟩ := fl_sub rs 0 p hp
  have tr : ∀ r, sktB T r = true → r.ids = [] ∧ (r.rds = [] ∨ stB T r = true) := by
    intro r h
    unfold sktB at h
    split at h
    · rename_i ht
      unfold trB at ht
      split at ht
      · rename_i h1 h2
        exact ⟨by unfold Rec.ids; rw [h1]; rfl, .inl h2⟩
      · cases ht
    · exact ⟨stB_ids h, .inr h⟩
  rcases h with h | h | h
  · obtain ⟨e, h⟩ := tr _ h
    exact ⟨fun i hi => absurd (e ▸ hi) List.not_mem_nil, .inl fun i hi => absurd (e ▸ hi) List.not_mem_nil, h.elim (fun h => .inl fun i _ hi => absurd (h ▸ hi) List.not_mem_nil) fun h => .inr (st _ m1 h)⟩
  · obtain ⟨e, h⟩ := tr _ h
    exact ⟨fun i _ hi => absurd (e ▸ hi) List.not_mem_nil, h.elim (fun h => .inl fun i _ hi => absurd (h ▸ hi) List.not_mem_nil) fun h => .inr (st _ m2 h), .inl fun i hi => absurd (e ▸ hi) List.not_mem_nil⟩
  · obtain ⟨d1, d2, d3⟩ := allD_mem h2 p h
    exact ⟨d1, .inl d2, .inl d3⟩
end
end Vm

/- Plain facts on a computation that keeps its first error. (Own work of this repo.) -/
namespace Vm

/-- The error behind an operation whose exact result is z. -/
def ke (e z : Int) : Int := if e = 0 then er z else e
/-- The number behind it. -/
def kval (e z : Int) : Int := if ke e z = 0 then z else 0
def kf (e : Int) (f : Bool) (z : Int) : Bool := if ke e z = 0 then f else true
theorem er_cases (z : Int) : (er z = 0 ∧ (dg z).length ≤ 4096) ∨ (er z = 4 ∧ ¬ (dg z).length ≤ 4096) := by
  unfold er; split
  · exact .inl ⟨rfl, by assumption⟩
  · exact .inr ⟨rfl, by assumption⟩
theorem kval_len (e z : Int) : (dg (kval e z)).length ≤ 4096 := by
  unfold kval
  split
  · rename_i h
    unfold ke at h
    split at h
    · rcases er_cases z with h1 | h1
      · exact h1.2
      · omega
    · contradiction
  · rw [dg_zero]; simp
theorem ke_zero (z : Int) : ke 0 z = er z := if_pos rfl
theorem ke_bad {e : Int} (h : e ≠ 0) (z : Int) : ke e z = e := if_neg h
theorem kval_bad {e : Int} (h : e ≠ 0) (z : Int) : kval e z = 0 := by unfold kval; rw [ke_bad h, if_neg h]
theorem kf_bad {e : Int} (h : e ≠ 0) (f : Bool) (z : Int) : kf e f z = true := by unfold kf; rw [ke_bad h, if_neg h]
theorem ke_fit {z : Int} (h : (dg z).length ≤ 4096) (e : Int) : ke e z = e := by
  unfold ke; split
  · rename_i h0; rw [er_of h, h0]
  · rfl
theorem kval_fit {z : Int} (h : (dg z).length ≤ 4096) : kval 0 z = z := by unfold kval; rw [ke_fit h, if_pos rfl]
theorem kf_fit {z : Int} (h : (dg z).length ≤ 4096) (f : Bool) : kf 0 f z = f := by unfold kf; rw [ke_fit h, if_pos rfl]
theorem ke_no {z : Int} (h : ¬ (dg z).length ≤ 4096) : ke 0 z = 4 := by rw [ke_zero, er_no h]
theorem ke_04 {e z : Int} (h : e = 0 ∨ e = 4) : ke e z = 0 ∨ ke e z = 4 := by
  unfold ke; split
  · rcases er_cases z with h1 | h1
    · exact .inl h1.1
    · exact .inr h1.1
  · rcases h with h | h <;> omega
/-- What 'keep' does. -/
theorem keep_val (e z : Int) : (if ke e z = 0 then fit z else 0) = kval e z := by
  unfold kval
  split
  · rename_i h
    unfold ke at h
    split at h
    · rcases er_cases z with h1 | h1
      · exact fit_of h1.2
      · omega
    · contradiction
  · rfl
theorem keep_f (e : Int) (f : Bool) (z : Int) : (if ke e z = 0 then fm f z else true) = kf e f z := by
  unfold kf
  split
  · rename_i h
    unfold ke at h
    split at h
    · rcases er_cases z with h1 | h1
      · exact fm_of h1.2
      · omega
    · contradiction
  · rfl
end Vm

/- Walks: computations that keep their first error. (Own work of this repo.) -/
namespace Go.Proofs.YtnpomadbaanpkaaGreat
open Vm
set_option maxRecDepth 10000

theorem purify_ptr {n : Nat} {H : Heap} {i o : Nat} : purify (n + 1) H (.ptr i o) = none := rfl
attribute [go_sem] purify_ptr raK2_none
/-- What an open call leaves: the one row turned, rows before alone. -/
def Kept (id : Nat) (b : Blk) (h : Heap) (nx : Nat) (h' : Heap) (n' : Nat) : Prop := h' id = some b ∧ nx ≤ n' ∧ ∀ i, i < nx → i ≠ id → h' i = h i
theorem openK_kept {Q : Ex → St → Prop} {σ : St} {all os : List Go.Oper} {dst : Option Nat} {x : Option (Res × Heap × Nat)} {v : AV} {id : Nat} {b : Blk} {h : Heap} {nx : Nat} (hx : ∃ h' n', x = some (.ret v, h', n') ∧ Kept id b h nx h' n')
    (k : ∀ h' n', h' id = some b → nx ≤ n' → (∀ i, i < nx → i ≠ id → h' i = h i) → Rg E all os ⟨put σ.sl dst v, h', n'⟩ Q) : openK E all os dst Q σ x := by
  obtain ⟨h', n', rfl, k1, k2, k3⟩ := hx
  exact k h' n' k1 k2 k3
theorem lnK2_kept {N : Nat} {dst : Option Nat} {next : List Rec → St → Prop} {acc : List Rec} {σ : St} {g : Go.FuncId} {l : List AV} {v : AV} {b : Blk} (R : List Nat) (id : Nat) (hl : lends l = true) (ho : (E.opn g && g != 1000003) = true) (hR : reach σ.h 3 l = R) (hN : ∀ i ∈ R, i < N)
    (spec : ∃ h' n', denO E g l (σ.h.only R) N = some (.ret v, h', n') ∧ Kept id b (σ.h.only R) N h' n') (hp : v.pure = true)
    (hok : (R.all fun i => (σ.h i).isSome && (match (if i = id then some b else σ.h i) with | some b => AV.withinL R b.cells | none => true)) = true)
    (hn : next (acc ++ [cr R (R.map fun i => (i, if i = id then some b else σ.h i)) .all]) ⟨put σ.sl dst v, σ.h.upds (R.map fun i => (i, if i = id then some b else σ.h i)), σ.nx⟩) : lnK2 E N dst next acc σ g l := by
  obtain ⟨h', n', hd, k1, _, k3⟩ := spec
  have hh : ∀ i ∈ R, h' i = if i = id then some b else σ.h i := by
    intro i hi
    by_cases e : i = id
    · rw [if_pos e, e, k1]
    · rw [if_neg e, k3 i (hN i hi) e]; exact if_pos hi
  refine lnK2_intro (R := R) hl ho hR hd hp ?_ ?_ hn
  · rw [← hok]
    unfold lendOk
    rw [Bool.eq_iff_iff, List.all_eq_true, List.all_eq_true]
    exact ⟨fun h i hi => by rw [← hh i hi]; exact h i hi, fun h i hi => by rw [hh i hi]; exact h i hi⟩
  · unfold lendUps
    exact List.map_congr_left fun i hi => by rw [hh i hi]
end Go.Proofs.YtnpomadbaanpkaaGreat

/- Walks: numbers that are tried. (Own work of this repo.) -/
namespace Go.Proofs.YtnpomadbaanpkaaGreat
open Vm
set_option maxRecDepth 10000

abbrev pq (f : Bool) (x : Int) (g : Bool) (y : Int) : AV := .agg [.bool (ng x), .lst f ((dg x).map wd), .bool (ng y), .lst g ((dg y).map wd)]
abbrev pqrow (f : Bool) (x : Int) (g : Bool) (y : Int) : Blk := ⟨[.bool (ng x), .lst f ((dg x).map wd), .bool (ng y), .lst g ((dg y).map wd)], true, 4, false⟩
/-- A closure that leaves what is there alone. -/
def Calm (g : Nat) (l : List AV) (r : Res) (h : Heap) (nx : Nat) : Prop := ∀ (H : Heap) (N : Nat), nx ≤ N → (∀ i, i < nx → H i = h i) → ∃ H' N', denO E g l H N = some (r, H', N') ∧ N ≤ N' ∧ ∀ i, i < N → H' i = H i
theorem openK_get {Q : Ex → St → Prop} {σ : St} {all os : List Go.Oper} {dst : Option Nat} {x : Option (Res × Heap × Nat)} {v : AV} {h : Heap} {n : Nat} (hx : ∃ H' N', x = some (.ret v, H', N') ∧ n ≤ N' ∧ ∀ i, i < n → H' i = h i)
    (k : ∀ H' N', n ≤ N' → (∀ i, i < n → H' i = h i) → Rg E all os ⟨put σ.sl dst v, H', N'⟩ Q) : openK E all os dst Q σ x := by
  obtain ⟨H', N', rfl, h1, h2⟩ := hx
  exact k H' N' h1 h2
theorem Calm.sub {g : Nat} {l : List AV} {r : Res} {h h' : Heap} {nx nx' : Nat} (s : Calm g l r h nx) (hn : nx ≤ nx') (hh : ∀ i, i < nx → h' i = h i) : Calm g l r h' nx' := fun H N h1 h2 => s H N (by omega) fun i hi => (h2 i (by omega)).trans (hh i hi)
end Go.Proofs.YtnpomadbaanpkaaGreat

/- Walks: whether numbers are a solution. (Own work of this repo.) -/
namespace Go.Proofs.YtnpomadbaanpkaaGreat
open Vm
set_option maxRecDepth 10000

def rowz (A : Mat) (i : Nat) : Nat → Int := zg (A.getD i default).2
/-- A row times numbers. -/
def rx (A : Mat) (X : Nat → Int) (i : Nat) : Int := dz (rowz A i) X (A.getD i default).2.length
/-- A matrix of valid numbers, of so many columns. -/
def MatV (A : Mat) (w : Nat) : Prop := ∀ i, i < A.length → AllV (A.getD i default).2 ∧ (A.getD i default).2.length = w
/-- Everything fits. -/
def FitX (A : Mat) (X : Nat → Int) (w : Nat) : Prop := ∀ i, i < A.length → (∀ j, j < w → (dg (rowz A i j * X j)).length ≤ 4096) ∧ ∀ j, j ≤ w → (dg (dz (rowz A i) X j)).length ≤ 4096
def solB (A : Mat) (B X : Nat → Int) : Nat → Bool
  | 0 => true
  | i + 1 => decide (rx A X i = B i) && solB A B X i
theorem solB_iff (A : Mat) (B X : Nat → Int) : ∀ n, solB A B X n = true ↔ ∀ i, i < n → rx A X i = B i
  | 0 => by simp [solB]
  | n + 1 => by
    simp only [solB, Bool.and_eq_true, decide_eq_true_eq, solB_iff A B X n]
    constructor
    · rintro ⟨h1, h2⟩ i hi
      by_cases e : i = n
      · rw [e]; exact h1
      · exact h2 i (by omega)
    · intro h
      exact ⟨h n (by omega), fun i hi => h i (by omega)⟩
set_option maxHeartbeats 1000000 in
theorem holds_spec (na : Bool) (A : Mat) (nb : Bool) (B : List Raw) (nx' : Bool) (X : List Raw) (w : Nat) (hA : MatV A w) (hB : AllV B) (hX : AllV X) (hAl : A.length ≤ B.length) (hAm : A.length < 1000000) (hw : w ≤ X.length) (hwm : w < 1000000) (hf : FitX A (zg X) w) :
    denP E 34 [mraw na A, lraw nb B, lraw nx' X] = some (.ret (.bool (solB A (zg B) (zg X) A.length))) := by
  refine denP_eq E34 rfl (by simp [AV.pureL, AV.pure, pure_ivr, pure_lr]) ?_
  simp (maxSteps := 4000000) only [go_sem, ↓reduceIte, Nat.reduceAdd, Nat.reduceSub, Nat.reduceMul, Nat.reduceEqDiff, reduceCtorEq, Int.reduceAdd, Int.reduceLT, Int.reduceLE, Int.reduceToNat, Int.reduceNeg, Int.reduceSub, ← List.map_take, ← List.map_drop, ne_eq, Nat.reduceLeDiff, Nat.reduceLT, Nat.zero_le, Nat.le_refl, wrap64, wrapu64, wrapu32, ← Int.natCast_add, ← Int.natCast_mul, cast_succ, wrapu32_nat, shr32, reps_wd, map_set_wd, List.length_set, zs_len, Tryz.f34, places, fillAll]
  refine W_loopS (fun k sl h nx => ∃ (i : Nat), (∃ g : Nat → AV, sl = [g 0, lraw nb B, lraw nx' X, g 3, g 4, g 5, g 6, .bool (solB A (zg B) (zg X) i), g 8, g 9, mraw na A, .int .i64 (A.length : Int), .int .i64 (i : Int), g 13, g 14, g 15, g 16, g 17, g 18, g 19, g 20, g 21, g 22, g 23, g 24, g 25, g 26, g 27, g 28, g 29, g 30]) ∧ i + k = A.length) A.length ⟨0, garb rfl, by omega⟩ ?_
  rintro k _ h nx ⟨i, ⟨g, rfl⟩, hk⟩
  by_cases hi : i = A.length
  · have z1 : ((i : Int) < (A.length : Int)) = False := eq_false (by omega)
    rw [hi]
    generalize solB A (zg B) (zg X) A.length = s at *
    have z1 : ((A.length : Int) < (A.length : Int)) = False := eq_false (by omega)
    simp (maxSteps := 4000000) only [go_sem, ↓reduceIte, Nat.reduceAdd, Nat.reduceSub, Nat.reduceMul, Nat.reduceEqDiff, reduceCtorEq, Int.reduceAdd, Int.reduceLT, Int.reduceLE, Int.reduceToNat, Int.reduceNeg, Int.reduceSub, ← List.map_take, ← List.map_drop, ne_eq, Nat.reduceLeDiff, Nat.reduceLT, Nat.zero_le, Nat.le_refl, wrap64, wrapu64, wrapu32, ← Int.natCast_add, ← Int.natCast_mul, cast_succ, wrapu32_nat, shr32, reps_wd, map_set_wd, List.length_set, zs_len, z1]
  · have z1 : ((i : Int) < (A.length : Int)) = True := eq_true (by omega)
    have z0 : ((0 : Int) ≤ (i : Int)) = True := eq_true (by omega)
    have zb : ((i : Int) < (B.length : Int)) = True := eq_true (by omega)
    have hga := get_lr (A := A) (i := i) (by omega)
    have hgb := get_ivr (L := B) (i := i) (by omega)
    obtain ⟨hr1, hr2⟩ := hA i (by omega)
    obtain ⟨hf1, hf2⟩ := hf i (by omega)
    obtain ⟨b1, b2, b3, b4, b5⟩ := zv_spec (hB.get (show i < B.length by omega)).1 (hB.get (show i < B.length by omega)).2
    rw [← b4, ← b5] at hgb
    have hml : (A.map lr).length = A.length := List.length_map _
    have hmlb : (B.map ivr).length = B.length := List.length_map _
    have w1 : IntKind.i64.wrap ((i + 1 : Nat) : Int) = ((i + 1 : Nat) : Int) := wrap64 (by omega) (by omega)
    obtain ⟨f, d1, _⟩ := dot_spec (A.getD i default).1 (A.getD i default).2 nx' X hr1 hX (by omega) (by omega) (by rw [hr2]; exact hf1) (by rw [hr2]; exact hf2)
    have hrx : dz (zg (A.getD i default).2) (zg X) (A.getD i default).2.length = rx A (zg X) i := rfl
    rw [hrx] at d1
    have hfr : (dg (rx A (zg X) i)).length ≤ 4096 := by rw [← hrx, hr2]; exact hf2 w (Nat.le_refl _)
    have c1 := exCmp_ret f (B.getD i default).2.1 (rx A (zg X) i) (zg B i) hfr (by unfold zg; omega)
    have hst : solB A (zg B) (zg X) (i + 1) = (decide (rx A (zg X) i = zg B i) && solB A (zg B) (zg X) i) := rfl
    have hc0 : (cmpI (rx A (zg X) i) (zg B i) = 0) = (rx A (zg X) i = zg B i) := by
      unfold cmpI
      refine propext ?_
      (repeat' split) <;> omega
    have hfin : ∀ (h' : Heap) (n' : Nat) (sl : List AV) (s : Bool), s = (decide (rx A (zg X) i = zg B i) && solB A (zg B) (zg X) i) → (∃ g : Nat → AV, sl = [g 0, lraw nb B, lraw nx' X, g 3, g 4, g 5, g 6, .bool s, g 8, g 9, mraw na A, .int .i64 (A.length : Int), .int .i64 ((i + 1 : Nat) : Int), g 13, g 14, g 15, g 16, g 17, g 18, g 19, g 20, g 21, g 22, g 23, g 24, g 25, g 26, g 27, g 28, g 29, g 30]) →
        ∃ k', k' < k ∧ ∃ (i : Nat), (∃ g : Nat → AV, sl = [g 0, lraw nb B, lraw nx' X, g 3, g 4, g 5, g 6, .bool (solB A (zg B) (zg X) i), g 8, g 9, mraw na A, .int .i64 (A.length : Int), .int .i64 (i : Int), g 13, g 14, g 15, g 16, g 17, g 18, g 19, g 20, g 21, g 22, g 23, g 24, g 25, g 26, g 27, g 28, g 29, g 30]) ∧ i + k' = A.length := fun h' n' sl s hs hsl => ⟨k - 1, by omega, i + 1, by rw [hst, ← hs]; exact hsl, by omega⟩
    generalize hIQ : (fun (k : Nat) (σ : St) => ∃ (i : Nat), (∃ g : Nat → AV, σ.sl = [g 0, lraw nb B, lraw nx' X, g 3, g 4, g 5, g 6, .bool (solB A (zg B) (zg X) i), g 8, g 9, mraw na A, .int .i64 (A.length : Int), .int .i64 (i : Int), g 13, g 14, g 15, g 16, g 17, g 18, g 19, g 20, g 21, g 22, g 23, g 24, g 25, g 26, g 27, g 28, g 29, g 30]) ∧ i + k = A.length) = IQ
    clear hst hrx hfr hf1 hf2 hr1 hr2 b1 b2 b3 b4 b5
    have ezb : zv (B.getD i default) = zg B i := rfl
    rw [ezb] at hgb
    generalize rx A (zg X) i = r at *
    generalize zg B i = b at *
    generalize solB A (zg B) (zg X) i = s at *
    generalize A.getD i default = R at *
    generalize B.getD i default = q at *
    simp (maxSteps := 4000000) only [go_sem, ↓reduceIte, Nat.reduceAdd, Nat.reduceSub, Nat.reduceMul, Nat.reduceEqDiff, reduceCtorEq, Int.reduceAdd, Int.reduceLT, Int.reduceLE, Int.reduceToNat, Int.reduceNeg, Int.reduceSub, ← List.map_take, ← List.map_drop, ne_eq, Nat.reduceLeDiff, Nat.reduceLT, Nat.zero_le, Nat.le_refl, wrap64, wrapu64, wrapu32, ← Int.natCast_add, ← Int.natCast_mul, cast_succ, wrapu32_nat, shr32, reps_wd, map_set_wd, List.length_set, zs_len, z0, z1, hga, hml, places, fillAll]
    refine W_drawn ?_
    by_cases he : r = b
    · have hz : (cmpI r b = 0) = True := by rw [hc0]; exact eq_true he
      rw [decide_eq_true he, Bool.true_and] at hfin
      clear hc0 he
      generalize cmpI r b = c at *
      simp (maxSteps := 4000000) only [go_sem, ↓reduceIte, Nat.reduceAdd, Nat.reduceSub, Nat.reduceMul, Nat.reduceEqDiff, reduceCtorEq, Int.reduceAdd, Int.reduceLT, Int.reduceLE, Int.reduceToNat, Int.reduceNeg, Int.reduceSub, ← List.map_take, ← List.map_drop, ne_eq, Nat.reduceLeDiff, Nat.reduceLT, Nat.zero_le, Nat.le_refl, wrap64, wrapu64, wrapu32, ← Int.natCast_add, ← Int.natCast_mul, cast_succ, wrapu32_nat, shr32, reps_wd, map_set_wd, List.length_set, zs_len, d1, c1, hz, z0, zb, hgb, hmlb, purify_lraw]
      refine ⟨by rfl, ?_⟩
      rw [w1, ← hIQ]
      exact hfin h nx _ _ rfl (garb rfl)
    · have hz : (cmpI r b = 0) = False := by rw [hc0]; exact eq_false he
      rw [decide_eq_false he, Bool.false_and] at hfin
      clear hc0 he
      generalize cmpI r b = c at *
      simp (maxSteps := 4000000) only [go_sem, ↓reduceIte, Nat.reduceAdd, Nat.reduceSub, Nat.reduceMul, Nat.reduceEqDiff, reduceCtorEq, Int.reduceAdd, Int.reduceLT, Int.reduceLE, Int.reduceToNat, Int.reduceNeg, Int.reduceSub, ← List.map_take, ← List.map_drop, ne_eq, Nat.reduceLeDiff, Nat.reduceLT, Nat.zero_le, Nat.le_refl, wrap64, wrapu64, wrapu32, ← Int.natCast_add, ← Int.natCast_mul, cast_succ, wrapu32_nat, shr32, reps_wd, map_set_wd, List.length_set, zs_len, d1, c1, hz, z0, zb, hgb, hmlb, purify_lraw]
      refine ⟨by rfl, ?_⟩
      rw [w1, ← hIQ]
      exact hfin h nx _ _ rfl (garb rfl)
end Go.Proofs.YtnpomadbaanpkaaGreat

/- Walks: Holds. (Own work of this repo.) -/
namespace Go.Proofs.YtnpomadbaanpkaaGreat
open Vm
set_option maxRecDepth 10000

theorem dz_bound (a b : Nat → Int) {P Q : Nat} : ∀ n, (∀ j, j < n → (a j).natAbs ≤ P ∧ (b j).natAbs ≤ Q) → (dz a b n).natAbs ≤ n * (P * Q)
  | 0, _ => by simp [dz]
  | n + 1, h => by
    have ih := dz_bound a b n fun j hj => h j (by omega)
    have h1 := h n (by omega)
    have h2 : (a n * b n).natAbs ≤ P * Q := by rw [Int.natAbs_mul]; exact Nat.mul_le_mul h1.1 h1.2
    have h3 : (dz a b n + a n * b n).natAbs ≤ (dz a b n).natAbs + (a n * b n).natAbs := Int.natAbs_add_le _ _
    show (dz a b n + a n * b n).natAbs ≤ _
    rw [Nat.succ_mul]
    omega
/-- What is less than 2 ^ b has few words. -/
theorem len_bits {z : Int} {b k : Nat} (h : z.natAbs ≤ 2 ^ b) (hb : b < 32 * k) : (dg z).length ≤ k := by
  refine dg_len.2 (Nat.lt_of_le_of_lt h ?_)
  have : BB = 2 ^ 32 := rfl
  rw [this, ← Nat.pow_mul]
  exact Nat.pow_lt_pow_right (by decide) hb
theorem fit_bits {A : Mat} {X : Nat → Int} {w p q : Nat} (hw : w ≤ 8) (hp : p + q + 3 < 131072) (hA : ∀ i, i < A.length → ∀ j, j < w → (rowz A i j).natAbs ≤ 2 ^ p) (hX : ∀ j, j < w → (X j).natAbs ≤ 2 ^ q) : FitX A X w := by
  intro i hi
  constructor
  · intro j hj
    refine len_bits (b := p + q) ?_ (by omega)
    rw [Int.natAbs_mul, Nat.pow_add]
    exact Nat.mul_le_mul (hA i hi j hj) (hX j hj)
  · intro j hj
    refine len_bits (b := p + q + 3) ?_ (by omega)
    refine Nat.le_trans (dz_bound (rowz A i) X (P := 2 ^ p) (Q := 2 ^ q) j fun t ht => ⟨hA i hi t (by omega), hX t (by omega)⟩) ?_
    rw [← Nat.pow_add, Nat.pow_add 2 (p + q) 3, Nat.mul_comm]
    exact Nat.mul_le_mul_left _ (by omega)
theorem bl200 {z : Int} (h : bl z.natAbs ≤ 200) : z.natAbs ≤ 2 ^ 200 := Nat.le_of_lt (bl_le.1 h)
theorem okB_zv {q : Raw} (hr : InR q.2.2) (h : okB q = true) : okV q = true ∧ (zv q).natAbs ≤ 2 ^ 200 := by
  unfold okB at h
  rw [Bool.and_eq_true, decide_eq_true_eq] at h
  obtain ⟨h1, h2⟩ := h
  obtain ⟨_, _, _, _, h5⟩ := zv_spec hr h1
  refine ⟨h1, bl200 ?_⟩
  rwa [← h5, val_dg] at h2
/-- What a system is. -/
structure SysOk (A : Mat) (B : List Raw) (w : Nat) : Prop where
  rows : 1 ≤ A.length ∧ A.length ≤ 8
  right : B.length = A.length
  cols : 1 ≤ w ∧ w ≤ 8
  mat : MatV A w
  vB : AllV B
  bA : ∀ i, i < A.length → ∀ j, j < w → (rowz A i j).natAbs ≤ 2 ^ 200
  bB : ∀ i, i < A.length → (zg B i).natAbs ≤ 2 ^ 200
theorem sys_ok {A : Mat} {B : List Raw} (iA : InM A) (iB : ∀ q ∈ B, InR q.2.2) (h : sysB A B = true) : SysOk A B (A.getD 0 default).2.length := by
  unfold sysB at h
  rw [Bool.and_eq_true, Bool.and_eq_true, decide_eq_true_eq, List.all_eq_true, List.all_eq_true] at h
  obtain ⟨⟨⟨h1, h2, h3⟩, h4⟩, h5⟩ := h
  have hrow : ∀ i, i < A.length → (1 ≤ (A.getD i default).2.length ∧ (A.getD i default).2.length ≤ 8 ∧ (A.getD i default).2.length = (A.getD 0 default).2.length) ∧ ∀ q ∈ (A.getD i default).2, okB q = true := by
    intro i hi
    have hm : A.getD i default ∈ A := by rw [List.getD_eq_getElem?_getD, List.getElem?_eq_getElem hi]; exact List.getElem_mem _
    have := h5 _ hm
    unfold rowB at this
    rw [Bool.and_eq_true, decide_eq_true_eq, List.all_eq_true] at this
    exact this
  have hget : ∀ (L : List Raw) (j : Nat), j < L.length → L.getD j default ∈ L := fun L j hj => by rw [List.getD_eq_getElem?_getD, List.getElem?_eq_getElem hj]; exact List.getElem_mem _
  refine ⟨⟨h1, h2⟩, h3, ⟨(hrow 0 (by omega)).1.1, (hrow 0 (by omega)).1.2.1⟩, fun i hi => ⟨fun q hq => ⟨iA.get i q hq, (okB_zv (iA.get i q hq) ((hrow i hi).2 q hq)).1⟩, (hrow i hi).1.2.2⟩, fun q hq => ⟨iB q hq, (okB_zv (iB q hq) (h4 q hq)).1⟩, fun i hi j hj => ?_, fun i hi => ?_⟩
  · have hm := hget (A.getD i default).2 j (by rw [(hrow i hi).1.2.2]; exact hj)
    exact (okB_zv (iA.get i _ hm) ((hrow i hi).2 _ hm)).2
  · have hm := hget B i (by omega)
    exact (okB_zv (iB _ hm) (h4 _ hm)).2
/-- A box. -/
abbrev bx (v : AV) : Blk := ⟨[v], false, 1, false⟩
theorem holds1_open (na : Bool) (A : Mat) (nb : Bool) (B : List Raw) (nx' : Bool) (X : List Raw) (s : Bool) (hd : denP E 34 [mraw na A, lraw nb B, lraw nx' X] = some (.ret (.bool s)))
    (pa pb px pi : Nat) (h : Heap) (nx : Nat) (la : pa < nx) (lb : pb < nx) (lx : px < nx) (li : pi < nx) (ha : h pa = some (bx (mraw na A))) (hb : h pb = some (bx (lraw nb B))) (hx : h px = some (bx (lraw nx' X))) (hi : h pi = some (bx (.bool false))) :
    ∃ h' n', denO E 33 [.ptr pa 0, .ptr pb 0, .ptr px 0, .ptr pi 0] h nx = some (.ret (.tup []), h', n') ∧ nx ≤ n' ∧ h' pi = some (bx (.bool s)) ∧ ∀ i, i ≠ pi → i < nx → h' i = h i := by
  have key : ∃ v h' n', denO E 33 [.ptr pa 0, .ptr pb 0, .ptr px 0, .ptr pi 0] h nx = some (.ret v, h', n') ∧ v = .tup [] ∧ nx ≤ n' ∧ h' pi = some (bx (.bool s)) ∧ ∀ i, i ≠ pi → i < nx → h' i = h i := by
    refine denO_intro E33 rfl ?_
    simp (maxSteps := 4000000) only [go_sem, ↓reduceIte, Nat.reduceAdd, Nat.reduceSub, Nat.reduceMul, Nat.reduceEqDiff, reduceCtorEq, Int.reduceAdd, Int.reduceLT, Int.reduceLE, Int.reduceToNat, Int.reduceNeg, Int.reduceSub, ← List.map_take, ← List.map_drop, ne_eq, Nat.reduceLeDiff, Nat.reduceLT, Nat.zero_le, Nat.le_refl, wrap64, wrapu64, wrapu32, ← Int.natCast_add, ← Int.natCast_mul, cast_succ, wrapu32_nat, shr32, reps_wd, map_set_wd, List.length_set, zs_len, Tryz.f33, ha, hb, hx, hi, hd, purify_lraw, purify_mraw]
    intro i h1 h2
    rw [if_neg h1]
  obtain ⟨v, h', n', h1, rfl, h2⟩ := key
  exact ⟨h', n', h1, h2⟩
end Go.Proofs.YtnpomadbaanpkaaGreat

/- Walks: Holds, the whole. (Own work of this repo.) -/
namespace Go.Proofs.YtnpomadbaanpkaaGreat
open Vm
set_option maxRecDepth 10000

theorem openK_int {Q : Ex → St → Prop} {σ : St} {all os : List Go.Oper} {dst : Option Nat} {x : Option (Res × Heap × Nat)} {e : Int} (P : Heap → Nat → Prop) (hx : ∃ H' N', x = some (.ret (.int .i64 e), H', N') ∧ P H' N') (k : ∀ H' N', P H' N' → Rg E all os ⟨put σ.sl dst (.int .i64 e), H', N'⟩ Q) : openK E all os dst Q σ x := by
  obtain ⟨H', N', rfl, h1⟩ := hx
  exact k H' N' h1
/-- The error of a call that is tried. -/
theorem try_row (g : Nat) (b : List AV) (hg : E.opn g = true) (p : Nat) (s : AV) (h : Heap) (nx : Nat) (hp : p < nx)
    (hd : ∀ (h1 : Heap), (∀ i, i < nx → h1 i = h i) → ∃ h' n', denO E g b h1 (nx + 1) = some (.ret (.tup []), h', n') ∧ nx + 1 ≤ n' ∧ h' p = some (bx s) ∧ ∀ i, i ≠ p → i < nx + 1 → h' i = h1 i) :
    ∃ H' N', denO E 32 [.fn g [] b] h nx = some (.ret (.int .i64 0), H', N') ∧ (nx ≤ N' ∧ H' p = some (bx s) ∧ ∀ i, i ≠ p → i < nx → H' i = h i) := by
  obtain ⟨h', n', d1, d2, d3, d4⟩ := hd (h.upd nx (some ⟨[.int .i64 0], false, 1, false⟩)) fun i hi => upd_ne (by omega)
  have k6 : h' nx = some ⟨[.int .i64 0], false, 1, false⟩ := (d4 nx (by omega) (by omega)).trans (if_pos rfl)
  obtain ⟨H', N', q1, q2, q3⟩ := try_ret g [] b hg _ h h' nx n' d1 k6 (by omega)
  exact ⟨H', N', q1, by omega, (q3 p (by omega) (by omega)).trans d3, fun i h1 h2 => (q3 i (by omega) (by omega)).trans ((d4 i h1 (by omega)).trans (upd_ne (by omega)))⟩
theorem Holds_form (na : Bool) (A : Mat) (nb : Bool) (B : List Raw) (nx' : Bool) (X : List Raw) (hA : ShortM A) (hB : Short B) (iA : InM A) (iB : ∀ q ∈ B, InR q.2.2) (hX : Short X) (h : (sysB A B && X.all okV) = false) :
    denP E 8 [mraw na A, lraw nb B, lraw nx' X] = some (.ret (.tup [.bool false, .int .i64 1])) := by
  refine denP_eq E8 rfl (by simp [AV.pureL, AV.pure, pure_ivr, pure_lr]) ?_
  have s1 := sys_spec na A nb B hA hB iA iB
  have v1 := exValidL nx' X hX
  cases h1 : sysB A B with
  | false => rw [h1] at s1; simp (maxSteps := 4000000) only [go_sem, ↓reduceIte, Nat.reduceAdd, Nat.reduceSub, Nat.reduceMul, Nat.reduceEqDiff, reduceCtorEq, Int.reduceAdd, Int.reduceLT, Int.reduceLE, Int.reduceToNat, Int.reduceNeg, Int.reduceSub, ← List.map_take, ← List.map_drop, ne_eq, Nat.reduceLeDiff, Nat.reduceLT, Nat.zero_le, Nat.le_refl, wrap64, wrapu64, wrapu32, ← Int.natCast_add, ← Int.natCast_mul, cast_succ, wrapu32_nat, shr32, reps_wd, map_set_wd, List.length_set, zs_len, Tryz.f8, s1, purify_lraw, purify_mraw, places, fillAll]
  | true =>
    rw [h1, Bool.true_and] at h
    rw [h1] at s1
    rw [h] at v1
    simp (maxSteps := 4000000) only [go_sem, ↓reduceIte, Nat.reduceAdd, Nat.reduceSub, Nat.reduceMul, Nat.reduceEqDiff, reduceCtorEq, Int.reduceAdd, Int.reduceLT, Int.reduceLE, Int.reduceToNat, Int.reduceNeg, Int.reduceSub, ← List.map_take, ← List.map_drop, ne_eq, Nat.reduceLeDiff, Nat.reduceLT, Nat.zero_le, Nat.le_refl, wrap64, wrapu64, wrapu32, ← Int.natCast_add, ← Int.natCast_mul, cast_succ, wrapu32_nat, shr32, reps_wd, map_set_wd, List.length_set, zs_len, Tryz.f8, s1, v1, purify_lraw, purify_mraw, places, fillAll]
theorem Holds_arg (na : Bool) (A : Mat) (nb : Bool) (B : List Raw) (nx' : Bool) (X : List Raw) (hA : ShortM A) (hB : Short B) (iA : InM A) (iB : ∀ q ∈ B, InR q.2.2) (hX : Short X) (h : sysB A B = true) (h2 : X.all okV = true) (h3 : X.length ≠ (A.getD 0 default).2.length) :
    denP E 8 [mraw na A, lraw nb B, lraw nx' X] = some (.ret (.tup [.bool false, .int .i64 2])) := by
  refine denP_eq E8 rfl (by simp [AV.pureL, AV.pure, pure_ivr, pure_lr]) ?_
  have s1 := sys_spec na A nb B hA hB iA iB
  have v1 := exValidL nx' X hX
  have hok := sys_ok iA iB h
  rw [h] at s1
  rw [h2] at v1
  have hg0 := get_lr (A := A) (i := 0) (by have := hok.rows; omega)
  have z00 : ((0 : Int) < (A.length : Int)) = True := eq_true (by have := hok.rows; omega)
  have hml : (A.map lr).length = A.length := List.length_map _
  have hml0 : ((A.getD 0 default).2.map ivr).length = (A.getD 0 default).2.length := List.length_map _
  have z1 : ((X.length : Int) = ((A.getD 0 default).2.length : Int)) = False := eq_false (by omega)
  generalize A.getD 0 default = R0 at *
  simp (maxSteps := 4000000) only [go_sem, ↓reduceIte, Nat.reduceAdd, Nat.reduceSub, Nat.reduceMul, Nat.reduceEqDiff, reduceCtorEq, Int.reduceAdd, Int.reduceLT, Int.reduceLE, Int.reduceToNat, Int.reduceNeg, Int.reduceSub, ← List.map_take, ← List.map_drop, ne_eq, Nat.reduceLeDiff, Nat.reduceLT, Nat.zero_le, Nat.le_refl, wrap64, wrapu64, wrapu32, ← Int.natCast_add, ← Int.natCast_mul, cast_succ, wrapu32_nat, shr32, reps_wd, map_set_wd, List.length_set, zs_len, Tryz.f8, s1, v1, purify_lraw, purify_mraw, places, fillAll]
  refine W_drawn ?_
  simp (maxSteps := 4000000) only [go_sem, ↓reduceIte, Nat.reduceAdd, Nat.reduceSub, Nat.reduceMul, Nat.reduceEqDiff, reduceCtorEq, Int.reduceAdd, Int.reduceLT, Int.reduceLE, Int.reduceToNat, Int.reduceNeg, Int.reduceSub, ← List.map_take, ← List.map_drop, ne_eq, Nat.reduceLeDiff, Nat.reduceLT, Nat.zero_le, Nat.le_refl, wrap64, wrapu64, wrapu32, ← Int.natCast_add, ← Int.natCast_mul, cast_succ, wrapu32_nat, shr32, reps_wd, map_set_wd, List.length_set, zs_len, hg0, z00, hml, hml0, z1, Int.toNat_zero]
  rfl
theorem Holds_ok (na : Bool) (A : Mat) (nb : Bool) (B : List Raw) (nx' : Bool) (X : List Raw) (hA : ShortM A) (hB : Short B) (iA : InM A) (iB : ∀ q ∈ B, InR q.2.2) (hX : Short X) (iX : ∀ q ∈ X, InR q.2.2) (h : sysB A B = true) (h2 : X.all okV = true) (h3 : X.length = (A.getD 0 default).2.length) (hf : FitX A (zg X) X.length) :
    denP E 8 [mraw na A, lraw nb B, lraw nx' X] = some (.ret (.tup [.bool (solB A (zg B) (zg X) A.length), .int .i64 0])) := by
  refine denP_eq E8 rfl (by simp [AV.pureL, AV.pure, pure_ivr, pure_lr]) ?_
  have s1 := sys_spec na A nb B hA hB iA iB
  have v1 := exValidL nx' X hX
  have hok := sys_ok iA iB h
  rw [h] at s1
  rw [h2] at v1
  have hd := holds_spec na A nb B nx' X X.length (by rw [h3]; exact hok.mat) hok.vB (fun q hq => ⟨iX q hq, List.all_eq_true.1 h2 q hq⟩) (by have := hok.right; omega) (by have := hok.rows; omega) (Nat.le_refl _) (by rw [h3]; have := hok.cols; omega) hf
  have hg0 := get_lr (A := A) (i := 0) (by have := hok.rows; omega)
  have z00 : ((0 : Int) < (A.length : Int)) = True := eq_true (by have := hok.rows; omega)
  have hml : (A.map lr).length = A.length := List.length_map _
  have hml0 : ((A.getD 0 default).2.map ivr).length = (A.getD 0 default).2.length := List.length_map _
  have z1 : ((X.length : Int) = ((A.getD 0 default).2.length : Int)) = True := eq_true (by omega)
  generalize A.getD 0 default = R0 at *
  generalize solB A (zg B) (zg X) A.length = s at *
  clear hf h3 hok h2 h
  simp (maxSteps := 4000000) only [go_sem, ↓reduceIte, Nat.reduceAdd, Nat.reduceSub, Nat.reduceMul, Nat.reduceEqDiff, reduceCtorEq, Int.reduceAdd, Int.reduceLT, Int.reduceLE, Int.reduceToNat, Int.reduceNeg, Int.reduceSub, ← List.map_take, ← List.map_drop, ne_eq, Nat.reduceLeDiff, Nat.reduceLT, Nat.zero_le, Nat.le_refl, wrap64, wrapu64, wrapu32, ← Int.natCast_add, ← Int.natCast_mul, cast_succ, wrapu32_nat, shr32, reps_wd, map_set_wd, List.length_set, zs_len, Tryz.f8, s1, v1, purify_lraw, purify_mraw, places, fillAll]
  refine W_drawn ?_
  simp (maxSteps := 4000000) only [go_sem, ↓reduceIte, Nat.reduceAdd, Nat.reduceSub, Nat.reduceMul, Nat.reduceEqDiff, reduceCtorEq, Int.reduceAdd, Int.reduceLT, Int.reduceLE, Int.reduceToNat, Int.reduceNeg, Int.reduceSub, ← List.map_take, ← List.map_drop, ne_eq, Nat.reduceLeDiff, Nat.reduceLT, Nat.zero_le, Nat.le_refl, wrap64, wrapu64, wrapu32, ← Int.natCast_add, ← Int.natCast_mul, cast_succ, wrapu32_nat, shr32, reps_wd, map_set_wd, List.length_set, zs_len, hg0, z00, hml, hml0, z1, Int.toNat_zero]
  refine ⟨by rfl, ?_⟩
  refine openK_int (e := 0) (fun H' _ => H' 3 = some (bx (.bool s))) ?_ ?_
  · have hr : ∀ H0 : Heap, H0 0 = some (bx (mraw na A)) → H0 1 = some (bx (lraw nb B)) → H0 2 = some (bx (lraw nx' X)) → H0 3 = some (bx (.bool false)) → ∃ H' N', denO E 32 [.fn 33 [] [.ptr 0 0, .ptr 1 0, .ptr 2 0, .ptr 3 0]] H0 4 = some (.ret (.int .i64 0), H', N') ∧ H' 3 = some (bx (.bool s)) := fun H0 c0 c1 c2 c3 => by
      obtain ⟨H', N', q1, q2, q3, q4⟩ := try_row 33 [.ptr 0 0, .ptr 1 0, .ptr 2 0, .ptr 3 0] rfl 3 (.bool s) H0 4 (by decide) (fun h1 hh => holds1_open na A nb B nx' X s hd 0 1 2 3 h1 5 (by decide) (by decide) (by decide) (by decide) ((hh 0 (by decide)).trans c0) ((hh 1 (by decide)).trans c1) ((hh 2 (by decide)).trans c2) ((hh 3 (by decide)).trans c3))
      exact ⟨H', N', q1, q3⟩
    exact hr _ (by simp only [upd_apply, ↓reduceIte, Nat.reduceEqDiff, if_pos]) (by simp only [upd_apply, ↓reduceIte, Nat.reduceEqDiff, if_pos]) (by simp only [upd_apply, ↓reduceIte, Nat.reduceEqDiff, if_pos]) (by simp only [upd_apply, ↓reduceIte, Nat.reduceEqDiff, if_pos])
  intro H' N' k1
  clear hd s1 v1 hg0 hml hml0
  cases s with
  | true => simp (maxSteps := 4000000) only [go_sem, ↓reduceIte, Nat.reduceAdd, Nat.reduceSub, Nat.reduceMul, Nat.reduceEqDiff, reduceCtorEq, Int.reduceAdd, Int.reduceLT, Int.reduceLE, Int.reduceToNat, Int.reduceNeg, Int.reduceSub, ← List.map_take, ← List.map_drop, ne_eq, Nat.reduceLeDiff, Nat.reduceLT, Nat.zero_le, Nat.le_refl, wrap64, wrapu64, wrapu32, ← Int.natCast_add, ← Int.natCast_mul, cast_succ, wrapu32_nat, shr32, reps_wd, map_set_wd, List.length_set, zs_len, k1, Int.reduceEq]
  | false => simp (maxSteps := 4000000) only [go_sem, ↓reduceIte, Nat.reduceAdd, Nat.reduceSub, Nat.reduceMul, Nat.reduceEqDiff, reduceCtorEq, Int.reduceAdd, Int.reduceLT, Int.reduceLE, Int.reduceToNat, Int.reduceNeg, Int.reduceSub, ← List.map_take, ← List.map_drop, ne_eq, Nat.reduceLeDiff, Nat.reduceLT, Nat.zero_le, Nat.le_refl, wrap64, wrapu64, wrapu32, ← Int.natCast_add, ← Int.natCast_mul, cast_succ, wrapu32_nat, shr32, reps_wd, map_set_wd, List.length_set, zs_len, k1, Int.reduceEq]
end Go.Proofs.YtnpomadbaanpkaaGreat

/- Walks: multiples and sums of lists. (Own work of this repo.) -/
namespace Go.Proofs.YtnpomadbaanpkaaGreat
open Vm
set_option maxRecDepth 10000

/-- A number of any length. -/
def NumQ (q : Raw) : Prop := InR q.2.2 ∧ dg (zv q) = q.2.2 ∧ ng (zv q) = q.1
theorem NumQ.ivr_eq {q : Raw} (h : NumQ q) : ivr q = I q.2.1 (zv q) := by rw [I, h.2.1, h.2.2]
theorem zv_rz (e : Bool × Int) : zv (rz e) = e.2 := by unfold zv; show sg (ng e.2) (val (dg e.2)) = e.2; rw [val_dg]; exact sg_ng e.2
theorem num_rz (e : Bool × Int) : NumQ (rz e) := by unfold NumQ; rw [zv_rz]; exact ⟨dg_inR e.2, rfl, rfl⟩
theorem AllV.num {L : List Raw} (h : AllV L) {q : Raw} (hq : q ∈ L) : NumQ q := by
  obtain ⟨h1, h2⟩ := h q hq
  obtain ⟨_, _, _, h3, h4⟩ := zv_spec h1 h2
  exact ⟨h1, h4, h3⟩
/-- A list that grows. -/
def GrowQ (H : Heap) (nx : Nat) (v : AV) (l : List Raw) : Prop := (l = [] ∧ v = .lst true []) ∨ (0 < l.length ∧ ∃ id, id < nx ∧ v = .ref id 0 l.length ∧ H id = some ⟨fr l, true, 2, false⟩)
theorem getD_snoc_l {M : List Raw} {q : Raw} {j : Nat} (h : j < M.length) : (M ++ [q]).getD j default = M.getD j default := by
  rw [List.getD_eq_getElem?_getD, List.getD_eq_getElem?_getD, List.getElem?_append_left h]
theorem getD_snoc_r {M : List Raw} {q : Raw} {j : Nat} (h : M.length = j) : (M ++ [q]).getD j default = q := by
  rw [List.getD_eq_getElem?_getD, List.getElem?_append_right (by omega), h, Nat.sub_self]; rfl
end Go.Proofs.YtnpomadbaanpkaaGreat

/- Walks: a list plus multiples of lists. (Own work of this repo.) -/
namespace Go.Proofs.YtnpomadbaanpkaaGreat
open Vm
set_option maxRecDepth 10000

/-- Numbers that are not too long for the reference. -/
def NumL (L : List Raw) : Prop := ∀ q ∈ L, NumQ q ∧ q.2.2.length ≤ 1000000
theorem NumL.get {L : List Raw} (h : NumL L) {i : Nat} (hi : i < L.length) : NumQ (L.getD i default) ∧ (L.getD i default).2.2.length ≤ 1000000 := by
  rw [List.getD_eq_getElem?_getD, List.getElem?_eq_getElem hi]; exact h _ (List.getElem_mem _)
def sz (X : Nat → Int) (By : Nat → Int) (Bs : Nat → Nat → Int) (n k : Nat) : Int := X k + dz By (fun j => Bs j k) n
theorem sz_succ (X By : Nat → Int) (Bs : Nat → Nat → Int) (n k : Nat) : sz X By Bs (n + 1) k = sz X By Bs n k + By n * Bs n k := by
  unfold sz; show X k + (dz By (fun j => Bs j k) n + By n * Bs n k) = _; omega
theorem getD_set_ne {M : List Raw} {q : Raw} {i j : Nat} (h : i ≠ j) : (M.set i q).getD j default = M.getD j default := by
  rw [List.getD_eq_getElem?_getD, List.getD_eq_getElem?_getD, List.getElem?_set_ne h]
theorem getD_set_eq {M : List Raw} {q : Raw} {i : Nat} (h : i < M.length) : (M.set i q).getD i default = q := by
  rw [List.getD_eq_getElem?_getD, List.getElem?_set_self h]; rfl
set_option maxHeartbeats 2000000 in
theorem lsum_spec (na : Bool) (X : List Raw) (nb : Bool) (Bs : Mat) (nc : Bool) (By : List Raw) (hX : NumL X) (hBs : ∀ j, j < Bs.length → NumL (Bs.getD j default).2 ∧ X.length ≤ (Bs.getD j default).2.length) (hBy : NumL By) (hl0 : 1 ≤ X.length) (hl : X.length ≤ 100) (hn : Bs.length ≤ By.length) (hn2 : Bs.length ≤ 100)
    (hsz : ∀ k, k < X.length → ∀ i, i ≤ Bs.length → (dg (sz (zg X) (zg By) (rowz Bs) i k)).length ≤ 1000000) :
    ∃ M : List Raw, denP E 26 [lraw na X, mraw nb Bs, lraw nc By] = some (.ret (lraw false M)) ∧ M.length = X.length ∧ NumL M ∧ ∀ k, k < X.length → zg M k = sz (zg X) (zg By) (rowz Bs) Bs.length k := by
  refine denP_ex (F := fun M : List Raw => lraw false M) E26 rfl (by simp [AV.pureL, AV.pure, pure_ivr, pure_lr]) ?_
  have hmem : ((2 * X.length + 1000) * 32 ≤ 281474976710656) = True := eq_true (by omega)
  have hfl := fr_len X
  have zl : (X.length = 0) = False := eq_false (by omega)
  have hml : (X.map ivr).length = X.length := List.length_map _
  simp (maxSteps := 4000000) only [go_sem, ↓reduceIte, Nat.reduceAdd, Nat.reduceSub, Nat.reduceMul, Nat.reduceEqDiff, reduceCtorEq, Int.reduceAdd, Int.reduceLT, Int.reduceLE, Int.reduceToNat, Int.reduceNeg, Int.reduceSub, ← List.map_take, ← List.map_drop, ne_eq, Nat.reduceLeDiff, Nat.reduceLT, Nat.zero_le, Nat.le_refl, wrap64, wrapu64, wrapu32, ← Int.natCast_add, ← Int.natCast_mul, cast_succ, wrapu32_nat, shr32, reps_wd, map_set_wd, List.length_set, zs_len, Tryz.f26, reps, places, fillAll, appendEff, srcCells, flat_fr, hfl, hml, zl, hmem]
  clear hmem hfl zl hml
  have inner : ∀ (i : Nat) (_ : i < Bs.length) (IQ : Nat → St → Prop) (K : Nat) (M0 : List Raw), M0.length = X.length → NumL M0 → (∀ k, k < X.length → zg M0 k = sz (zg X) (zg By) (rowz Bs) i k) → True := fun _ _ _ _ _ _ _ _ => trivial
  refine W_loopS (fun k sl h nx => ∃ (i : Nat) (M : List Raw), (∃ g : Nat → AV, sl = [g 0, mraw nb Bs, lraw nc By, g 3, g 4, g 5, g 6, .ref 1 0 X.length, .int .i64 (i : Int), g 9, g 10, g 11, g 12, g 13, g 14, g 15, g 16, g 17, g 18, g 19, g 20, g 21, g 22, g 23, g 24, g 25, g 26, g 27, g 28, g 29, g 30, g 31, g 32, g 33, g 34, g 35, g 36, g 37, g 38, g 39, g 40, g 41, g 42, g 43, g 44, g 45]) ∧ i + k = Bs.length ∧ M.length = X.length ∧ h 1 = some ⟨fr M, true, 2, false⟩ ∧ 2 ≤ nx ∧ NumL M ∧ ∀ k, k < X.length → zg M k = sz (zg X) (zg By) (rowz Bs) i k) Bs.length ⟨0, X, garb rfl, by omega, rfl, ?_, Nat.le_refl _, hX, fun k hk => ?_⟩ ?_
  · simp only [upd_apply, ↓reduceIte, Nat.reduceEqDiff, if_pos]
  · unfold sz; show zg X k = zg X k + 0; omega
  rintro k _ h nx ⟨i, M, ⟨g, rfl⟩, hk, hM, hH, hnx, hNM, hz⟩
  by_cases hi : i = Bs.length
  · have z1 : ((i : Int) < (Bs.length : Int)) = False := eq_false (by omega)
    have hp : ∀ (n : Nat) (H : Heap), refP (n + 1) H 1 0 X.length (some ⟨fr M, true, 2, false⟩) = some (.lst false (M.map ivr), [1]) := fun n H => refP_fr hM
    simp (maxSteps := 4000000) only [go_sem, ↓reduceIte, Nat.reduceAdd, Nat.reduceSub, Nat.reduceMul, Nat.reduceEqDiff, reduceCtorEq, Int.reduceAdd, Int.reduceLT, Int.reduceLE, Int.reduceToNat, Int.reduceNeg, Int.reduceSub, ← List.map_take, ← List.map_drop, ne_eq, Nat.reduceLeDiff, Nat.reduceLT, Nat.zero_le, Nat.le_refl, wrap64, wrapu64, wrapu32, ← Int.natCast_add, ← Int.natCast_mul, cast_succ, wrapu32_nat, shr32, reps_wd, map_set_wd, List.length_set, zs_len, z1, hH, hp]
    rw [hi] at hz
    exact ⟨M, rfl, hM, hNM, hz⟩
  · have z1 : ((i : Int) < (Bs.length : Int)) = True := eq_true (by omega)
    have z0 : ((0 : Int) ≤ (i : Int)) = True := eq_true (by omega)
    have zi : ((i : Int) < (By.length : Int)) = True := eq_true (by omega)
    have w1 : IntKind.i64.wrap ((i + 1 : Nat) : Int) = ((i + 1 : Nat) : Int) := wrap64 (by omega) (by omega)
    have hgb := get_lr (A := Bs) (i := i) (by omega)
    have hgy := get_ivr (L := By) (i := i) (by omega)
    obtain ⟨hR1, hR2⟩ := hBs i (by omega)
    have hy := hBy.get (show i < By.length by omega)
    have hrow : ∀ t, zg (Bs.getD i default).2 t = rowz Bs i t := fun t => rfl
    have hyv : zv (By.getD i default) = zg By i := rfl
    have hmlb : (Bs.map lr).length = Bs.length := List.length_map _
    have hmly : (By.map ivr).length = By.length := List.length_map _
    have hfin : ∀ (h' : Heap) (n' : Nat) (sl : List AV) (M' : List Raw), (∃ g : Nat → AV, sl = [g 0, mraw nb Bs, lraw nc By, g 3, g 4, g 5, g 6, .ref 1 0 X.length, .int .i64 ((i + 1 : Nat) : Int), g 9, g 10, g 11, g 12, g 13, g 14, g 15, g 16, g 17, g 18, g 19, g 20, g 21, g 22, g 23, g 24, g 25, g 26, g 27, g 28, g 29, g 30, g 31, g 32, g 33, g 34, g 35, g 36, g 37, g 38, g 39, g 40, g 41, g 42, g 43, g 44, g 45]) → M'.length = X.length → h' 1 = some ⟨fr M', true, 2, false⟩ → 2 ≤ n' → NumL M' → (∀ k, k < X.length → zg M' k = zg M k + zg By i * rowz Bs i k) →
        ∃ k', k' < k ∧ ∃ (i : Nat) (M : List Raw), (∃ g : Nat → AV, sl = [g 0, mraw nb Bs, lraw nc By, g 3, g 4, g 5, g 6, .ref 1 0 X.length, .int .i64 (i : Int), g 9, g 10, g 11, g 12, g 13, g 14, g 15, g 16, g 17, g 18, g 19, g 20, g 21, g 22, g 23, g 24, g 25, g 26, g 27, g 28, g 29, g 30, g 31, g 32, g 33, g 34, g 35, g 36, g 37, g 38, g 39, g 40, g 41, g 42, g 43, g 44, g 45]) ∧ i + k' = Bs.length ∧ M.length = X.length ∧ h' 1 = some ⟨fr M, true, 2, false⟩ ∧ 2 ≤ n' ∧ NumL M ∧ ∀ k, k < X.length → zg M k = sz (zg X) (zg By) (rowz Bs) i k := fun h' n' sl M' c0 c1 c2 c3 c4 c5 => ⟨k - 1, by omega, i + 1, M', c0, by omega, c1, c2, c3, c4, fun k hk => by rw [c5 k hk, hz k hk, sz_succ]⟩
    have hs1 : ∀ k, k < X.length → (dg (zg M k + zg By i * rowz Bs i k)).length ≤ 1000000 := fun k hk => by
      have := hsz k hk (i + 1) (by omega)
      rw [sz_succ, ← hz k hk] at this
      exact this
    generalize hIQ : (fun (k : Nat) (σ : St) => ∃ (i : Nat) (M : List Raw), (∃ g : Nat → AV, σ.sl = [g 0, mraw nb Bs, lraw nc By, g 3, g 4, g 5, g 6, .ref 1 0 X.length, .int .i64 (i : Int), g 9, g 10, g 11, g 12, g 13, g 14, g 15, g 16, g 17, g 18, g 19, g 20, g 21, g 22, g 23, g 24, g 25, g 26, g 27, g 28, g 29, g 30, g 31, g 32, g 33, g 34, g 35, g 36, g 37, g 38, g 39, g 40, g 41, g 42, g 43, g 44, g 45]) ∧ i + k = Bs.length ∧ M.length = X.length ∧ σ.h 1 = some ⟨fr M, true, 2, false⟩ ∧ 2 ≤ σ.nx ∧ NumL M ∧ ∀ k, k < X.length → zg M k = sz (zg X) (zg By) (rowz Bs) i k) = IQ
    clear hz hsz inner
    generalize hyi : zg By i = y at *
    generalize By.getD i default = qy at *
    have hyn := hy.1.2.1
    have hyg := hy.1.2.2
    rw [hyv] at hyn hyg
    rw [← hyn, ← hyg] at hgy
    have hyl : (dg y).length ≤ 1000000 := by rw [hyn]; exact hy.2
    clear hyv hyi hy hyn hyg
    generalize Bs.getD i default = R at *
    generalize rowz Bs i = rw_ at *
    simp (maxSteps := 4000000) only [go_sem, ↓reduceIte, Nat.reduceAdd, Nat.reduceSub, Nat.reduceMul, Nat.reduceEqDiff, reduceCtorEq, Int.reduceAdd, Int.reduceLT, Int.reduceLE, Int.reduceToNat, Int.reduceNeg, Int.reduceSub, ← List.map_take, ← List.map_drop, ne_eq, Nat.reduceLeDiff, Nat.reduceLT, Nat.zero_le, Nat.le_refl, wrap64, wrapu64, wrapu32, ← Int.natCast_add, ← Int.natCast_mul, cast_succ, wrapu32_nat, shr32, reps_wd, map_set_wd, List.length_set, zs_len, z1]
    refine W_loopS (fun k sl h nx => ∃ (t : Nat) (M' : List Raw), (∃ g : Nat → AV, sl = [g 0, mraw nb Bs, lraw nc By, g 3, g 4, g 5, g 6, .ref 1 0 X.length, .int .i64 (i : Int), .int .i64 (t : Int), g 10, g 11, g 12, g 13, g 14, g 15, g 16, g 17, g 18, g 19, g 20, g 21, g 22, g 23, g 24, g 25, g 26, g 27, g 28, g 29, g 30, g 31, g 32, g 33, g 34, g 35, g 36, g 37, g 38, g 39, g 40, g 41, g 42, g 43, g 44, g 45]) ∧ t + k = X.length ∧ M'.length = X.length ∧ h 1 = some ⟨fr M', true, 2, false⟩ ∧ 2 ≤ nx ∧ NumL M' ∧ ∀ k, k < X.length → zg M' k = if k < t then zg M k + y * rw_ k else zg M k) X.length ⟨0, M, garb rfl, by omega, hM, hH, hnx, hNM, fun k hk => by rw [if_neg (by omega)]⟩ ?_
    rintro k2 _ h nx ⟨t, M', ⟨g, rfl⟩, hk2, hM', hH', hnx', hNM', hz'⟩
    by_cases ht : t = X.length
    · have z2 : ((t : Int) < (X.length : Int)) = False := eq_false (by omega)
      simp (maxSteps := 4000000) only [go_sem, ↓reduceIte, Nat.reduceAdd, Nat.reduceSub, Nat.reduceMul, Nat.reduceEqDiff, reduceCtorEq, Int.reduceAdd, Int.reduceLT, Int.reduceLE, Int.reduceToNat, Int.reduceNeg, Int.reduceSub, ← List.map_take, ← List.map_drop, ne_eq, Nat.reduceLeDiff, Nat.reduceLT, Nat.zero_le, Nat.le_refl, wrap64, wrapu64, wrapu32, ← Int.natCast_add, ← Int.natCast_mul, cast_succ, wrapu32_nat, shr32, reps_wd, map_set_wd, List.length_set, zs_len, z2, hH', w1]
      rw [← hIQ]
      exact hfin _ _ _ M' (garb rfl) hM' hH' hnx' hNM' fun k hk => by rw [hz' k hk, if_pos (by omega)]
    · have z2 : ((t : Int) < (X.length : Int)) = True := eq_true (by omega)
      have z3 : ((0 : Int) ≤ (t : Int)) = True := eq_true (by omega)
      have z4 : ((t : Int) < (R.2.length : Int)) = True := eq_true (by omega)
      have w2 : IntKind.i64.wrap ((t + 1 : Nat) : Int) = ((t + 1 : Nat) : Int) := wrap64 (by omega) (by omega)
      have hgr := get_ivr (L := R.2) (i := t) (by omega)
      have hmr : (R.2.map ivr).length = R.2.length := List.length_map _
      have hr := hR1.get (show t < R.2.length by omega)
      have hm := hNM'.get (show t < M'.length by omega)
      have hgm := fr_get (L := M') (i := t) (by omega)
      have hin : (t * 2 + 2 ≤ (fr M').length) = True := eq_true (by rw [fr_len]; omega)
      rw [← hr.1.2.1, ← hr.1.2.2] at hgr
      rw [← hm.1.2.1, ← hm.1.2.2] at hgm
      have e1 : zv (R.2.getD t default) = rw_ t := hrow t
      have e2 : zv (M'.getD t default) = zg M t := by have := hz' t (by omega); rw [if_neg (by omega)] at this; exact this
      have hl1 : (dg (rw_ t)).length ≤ 1000000 := by rw [← e1, hr.1.2.1]; exact hr.2
      have hl2 : (dg (zg M t)).length ≤ 1000000 := by rw [← e2, hm.1.2.1]; exact hm.2
      rw [e1] at hgr
      rw [e2] at hgm
      have hs1 := hs1 t (by omega)
      have hxy := dg_mul y (rw_ t)
      have m1 := rMul_spec qy.2.1 y (R.2.getD t default).2.1 (rw_ t) (by omega) (by omega)
      have a1 := rAdd_spec (M'.getD t default).2.1 (zg M t) (decide (y * rw_ t = 0)) (y * rw_ t) (by omega) (by omega)
      simp only [RM] at m1 a1
      have hset := fr_set M' t (rz (decide (zg M t + y * rw_ t = 0), zg M t + y * rw_ t)) (by omega)
      have hfin2 : ∀ (h' : Heap) (n' : Nat) (sl : List AV), (∃ g : Nat → AV, sl = [g 0, mraw nb Bs, lraw nc By, g 3, g 4, g 5, g 6, .ref 1 0 X.length, .int .i64 (i : Int), .int .i64 ((t + 1 : Nat) : Int), g 10, g 11, g 12, g 13, g 14, g 15, g 16, g 17, g 18, g 19, g 20, g 21, g 22, g 23, g 24, g 25, g 26, g 27, g 28, g 29, g 30, g 31, g 32, g 33, g 34, g 35, g 36, g 37, g 38, g 39, g 40, g 41, g 42, g 43, g 44, g 45]) → h' 1 = some ⟨fr (M'.set t (rz (decide (zg M t + y * rw_ t = 0), zg M t + y * rw_ t))), true, 2, false⟩ → 2 ≤ n' →
          ∃ k', k' < k2 ∧ ∃ (t : Nat) (M' : List Raw), (∃ g : Nat → AV, sl = [g 0, mraw nb Bs, lraw nc By, g 3, g 4, g 5, g 6, .ref 1 0 X.length, .int .i64 (i : Int), .int .i64 (t : Int), g 10, g 11, g 12, g 13, g 14, g 15, g 16, g 17, g 18, g 19, g 20, g 21, g 22, g 23, g 24, g 25, g 26, g 27, g 28, g 29, g 30, g 31, g 32, g 33, g 34, g 35, g 36, g 37, g 38, g 39, g 40, g 41, g 42, g 43, g 44, g 45]) ∧ t + k' = X.length ∧ M'.length = X.length ∧ h' 1 = some ⟨fr M', true, 2, false⟩ ∧ 2 ≤ n' ∧ NumL M' ∧ ∀ k, k < X.length → zg M' k = if k < t then zg M k + y * rw_ k else zg M k := fun h' n' sl c0 c1 c2 => by
        refine ⟨k2 - 1, by omega, t + 1, _, c0, by omega, by rw [List.length_set]; exact hM', c1, c2, fun q hq => ?_, fun k hk => ?_⟩
        · rcases List.mem_or_eq_of_mem_set hq with hq | hq
          · exact hNM' q hq
          · rw [hq]; exact ⟨num_rz _, hs1⟩
        · by_cases e : k = t
          · subst e
            unfold zg
            rw [getD_set_eq (by omega), if_pos (by omega)]
            exact zv_rz _
          · have := hz' k hk
            unfold zg at this ⊢
            rw [getD_set_ne (fun h => e h.symm), this]
            by_cases hlt : k < t
            · rw [if_pos hlt, if_pos (by omega)]
            · rw [if_neg hlt, if_neg (by omega)]
      generalize hIQ2 : (fun (k : Nat) (σ : St) => ∃ (t : Nat) (M' : List Raw), (∃ g : Nat → AV, σ.sl = [g 0, mraw nb Bs, lraw nc By, g 3, g 4, g 5, g 6, .ref 1 0 X.length, .int .i64 (i : Int), .int .i64 (t : Int), g 10, g 11, g 12, g 13, g 14, g 15, g 16, g 17, g 18, g 19, g 20, g 21, g 22, g 23, g 24, g 25, g 26, g 27, g 28, g 29, g 30, g 31, g 32, g 33, g 34, g 35, g 36, g 37, g 38, g 39, g 40, g 41, g 42, g 43, g 44, g 45]) ∧ t + k = X.length ∧ M'.length = X.length ∧ σ.h 1 = some ⟨fr M', true, 2, false⟩ ∧ 2 ≤ σ.nx ∧ NumL M' ∧ ∀ k, k < X.length → zg M' k = if k < t then zg M k + y * rw_ k else zg M k) = IQ2
      clear hz' hfin hIQ hrow e1 e2 hs1 hl1 hl2 hxy hr hm hR1
      generalize zg M t = s at *
      generalize rw_ t = r at *
      generalize s + y * r = s2 at *
      generalize y * r = yr at *
      generalize (R.2.getD t default) = qr at *
      generalize (M'.getD t default) = qm at *
      generalize decide (s2 = 0) = f2 at *
      generalize decide (yr = 0) = f3 at *
      simp (maxSteps := 4000000) only [go_sem, ↓reduceIte, Nat.reduceAdd, Nat.reduceSub, Nat.reduceMul, Nat.reduceEqDiff, reduceCtorEq, Int.reduceAdd, Int.reduceLT, Int.reduceLE, Int.reduceToNat, Int.reduceNeg, Int.reduceSub, ← List.map_take, ← List.map_drop, ne_eq, Nat.reduceLeDiff, Nat.reduceLT, Nat.zero_le, Nat.le_refl, wrap64, wrapu64, wrapu32, ← Int.natCast_add, ← Int.natCast_mul, cast_succ, wrapu32_nat, shr32, reps_wd, map_set_wd, List.length_set, zs_len, z2, hH']
      refine W_drawn ?_
      simp (maxSteps := 4000000) only [go_sem, ↓reduceIte, Nat.reduceAdd, Nat.reduceSub, Nat.reduceMul, Nat.reduceEqDiff, reduceCtorEq, Int.reduceAdd, Int.reduceLT, Int.reduceLE, Int.reduceToNat, Int.reduceNeg, Int.reduceSub, ← List.map_take, ← List.map_drop, ne_eq, Nat.reduceLeDiff, Nat.reduceLT, Nat.zero_le, Nat.le_refl, wrap64, wrapu64, wrapu32, ← Int.natCast_add, ← Int.natCast_mul, cast_succ, wrapu32_nat, shr32, reps_wd, map_set_wd, List.length_set, zs_len, z0, z1, z2, z3, z4, zi, hgb, hgy, hgr, hgm, hin, hmlb, hmly, hmr, hH', m1, a1, hM']
      refine ⟨by rfl, ?_⟩
      rw [w2, ← hIQ2]
      refine hfin2 _ _ _ (garb rfl) ?_ hnx'
      rw [← hset]
      simp only [upd_apply, ↓reduceIte, Nat.reduceEqDiff, if_pos, setCells_cons, setCells_nil]
end Go.Proofs.YtnpomadbaanpkaaGreat

/- Rows of a system changed: what stays. (Own work of this repo.) -/
namespace Go.Proofs.YtnpomadbaanpkaaGreat
open Vm
set_option maxRecDepth 10000

theorem dz_congr {a a' b : Nat → Int} : ∀ n, (∀ j, j < n → a j = a' j) → dz a b n = dz a' b n
  | 0, _ => rfl
  | n + 1, h => by show dz a b n + a n * b n = dz a' b n + a' n * b n; rw [dz_congr n fun j hj => h j (by omega), h n (by omega)]
theorem dz_scale {a a' b : Nat → Int} (c : Int) : ∀ n, (∀ j, j < n → a' j = a j * c) → dz a' b n = dz a b n * c
  | 0, _ => by simp [dz]
  | n + 1, h => by
    show dz a' b n + a' n * b n = (dz a b n + a n * b n) * c
    rw [dz_scale c n fun j hj => h j (by omega), h n (by omega), Int.add_mul, Int.mul_assoc (a n), Int.mul_assoc (a n), Int.mul_comm c]
theorem dz_add {a a' a'' b : Nat → Int} : ∀ n, (∀ j, j < n → a'' j = a j + a' j) → dz a'' b n = dz a b n + dz a' b n
  | 0, _ => by simp [dz]
  | n + 1, h => by
    show dz a'' b n + a'' n * b n = (dz a b n + a n * b n) + (dz a' b n + a' n * b n)
    rw [dz_add n fun j hj => h j (by omega), h n (by omega), Int.add_mul]
    omega
theorem getDM_set_ne {M : Mat} {q : Bool × List Raw} {i j : Nat} (h : i ≠ j) : (M.set i q).getD j default = M.getD j default := by
  rw [List.getD_eq_getElem?_getD, List.getD_eq_getElem?_getD, List.getElem?_set_ne h]
theorem getDM_set_eq {M : Mat} {q : Bool × List Raw} {i : Nat} (h : i < M.length) : (M.set i q).getD i default = q := by
  rw [List.getD_eq_getElem?_getD, List.getElem?_set_self h]; rfl
theorem shortM_set {A : Mat} {i : Nat} {q : Bool × List Raw} (h : ShortM A) (hq : Short q.2) : ShortM (A.set i q) := by
  refine ⟨by rw [List.length_set]; exact h.1, fun r hr => ?_⟩
  rcases List.mem_or_eq_of_mem_set hr with hr | hr
  · exact h.2 r hr
  · rw [hr]; exact hq
theorem short_set {A : List Raw} {i : Nat} {q : Raw} (h : Short A) (hq : q.2.2.length < 9223372036854775808) : Short (A.set i q) := by
  refine ⟨by rw [List.length_set]; exact h.1, fun r hr => ?_⟩
  rcases List.mem_or_eq_of_mem_set hr with hr | hr
  · exact h.2 r hr
  · rw [hr]; exact hq
theorem inM_set {A : Mat} {i : Nat} {q : Bool × List Raw} (h : InM A) (hq : ∀ x ∈ q.2, InR x.2.2) : InM (A.set i q) := by
  intro r hr
  rcases List.mem_or_eq_of_mem_set hr with hr | hr
  · exact h r hr
  · rw [hr]; exact hq
theorem inR_set {A : List Raw} {i : Nat} {q : Raw} (h : ∀ x ∈ A, InR x.2.2) (hq : InR q.2.2) : ∀ x ∈ A.set i q, InR x.2.2 := by
  intro r hr
  rcases List.mem_or_eq_of_mem_set hr with hr | hr
  · exact h r hr
  · rw [hr]; exact hq
/-- The numbers that solve a changed system. -/
theorem sol_same {A A' : Mat} {B B' X : Nat → Int} {n : Nat} (h : (∀ i, i < n → rx A' X i = B' i) ↔ (∀ i, i < n → rx A X i = B i)) : solB A' B' X n = solB A B X n := by
  rw [Bool.eq_iff_iff, solB_iff, solB_iff]; exact h
/-- A changed system: Holds says the same. -/
theorem holds_same (A : Mat) (B : List Raw) (nx' : Bool) (X : List Raw) (A' : Mat) (B' : List Raw) (hA : ShortM A') (hB : Short B') (iA : InM A') (iB : ∀ q ∈ B', InR q.2.2) (hX : Short X) (iX : ∀ q ∈ X, InR q.2.2) (h2 : X.all okV = true) {p : Nat} (hp : p ≤ 3200) (hq : ∀ j, j < X.length → (zg X j).natAbs ≤ 2 ^ p)
    (hl : A'.length = A.length) (hw : (A'.getD 0 default).2.length = X.length) (h : sysB A' B' = true) (hs : (∀ i, i < A.length → rx A' (zg X) i = zg B' i) ↔ (∀ i, i < A.length → rx A (zg X) i = zg B i)) :
    denP E 8 [mraw false A', lraw false B', lraw nx' X] = some (.ret (.tup [.bool (solB A (zg B) (zg X) A.length), .int .i64 0])) := by
  have hok := sys_ok iA iB h
  rw [hw] at hok
  have hf : FitX A' (zg X) X.length := fit_bits (p := 200) (q := p) hok.cols.2 (by omega) hok.bA hq
  have := Holds_ok false A' false B' nx' X hA hB iA iB hX iX h h2 hw.symm hf
  rw [this, hl, sol_same hs]
/-- A row multiplied. -/
theorem same_scaled {A : Mat} {B : List Raw} {X : Nat → Int} {w n : Nat} {by_ : Int} (hb : by_ ≠ 0) (hn : n < A.length) (hBl : B.length = A.length) (hA : MatV A w) (o : Bool × List Raw) (hol : o.2.length = w) (hoz : ∀ i, i < w → zg o.2 i = rowz A n i * by_) (q : Raw) (hq : zv q = zg B n * by_) :
    (∀ i, i < A.length → rx (A.set n o) X i = zg (B.set n q) i) ↔ (∀ i, i < A.length → rx A X i = zg B i) := by
  have en : rx (A.set n o) X n = rx A X n * by_ := by
    unfold rx
    have e1 : (A.set n o).getD n default = o := getDM_set_eq hn
    rw [e1, (hA n hn).2, hol]
    refine dz_scale (a := rowz A n) by_ w fun j hj => ?_
    show zg ((A.set n o).getD n default).2 j = _
    rw [e1]
    exact hoz j hj
  have eb : zg (B.set n q) n = zg B n * by_ := by unfold zg; rw [getD_set_eq (by omega)]; exact hq
  have en' : ∀ i, i ≠ n → rx (A.set n o) X i = rx A X i := fun i hi => by unfold rx rowz; rw [getDM_set_ne (fun h => hi h.symm)]
  have eb' : ∀ i, i ≠ n → zg (B.set n q) i = zg B i := fun i hi => by unfold zg; rw [getD_set_ne (fun h => hi h.symm)]
  constructor
  · intro h i hi
    have h1 := h i hi
    by_cases e : i = n
    · subst e
      rw [en, eb] at h1
      exact Int.eq_of_mul_eq_mul_right hb h1
    · rwa [en' i e, eb' i e] at h1
  · intro h i hi
    by_cases e : i = n
    · subst e
      rw [en, eb, h i hi]
    · rw [en' i e, eb' i e]; exact h i hi
/-- A row added to another one. -/
theorem same_added {A : Mat} {B : List Raw} {X : Nat → Int} {w n m : Nat} (hn : n < A.length) (hm : m < A.length) (hnm : n ≠ m) (hBl : B.length = A.length) (hA : MatV A w) (o : Bool × List Raw) (hol : o.2.length = w) (hoz : ∀ i, i < w → zg o.2 i = rowz A n i + rowz A m i) (q : Raw) (hq : zv q = zg B n + zg B m) :
    (∀ i, i < A.length → rx (A.set n o) X i = zg (B.set n q) i) ↔ (∀ i, i < A.length → rx A X i = zg B i) := by
  have en : rx (A.set n o) X n = rx A X n + rx A X m := by
    unfold rx
    have e1 : (A.set n o).getD n default = o := getDM_set_eq hn
    rw [e1, (hA n hn).2, (hA m hm).2, hol]
    refine dz_add (a := rowz A n) (a' := rowz A m) w fun j hj => ?_
    show zg ((A.set n o).getD n default).2 j = _
    rw [e1]
    exact hoz j hj
  have eb : zg (B.set n q) n = zg B n + zg B m := by unfold zg; rw [getD_set_eq (by omega)]; exact hq
  have en' : ∀ i, i ≠ n → rx (A.set n o) X i = rx A X i := fun i hi => by unfold rx rowz; rw [getDM_set_ne (fun h => hi h.symm)]
  have eb' : ∀ i, i ≠ n → zg (B.set n q) i = zg B i := fun i hi => by unfold zg; rw [getD_set_ne (fun h => hi h.symm)]
  constructor
  · intro h i hi
    by_cases e : i = n
    · subst e
      have h1 := h i hi
      have h2 := h m hm
      rw [en, eb] at h1
      rw [en' m (fun h => hnm h.symm), eb' m (fun h => hnm h.symm)] at h2
      omega
    · have := h i hi
      rwa [en' i e, eb' i e] at this
  · intro h i hi
    by_cases e : i = n
    · subst e
      rw [en, eb, h i hi, h m hm]
    · rw [en' i e, eb' i e]; exact h i hi
/-- Rows exchanged. -/
theorem same_swap {A : Mat} {B : List Raw} {X : Nat → Int} {n m : Nat} (hn : n < A.length) (hm : m < A.length) (hBl : B.length = A.length) :
    (∀ i, i < A.length → rx ((A.set n (A.getD m default)).set m (A.getD n default)) X i = zg ((B.set n (B.getD m default)).set m (B.getD n default)) i) ↔ (∀ i, i < A.length → rx A X i = zg B i) := by
  have key : ∀ i, i < A.length → ∃ j, j < A.length ∧ rx ((A.set n (A.getD m default)).set m (A.getD n default)) X i = rx A X j ∧ zg ((B.set n (B.getD m default)).set m (B.getD n default)) i = zg B j ∧ (i = if j = m then n else if j = n then m else j) := fun i hi => by
    by_cases e1 : i = m
    · refine ⟨n, hn, ?_, ?_, ?_⟩
      · unfold rx rowz; rw [e1, getDM_set_eq (by rw [List.length_set]; exact hm)]
      · unfold zg; rw [e1, getD_set_eq (by rw [List.length_set]; omega)]
      · by_cases e : n = m
        · rw [if_pos e]; omega
        · rw [if_neg e, if_pos rfl]; exact e1
    · by_cases e2 : i = n
      · refine ⟨m, hm, ?_, ?_, ?_⟩
        · unfold rx rowz; rw [getDM_set_ne (fun h => e1 h.symm), e2, getDM_set_eq hn]
        · unfold zg; rw [getD_set_ne (fun h => e1 h.symm), e2, getD_set_eq (by omega)]
        · rw [if_pos rfl]; exact e2
      · refine ⟨i, hi, ?_, ?_, ?_⟩
        · unfold rx rowz; rw [getDM_set_ne (fun h => e1 h.symm), getDM_set_ne (fun h => e2 h.symm)]
        · unfold zg; rw [getD_set_ne (fun h => e1 h.symm), getD_set_ne (fun h => e2 h.symm)]
        · rw [if_neg e1, if_neg e2]
  constructor
  · intro h j hj
    -- the index that leads to j
    obtain ⟨i, hi, he⟩ : ∃ i, i < A.length ∧ i = if j = m then n else if j = n then m else j := ⟨_, by split; exact hn; split; exact hm; exact hj, rfl⟩
    obtain ⟨j', hj', k1, k2, k3⟩ := key i hi
    have e : j' = j := by
      (repeat' split at he) <;> (repeat' split at k3) <;> omega
    rw [← e, ← k1, ← k2]
    exact h i hi
  · intro h i hi
    obtain ⟨j, hj, k1, k2, _⟩ := key i hi
    rw [k1, k2]
    exact h j hj
end Go.Proofs.YtnpomadbaanpkaaGreat

/- The law LinearRows: its walk. (Own work of this repo.) -/
namespace Go.Proofs.YtnpomadbaanpkaaGreat
open Vm
set_option maxRecDepth 10000

theorem openK_bool {Q : Ex → St → Prop} {σ : St} {all os : List Go.Oper} {dst : Option Nat} {x : Option (Res × Heap × Nat)} (P : Bool → Heap → Nat → Prop) (hx : ∃ b H' N', x = some (.ret (.bool b), H', N') ∧ P b H' N') (k : ∀ b H' N', P b H' N' → Rg E all os ⟨put σ.sl dst (.bool b), H', N'⟩ Q) : openK E all os dst Q σ x := by
  obtain ⟨b, H', N', rfl, h1⟩ := hx
  exact k b H' N' h1
end Go.Proofs.YtnpomadbaanpkaaGreat

/- The machine over pure values, carried out by Lean's kernel: what is asked of statements without an order is decided. (Own work of this repo.) -/
namespace Vm
open Go

mutual
/-- Are two values the same? (Sufficient.) -/
def AV.same : AV → AV → Bool
  | .int k n, .int k' m => decide (k = k') && decide (n = m)
  | .bool a, .bool b => a == b
  | .str a, .str b => decide (a = b)
  | .lst n xs, .lst m ys => (n == m) && AV.sameL xs ys
  | .ref a b c, .ref a' b' c' => decide (a = a') && decide (b = b') && decide (c = c')
  | .ptr a b, .ptr a' b' => decide (a = a') && decide (b = b')
  | .imm xs, .imm ys => AV.sameL xs ys
  | .nilp, .nilp => true
  | .fn f a b, .fn f' a' b' => decide (f = f') && AV.sameL a a' && AV.sameL b b'
  | .nilf, .nilf => true
  | .iface t v, .iface t' v' => decide (t = t') && v.same v'
  | .nili, .nili => true
  | .agg xs, .agg ys => AV.sameL xs ys
  | .tup xs, .tup ys => AV.sameL xs ys
  | _, _ => false
def AV.sameL : List AV → List AV → Bool
  | [], [] => true
  | x :: xs, y :: ys => x.same y && AV.sameL xs ys
  | _, _ => false
end
mutual
theorem same_eq : ∀ (x y : AV), x.same y = true → x = y
  | .int k n, y, h => by cases y <;> simp [AV.same] at h; rw [h.1, h.2]
  | .bool a, y, h => by cases y <;> simp [AV.same] at h; rw [h]
  | .str a, y, h => by cases y <;> simp [AV.same] at h; rw [h]
  | .lst n xs, y, h => by
    cases y <;> simp [AV.same] at h
    rw [h.1, sameL_eq xs _ h.2]
  | .ref a b c, y, h => by cases y <;> simp [AV.same] at h; rw [h.1.1, h.1.2, h.2]
  | .ptr a b, y, h => by cases y <;> simp [AV.same] at h; rw [h.1, h.2]
  | .imm xs, y, h => by cases y <;> simp [AV.same] at h; rw [sameL_eq xs _ h]
  | .nilp, y, h => by cases y <;> simp [AV.same] at h; rfl
  | .fn f a b, y, h => by
    cases y <;> simp [AV.same] at h
    rw [h.1.1, sameL_eq a _ h.1.2, sameL_eq b _ h.2]
  | .nilf, y, h => by cases y <;> simp [AV.same] at h; rfl
  | .iface t v, y, h => by
    cases y <;> simp [AV.same] at h
    rw [h.1, same_eq v _ h.2]
  | .nili, y, h => by cases y <;> simp [AV.same] at h; rfl
  | .agg xs, y, h => by cases y <;> simp [AV.same] at h; rw [sameL_eq xs _ h]
  | .tup xs, y, h => by cases y <;> simp [AV.same] at h; rw [sameL_eq xs _ h]
  | .code _ _ _, y, h => by cases y <;> simp [AV.same] at h
theorem sameL_eq : ∀ (xs ys : List AV), AV.sameL xs ys = true → xs = ys
  | [], ys, h => by cases ys <;> simp [AV.sameL] at h; rfl
  | x :: xs, ys, h => by
    cases ys <;> simp [AV.sameL] at h
    rw [same_eq x _ h.1, sameL_eq xs _ h.2]
end
def Dep.okB (E : Env) : Dep → Option Blk → Bool
  | .shape n, some b => decide (b.esz = n)
  | .cells t off v, some b => (match loadEff E (Heap.empty.upd 0 (some b)) t (.ptr 0 off) with
    | some ⟨.val w, [0], [], false⟩ => w.same v
    | _ => false)
  | _, _ => false
theorem Dep.okB_ok {E : Env} {d : Dep} {b : Option Blk} (h : d.okB E b = true) : d.ok E b := by
  cases d <;> cases b <;> simp only [Dep.okB, Bool.false_eq_true] at h
  · simpa [Dep.ok] using h
  · split at h
    · rename_i w hw
      show loadEff _ _ _ _ = _
      rw [hw, same_eq _ _ h]
    · cases h
def stableB (E : Env) (all : List Oper) (rs : List Rec) (H : Heap) (i : Nat) (r : Rec) : Bool :=
  r.ids.isEmpty && (match r.rds with
  | [x] => (vis all i x rs 0 [H x]).all fun b => r.dep.okB E b
  | _ => false)
theorem stableB_ok {E : Env} {all : List Oper} {rs : List Rec} {H : Heap} {i : Nat} {r : Rec} (h : stableB E all rs H i r = true) : Stable E all rs H i r := by
  unfold stableB at h
  rw [Bool.and_eq_true] at h
  obtain ⟨h1, h2⟩ := h
  split at h2 <;> try cases h2
  rename_i x hx
  exact ⟨by simpa using h1, x, hx, fun b hb => Dep.okB_ok (List.all_eq_true.1 h2 b hb)⟩
def pairB (E : Env) (all : List Oper) (rs : List Rec) (H : Heap) (j k : Nat) (r s : Rec) : Bool :=
  disj r.ids s.ids && (disj r.ids s.rds || stableB E all rs H k s) && (disj s.ids r.rds || stableB E all rs H j r)
theorem disj_ok {a b : List Nat} (h : disj a b = true) : ∀ i, i ∈ a → i ∉ b := by
  intro i hi hb
  have := List.all_eq_true.1 h i hi
  simp [hb] at this
theorem pairB_ok {E : Env} {all : List Oper} {rs : List Rec} {H : Heap} {j k : Nat} {r s : Rec} (h : pairB E all rs H j k r s = true) : PairOk E all rs H j k r s := by
  unfold pairB at h
  simp only [Bool.and_eq_true, Bool.or_eq_true] at h
  obtain ⟨⟨h1, h2⟩, h3⟩ := h
  exact ⟨disj_ok h1, h2.elim (fun h => .inr (disj_ok h)) fun h => .inl (stableB_ok h), h3.elim (fun h => .inr (disj_ok h)) fun h => .inl (stableB_ok h)⟩
def dyn1B (E : Env) (all : List Oper) (rs : List Rec) (H : Heap) (j : Nat) (r : Rec) : Nat → List Rec → Bool
  | _, [] => true
  | k, s :: ss => (match r.quiet && s.quiet with
    | true => true
    | false => befBit all k j || pairB E all rs H j k r s) && dyn1B E all rs H j r (k + 1) ss
def dynB (E : Env) (all : List Oper) (rs : List Rec) (H : Heap) : Nat → List Rec → Bool
  | _, [] => true
  | j, r :: ss => dyn1B E all rs H j r (j + 1) ss && dynB E all rs H (j + 1) ss
theorem quiet_nil {r : Rec} (h : r.quiet = true) : r.ids = [] := by
  unfold Rec.quiet at h; unfold Rec.ids
  rw [List.isEmpty_iff] at h; rw [h]; rfl
theorem dyn1B_ok {E : Env} {all : List Oper} {rs : List Rec} {H : Heap} {j : Nat} {r : Rec} : ∀ (ss : List Rec) (k : Nat), dyn1B E all rs H j r k ss = true → ∀ i s, ss[i]? = some s → befBit all (k + i) j = false → PairOk E all rs H j (k + i) r s
  | [], _, _, i, s, h, _ => by simp at h
  | t :: ss, k, h, i, s, hs, hb => by
    simp only [dyn1B, Bool.and_eq_true] at h
    cases i with
    | zero =>
      simp at hs; subst hs
      rw [Nat.add_zero] at hb ⊢
      cases hq : r.quiet && t.quiet with
      | true =>
        rw [Bool.and_eq_true] at hq
        refine ⟨fun i hi => ?_, .inr fun i hi => ?_, .inr fun i hi => ?_⟩
        · rw [quiet_nil hq.1] at hi; cases hi
        · rw [quiet_nil hq.1] at hi; cases hi
        · rw [quiet_nil hq.2] at hi; cases hi
      | false =>
        rw [hq, hb] at h
        exact pairB_ok (by simpa using h.1)
    | succ i =>
      have := dyn1B_ok ss (k + 1) h.2 i s (by simpa using hs) (by rw [show k + 1 + i = k + (i + 1) by omega]; exact hb)
      rwa [show k + 1 + i = k + (i + 1) by omega] at this
theorem dynB_ok {E : Env} {all : List Oper} {rs : List Rec} {H : Heap} : ∀ (l : List Rec) (m : Nat), dynB E all rs H m l = true → ∀ j k r s, l[j]? = some r → l[k]? = some s → j < k → befBit all (m + k) (m + j) = false → PairOk E all rs H (m + j) (m + k) r s
  | [], _, _, j, k, r, s, h, _, _, _ => by simp at h
  | t :: l, m, h, j, k, r, s, hr, hs, hlt, hb => by
    simp only [dynB, Bool.and_eq_true] at h
    cases k with
    | zero => omega
    | succ k =>
      cases j with
      | zero =>
        simp at hr; subst hr
        have := dyn1B_ok l (m + 1) h.1 k s (by simpa using hs) (by rw [show m + 1 + k = m + (k + 1) by omega]; exact hb)
        rwa [show m + 1 + k = m + (k + 1) by omega] at this
      | succ j =>
        have := dynB_ok l (m + 1) h.2 j k r s (by simpa using hr) (by simpa using hs) (by omega) (by rw [show m + 1 + k = m + (k + 1) by omega, show m + 1 + j = m + (j + 1) by omega]; exact hb)
        rwa [show m + 1 + k = m + (k + 1) by omega, show m + 1 + j = m + (j + 1) by omega] at this
noncomputable def runDrawB (E : Env) (C : Cl) (ops : List Oper) (σ : St) : Option (Ex × St) :=
  match recs E (callEff E C (σ.nx + ops.length)) ops ops 0 none σ with
  | some (rs, none, σ') => (match (match rs.all Rec.quiet with | true => true | false => dynB E ops rs σ.h 0 rs) with
    | true => some (.norm, σ')
    | false => none)
  | some (rs, some (_, v), σ') => (match (match rs.all Rec.quiet with | true => true | false => dynOk ops 0 rs && rs.all (fun r => r.ids.all fun i => σ.nx ≤ i)) with
    | true => some (.panic v, ⟨σ.sl, σ.h, σ'.nx⟩)
    | false => none)
  | none => none
theorem runDrawB_ok {E : Env} {C : Cl} {ops : List Oper} {σ : St} {r : Ex × St} (h : runDrawB E C ops σ = some r) : runDraw E C ops σ = some r := by
  unfold runDrawB at h
  unfold runDraw
  split at h
  · rename_i rs σ' hr
    rw [hr]
    dsimp only
    split at h
    · rename_i hq
      cases h
      cases ha : rs.all Rec.quiet with
      | true => rfl
      | false =>
        rw [ha] at hq
        have hd : DynP E ops rs σ.h := fun j k r s h1 h2 h3 h4 => by
          have := dynB_ok rs 0 hq j k r s h1 h2 h3 (by simpa using h4)
          simpa using this
        dsimp only
        split
        · rfl
        · rw [if_pos hd]
    · cases h
  · rename_i rs q v σ' hr
    rw [hr]
    exact h
  · cases h
noncomputable def stepB (E : Env) (C : Cl) (again : Code → St → Option (Ex × St)) : Code → St → Option (Ex × St)
  | .skip, σ => some (.norm, σ)
  | .region _ ops draw, σ => if draw then runDrawB E C ops.toList σ else runOps E C ops.toList ops.toList σ
  | .seq a b, σ => (match stepB E C again a σ with
    | some (.norm, σ') => stepB E C again b σ'
    | some (.exit i, σ') => some (.exit i, σ')
    | some (.ret, σ') => some (.ret, σ')
    | some (.panic v, σ') => some (.panic v, σ')
    | none => none)
  | .cond c a b, σ => (match ev σ.sl c with
    | some (.bool true) => stepB E C again a σ
    | some (.bool false) => stepB E C again b σ
    | _ => none)
  | .block i c, σ => (match stepB E C again c σ with
    | some (.norm, σ') => some (.norm, σ')
    | some (.exit j, σ') => if j = i then some (.norm, σ') else some (.exit j, σ')
    | some (.ret, σ') => some (.ret, σ')
    | some (.panic v, σ') => some (.panic v, σ')
    | none => none)
  | .loop c, σ => (match again c σ with
    | some (.norm, σ') => again (.loop c) σ'
    | some (.exit i, σ') => some (.exit i, σ')
    | some (.ret, σ') => some (.ret, σ')
    | some (.panic v, σ') => some (.panic v, σ')
    | none => none)
  | .exit i, σ => some (.exit i, σ)
  | .ret, σ => some (.ret, σ)
  | .rangeFunc fo ps asg bd, σ => step E C again (.rangeFunc fo ps asg bd) σ
  | _, _ => none
theorem stepB_ok {E : Env} {C : Cl} {again : Code → St → Option (Ex × St)} : ∀ (c : Code) (σ : St) (r : Ex × St), stepB E C again c σ = some r → step E C again c σ = some r := by
  intro c
  induction c with
  | region id ops draw =>
    intro σ r h
    simp only [stepB, step] at h ⊢
    split at h
    · rename_i hd; rw [if_pos hd]; exact runDrawB_ok h
    · rename_i hd; rw [if_neg hd]; exact h
  | seq a b iha ihb =>
    intro σ r h
    simp only [stepB] at h
    simp only [step]
    have key : ∃ q, stepB E C again a σ = some q := by split at h <;> first | exact ⟨_, by assumption⟩ | cases h
    obtain ⟨q, hq⟩ := key
    rw [iha _ _ hq]
    rw [hq] at h
    obtain ⟨ex, σ'⟩ := q
    cases ex with
    | norm => exact ihb _ _ h
    | exit i => exact h
    | ret => exact h
    | panic v => exact h
  | cond c a b iha ihb =>
    intro σ r h
    simp only [stepB] at h
    simp only [step]
    split at h
    · rename_i he; rw [he]; exact iha _ _ h
    · rename_i he; rw [he]; exact ihb _ _ h
    · cases h
  | block i c ih =>
    intro σ r h
    simp only [stepB] at h
    simp only [step]
    have key : ∃ q, stepB E C again c σ = some q := by split at h <;> first | exact ⟨_, by assumption⟩ | cases h
    obtain ⟨q, hq⟩ := key
    rw [ih _ _ hq]
    rw [hq] at h
    exact h
  | skip => intro σ r h; exact h
  | loop c ih => intro σ r h; exact h
  | exit i => intro σ r h; exact h
  | ret => intro σ r h; exact h
  | rangeFunc fo ps asg bd => intro σ r h; exact h
  | _ => intro σ r h; simp [stepB] at h
noncomputable def execB (E : Env) : Nat → Code → St → Option (Ex × St)
  | 0 => fun _ _ => none
  | n + 1 => stepB E (cl E (execB E n)) (execB E n)
theorem execB_ok {E : Env} : ∀ (n : Nat) (c : Code) (σ : St) (r : Ex × St), execB E n c σ = some r → exec E n c σ = some r
  | 0, c, σ, r, h => by simp [execB] at h
  | n + 1, c, σ, r, h => by
    have h1 := stepB_ok c σ r h
    have ha : AgLim (execB E n) (fun _ => exec E n) := fun c σ r h => ⟨0, fun _ _ => execB_ok n c σ r h⟩
    obtain ⟨k, hk⟩ := step_lim (cl_lim ha) ha c σ r h1
    exact hk k (Nat.le_refl _)
/-- What the kernel has carried out. -/
theorem denP_ker {E : Env} {f : FuncId} {l : List AV} {r : Res} (n : Nat) (h : bodyP E (execB E n) f l = some r) : denP E f l = some r := by
  have ha : AgLim (execB E n) (fun _ => exec E n) := fun c σ r h => ⟨0, fun _ _ => execB_ok n c σ r h⟩
  obtain ⟨k, hk⟩ := (cl_lim (E := E) ha).p f l r h
  exact denP_of (hk k (Nat.le_refl _))
end Vm
