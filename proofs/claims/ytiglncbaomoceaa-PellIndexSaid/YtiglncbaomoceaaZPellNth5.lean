/- Part 5 of a proof about this seat: Inx. (Own work of this repo.) -/
import Derived.Test.YtiglncbaomoceaaZPellNth4
set_option linter.unusedVariables false
set_option linter.unusedSimpArgs false
/- The law PellIndex: its cases. (Own work of this repo.) -/
namespace Go.Proofs.Ytiglncbaomoceaa
open Vm
open Pel hiding allS
set_option maxRecDepth 10000

theorem valid_eq (neg : Bool) (l : List Nat) : validW neg l = rvalidW neg l := by
  unfold validW rvalidW
  by_cases h : l.length = 0
  · simp [h]
  · by_cases h1 : l.length ≤ 4096 <;> by_cases h2 : l.getD (l.length - 1) 0 = 0 <;> simp [h, h1, h2] <;> omega
theorem Index_nofit (D : Int) (a b : Raw) (hf : denP E 36 [.int .i64 D] = some (.ret (.bool false))) : denP E 25 [.int .i64 D, ivr a, ivr b] = some (.ret (.tup [.int .i64 0, .int .i64 2])) := by
  refine denP_eq E25 rfl (by simp [AV.pureL, AV.pure, pure_wd]) ?_
  simp (maxSteps := 4000000) only [go_sem, ↓reduceIte, Nat.reduceAdd, Nat.reduceSub, Nat.reduceMul, Nat.reduceEqDiff, reduceCtorEq, Int.reduceAdd, Int.reduceLT, Int.reduceLE, Int.reduceToNat, Int.reduceNeg, Int.reduceSub, ← List.map_take, ← List.map_drop, ne_eq, Nat.reduceLeDiff, Nat.reduceLT, Nat.zero_le, Nat.le_refl, wrap64, wrapu64, wrapu32, ← Int.natCast_add, ← Int.natCast_mul, cast_succ, wrapu32_nat, shr32, reps_wd, map_set_wd, List.length_set, zs_len, Try.f25, hf, ivr, iv, places, fillAll, reps, refP, elems]
theorem Index_form (D : Int) (a b : Raw) (la : a.2.2.length < 2 ^ 60) (lb : b.2.2.length < 2 ^ 60) (hf : denP E 36 [.int .i64 D] = some (.ret (.bool true))) (hv : (rvalidW a.1 a.2.2 && rvalidW b.1 b.2.2) = false) : denP E 25 [.int .i64 D, ivr a, ivr b] = some (.ret (.tup [.int .i64 0, .int .i64 1])) := by
  refine denP_eq E25 rfl (by simp [AV.pureL, AV.pure, pure_wd]) ?_
  have v1 := exValid2 a.1 a.2.1 a.2.2 b.1 b.2.1 b.2.2 la lb
  rw [valid_eq, valid_eq, hv] at v1
  simp only [iv] at v1
  simp (maxSteps := 4000000) only [go_sem, ↓reduceIte, Nat.reduceAdd, Nat.reduceSub, Nat.reduceMul, Nat.reduceEqDiff, reduceCtorEq, Int.reduceAdd, Int.reduceLT, Int.reduceLE, Int.reduceToNat, Int.reduceNeg, Int.reduceSub, ← List.map_take, ← List.map_drop, ne_eq, Nat.reduceLeDiff, Nat.reduceLT, Nat.zero_le, Nat.le_refl, wrap64, wrapu64, wrapu32, ← Int.natCast_add, ← Int.natCast_mul, cast_succ, wrapu32_nat, shr32, reps_wd, map_set_wd, List.length_set, zs_len, Try.f25, hf, v1, ivr, iv, places, fillAll, reps, refP, elems]
theorem Index_neg (D : Int) (a b : Raw) (la : a.2.2.length < 2 ^ 60) (lb : b.2.2.length < 2 ^ 60) (hf : denP E 36 [.int .i64 D] = some (.ret (.bool true))) (hv : (rvalidW a.1 a.2.2 && rvalidW b.1 b.2.2) = true) (hn : (!a.1 && !b.1) = false) : denP E 25 [.int .i64 D, ivr a, ivr b] = some (.ret (.tup [.int .i64 0, .int .i64 2])) := by
  refine denP_eq E25 rfl (by simp [AV.pureL, AV.pure, pure_wd]) ?_
  have v1 := exValid2 a.1 a.2.1 a.2.2 b.1 b.2.1 b.2.2 la lb
  have v2 := exNat2 a.1 a.2.1 a.2.2 b.1 b.2.1 b.2.2
  rw [valid_eq, valid_eq, hv] at v1
  rw [hn] at v2
  simp only [iv] at v1 v2
  simp (maxSteps := 4000000) only [go_sem, ↓reduceIte, Nat.reduceAdd, Nat.reduceSub, Nat.reduceMul, Nat.reduceEqDiff, reduceCtorEq, Int.reduceAdd, Int.reduceLT, Int.reduceLE, Int.reduceToNat, Int.reduceNeg, Int.reduceSub, ← List.map_take, ← List.map_drop, ne_eq, Nat.reduceLeDiff, Nat.reduceLT, Nat.zero_le, Nat.le_refl, wrap64, wrapu64, wrapu32, ← Int.natCast_add, ← Int.natCast_mul, cast_succ, wrapu32_nat, shr32, reps_wd, map_set_wd, List.length_set, zs_len, Try.f25, hf, v1, v2, ivr, iv, places, fillAll, reps, refP, elems]
/-- Which n a solution has. -/
theorem index_yes (D r : Int) (hr : Rt D r) (hD : D ≤ 1000000) (L : Nat) (hL : Per D r L) (x y : Int) (fx fy : Bool) (lx : (dg x).length ≤ 4096) (ly : (dg y).length ≤ 4096) (hx0 : 0 ≤ x) (hy0 : 0 ≤ y) (h : x * x - D * (y * y) = 1) :
    ∃ n : Nat, pw D (LX D r L) (LY D r L) n = (x, y) ∧ n < 131072 ∧ denP E 25 [.int .i64 D, I fx x, I fy y] = some (.ret (.tup [.int .i64 (n : Int), .int .i64 0])) := by
  rcases index_spec D r hr hD L hL x y fx fy lx ly hx0 hy0 with ⟨n, hn, hi⟩ | ⟨hn, _⟩
  · refine ⟨n, hn, ?_, hi⟩
    have htwo := LXY_two hr hL
    have hpos := LXY_pos hr L
    have h2 := pw_two (D := D) (by have := rt_D hr; omega) htwo.1 htwo.2 hpos.2.2 n
    rw [hn] at h2
    exact two_len h2 lx
  · obtain ⟨n, h1⟩ := sol_pw hr hL h hx0 hy0
    exact absurd h1 (hn n)
theorem index_no (D r : Int) (hr : Rt D r) (hD : D ≤ 1000000) (L : Nat) (hL : Per D r L) (x y : Int) (fx fy : Bool) (lx : (dg x).length ≤ 4096) (ly : (dg y).length ≤ 4096) (hx0 : 0 ≤ x) (hy0 : 0 ≤ y) (h : x * x - D * (y * y) ≠ 1) :
    denP E 25 [.int .i64 D, I fx x, I fy y] = some (.ret (.tup [.int .i64 0, .int .i64 6])) := by
  rcases index_spec D r hr hD L hL x y fx fy lx ly hx0 hy0 with ⟨n, hn, hi⟩ | ⟨_, hi⟩
  · have h1 := pw_norm (LXY_norm' hr hL) n
    rw [hn] at h1
    exact absurd h1 h
  · exact hi
theorem index_long (D : Int) (a b : Raw) (h : ¬ (a.2.2.length ≤ 4200 ∧ b.2.2.length ≤ 4200)) : denP E 5 [.int .i64 D, ivr a, ivr b] = some (.ret (.bool true)) := by
  refine denP_eq E5 rfl (by simp [AV.pureL, AV.pure, pure_wd]) ?_
  by_cases h1 : 4200 < a.2.2.length
  · have z1 : ((4200 : Int) < (a.2.2.length : Int)) = True := eq_true (by omega)
    simp (maxSteps := 4000000) only [go_sem, ↓reduceIte, Nat.reduceAdd, Nat.reduceSub, Nat.reduceMul, Nat.reduceEqDiff, reduceCtorEq, Int.reduceAdd, Int.reduceLT, Int.reduceLE, Int.reduceToNat, Int.reduceNeg, Int.reduceSub, ← List.map_take, ← List.map_drop, ne_eq, Nat.reduceLeDiff, Nat.reduceLT, Nat.zero_le, Nat.le_refl, wrap64, wrapu64, wrapu32, ← Int.natCast_add, ← Int.natCast_mul, cast_succ, wrapu32_nat, shr32, reps_wd, map_set_wd, List.length_set, zs_len, Try.f5, awake7, z1, ivr, iv, places, fillAll, reps, refP, elems]
  · have z1 : ((4200 : Int) < (a.2.2.length : Int)) = False := eq_false (by omega)
    have z2 : ((4200 : Int) < (b.2.2.length : Int)) = True := eq_true (by omega)
    simp (maxSteps := 4000000) only [go_sem, ↓reduceIte, Nat.reduceAdd, Nat.reduceSub, Nat.reduceMul, Nat.reduceEqDiff, reduceCtorEq, Int.reduceAdd, Int.reduceLT, Int.reduceLE, Int.reduceToNat, Int.reduceNeg, Int.reduceSub, ← List.map_take, ← List.map_drop, ne_eq, Nat.reduceLeDiff, Nat.reduceLT, Nat.zero_le, Nat.le_refl, wrap64, wrapu64, wrapu32, ← Int.natCast_add, ← Int.natCast_mul, cast_succ, wrapu32_nat, shr32, reps_wd, map_set_wd, List.length_set, zs_len, Try.f5, awake7, z1, z2, ivr, iv, places, fillAll, reps, refP, elems]
theorem index_bad (D : Int) (a b : Raw) (la : a.2.2.length ≤ 4200) (lb : b.2.2.length ≤ 4200) (f : Bool) (f2 : denP E 12 [.int .i64 D] = some (.ret (.bool f)))
    (e : Int) (p1 : denP E 25 [.int .i64 D, ivr a, ivr b] = some (.ret (.tup [.int .i64 0, .int .i64 e])))
    (h : (f = false ∧ e = 2) ∨ (f = true ∧ e = 1 ∧ (rvalidW a.1 a.2.2 && rvalidW b.1 b.2.2) = false) ∨ (f = true ∧ e = 2 ∧ (rvalidW a.1 a.2.2 && rvalidW b.1 b.2.2) = true ∧ (!a.1 && !b.1) = false)) :
    denP E 5 [.int .i64 D, ivr a, ivr b] = some (.ret (.bool true)) := by
  refine denP_eq E5 rfl (by simp [AV.pureL, AV.pure, pure_wd]) ?_
  have z1 : ((4200 : Int) < (a.2.2.length : Int)) = False := eq_false (by omega)
  have z2 : ((4200 : Int) < (b.2.2.length : Int)) = False := eq_false (by omega)
  have v2 := rValid_walk a.1 a.2.1 a.2.2 (by omega)
  have v4 := rValid_walk b.1 b.2.1 b.2.2 (by omega)
  simp only [ivr, iv] at *
  rcases h with ⟨rfl, rfl⟩ | ⟨rfl, rfl, hv⟩ | ⟨rfl, rfl, hv, hn⟩
  · simp (maxSteps := 4000000) only [go_sem, ↓reduceIte, Nat.reduceAdd, Nat.reduceSub, Nat.reduceMul, Nat.reduceEqDiff, reduceCtorEq, Int.reduceAdd, Int.reduceLT, Int.reduceLE, Int.reduceToNat, Int.reduceNeg, Int.reduceSub, ← List.map_take, ← List.map_drop, ne_eq, Nat.reduceLeDiff, Nat.reduceLT, Nat.zero_le, Nat.le_refl, wrap64, wrapu64, wrapu32, ← Int.natCast_add, ← Int.natCast_mul, cast_succ, wrapu32_nat, shr32, reps_wd, map_set_wd, List.length_set, zs_len, Try.f5, p1, f2, awake7, z1, z2, ivr, iv, Int.reduceEq, places, fillAll, reps, refP, elems]
  · cases h1 : rvalidW a.1 a.2.2 with
    | false =>
      rw [h1] at v2
      simp (maxSteps := 4000000) only [go_sem, ↓reduceIte, Nat.reduceAdd, Nat.reduceSub, Nat.reduceMul, Nat.reduceEqDiff, reduceCtorEq, Int.reduceAdd, Int.reduceLT, Int.reduceLE, Int.reduceToNat, Int.reduceNeg, Int.reduceSub, ← List.map_take, ← List.map_drop, ne_eq, Nat.reduceLeDiff, Nat.reduceLT, Nat.zero_le, Nat.le_refl, wrap64, wrapu64, wrapu32, ← Int.natCast_add, ← Int.natCast_mul, cast_succ, wrapu32_nat, shr32, reps_wd, map_set_wd, List.length_set, zs_len, Try.f5, p1, f2, v2, v4, awake7, z1, z2, Int.reduceEq, places, fillAll, reps, refP, elems]
    | true =>
      rw [h1] at v2 hv
      rw [Bool.true_and] at hv
      rw [hv] at v4
      simp (maxSteps := 4000000) only [go_sem, ↓reduceIte, Nat.reduceAdd, Nat.reduceSub, Nat.reduceMul, Nat.reduceEqDiff, reduceCtorEq, Int.reduceAdd, Int.reduceLT, Int.reduceLE, Int.reduceToNat, Int.reduceNeg, Int.reduceSub, ← List.map_take, ← List.map_drop, ne_eq, Nat.reduceLeDiff, Nat.reduceLT, Nat.zero_le, Nat.le_refl, wrap64, wrapu64, wrapu32, ← Int.natCast_add, ← Int.natCast_mul, cast_succ, wrapu32_nat, shr32, reps_wd, map_set_wd, List.length_set, zs_len, Try.f5, p1, f2, v2, v4, awake7, z1, z2, Int.reduceEq, places, fillAll, reps, refP, elems]
  · rw [Bool.and_eq_true] at hv
    rw [hv.1] at v2
    rw [hv.2] at v4
    cases h1 : a.1 with
    | true =>
      rw [h1] at v2 p1
      simp (maxSteps := 4000000) only [go_sem, ↓reduceIte, Nat.reduceAdd, Nat.reduceSub, Nat.reduceMul, Nat.reduceEqDiff, reduceCtorEq, Int.reduceAdd, Int.reduceLT, Int.reduceLE, Int.reduceToNat, Int.reduceNeg, Int.reduceSub, ← List.map_take, ← List.map_drop, ne_eq, Nat.reduceLeDiff, Nat.reduceLT, Nat.zero_le, Nat.le_refl, wrap64, wrapu64, wrapu32, ← Int.natCast_add, ← Int.natCast_mul, cast_succ, wrapu32_nat, shr32, reps_wd, map_set_wd, List.length_set, zs_len, Try.f5, p1, f2, v2, v4, h1, awake7, z1, z2, Int.reduceEq, places, fillAll, reps, refP, elems]
    | false =>
      rw [h1] at v2 hn p1
      have h2 : b.1 = true := by simpa using hn
      rw [h2] at v4 p1
      simp (maxSteps := 4000000) only [go_sem, ↓reduceIte, Nat.reduceAdd, Nat.reduceSub, Nat.reduceMul, Nat.reduceEqDiff, reduceCtorEq, Int.reduceAdd, Int.reduceLT, Int.reduceLE, Int.reduceToNat, Int.reduceNeg, Int.reduceSub, ← List.map_take, ← List.map_drop, ne_eq, Nat.reduceLeDiff, Nat.reduceLT, Nat.zero_le, Nat.le_refl, wrap64, wrapu64, wrapu32, ← Int.natCast_add, ← Int.natCast_mul, cast_succ, wrapu32_nat, shr32, reps_wd, map_set_wd, List.length_set, zs_len, Try.f5, p1, f2, v2, v4, h1, h2, awake7, z1, z2, Int.reduceEq, places, fillAll, reps, refP, elems]
theorem index_walk_no (D : Int) (hD : 0 ≤ D ∧ D ≤ 1000000) (x y : Int) (fx fy : Bool) (lx : (dg x).length ≤ 4096) (ly : (dg y).length ≤ 4096) (hx0 : 0 ≤ x) (hy0 : 0 ≤ y) (f2 : denP E 12 [.int .i64 D] = some (.ret (.bool true)))
    (p1 : denP E 25 [.int .i64 D, I fx x, I fy y] = some (.ret (.tup [.int .i64 0, .int .i64 6]))) (h : x * x - D * (y * y) ≠ 1) :
    denP E 5 [.int .i64 D, I fx x, I fy y] = some (.ret (.bool true)) := by
  refine denP_eq E5 rfl (by simp [AV.pureL, AV.pure, pure_wd]) ?_
  have z1 : ((4200 : Int) < ((dg x).length : Int)) = False := eq_false (by omega)
  have z2 : ((4200 : Int) < ((dg y).length : Int)) = False := eq_false (by omega)
  have v2 := rValid_spec fx x (by omega)
  have v4 := rValid_spec fy y (by omega)
  rw [decide_eq_true lx] at v2
  rw [decide_eq_true ly] at v4
  have n1 := rNorm D x y fx fy hD (by omega) (by omega)
  have l1 : (dg (x * x - D * (y * y))).length < 2 ^ 60 := by
    have := dg_sub (x * x) (D * (y * y))
    have := dg_mul x x
    have := dg_mul y y
    have := dg_mul D (y * y)
    have := dg_small (z := D) (by omega)
    omega
  have o1 := rOf_spec 1 (by decide) (by decide)
  have s1 := rSame_spec (decide (x * x - D * (y * y) = 0)) (x * x - D * (y * y)) false 1 l1 (by have := dg_small (z := 1) (by decide); omega)
  rw [decide_eq_false h] at s1
  have gx := ng_false.2 hx0
  have gy := ng_false.2 hy0
  simp only [RM] at n1 o1
  rw [show decide ((1 : Int) = 0) = false from rfl] at o1
  generalize x * x - D * (y * y) = w at *
  clear l1 h
  simp only [I, gx, gy] at p1 v2 v4 n1
  simp (maxSteps := 4000000) only [go_sem, ↓reduceIte, Nat.reduceAdd, Nat.reduceSub, Nat.reduceMul, Nat.reduceEqDiff, reduceCtorEq, Int.reduceAdd, Int.reduceLT, Int.reduceLE, Int.reduceToNat, Int.reduceNeg, Int.reduceSub, ← List.map_take, ← List.map_drop, ne_eq, Nat.reduceLeDiff, Nat.reduceLT, Nat.zero_le, Nat.le_refl, wrap64, wrapu64, wrapu32, ← Int.natCast_add, ← Int.natCast_mul, cast_succ, wrapu32_nat, shr32, reps_wd, map_set_wd, List.length_set, zs_len, Try.f5, p1, f2, v2, v4, n1, o1, s1, gx, gy, awake7, z1, z2, Int.reduceEq, places, fillAll, reps, refP, elems]
theorem index_walk_yes (D : Int) (hD : 0 ≤ D ∧ D ≤ 1000000) (x y : Int) (fx fy : Bool) (lx : (dg x).length ≤ 4096) (ly : (dg y).length ≤ 4096) (hx0 : 0 ≤ x) (hy0 : 0 ≤ y) (f2 : denP E 12 [.int .i64 D] = some (.ret (.bool true))) (n : Nat)
    (p1 : denP E 25 [.int .i64 D, I fx x, I fy y] = some (.ret (.tup [.int .i64 (n : Int), .int .i64 0]))) (h : x * x - D * (y * y) = 1)
    (p2 : (dg x).length ≤ 300 → denP E 23 [.int .i64 D, .int .i64 (n : Int)] = some (.ret (.tup [RM x, RM y, .bool true]))) :
    denP E 5 [.int .i64 D, I fx x, I fy y] = some (.ret (.bool true)) := by
  refine denP_eq E5 rfl (by simp [AV.pureL, AV.pure, pure_wd]) ?_
  have z1 : ((4200 : Int) < ((dg x).length : Int)) = False := eq_false (by omega)
  have z2 : ((4200 : Int) < ((dg y).length : Int)) = False := eq_false (by omega)
  have z3 : ((n : Int) < 0) = False := eq_false (by omega)
  have v2 := rValid_spec fx x (by omega)
  have v4 := rValid_spec fy y (by omega)
  rw [decide_eq_true lx] at v2
  rw [decide_eq_true ly] at v4
  have n1 := rNorm D x y fx fy hD (by omega) (by omega)
  rw [h] at n1
  have o1 := rOf_spec 1 (by decide) (by decide)
  have l1 := dg_small (z := 1) (by decide)
  have s1 := rSame_spec false 1 false 1 (by omega) (by omega)
  rw [decide_eq_true rfl] at s1
  have s2 := rSame_spec (decide (x = 0)) x fx x (by omega) (by omega)
  have s3 := rSame_spec (decide (y = 0)) y fy y (by omega) (by omega)
  rw [decide_eq_true rfl] at s2 s3
  have gx := ng_false.2 hx0
  have gy := ng_false.2 hy0
  simp only [RM] at n1 o1 p2
  rw [show decide ((1 : Int) = 0) = false from rfl] at o1 n1
  clear h l1 hx0 hy0
  simp only [I, gx, gy] at p1 v2 v4 n1 s2 s3 p2
  by_cases hl : (dg x).length ≤ 300
  · have z4 : ((300 : Int) < ((dg x).length : Int)) = False := eq_false (by omega)
    have p2 := p2 hl
    simp (maxSteps := 4000000) only [go_sem, ↓reduceIte, Nat.reduceAdd, Nat.reduceSub, Nat.reduceMul, Nat.reduceEqDiff, reduceCtorEq, Int.reduceAdd, Int.reduceLT, Int.reduceLE, Int.reduceToNat, Int.reduceNeg, Int.reduceSub, ← List.map_take, ← List.map_drop, ne_eq, Nat.reduceLeDiff, Nat.reduceLT, Nat.zero_le, Nat.le_refl, wrap64, wrapu64, wrapu32, ← Int.natCast_add, ← Int.natCast_mul, cast_succ, wrapu32_nat, shr32, reps_wd, map_set_wd, List.length_set, zs_len, Try.f5, p1, p2, f2, v2, v4, n1, o1, s1, s2, s3, gx, gy, awake7, z1, z2, z3, z4, Int.reduceEq, places, fillAll, reps, refP, elems]
  · have z4 : ((300 : Int) < ((dg x).length : Int)) = True := eq_true (by omega)
    simp (maxSteps := 4000000) only [go_sem, ↓reduceIte, Nat.reduceAdd, Nat.reduceSub, Nat.reduceMul, Nat.reduceEqDiff, reduceCtorEq, Int.reduceAdd, Int.reduceLT, Int.reduceLE, Int.reduceToNat, Int.reduceNeg, Int.reduceSub, ← List.map_take, ← List.map_drop, ne_eq, Nat.reduceLeDiff, Nat.reduceLT, Nat.zero_le, Nat.le_refl, wrap64, wrapu64, wrapu32, ← Int.natCast_add, ← Int.natCast_mul, cast_succ, wrapu32_nat, shr32, reps_wd, map_set_wd, List.length_set, zs_len, Try.f5, p1, f2, v2, v4, n1, o1, s1, s2, s3, gx, gy, awake7, z1, z2, z3, z4, Int.reduceEq, places, fillAll, reps, refP, elems]
end Go.Proofs.Ytiglncbaomoceaa
