/- Part 5 of a proof about this seat: Inx, Sh1, Sh2. (Own work of this repo.) -/
import Derived.Test.YtiglncbaomoceaaZPellNth4
set_option linter.unusedVariables false
set_option linter.unusedSimpArgs false
/- The law PellIndex: its cases. (Own work of this repo.) -/
namespace Go.Proofs.Ytiglncbaomoceaa
open Vm
open Pel hiding allS
set_option maxRecDepth 10000

theorem valid_eq (neg : Bool) (l : List Nat) : validW neg l = rvalidW neg l := by
  unfold validW rvalidW
  by_cases h : l.length = 0
  · simp [h]
  · by_cases h1 : l.length ≤ 4096 <;> by_cases h2 : l.getD (l.length - 1) 0 = 0 <;> simp [h, h1, h2] <;> omega
theorem Index_nofit (D : Int) (a b : Raw) (hf : denP E 36 [.int .i64 D] = some (.ret (.bool false))) : denP E 25 [.int .i64 D, ivr a, ivr b] = some (.ret (.tup [.int .i64 0, .int .i64 2])) := by
  refine denP_eq E25 rfl (by simp [AV.pureL, AV.pure, pure_wd]) ?_
  simp (maxSteps := 4000000) only [go_sem, ↓reduceIte, Nat.reduceAdd, Nat.reduceSub, Nat.reduceMul, Nat.reduceEqDiff, reduceCtorEq, Int.reduceAdd, Int.reduceLT, Int.reduceLE, Int.reduceToNat, Int.reduceNeg, Int.reduceSub, ← List.map_take, ← List.map_drop, ne_eq, Nat.reduceLeDiff, Nat.reduceLT, Nat.zero_le, Nat.le_refl, wrap64, wrapu64, wrapu32, ← Int.natCast_add, ← Int.natCast_mul, cast_succ, wrapu32_nat, shr32, reps_wd, map_set_wd, List.length_set, zs_len, Try.f25, hf, ivr, iv, places, fillAll, reps, refP, elems]
theorem Index_form (D : Int) (a b : Raw) (la : a.2.2.length < 2 ^ 60) (lb : b.2.2.length < 2 ^ 60) (hf : denP E 36 [.int .i64 D] = some (.ret (.bool true))) (hv : (rvalidW a.1 a.2.2 && rvalidW b.1 b.2.2) = false) : denP E 25 [.int .i64 D, ivr a, ivr b] = some (.ret (.tup [.int .i64 0, .int .i64 1])) := by
  refine denP_eq E25 rfl (by simp [AV.pureL, AV.pure, pure_wd]) ?_
  have v1 := exValid2 a.1 a.2.1 a.2.2 b.1 b.2.1 b.2.2 la lb
  rw [valid_eq, valid_eq, hv] at v1
  simp only [iv] at v1
  simp (maxSteps := 4000000) only [go_sem, ↓reduceIte, Nat.reduceAdd, Nat.reduceSub, Nat.reduceMul, Nat.reduceEqDiff, reduceCtorEq, Int.reduceAdd, Int.reduceLT, Int.reduceLE, Int.reduceToNat, Int.reduceNeg, Int.reduceSub, ← List.map_take, ← List.map_drop, ne_eq, Nat.reduceLeDiff, Nat.reduceLT, Nat.zero_le, Nat.le_refl, wrap64, wrapu64, wrapu32, ← Int.natCast_add, ← Int.natCast_mul, cast_succ, wrapu32_nat, shr32, reps_wd, map_set_wd, List.length_set, zs_len, Try.f25, hf, v1, ivr, iv, places, fillAll, reps, refP, elems]
theorem Index_neg (D : Int) (a b : Raw) (la : a.2.2.length < 2 ^ 60) (lb : b.2.2.length < 2 ^ 60) (hf : denP E 36 [.int .i64 D] = some (.ret (.bool true))) (hv : (rvalidW a.1 a.2.2 && rvalidW b.1 b.2.2) = true) (hn : (!a.1 && !b.1) = false) : denP E 25 [.int .i64 D, ivr a, ivr b] = some (.ret (.tup [.int .i64 0, .int .i64 2])) := by
  refine denP_eq E25 rfl (by simp [AV.pureL, AV.pure, pure_wd]) ?_
  have v1 := exValid2 a.1 a.2.1 a.2.2 b.1 b.2.1 b.2.2 la lb
  have v2 := exNat2 a.1 a.2.1 a.2.2 b.1 b.2.1 b.2.2
  rw [valid_eq, valid_eq, hv] at v1
  rw [hn] at v2
  simp only [iv] at v1 v2
  simp (maxSteps := 4000000) only [go_sem, ↓reduceIte, Nat.reduceAdd, Nat.reduceSub, Nat.reduceMul, Nat.reduceEqDiff, reduceCtorEq, Int.reduceAdd, Int.reduceLT, Int.reduceLE, Int.reduceToNat, Int.reduceNeg, Int.reduceSub, ← List.map_take, ← List.map_drop, ne_eq, Nat.reduceLeDiff, Nat.reduceLT, Nat.zero_le, Nat.le_refl, wrap64, wrapu64, wrapu32, ← Int.natCast_add, ← Int.natCast_mul, cast_succ, wrapu32_nat, shr32, reps_wd, map_set_wd, List.length_set, zs_len, Try.f25, hf, v1, v2, ivr, iv, places, fillAll, reps, refP, elems]
/-- Which n a solution has. -/
theorem index_yes (D r : Int) (hr : Rt D r) (hD : D ≤ 1000000) (L : Nat) (hL : Per D r L) (x y : Int) (fx fy : Bool) (lx : (dg x).length ≤ 4096) (ly : (dg y).length ≤ 4096) (hx0 : 0 ≤ x) (hy0 : 0 ≤ y) (h : x * x - D * (y * y) = 1) :
    ∃ n : Nat, pw D (LX D r L) (LY D r L) n = (x, y) ∧ n < 131072 ∧ denP E 25 [.int .i64 D, I fx x, I fy y] = some (.ret (.tup [.int .i64 (n : Int), .int .i64 0])) := by
  rcases index_spec D r hr hD L hL x y fx fy lx ly hx0 hy0 with ⟨n, hn, hi⟩ | ⟨hn, _⟩
  · refine ⟨n, hn, ?_, hi⟩
    have htwo := LXY_two hr hL
    have hpos := LXY_pos hr L
    have h2 := pw_two (D := D) (by have := rt_D hr; omega) htwo.1 htwo.2 hpos.2.2 n
    rw [hn] at h2
    exact two_len h2 lx
  · obtain ⟨n, h1⟩ := sol_pw hr hL h hx0 hy0
    exact absurd h1 (hn n)
theorem index_no (D r : Int) (hr : Rt D r) (hD : D ≤ 1000000) (L : Nat) (hL : Per D r L) (x y : Int) (fx fy : Bool) (lx : (dg x).length ≤ 4096) (ly : (dg y).length ≤ 4096) (hx0 : 0 ≤ x) (hy0 : 0 ≤ y) (h : x * x - D * (y * y) ≠ 1) :
    denP E 25 [.int .i64 D, I fx x, I fy y] = some (.ret (.tup [.int .i64 0, .int .i64 6])) := by
  rcases index_spec D r hr hD L hL x y fx fy lx ly hx0 hy0 with ⟨n, hn, hi⟩ | ⟨_, hi⟩
  · have h1 := pw_norm (LXY_norm' hr hL) n
    rw [hn] at h1
    exact absurd h1 h
  · exact hi
theorem index_long (D : Int) (a b : Raw) (h : ¬ (a.2.2.length ≤ 4200 ∧ b.2.2.length ≤ 4200)) : denP E 5 [.int .i64 D, ivr a, ivr b] = some (.ret (.bool true)) := by
  refine denP_eq E5 rfl (by simp [AV.pureL, AV.pure, pure_wd]) ?_
  by_cases h1 : 4200 < a.2.2.length
  · have z1 : ((4200 : Int) < (a.2.2.length : Int)) = True := eq_true (by omega)
    simp (maxSteps := 4000000) only [go_sem, ↓reduceIte, Nat.reduceAdd, Nat.reduceSub, Nat.reduceMul, Nat.reduceEqDiff, reduceCtorEq, Int.reduceAdd, Int.reduceLT, Int.reduceLE, Int.reduceToNat, Int.reduceNeg, Int.reduceSub, ← List.map_take, ← List.map_drop, ne_eq, Nat.reduceLeDiff, Nat.reduceLT, Nat.zero_le, Nat.le_refl, wrap64, wrapu64, wrapu32, ← Int.natCast_add, ← Int.natCast_mul, cast_succ, wrapu32_nat, shr32, reps_wd, map_set_wd, List.length_set, zs_len, Try.f5, awake7, z1, ivr, iv, places, fillAll, reps, refP, elems]
  · have z1 : ((4200 : Int) < (a.2.2.length : Int)) = False := eq_false (by omega)
    have z2 : ((4200 : Int) < (b.2.2.length : Int)) = True := eq_true (by omega)
    simp (maxSteps := 4000000) only [go_sem, ↓reduceIte, Nat.reduceAdd, Nat.reduceSub, Nat.reduceMul, Nat.reduceEqDiff, reduceCtorEq, Int.reduceAdd, Int.reduceLT, Int.reduceLE, Int.reduceToNat, Int.reduceNeg, Int.reduceSub, ← List.map_take, ← List.map_drop, ne_eq, Nat.reduceLeDiff, Nat.reduceLT, Nat.zero_le, Nat.le_refl, wrap64, wrapu64, wrapu32, ← Int.natCast_add, ← Int.natCast_mul, cast_succ, wrapu32_nat, shr32, reps_wd, map_set_wd, List.length_set, zs_len, Try.f5, awake7, z1, z2, ivr, iv, places, fillAll, reps, refP, elems]
theorem index_bad (D : Int) (a b : Raw) (la : a.2.2.length ≤ 4200) (lb : b.2.2.length ≤ 4200) (f : Bool) (f2 : denP E 12 [.int .i64 D] = some (.ret (.bool f)))
    (e : Int) (p1 : denP E 25 [.int .i64 D, ivr a, ivr b] = some (.ret (.tup [.int .i64 0, .int .i64 e])))
    (h : (f = false ∧ e = 2) ∨ (f = true ∧ e = 1 ∧ (rvalidW a.1 a.2.2 && rvalidW b.1 b.2.2) = false) ∨ (f = true ∧ e = 2 ∧ (rvalidW a.1 a.2.2 && rvalidW b.1 b.2.2) = true ∧ (!a.1 && !b.1) = false)) :
    denP E 5 [.int .i64 D, ivr a, ivr b] = some (.ret (.bool true)) := by
  refine denP_eq E5 rfl (by simp [AV.pureL, AV.pure, pure_wd]) ?_
  have z1 : ((4200 : Int) < (a.2.2.length : Int)) = False := eq_false (by omega)
  have z2 : ((4200 : Int) < (b.2.2.length : Int)) = False := eq_false (by omega)
  have v2 := rValid_walk a.1 a.2.1 a.2.2 (by omega)
  have v4 := rValid_walk b.1 b.2.1 b.2.2 (by omega)
  simp only [ivr, iv] at *
  rcases h with ⟨rfl, rfl⟩ | ⟨rfl, rfl, hv⟩ | ⟨rfl, rfl, hv, hn⟩
  · simp (maxSteps := 4000000) only [go_sem, ↓reduceIte, Nat.reduceAdd, Nat.reduceSub, Nat.reduceMul, Nat.reduceEqDiff, reduceCtorEq, Int.reduceAdd, Int.reduceLT, Int.reduceLE, Int.reduceToNat, Int.reduceNeg, Int.reduceSub, ← List.map_take, ← List.map_drop, ne_eq, Nat.reduceLeDiff, Nat.reduceLT, Nat.zero_le, Nat.le_refl, wrap64, wrapu64, wrapu32, ← Int.natCast_add, ← Int.natCast_mul, cast_succ, wrapu32_nat, shr32, reps_wd, map_set_wd, List.length_set, zs_len, Try.f5, p1, f2, awake7, z1, z2, ivr, iv, Int.reduceEq, places, fillAll, reps, refP, elems]
  · cases h1 : rvalidW a.1 a.2.2 with
    | false =>
      rw [h1] at v2
      simp (maxSteps := 4000000) only [go_sem, ↓reduceIte, Nat.reduceAdd, Nat.reduceSub, Nat.reduceMul, Nat.reduceEqDiff, reduceCtorEq, Int.reduceAdd, Int.reduceLT, Int.reduceLE, Int.reduceToNat, Int.reduceNeg, Int.reduceSub, ← List.map_take, ← List.map_drop, ne_eq, Nat.reduceLeDiff, Nat.reduceLT, Nat.zero_le, Nat.le_refl, wrap64, wrapu64, wrapu32, ← Int.natCast_add, ← Int.natCast_mul, cast_succ, wrapu32_nat, shr32, reps_wd, map_set_wd, List.length_set, zs_len, Try.f5, p1, f2, v2, v4, awake7, z1, z2, Int.reduceEq, places, fillAll, reps, refP, elems]
    | true =>
      rw [h1] at v2 hv
      rw [Bool.true_and] at hv
      rw [hv] at v4
      simp (maxSteps := 4000000) only [go_sem, ↓reduceIte, Nat.reduceAdd, Nat.reduceSub, Nat.reduceMul, Nat.reduceEqDiff, reduceCtorEq, Int.reduceAdd, Int.reduceLT, Int.reduceLE, Int.reduceToNat, Int.reduceNeg, Int.reduceSub, ← List.map_take, ← List.map_drop, ne_eq, Nat.reduceLeDiff, Nat.reduceLT, Nat.zero_le, Nat.le_refl, wrap64, wrapu64, wrapu32, ← Int.natCast_add, ← Int.natCast_mul, cast_succ, wrapu32_nat, shr32, reps_wd, map_set_wd, List.length_set, zs_len, Try.f5, p1, f2, v2, v4, awake7, z1, z2, Int.reduceEq, places, fillAll, reps, refP, elems]
  · rw [Bool.and_eq_true] at hv
    rw [hv.1] at v2
    rw [hv.2] at v4
    cases h1 : a.1 with
    | true =>
      rw [h1] at v2 p1
      simp (maxSteps := 4000000) only [go_sem, ↓reduceIte, Nat.reduceAdd, Nat.reduceSub, Nat.reduceMul, Nat.reduceEqDiff, reduceCtorEq, Int.reduceAdd, Int.reduceLT, Int.reduceLE, Int.reduceToNat, Int.reduceNeg, Int.reduceSub, ← List.map_take, ← List.map_drop, ne_eq, Nat.reduceLeDiff, Nat.reduceLT, Nat.zero_le, Nat.le_refl, wrap64, wrapu64, wrapu32, ← Int.natCast_add, ← Int.natCast_mul, cast_succ, wrapu32_nat, shr32, reps_wd, map_set_wd, List.length_set, zs_len, Try.f5, p1, f2, v2, v4, h1, awake7, z1, z2, Int.reduceEq, places, fillAll, reps, refP, elems]
    | false =>
      rw [h1] at v2 hn p1
      have h2 : b.1 = true := by simpa using hn
      rw [h2] at v4 p1
      simp (maxSteps := 4000000) only [go_sem, ↓reduceIte, Nat.reduceAdd, Nat.reduceSub, Nat.reduceMul, Nat.reduceEqDiff, reduceCtorEq, Int.reduceAdd, Int.reduceLT, Int.reduceLE, Int.reduceToNat, Int.reduceNeg, Int.reduceSub, ← List.map_take, ← List.map_drop, ne_eq, Nat.reduceLeDiff, Nat.reduceLT, Nat.zero_le, Nat.le_refl, wrap64, wrapu64, wrapu32, ← Int.natCast_add, ← Int.natCast_mul, cast_succ, wrapu32_nat, shr32, reps_wd, map_set_wd, List.length_set, zs_len, Try.f5, p1, f2, v2, v4, h1, h2, awake7, z1, z2, Int.reduceEq, places, fillAll, reps, refP, elems]
theorem index_walk_no (D : Int) (hD : 0 ≤ D ∧ D ≤ 1000000) (x y : Int) (fx fy : Bool) (lx : (dg x).length ≤ 4096) (ly : (dg y).length ≤ 4096) (hx0 : 0 ≤ x) (hy0 : 0 ≤ y) (f2 : denP E 12 [.int .i64 D] = some (.ret (.bool true)))
    (p1 : denP E 25 [.int .i64 D, I fx x, I fy y] = some (.ret (.tup [.int .i64 0, .int .i64 6]))) (h : x * x - D * (y * y) ≠ 1) :
    denP E 5 [.int .i64 D, I fx x, I fy y] = some (.ret (.bool true)) := by
  refine denP_eq E5 rfl (by simp [AV.pureL, AV.pure, pure_wd]) ?_
  have z1 : ((4200 : Int) < ((dg x).length : Int)) = False := eq_false (by omega)
  have z2 : ((4200 : Int) < ((dg y).length : Int)) = False := eq_false (by omega)
  have v2 := rValid_spec fx x (by omega)
  have v4 := rValid_spec fy y (by omega)
  rw [decide_eq_true lx] at v2
  rw [decide_eq_true ly] at v4
  have n1 := rNorm D x y fx fy hD (by omega) (by omega)
  have l1 : (dg (x * x - D * (y * y))).length < 2 ^ 60 := by
    have := dg_sub (x * x) (D * (y * y))
    have := dg_mul x x
    have := dg_mul y y
    have := dg_mul D (y * y)
    have := dg_small (z := D) (by omega)
    omega
  have o1 := rOf_spec 1 (by decide) (by decide)
  have s1 := rSame_spec (decide (x * x - D * (y * y) = 0)) (x * x - D * (y * y)) false 1 l1 (by have := dg_small (z := 1) (by decide); omega)
  rw [decide_eq_false h] at s1
  have gx := ng_false.2 hx0
  have gy := ng_false.2 hy0
  simp only [RM] at n1 o1
  rw [show decide ((1 : Int) = 0) = false from rfl] at o1
  generalize x * x - D * (y * y) = w at *
  clear l1 h
  simp only [I, gx, gy] at p1 v2 v4 n1
  simp (maxSteps := 4000000) only [go_sem, ↓reduceIte, Nat.reduceAdd, Nat.reduceSub, Nat.reduceMul, Nat.reduceEqDiff, reduceCtorEq, Int.reduceAdd, Int.reduceLT, Int.reduceLE, Int.reduceToNat, Int.reduceNeg, Int.reduceSub, ← List.map_take, ← List.map_drop, ne_eq, Nat.reduceLeDiff, Nat.reduceLT, Nat.zero_le, Nat.le_refl, wrap64, wrapu64, wrapu32, ← Int.natCast_add, ← Int.natCast_mul, cast_succ, wrapu32_nat, shr32, reps_wd, map_set_wd, List.length_set, zs_len, Try.f5, p1, f2, v2, v4, n1, o1, s1, gx, gy, awake7, z1, z2, Int.reduceEq, places, fillAll, reps, refP, elems]
theorem index_walk_yes (D : Int) (hD : 0 ≤ D ∧ D ≤ 1000000) (x y : Int) (fx fy : Bool) (lx : (dg x).length ≤ 4096) (ly : (dg y).length ≤ 4096) (hx0 : 0 ≤ x) (hy0 : 0 ≤ y) (f2 : denP E 12 [.int .i64 D] = some (.ret (.bool true))) (n : Nat)
    (p1 : denP E 25 [.int .i64 D, I fx x, I fy y] = some (.ret (.tup [.int .i64 (n : Int), .int .i64 0]))) (h : x * x - D * (y * y) = 1)
    (p2 : (dg x).length ≤ 300 → denP E 23 [.int .i64 D, .int .i64 (n : Int)] = some (.ret (.tup [RM x, RM y, .bool true]))) :
    denP E 5 [.int .i64 D, I fx x, I fy y] = some (.ret (.bool true)) := by
  refine denP_eq E5 rfl (by simp [AV.pureL, AV.pure, pure_wd]) ?_
  have z1 : ((4200 : Int) < ((dg x).length : Int)) = False := eq_false (by omega)
  have z2 : ((4200 : Int) < ((dg y).length : Int)) = False := eq_false (by omega)
  have z3 : ((n : Int) < 0) = False := eq_false (by omega)
  have v2 := rValid_spec fx x (by omega)
  have v4 := rValid_spec fy y (by omega)
  rw [decide_eq_true lx] at v2
  rw [decide_eq_true ly] at v4
  have n1 := rNorm D x y fx fy hD (by omega) (by omega)
  rw [h] at n1
  have o1 := rOf_spec 1 (by decide) (by decide)
  have l1 := dg_small (z := 1) (by decide)
  have s1 := rSame_spec false 1 false 1 (by omega) (by omega)
  rw [decide_eq_true rfl] at s1
  have s2 := rSame_spec (decide (x = 0)) x fx x (by omega) (by omega)
  have s3 := rSame_spec (decide (y = 0)) y fy y (by omega) (by omega)
  rw [decide_eq_true rfl] at s2 s3
  have gx := ng_false.2 hx0
  have gy := ng_false.2 hy0
  simp only [RM] at n1 o1 p2
  rw [show decide ((1 : Int) = 0) = false from rfl] at o1 n1
  clear h l1 hx0 hy0
  simp only [I, gx, gy] at p1 v2 v4 n1 s2 s3 p2
  by_cases hl : (dg x).length ≤ 300
  · have z4 : ((300 : Int) < ((dg x).length : Int)) = False := eq_false (by omega)
    have p2 := p2 hl
    simp (maxSteps := 4000000) only [go_sem, ↓reduceIte, Nat.reduceAdd, Nat.reduceSub, Nat.reduceMul, Nat.reduceEqDiff, reduceCtorEq, Int.reduceAdd, Int.reduceLT, Int.reduceLE, Int.reduceToNat, Int.reduceNeg, Int.reduceSub, ← List.map_take, ← List.map_drop, ne_eq, Nat.reduceLeDiff, Nat.reduceLT, Nat.zero_le, Nat.le_refl, wrap64, wrapu64, wrapu32, ← Int.natCast_add, ← Int.natCast_mul, cast_succ, wrapu32_nat, shr32, reps_wd, map_set_wd, List.length_set, zs_len, Try.f5, p1, p2, f2, v2, v4, n1, o1, s1, s2, s3, gx, gy, awake7, z1, z2, z3, z4, Int.reduceEq, places, fillAll, reps, refP, elems]
  · have z4 : ((300 : Int) < ((dg x).length : Int)) = True := eq_true (by omega)
    simp (maxSteps := 4000000) only [go_sem, ↓reduceIte, Nat.reduceAdd, Nat.reduceSub, Nat.reduceMul, Nat.reduceEqDiff, reduceCtorEq, Int.reduceAdd, Int.reduceLT, Int.reduceLE, Int.reduceToNat, Int.reduceNeg, Int.reduceSub, ← List.map_take, ← List.map_drop, ne_eq, Nat.reduceLeDiff, Nat.reduceLT, Nat.zero_le, Nat.le_refl, wrap64, wrapu64, wrapu32, ← Int.natCast_add, ← Int.natCast_mul, cast_succ, wrapu32_nat, shr32, reps_wd, map_set_wd, List.length_set, zs_len, Try.f5, p1, f2, v2, v4, n1, o1, s1, s2, s3, gx, gy, awake7, z1, z2, z3, z4, Int.reduceEq, places, fillAll, reps, refP, elems]
end Go.Proofs.Ytiglncbaomoceaa

/- Walks: rows of words moved to the left. (Own work of this repo.) -/
namespace Go.Proofs.Ytiglncbaomoceaa
open Vm
set_option maxRecDepth 10000

theorem pow32 (n : Nat) : 2 ^ n = 2 ^ (n % 32) * BB ^ (n / 32) := by
  rw [show BB = 2 ^ 32 from rfl, ← Nat.pow_mul, ← Nat.pow_add, Nat.mod_add_div]
theorem shl_nat {x k : Nat} (hk : k < 32) (hx : x < 4294967296) : IntKind.u64.wrap ((x : Int) * 2 ^ min k (kb .u64)) = ((x * 2 ^ k : Nat) : Int) := by
  have h1 := pow_lt32 hk
  have h2 : x * 2 ^ k ≤ 4294967296 * 2147483648 := Nat.mul_le_mul (Nat.le_of_lt hx) h1
  rw [show min k (kb .u64) = k from Nat.min_eq_left (by show k ≤ 64; omega)]
  have e : (x : Int) * 2 ^ k = ((x * 2 ^ k : Nat) : Int) := by push_cast; rfl
  rw [e]
  exact wrapu64 (by omega) (by omega)
theorem left_or {h x k : Nat} (hk : k < 32) (hx : x < 4294967296) (hh : h < 2 ^ k) : IntKind.u32.wrap ((BitVec.ofInt (kb .u32) (h : Int) ||| BitVec.ofInt (kb .u32) ((x * 2 ^ k % 4294967296 : Nat) : Int)).toNat : Int) = ((h + x * 2 ^ k % 4294967296 : Nat) : Int) := by
  have h1 := pow_lt32 hk
  rw [or32b (by omega) (Nat.mod_lt _ (by decide)), (left_word hk hx).2, or_add hh]
theorem left_sum {h x k : Nat} (hk : k < 32) (hx : x < 4294967296) (hh : h < 2 ^ k) : h + x * 2 ^ k % 4294967296 < 4294967296 := by
  rw [(left_word hk hx).2]
  have hp := pow_split hk
  have h3 : x % 2 ^ (32 - k) < 2 ^ (32 - k) := Nat.mod_lt _ (Nat.pow_pos (by decide))
  have h4 : (x % 2 ^ (32 - k) + 1) * 2 ^ k ≤ 2 ^ (32 - k) * 2 ^ k := Nat.mul_le_mul_right _ h3
  rw [Nat.add_mul, Nat.mul_comm (2 ^ (32 - k)), hp] at h4
  omega
theorem left_spec (m : Bool) (a : List Nat) (n : Nat) (ha : InR a) (la : a.length < 2 ^ 38) (hn : n < 2 ^ 38) : denP E 79 [.lst m (a.map wd), .int .i64 n] = some (.ret (.lst (decide (a.length = 0)) ((dig (val a * 2 ^ n)).map wd))) := by
  refine denP_eq E79 rfl (by simp [AV.pureL, AV.pure, pure_wd]) ?_
  by_cases h0 : a.length = 0
  · obtain rfl := List.length_eq_zero_iff.1 h0
    rw [val_nil, Nat.zero_mul, dig_zero]
    simp (maxSteps := 4000000) (disch := omega) only [go_sem, ↓reduceIte, Nat.reduceAdd, Nat.reduceSub, Nat.reduceMul, Nat.reduceEqDiff, reduceCtorEq, Int.reduceAdd, Int.reduceLT, Int.reduceLE, Int.reduceToNat, Int.reduceNeg, Int.reduceSub, ← List.map_take, ← List.map_drop, wrap64, wrapu64, wrapu32, ← Int.natCast_add, ← Int.natCast_mul, cast_succ, wrapu32_nat, shr32, reps_wd, map_set_wd, List.length_set, zs_len, Try.f79]
  · have e1 : (n : Int).tdiv 32 = ((n / 32 : Nat) : Int) := rfl
    have e2 : (n : Int).tmod 32 = ((n % 32 : Nat) : Int) := rfl
    have hpow := pow32 n
    generalize hq : n / 32 = q at *
    generalize hk : n % 32 = k at *
    have hk' : k < 32 := by omega
    have hq' : q < 2 ^ 38 := by omega
    rw [decide_eq_false h0]
    simp (maxSteps := 4000000) (disch := omega) only [go_sem, ↓reduceIte, Nat.reduceAdd, Nat.reduceSub, Nat.reduceMul, Nat.reduceEqDiff, reduceCtorEq, Int.reduceAdd, Int.reduceLT, Int.reduceLE, Int.reduceToNat, Int.reduceNeg, Int.reduceSub, ← List.map_take, ← List.map_drop, wrap64, wrapu64, wrapu32, ← Int.natCast_add, ← Int.natCast_mul, cast_succ, wrapu32_nat, shr32, reps_wd, map_set_wd, List.length_set, zs_len, Try.f79, e1, e2]
    refine W_loopS (fun j sl H nx => ∃ (i : Nat) (o : List Nat), (∃ g : Nat → AV, sl = [g 0, .int .i64 n, g 2, g 3, g 4, .ref 0 0 (q + a.length + 1), .int .u64 k, g 7, g 8, g 9, g 10, g 11, g 12, g 13, g 14, g 15, g 16, g 17, g 18, g 19, g 20, g 21, g 22, .lst m (a.map wd), .int .i64 a.length, .int .i64 i, g 26, g 27, g 28, g 29, g 30, g 31, g 32, g 33, g 34, g 35, g 36, g 37, g 38, g 39, g 40, g 41, g 42, g 43, g 44, g 45, g 46, g 47, g 48, g 49, g 50, g 51, g 52, g 53, g 54, g 55, g 56, g 57]) ∧ nx = 1 ∧
      H 0 = some ⟨o.map wd, false, 1, false⟩ ∧ o.length = q + a.length + 1 ∧ InR o ∧ i + j = a.length ∧ Hd (vp o (q + i + 1) = vp a i * (2 ^ k * BB ^ q)) ∧ Hd (o.getD (q + i) 0 < 2 ^ k) ∧ ∀ t, q + i < t → o.getD t 0 = 0) a.length
      ⟨0, _, garb rfl, rfl, rfl, zs_len _, zs_inR _, by omega, ⟨by rw [zs_vp]; simp [vp]⟩, ⟨by rw [zs_get]; exact Nat.pow_pos (by decide)⟩, fun t _ => zs_get _ t⟩ ?_
    rintro j _ H _ ⟨i, o, ⟨g, rfl⟩, rfl, hH, ho, hr, hi, hv, hh, hz⟩
    by_cases hj : j = 0
    · obtain rfl : i = a.length := by omega
      have hval : val o = val a * 2 ^ n := by rw [val, ho, hv.out, hpow]; rfl
      have ht := trim_spec false o hr (by omega)
      rw [hval] at ht
      clear hv hh hpow
      simp (maxSteps := 4000000) (disch := omega) only [go_sem, ↓reduceIte, Nat.reduceAdd, Nat.reduceSub, Nat.reduceMul, Nat.reduceEqDiff, reduceCtorEq, Int.reduceAdd, Int.reduceLT, Int.reduceLE, Int.reduceToNat, Int.reduceNeg, Int.reduceSub, ← List.map_take, ← List.map_drop, wrap64, wrapu64, wrapu32, ← Int.natCast_add, ← Int.natCast_mul, cast_succ, wrapu32_nat, shr32, reps_wd, map_set_wd, List.length_set, zs_len, hH, ho, List.take_of_length_le, ht]
    · have hx := ha.get i
      have e3 := left_or hk' hx hh.out
      have e4 := left_sum hk' hx hh.out
      have e5 := (left_word hk' hx).1
      have e6 := pow_lt32 hk'
      have e7 := shl_nat hk' hx
      have st := left_step (o := o) hk' hx (by omega) rfl hv.out
      have e8 : a.getD i 0 * 2 ^ k / 4294967296 % 4294967296 = a.getD i 0 * 2 ^ k / 4294967296 := Nat.mod_eq_of_lt (by omega)
      clear hv hh hpow
      simp (maxSteps := 4000000) (disch := omega) only [go_sem, ↓reduceIte, Nat.reduceAdd, Nat.reduceSub, Nat.reduceMul, Nat.reduceEqDiff, reduceCtorEq, Int.reduceAdd, Int.reduceLT, Int.reduceLE, Int.reduceToNat, Int.reduceNeg, Int.reduceSub, ← List.map_take, ← List.map_drop, wrap64, wrapu64, wrapu32, ← Int.natCast_add, ← Int.natCast_mul, cast_succ, wrapu32_nat, shr32, reps_wd, map_set_wd, List.length_set, zs_len, hH, ho, e1, e3, e7, e8]
      refine ⟨j - 1, by omega, i + 1, (o.set (q + i) (o.getD (q + i) 0 + a.getD i 0 * 2 ^ k % 4294967296)).set (q + i + 1) (a.getD i 0 * 2 ^ k / 4294967296), garb rfl, rfl, by rw [List.length_set, List.length_set, ho], (hr.set e4).set (Nat.lt_of_lt_of_le e5 (by show _ ≤ 4294967296; omega)), by omega, ⟨st⟩, ⟨?_⟩, fun t ht => ?_⟩
      · rw [show q + (i + 1) = q + i + 1 by omega, lget_set_self (by rw [List.length_set]; omega)]; exact e5
      · rw [lget_set_ne (by omega), lget_set_ne (by omega)]; exact hz t (by omega)
end Go.Proofs.Ytiglncbaomoceaa

/- Walks: rows of words moved to the right. (Own work of this repo.) -/
namespace Go.Proofs.Ytiglncbaomoceaa
open Vm
set_option maxRecDepth 10000

theorem right1_spec (x : Nat) : denP E 91 [.int .u32 x] = some (.ret (.bool (!decide (x = 0)))) := by
  refine denP_eq E91 rfl (by simp [AV.pureL, AV.pure]) ?_
  by_cases h : x = 0
  · subst h; simp (maxSteps := 4000000) (disch := omega) only [go_sem, ↓reduceIte, Nat.reduceAdd, Nat.reduceSub, Nat.reduceMul, Nat.reduceEqDiff, reduceCtorEq, Int.reduceAdd, Int.reduceLT, Int.reduceLE, Int.reduceToNat, Int.reduceNeg, Int.reduceSub, ← List.map_take, ← List.map_drop, wrap64, wrapu64, wrapu32, Try.f91]
  · simp (maxSteps := 4000000) (disch := omega) only [go_sem, ↓reduceIte, Nat.reduceAdd, Nat.reduceSub, Nat.reduceMul, Nat.reduceEqDiff, reduceCtorEq, Int.reduceAdd, Int.reduceLT, Int.reduceLE, Int.reduceToNat, Int.reduceNeg, Int.reduceSub, ← List.map_take, ← List.map_drop, wrap64, wrapu64, wrapu32, Try.f91]
theorem idx0_walk (m : Bool) (a : List Nat) (la : a.length < 2 ^ 60) : ∃ r : Int, denP E 93 [.lst m (a.map wd), .fn 91 [] []] = some (.ret (.int .i64 r)) ∧ (0 ≤ r ↔ vp a a.length ≠ 0) := by
  refine denP_ex E93 rfl (by simp [AV.pureL, AV.pure, pure_wd]) ?_
  simp (maxSteps := 4000000) (disch := omega) only [go_sem, ↓reduceIte, Nat.reduceAdd, Nat.reduceSub, Nat.reduceMul, Nat.reduceEqDiff, reduceCtorEq, Int.reduceAdd, Int.reduceLT, Int.reduceLE, Int.reduceToNat, Int.reduceNeg, Int.reduceSub, ← List.map_take, ← List.map_drop, wrap64, wrapu64, wrapu32, ← Int.natCast_add, ← Int.natCast_mul, cast_succ, wrapu32_nat, shr32, reps_wd, map_set_wd, List.length_set, zs_len, Try.f93]
  refine W_loopS (fun j sl H nx => ∃ i : Nat, (∃ g : Nat → AV, sl = [.lst m (a.map wd), .fn 91 [] [], g 2, g 3, g 4, g 5, g 6, .int .i64 a.length, .int .i64 i, g 9, g 10, g 11, g 12, g 13, g 14, g 15, g 16, g 17, g 18]) ∧ i + j = a.length ∧ ∀ t, t < i → a.getD t 0 = 0) a.length ⟨0, garb rfl, by omega, by omega⟩ ?_
  rintro j _ H nx ⟨i, ⟨g, rfl⟩, hi, hz⟩
  by_cases hj : j = 0
  · have h0 : vp a a.length = 0 := (vp_nz _).2 fun t ht => hz t (by omega)
    simp (maxSteps := 4000000) (disch := omega) only [go_sem, ↓reduceIte, Nat.reduceAdd, Nat.reduceSub, Nat.reduceMul, Nat.reduceEqDiff, reduceCtorEq, Int.reduceAdd, Int.reduceLT, Int.reduceLE, Int.reduceToNat, Int.reduceNeg, Int.reduceSub, ← List.map_take, ← List.map_drop, wrap64, wrapu64, wrapu32, ← Int.natCast_add, ← Int.natCast_mul, cast_succ, wrapu32_nat, shr32, reps_wd, map_set_wd, List.length_set, zs_len]
    exact ⟨-1, rfl, by omega, fun h => absurd h0 h⟩
  · by_cases h : a.getD i 0 = 0
    · have h1 := right1_spec (a.getD i 0)
      rw [decide_eq_true h, Bool.not_true] at h1
      simp (maxSteps := 4000000) (disch := omega) only [go_sem, ↓reduceIte, Nat.reduceAdd, Nat.reduceSub, Nat.reduceMul, Nat.reduceEqDiff, reduceCtorEq, Int.reduceAdd, Int.reduceLT, Int.reduceLE, Int.reduceToNat, Int.reduceNeg, Int.reduceSub, ← List.map_take, ← List.map_drop, wrap64, wrapu64, wrapu32, ← Int.natCast_add, ← Int.natCast_mul, cast_succ, wrapu32_nat, shr32, reps_wd, map_set_wd, List.length_set, zs_len, h1]
      refine ⟨j - 1, by omega, i + 1, garb rfl, by omega, fun t ht => ?_⟩
      by_cases hti : t = i
      · subst hti; exact h
      · exact hz t (by omega)
    · have h1 := right1_spec (a.getD i 0)
      rw [decide_eq_false h, Bool.not_false] at h1
      simp (maxSteps := 4000000) (disch := omega) only [go_sem, ↓reduceIte, Nat.reduceAdd, Nat.reduceSub, Nat.reduceMul, Nat.reduceEqDiff, reduceCtorEq, Int.reduceAdd, Int.reduceLT, Int.reduceLE, Int.reduceToNat, Int.reduceNeg, Int.reduceSub, ← List.map_take, ← List.map_drop, wrap64, wrapu64, wrapu32, ← Int.natCast_add, ← Int.natCast_mul, cast_succ, wrapu32_nat, shr32, reps_wd, map_set_wd, List.length_set, zs_len, h1]
      exact ⟨i, rfl, fun _ e => h ((vp_nz _).1 e i (by omega)), fun _ => by omega⟩
theorem contains_spec (m : Bool) (a : List Nat) (la : a.length < 2 ^ 60) : denP E 90 [.lst m (a.map wd), .fn 91 [] []] = some (.ret (.bool (!decide (vp a a.length = 0)))) := by
  obtain ⟨r, h1, h2⟩ := idx0_walk m a la
  refine denP_eq E90 rfl (by simp [AV.pureL, AV.pure, pure_wd]) ?_
  by_cases h : vp a a.length = 0
  · have : ¬ 0 ≤ r := fun h' => h2.1 h' h
    rw [decide_eq_true h]
    simp (maxSteps := 4000000) (disch := omega) only [go_sem, ↓reduceIte, Nat.reduceAdd, Nat.reduceSub, Nat.reduceMul, Nat.reduceEqDiff, reduceCtorEq, Int.reduceAdd, Int.reduceLT, Int.reduceLE, Int.reduceToNat, Int.reduceNeg, Int.reduceSub, ← List.map_take, ← List.map_drop, wrap64, wrapu64, wrapu32, ← Int.natCast_add, ← Int.natCast_mul, cast_succ, wrapu32_nat, shr32, reps_wd, map_set_wd, List.length_set, zs_len, Try.f90, h1]
  · have : 0 ≤ r := h2.2 h
    rw [decide_eq_false h]
    simp (maxSteps := 4000000) (disch := omega) only [go_sem, ↓reduceIte, Nat.reduceAdd, Nat.reduceSub, Nat.reduceMul, Nat.reduceEqDiff, reduceCtorEq, Int.reduceAdd, Int.reduceLT, Int.reduceLE, Int.reduceToNat, Int.reduceNeg, Int.reduceSub, ← List.map_take, ← List.map_drop, wrap64, wrapu64, wrapu32, ← Int.natCast_add, ← Int.natCast_mul, cast_succ, wrapu32_nat, shr32, reps_wd, map_set_wd, List.length_set, zs_len, Try.f90, h1]
theorem getD_range (f : Nat → Nat) {n i : Nat} (h : i < n) : ((List.range n).map f).getD i 0 = f i := by
  rw [List.getD_eq_getElem?_getD, List.getElem?_map, List.getElem?_range h]; rfl
/-- What the bits below a place are. -/
theorem mask_low {x k : Nat} (hk : k < 32) (hx : x < 4294967296) : IntKind.u32.wrap ((BitVec.ofInt (kb .u32) (x : Int) &&& BitVec.ofInt (kb .u32) (IntKind.u32.wrap (IntKind.u32.wrap (1 * 2 ^ min k (kb .u32)) - 1))).toNat : Int) = ((x % 2 ^ k : Nat) : Int) := by
  have h1 := pow_lt32 hk
  have h0 : 0 < 2 ^ k := Nat.pow_pos (by decide)
  rw [show min k (kb .u32) = k from Nat.min_eq_left (by show k ≤ 32; omega)]
  have e : (1 : Int) * 2 ^ k = ((2 ^ k : Nat) : Int) := by push_cast; rw [Int.one_mul]
  rw [e, wrapu32 (x := ((2 ^ k : Nat) : Int)) (by omega) (by omega)]
  have e2 : ((2 ^ k : Nat) : Int) - 1 = ((2 ^ k - 1 : Nat) : Int) := by omega
  rw [e2, wrapu32 (x := ((2 ^ k - 1 : Nat) : Int)) (by omega) (by omega), and32b hx (by omega), Nat.and_two_pow_sub_one_eq_mod]
theorem shl32 {y : Nat} (h : y < 4294967296) : IntKind.u64.wrap ((y : Int) * 2 ^ min 32 (kb .u64)) = ((y * 4294967296 : Nat) : Int) := by
  rw [show min 32 (kb .u64) = 32 from rfl, show (y : Int) * 2 ^ 32 = ((y * 4294967296 : Nat) : Int) by rw [Int.natCast_mul]; rfl]
  exact wrapu64 (by omega) (by omega)
theorem or_high {x y : Nat} (hx : x < 4294967296) (hy : y < 4294967296) : IntKind.u64.wrap ((BitVec.ofInt (kb .u64) (x : Int) ||| BitVec.ofInt (kb .u64) ((y * 4294967296 : Nat) : Int)).toNat : Int) = ((x + y * 4294967296 : Nat) : Int) := by
  rw [or64 (by omega) (by omega), show (4294967296 : Nat) = 2 ^ 32 from rfl, or_add hx]
theorem shr_k {x k : Nat} (hk : k < 32) : (x : Int).fdiv (2 ^ min k (kb .u64)) = ((x / 2 ^ k : Nat) : Int) := by
  rw [shr_nat, show min k (kb .u64) = k from Nat.min_eq_left (by show k ≤ 64; omega)]
theorem val_nz {a : List Nat} (h : Norm a) (h0 : a.length ≠ 0) : val a ≠ 0 := by
  have := norm_pos h (fun e => h0 (by rw [e]; rfl)); omega
theorem right_spec (m : Bool) (a : List Nat) (n : Nat) (hn : Norm a) (la : a.length < 2 ^ 38) (ln : n < 2 ^ 38) : denP E 82 [.lst m (a.map wd), .int .i64 n] = some (.ret (.tup [.lst (decide (a.length ≤ n / 32)) ((dig (val a / 2 ^ n)).map wd), .bool (!decide (val a % 2 ^ n = 0))])) := by
  have ha := hn.1
  refine denP_eq E82 rfl (by simp [AV.pureL, AV.pure, pure_wd]) ?_
  have e1 : (n : Int).tdiv 32 = ((n / 32 : Nat) : Int) := rfl
  have e2 : (n : Int).tmod 32 = ((n % 32 : Nat) : Int) := rfl
  have hpow := pow32 n
  generalize hq : n / 32 = q at *
  generalize hk : n % 32 = k at *
  have hk' : k < 32 := by omega
  have hq' : q < 2 ^ 38 := by omega
  by_cases hql : a.length ≤ q
  · have hlt : val a < 2 ^ n := by
      have h1 := val_lt ha
      have h2 : BB ^ a.length ≤ BB ^ q := Nat.pow_le_pow_right (by decide) hql
      have h3 : 1 * BB ^ q ≤ 2 ^ k * BB ^ q := Nat.mul_le_mul_right _ (Nat.pow_pos (by decide))
      rw [hpow]; omega
    rw [decide_eq_true hql, Nat.div_eq_of_lt hlt, Nat.mod_eq_of_lt hlt, dig_zero]
    by_cases h0 : a.length = 0
    · have : val a = 0 := by rw [List.length_eq_zero_iff.1 h0]; rfl
      rw [decide_eq_true this]
      simp (maxSteps := 4000000) (disch := omega) only [go_sem, ↓reduceIte, Nat.reduceAdd, Nat.reduceSub, Nat.reduceMul, Nat.reduceEqDiff, reduceCtorEq, Int.reduceAdd, Int.reduceLT, Int.reduceLE, Int.reduceToNat, Int.reduceNeg, Int.reduceSub, ← List.map_take, ← List.map_drop, wrap64, wrapu64, wrapu32, ← Int.natCast_add, ← Int.natCast_mul, cast_succ, wrapu32_nat, shr32, reps_wd, map_set_wd, List.length_set, zs_len, Try.f82, e1, e2]
    · rw [decide_eq_false (val_nz hn h0)]
      simp (maxSteps := 4000000) (disch := omega) only [go_sem, ↓reduceIte, Nat.reduceAdd, Nat.reduceSub, Nat.reduceMul, Nat.reduceEqDiff, reduceCtorEq, Int.reduceAdd, Int.reduceLT, Int.reduceLE, Int.reduceToNat, Int.reduceNeg, Int.reduceSub, ← List.map_take, ← List.map_drop, wrap64, wrapu64, wrapu32, ← Int.natCast_add, ← Int.natCast_mul, cast_succ, wrapu32_nat, shr32, reps_wd, map_set_wd, List.length_set, zs_len, Try.f82, e1, e2]
  · rw [decide_eq_false hql]
    obtain ⟨b, hb⟩ : ∃ b, b = a.drop q := ⟨_, rfl⟩
    have hbl : b.length = a.length - q := by rw [hb, List.length_drop]
    have hbr : InR b := by rw [hb]; exact ha.drop q
    have hsplit := val_split (a := a) (q := q) (by omega)
    rw [← hb] at hsplit
    have htl : (a.take q).length = q := by rw [List.length_take]; omega
    have hc := contains_spec m (a.take q) (by omega)
    rw [htl, vp_congr q (fun i hi => getD_take hi)] at hc
    have b0 := hbr.get 0
    have em := mask_low hk' b0
    have hb0 : b[0]? = some (b.getD 0 0) := by
      rw [List.getD_eq_getElem?_getD, List.getElem?_eq_getElem (by omega)]; rfl
    have hp0 : 0 < BB ^ q := Nat.pow_pos (by decide)
    have hp1 : 0 < 2 ^ k := Nat.pow_pos (by decide)
    have hvq := vp_lt ha q
    -- what is handed back
    have fin : ∀ o : List Nat, o.length = b.length → (∀ i, i < b.length → o.getD i 0 = (b.getD i 0 + b.getD (i + 1) 0 * 4294967296) / 2 ^ k % 4294967296) →
        val o = val a / 2 ^ n ∧ (val a % 2 ^ n = 0 ↔ vp a q = 0 ∧ b.getD 0 0 % 2 ^ k = 0) := by
      intro o ho hf
      have h1 := right_val hk' hbr ho hf
      have h2 : b.getD 0 0 % 2 ^ k < 2 ^ k := Nat.mod_lt _ hp1
      generalize b.getD 0 0 % 2 ^ k = r at *
      have h3 : val a = (vp a q + BB ^ q * r) + 2 ^ n * val o := by
        rw [hsplit, h1, hpow]; generalize BB ^ q = z; generalize 2 ^ k = w; generalize val o = v; grind
      have h4 : vp a q + BB ^ q * r < 2 ^ n := by
        have : BB ^ q * (r + 1) ≤ BB ^ q * 2 ^ k := Nat.mul_le_mul_left _ h2
        rw [hpow, Nat.mul_comm (2 ^ k)]
        rw [Nat.mul_add] at this; omega
      constructor
      · rw [h3, Nat.add_mul_div_left _ _ (Nat.pow_pos (by decide)), Nat.div_eq_of_lt h4, Nat.zero_add]
      · rw [h3, Nat.add_mul_mod_self_left, Nat.mod_eq_of_lt h4, Nat.add_eq_zero_iff, Nat.mul_eq_zero]
        constructor
        · rintro ⟨x, y⟩; exact ⟨x, y.resolve_left (by omega)⟩
        · rintro ⟨x, y⟩; exact ⟨x, .inr y⟩
    have hlost : val a % 2 ^ n = 0 ↔ vp a q = 0 ∧ b.getD 0 0 % 2 ^ k = 0 := by
      refine (fin ((List.range b.length).map fun i => (b.getD i 0 + b.getD (i + 1) 0 * 4294967296) / 2 ^ k % 4294967296) (by rw [List.length_map, List.length_range]) fun i hi => ?_).2
      exact getD_range _ hi
    have hb' : a.drop q = b := hb.symm
    have e3 : (a.length : Int) - q = (b.length : Int) := by omega
    simp (maxSteps := 4000000) (disch := omega) only [go_sem, ↓reduceIte, Nat.reduceAdd, Nat.reduceSub, Nat.reduceMul, Nat.reduceEqDiff, reduceCtorEq, Int.reduceAdd, Int.reduceLT, Int.reduceLE, Int.reduceToNat, Int.reduceNeg, Int.reduceSub, ← List.map_take, ← List.map_drop, wrap64, wrapu64, wrapu32, ← Int.natCast_add, ← Int.natCast_mul, cast_succ, wrapu32_nat, shr32, reps_wd, map_set_wd, List.length_set, zs_len, Try.f82, e1, e2, cutBounds, hc, List.take_of_length_le, hb']
    refine wantK_mono (Q := fun e σ => e = .norm ∧ (∃ g : Nat → AV, σ.sl = [.lst m (b.map wd), g 1, g 2, g 3, g 4, g 5, .bool (!decide (val a % 2 ^ n = 0)), .int .u64 k, g 8, g 9, g 10, g 11, g 12, g 13, g 14, g 15, g 16, g 17, g 18, g 19, g 20, g 21, g 22, g 23, g 24, g 25, g 26, g 27, g 28, g 29, g 30, g 31, g 32, g 33, g 34, g 35, g 36, g 37, g 38, g 39, g 40, g 41, g 42, g 43, g 44, g 45, g 46, g 47, g 48, g 49, g 50, g 51, g 52, g 53, g 54, g 55, g 56, g 57, g 58, g 59, g 60, g 61, g 62, g 63, g 64, g 65, g 66, g 67, g 68, g 69, g 70, g 71, g 72, g 73, g 74, g 75, g 76, g 77, g 78, g 79]) ∧ σ.nx = 0 ∧ σ.h = Heap.empty) ?_ ?_
    · rintro e ⟨sl, h, nx⟩ ⟨rfl, ⟨g, hs⟩, rfl, rfl⟩
      dsimp only at hs
      subst hs
      generalize (!decide (val a % 2 ^ n = 0)) = lost at *
      have hb2 := hbr
      clear hc em hlost e1 e2 e3 hpow hsplit hvq hn ha
      simp (maxSteps := 4000000) (disch := omega) only [go_sem, ↓reduceIte, Nat.reduceAdd, Nat.reduceSub, Nat.reduceMul, Nat.reduceEqDiff, reduceCtorEq, Int.reduceAdd, Int.reduceLT, Int.reduceLE, Int.reduceToNat, Int.reduceNeg, Int.reduceSub, ← List.map_take, ← List.map_drop, wrap64, wrapu64, wrapu32, ← Int.natCast_add, ← Int.natCast_mul, cast_succ, wrapu32_nat, shr32, reps_wd, map_set_wd, List.length_set, zs_len]
      refine W_loopS (fun j sl H nx => ∃ (i : Nat) (o : List Nat), (∃ g : Nat → AV, sl = [.lst m (b.map wd), g 1, g 2, g 3, g 4, g 5, .bool lost, .int .u64 k, .ref 0 0 b.length, g 9, g 10, g 11, g 12, g 13, g 14, g 15, g 16, g 17, g 18, g 19, g 20, g 21, g 22, g 23, g 24, g 25, g 26, g 27, g 28, g 29, g 30, g 31, g 32, g 33, g 34, g 35, g 36, g 37, g 38, g 39, g 40, g 41, g 42, g 43, g 44, g 45, .lst m (b.map wd), .int .i64 b.length, .int .i64 i, g 49, g 50, g 51, g 52, g 53, g 54, g 55, g 56, g 57, g 58, g 59, g 60, g 61, g 62, g 63, g 64, g 65, g 66, g 67, g 68, g 69, g 70, g 71, g 72, g 73, g 74, g 75, g 76, g 77, g 78, g 79]) ∧ nx = 1 ∧
        H 0 = some ⟨o.map wd, false, 1, false⟩ ∧ o.length = b.length ∧ InR o ∧ i + j = b.length ∧ Hd (∀ t, t < i → o.getD t 0 = (b.getD t 0 + b.getD (t + 1) 0 * 4294967296) / 2 ^ k % 4294967296)) b.length
        ⟨0, _, garb rfl, rfl, rfl, zs_len _, zs_inR _, by omega, ⟨fun t ht => by omega⟩⟩ ?_
      rintro j _ H _ ⟨i, o, ⟨g, rfl⟩, rfl, hH, ho, hr, hi, hv⟩
      by_cases hj : j = 0
      · obtain rfl : i = b.length := by omega
        have hval := (fin o ho hv.out).1
        have ht := trim_spec false o hr (by omega)
        rw [hval] at ht
        clear hv fin
        simp (maxSteps := 4000000) (disch := omega) only [go_sem, ↓reduceIte, Nat.reduceAdd, Nat.reduceSub, Nat.reduceMul, Nat.reduceEqDiff, reduceCtorEq, Int.reduceAdd, Int.reduceLT, Int.reduceLE, Int.reduceToNat, Int.reduceNeg, Int.reduceSub, ← List.map_take, ← List.map_drop, wrap64, wrapu64, wrapu32, ← Int.natCast_add, ← Int.natCast_mul, cast_succ, wrapu32_nat, shr32, reps_wd, map_set_wd, List.length_set, zs_len, hH, ho, List.take_of_length_le, ht]
      · have hx := hbr.get i
        have hy := hbr.get (i + 1)
        have e5 := or_high hx hy
        have e6 := shl32 hy
        obtain ⟨Y, hY⟩ : ∃ Y, Y = b.getD (i + 1) 0 * 4294967296 := ⟨_, rfl⟩
        obtain ⟨X, hX⟩ : ∃ X, X = b.getD i 0 + Y := ⟨_, rfl⟩
        rw [← hY, ← hX] at e5
        rw [← hY] at e6
        clear fin
        have stp : ∀ x : Nat, x = (b.getD i 0 + b.getD (i + 1) 0 * 4294967296) / 2 ^ k % 4294967296 → Hd (∀ t, t < i + 1 → (o.set i x).getD t 0 = (b.getD t 0 + b.getD (t + 1) 0 * 4294967296) / 2 ^ k % 4294967296) := by
          intro x hx
          refine ⟨fun t ht => ?_⟩
          by_cases hti : t = i
          · subst hti; rw [lget_set_self (by omega)]; exact hx
          · rw [lget_set_ne (by omega)]; exact hv.out t (by omega)
        by_cases hlast : i + 1 < b.length
        · simp (maxSteps := 4000000) (disch := omega) only [go_sem, ↓reduceIte, Nat.reduceAdd, Nat.reduceSub, Nat.reduceMul, Nat.reduceEqDiff, reduceCtorEq, Int.reduceAdd, Int.reduceLT, Int.reduceLE, Int.reduceToNat, Int.reduceNeg, Int.reduceSub, ← List.map_take, ← List.map_drop, wrap64, wrapu64, wrapu32, ← Int.natCast_add, ← Int.natCast_mul, cast_succ, wrapu32_nat, shr32, reps_wd, map_set_wd, List.length_set, zs_len, hH, ho, e5, e6, shr_k]
          exact ⟨j - 1, by omega, i + 1, o.set i (X / 2 ^ k % 4294967296), garb rfl, rfl, by rw [List.length_set, ho], hr.set (Nat.mod_lt _ (by decide)), by omega, stp _ (by rw [hX, hY])⟩
        · have h0 := getD_ge (l := b) (i := i + 1) (by omega)
          simp (maxSteps := 4000000) (disch := omega) only [go_sem, ↓reduceIte, Nat.reduceAdd, Nat.reduceSub, Nat.reduceMul, Nat.reduceEqDiff, reduceCtorEq, Int.reduceAdd, Int.reduceLT, Int.reduceLE, Int.reduceToNat, Int.reduceNeg, Int.reduceSub, ← List.map_take, ← List.map_drop, wrap64, wrapu64, wrapu32, ← Int.natCast_add, ← Int.natCast_mul, cast_succ, wrapu32_nat, shr32, reps_wd, map_set_wd, List.length_set, zs_len, hH, ho, shr_k]
          exact ⟨j - 1, by omega, i + 1, o.set i (b.getD i 0 / 2 ^ k % 4294967296), garb rfl, rfl, by rw [List.length_set, ho], hr.set (Nat.mod_lt _ (by decide)), by omega, stp _ (by rw [h0, Nat.zero_mul, Nat.add_zero])⟩
    · by_cases hl : vp a q = 0
      · rw [decide_eq_true hl]
        by_cases hr : b.getD 0 0 % 2 ^ k = 0
        · rw [decide_eq_true (hlost.2 ⟨hl, hr⟩)]
          rw [hr] at em
          clear fin hlost
          simp (maxSteps := 4000000) (disch := omega) only [go_sem, ↓reduceIte, Nat.reduceAdd, Nat.reduceSub, Nat.reduceMul, Nat.reduceEqDiff, reduceCtorEq, Int.reduceAdd, Int.reduceLT, Int.reduceLE, Int.reduceToNat, Int.reduceNeg, Int.reduceSub, ← List.map_take, ← List.map_drop, wrap64, wrapu64, wrapu32, ← Int.natCast_add, ← Int.natCast_mul, cast_succ, wrapu32_nat, shr32, reps_wd, map_set_wd, List.length_set, zs_len, em]
          exact garb rfl
        · rw [decide_eq_false (fun h => hr (hlost.1 h).2)]
          clear fin hlost
          simp (maxSteps := 4000000) (disch := omega) only [go_sem, ↓reduceIte, Nat.reduceAdd, Nat.reduceSub, Nat.reduceMul, Nat.reduceEqDiff, reduceCtorEq, Int.reduceAdd, Int.reduceLT, Int.reduceLE, Int.reduceToNat, Int.reduceNeg, Int.reduceSub, ← List.map_take, ← List.map_drop, wrap64, wrapu64, wrapu32, ← Int.natCast_add, ← Int.natCast_mul, cast_succ, wrapu32_nat, shr32, reps_wd, map_set_wd, List.length_set, zs_len, em]
          exact garb rfl
      · rw [decide_eq_false hl, decide_eq_false (fun h => hl (hlost.1 h).1)]
        clear fin hlost
        simp (maxSteps := 4000000) (disch := omega) only [go_sem, ↓reduceIte, Nat.reduceAdd, Nat.reduceSub, Nat.reduceMul, Nat.reduceEqDiff, reduceCtorEq, Int.reduceAdd, Int.reduceLT, Int.reduceLE, Int.reduceToNat, Int.reduceNeg, Int.reduceSub, ← List.map_take, ← List.map_drop, wrap64, wrapu64, wrapu32, ← Int.natCast_add, ← Int.natCast_mul, cast_succ, wrapu32_nat, shr32, reps_wd, map_set_wd, List.length_set, zs_len]
        exact garb rfl
end Go.Proofs.Ytiglncbaomoceaa
