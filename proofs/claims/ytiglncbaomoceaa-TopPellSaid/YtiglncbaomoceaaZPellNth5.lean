/- Part 5 of a proof about this seat: Inx, Sh1, Sh2, Knuth, Digit, Div1, Dec, Prs, Sh3, Txt1, Pow2, Prs1, Live, Top7, Top8. (Own work of this repo.) -/
import Derived.Test.YtiglncbaomoceaaZPellNth4
import Derived.Laws.Strings
set_option linter.unusedVariables false
set_option linter.unusedSimpArgs false
/- The law PellIndex: its cases. (Own work of this repo.) -/
namespace Go.Proofs.Ytiglncbaomoceaa
open Vm
open Pel hiding allS
set_option maxRecDepth 10000

theorem valid_eq (neg : Bool) (l : List Nat) : validW neg l = rvalidW neg l := by
  unfold validW rvalidW
  by_cases h : l.length = 0
  · simp [h]
  · by_cases h1 : l.length ≤ 4096 <;> by_cases h2 : l.getD (l.length - 1) 0 = 0 <;> simp [h, h1, h2] <;> omega
theorem Index_nofit (D : Int) (a b : Raw) (hf : denP E 36 [.int .i64 D] = some (.ret (.bool false))) : denP E 25 [.int .i64 D, ivr a, ivr b] = some (.ret (.tup [.int .i64 0, .int .i64 2])) := by
  refine denP_eq E25 rfl (by simp [AV.pureL, AV.pure, pure_wd]) ?_
  simp (maxSteps := 4000000) only [go_sem, ↓reduceIte, Nat.reduceAdd, Nat.reduceSub, Nat.reduceMul, Nat.reduceEqDiff, reduceCtorEq, Int.reduceAdd, Int.reduceLT, Int.reduceLE, Int.reduceToNat, Int.reduceNeg, Int.reduceSub, ← List.map_take, ← List.map_drop, ne_eq, Nat.reduceLeDiff, Nat.reduceLT, Nat.zero_le, Nat.le_refl, wrap64, wrapu64, wrapu32, ← Int.natCast_add, ← Int.natCast_mul, cast_succ, wrapu32_nat, shr32, reps_wd, map_set_wd, List.length_set, zs_len, Try.f25, hf, ivr, iv, places, fillAll, reps, refP, elems]
theorem Index_form (D : Int) (a b : Raw) (la : a.2.2.length < 2 ^ 60) (lb : b.2.2.length < 2 ^ 60) (hf : denP E 36 [.int .i64 D] = some (.ret (.bool true))) (hv : (rvalidW a.1 a.2.2 && rvalidW b.1 b.2.2) = false) : denP E 25 [.int .i64 D, ivr a, ivr b] = some (.ret (.tup [.int .i64 0, .int .i64 1])) := by
  refine denP_eq E25 rfl (by simp [AV.pureL, AV.pure, pure_wd]) ?_
  have v1 := exValid2 a.1 a.2.1 a.2.2 b.1 b.2.1 b.2.2 la lb
  rw [valid_eq, valid_eq, hv] at v1
  simp only [iv] at v1
  simp (maxSteps := 4000000) only [go_sem, ↓reduceIte, Nat.reduceAdd, Nat.reduceSub, Nat.reduceMul, Nat.reduceEqDiff, reduceCtorEq, Int.reduceAdd, Int.reduceLT, Int.reduceLE, Int.reduceToNat, Int.reduceNeg, Int.reduceSub, ← List.map_take, ← List.map_drop, ne_eq, Nat.reduceLeDiff, Nat.reduceLT, Nat.zero_le, Nat.le_refl, wrap64, wrapu64, wrapu32, ← Int.natCast_add, ← Int.natCast_mul, cast_succ, wrapu32_nat, shr32, reps_wd, map_set_wd, List.length_set, zs_len, Try.f25, hf, v1, ivr, iv, places, fillAll, reps, refP, elems]
theorem Index_neg (D : Int) (a b : Raw) (la : a.2.2.length < 2 ^ 60) (lb : b.2.2.length < 2 ^ 60) (hf : denP E 36 [.int .i64 D] = some (.ret (.bool true))) (hv : (rvalidW a.1 a.2.2 && rvalidW b.1 b.2.2) = true) (hn : (!a.1 && !b.1) = false) : denP E 25 [.int .i64 D, ivr a, ivr b] = some (.ret (.tup [.int .i64 0, .int .i64 2])) := by
  refine denP_eq E25 rfl (by simp [AV.pureL, AV.pure, pure_wd]) ?_
  have v1 := exValid2 a.1 a.2.1 a.2.2 b.1 b.2.1 b.2.2 la lb
  have v2 := exNat2 a.1 a.2.1 a.2.2 b.1 b.2.1 b.2.2
  rw [valid_eq, valid_eq, hv] at v1
  rw [hn] at v2
  simp only [iv] at v1 v2
  simp (maxSteps := 4000000) only [go_sem, ↓reduceIte, Nat.reduceAdd, Nat.reduceSub, Nat.reduceMul, Nat.reduceEqDiff, reduceCtorEq, Int.reduceAdd, Int.reduceLT, Int.reduceLE, Int.reduceToNat, Int.reduceNeg, Int.reduceSub, ← List.map_take, ← List.map_drop, ne_eq, Nat.reduceLeDiff, Nat.reduceLT, Nat.zero_le, Nat.le_refl, wrap64, wrapu64, wrapu32, ← Int.natCast_add, ← Int.natCast_mul, cast_succ, wrapu32_nat, shr32, reps_wd, map_set_wd, List.length_set, zs_len, Try.f25, hf, v1, v2, ivr, iv, places, fillAll, reps, refP, elems]
/-- Which n a solution has. -/
theorem index_yes (D r : Int) (hr : Rt D r) (hD : D ≤ 1000000) (L : Nat) (hL : Per D r L) (x y : Int) (fx fy : Bool) (lx : (dg x).length ≤ 4096) (ly : (dg y).length ≤ 4096) (hx0 : 0 ≤ x) (hy0 : 0 ≤ y) (h : x * x - D * (y * y) = 1) :
    ∃ n : Nat, pw D (LX D r L) (LY D r L) n = (x, y) ∧ n < 131072 ∧ denP E 25 [.int .i64 D, I fx x, I fy y] = some (.ret (.tup [.int .i64 (n : Int), .int .i64 0])) := by
  rcases index_spec D r hr hD L hL x y fx fy lx ly hx0 hy0 with ⟨n, hn, hi⟩ | ⟨hn, _⟩
  · refine ⟨n, hn, ?_, hi⟩
    have htwo := LXY_two hr hL
    have hpos := LXY_pos hr L
    have h2 := pw_two (D := D) (by have := rt_D hr; omega) htwo.1 htwo.2 hpos.2.2 n
    rw [hn] at h2
    exact two_len h2 lx
  · obtain ⟨n, h1⟩ := sol_pw hr hL h hx0 hy0
    exact absurd h1 (hn n)
theorem index_no (D r : Int) (hr : Rt D r) (hD : D ≤ 1000000) (L : Nat) (hL : Per D r L) (x y : Int) (fx fy : Bool) (lx : (dg x).length ≤ 4096) (ly : (dg y).length ≤ 4096) (hx0 : 0 ≤ x) (hy0 : 0 ≤ y) (h : x * x - D * (y * y) ≠ 1) :
    denP E 25 [.int .i64 D, I fx x, I fy y] = some (.ret (.tup [.int .i64 0, .int .i64 6])) := by
  rcases index_spec D r hr hD L hL x y fx fy lx ly hx0 hy0 with ⟨n, hn, hi⟩ | ⟨_, hi⟩
  · have h1 := pw_norm (LXY_norm' hr hL) n
    rw [hn] at h1
    exact absurd h1 h
  · exact hi
theorem index_long (D : Int) (a b : Raw) (h : ¬ (a.2.2.length ≤ 4200 ∧ b.2.2.length ≤ 4200)) : denP E 5 [.int .i64 D, ivr a, ivr b] = some (.ret (.bool true)) := by
  refine denP_eq E5 rfl (by simp [AV.pureL, AV.pure, pure_wd]) ?_
  by_cases h1 : 4200 < a.2.2.length
  · have z1 : ((4200 : Int) < (a.2.2.length : Int)) = True := eq_true (by omega)
    simp (maxSteps := 4000000) only [go_sem, ↓reduceIte, Nat.reduceAdd, Nat.reduceSub, Nat.reduceMul, Nat.reduceEqDiff, reduceCtorEq, Int.reduceAdd, Int.reduceLT, Int.reduceLE, Int.reduceToNat, Int.reduceNeg, Int.reduceSub, ← List.map_take, ← List.map_drop, ne_eq, Nat.reduceLeDiff, Nat.reduceLT, Nat.zero_le, Nat.le_refl, wrap64, wrapu64, wrapu32, ← Int.natCast_add, ← Int.natCast_mul, cast_succ, wrapu32_nat, shr32, reps_wd, map_set_wd, List.length_set, zs_len, Try.f5, awake7, z1, ivr, iv, places, fillAll, reps, refP, elems]
  · have z1 : ((4200 : Int) < (a.2.2.length : Int)) = False := eq_false (by omega)
    have z2 : ((4200 : Int) < (b.2.2.length : Int)) = True := eq_true (by omega)
    simp (maxSteps := 4000000) only [go_sem, ↓reduceIte, Nat.reduceAdd, Nat.reduceSub, Nat.reduceMul, Nat.reduceEqDiff, reduceCtorEq, Int.reduceAdd, Int.reduceLT, Int.reduceLE, Int.reduceToNat, Int.reduceNeg, Int.reduceSub, ← List.map_take, ← List.map_drop, ne_eq, Nat.reduceLeDiff, Nat.reduceLT, Nat.zero_le, Nat.le_refl, wrap64, wrapu64, wrapu32, ← Int.natCast_add, ← Int.natCast_mul, cast_succ, wrapu32_nat, shr32, reps_wd, map_set_wd, List.length_set, zs_len, Try.f5, awake7, z1, z2, ivr, iv, places, fillAll, reps, refP, elems]
theorem index_bad (D : Int) (a b : Raw) (la : a.2.2.length ≤ 4200) (lb : b.2.2.length ≤ 4200) (f : Bool) (f2 : denP E 12 [.int .i64 D] = some (.ret (.bool f)))
    (e : Int) (p1 : denP E 25 [.int .i64 D, ivr a, ivr b] = some (.ret (.tup [.int .i64 0, .int .i64 e])))
    (h : (f = false ∧ e = 2) ∨ (f = true ∧ e = 1 ∧ (rvalidW a.1 a.2.2 && rvalidW b.1 b.2.2) = false) ∨ (f = true ∧ e = 2 ∧ (rvalidW a.1 a.2.2 && rvalidW b.1 b.2.2) = true ∧ (!a.1 && !b.1) = false)) :
    denP E 5 [.int .i64 D, ivr a, ivr b] = some (.ret (.bool true)) := by
  refine denP_eq E5 rfl (by simp [AV.pureL, AV.pure, pure_wd]) ?_
  have z1 : ((4200 : Int) < (a.2.2.length : Int)) = False := eq_false (by omega)
  have z2 : ((4200 : Int) < (b.2.2.length : Int)) = False := eq_false (by omega)
  have v2 := rValid_walk a.1 a.2.1 a.2.2 (by omega)
  have v4 := rValid_walk b.1 b.2.1 b.2.2 (by omega)
  simp only [ivr, iv] at *
  rcases h with ⟨rfl, rfl⟩ | ⟨rfl, rfl, hv⟩ | ⟨rfl, rfl, hv, hn⟩
  · simp (maxSteps := 4000000) only [go_sem, ↓reduceIte, Nat.reduceAdd, Nat.reduceSub, Nat.reduceMul, Nat.reduceEqDiff, reduceCtorEq, Int.reduceAdd, Int.reduceLT, Int.reduceLE, Int.reduceToNat, Int.reduceNeg, Int.reduceSub, ← List.map_take, ← List.map_drop, ne_eq, Nat.reduceLeDiff, Nat.reduceLT, Nat.zero_le, Nat.le_refl, wrap64, wrapu64, wrapu32, ← Int.natCast_add, ← Int.natCast_mul, cast_succ, wrapu32_nat, shr32, reps_wd, map_set_wd, List.length_set, zs_len, Try.f5, p1, f2, awake7, z1, z2, ivr, iv, Int.reduceEq, places, fillAll, reps, refP, elems]
  · cases h1 : rvalidW a.1 a.2.2 with
    | false =>
      rw [h1] at v2
      simp (maxSteps := 4000000) only [go_sem, ↓reduceIte, Nat.reduceAdd, Nat.reduceSub, Nat.reduceMul, Nat.reduceEqDiff, reduceCtorEq, Int.reduceAdd, Int.reduceLT, Int.reduceLE, Int.reduceToNat, Int.reduceNeg, Int.reduceSub, ← List.map_take, ← List.map_drop, ne_eq, Nat.reduceLeDiff, Nat.reduceLT, Nat.zero_le, Nat.le_refl, wrap64, wrapu64, wrapu32, ← Int.natCast_add, ← Int.natCast_mul, cast_succ, wrapu32_nat, shr32, reps_wd, map_set_wd, List.length_set, zs_len, Try.f5, p1, f2, v2, v4, awake7, z1, z2, Int.reduceEq, places, fillAll, reps, refP, elems]
    | true =>
      rw [h1] at v2 hv
      rw [Bool.true_and] at hv
      rw [hv] at v4
      simp (maxSteps := 4000000) only [go_sem, ↓reduceIte, Nat.reduceAdd, Nat.reduceSub, Nat.reduceMul, Nat.reduceEqDiff, reduceCtorEq, Int.reduceAdd, Int.reduceLT, Int.reduceLE, Int.reduceToNat, Int.reduceNeg, Int.reduceSub, ← List.map_take, ← List.map_drop, ne_eq, Nat.reduceLeDiff, Nat.reduceLT, Nat.zero_le, Nat.le_refl, wrap64, wrapu64, wrapu32, ← Int.natCast_add, ← Int.natCast_mul, cast_succ, wrapu32_nat, shr32, reps_wd, map_set_wd, List.length_set, zs_len, Try.f5, p1, f2, v2, v4, awake7, z1, z2, Int.reduceEq, places, fillAll, reps, refP, elems]
  · rw [Bool.and_eq_true] at hv
    rw [hv.1] at v2
    rw [hv.2] at v4
    cases h1 : a.1 with
    | true =>
      rw [h1] at v2 p1
      simp (maxSteps := 4000000) only [go_sem, ↓reduceIte, Nat.reduceAdd, Nat.reduceSub, Nat.reduceMul, Nat.reduceEqDiff, reduceCtorEq, Int.reduceAdd, Int.reduceLT, Int.reduceLE, Int.reduceToNat, Int.reduceNeg, Int.reduceSub, ← List.map_take, ← List.map_drop, ne_eq, Nat.reduceLeDiff, Nat.reduceLT, Nat.zero_le, Nat.le_refl, wrap64, wrapu64, wrapu32, ← Int.natCast_add, ← Int.natCast_mul, cast_succ, wrapu32_nat, shr32, reps_wd, map_set_wd, List.length_set, zs_len, Try.f5, p1, f2, v2, v4, h1, awake7, z1, z2, Int.reduceEq, places, fillAll, reps, refP, elems]
    | false =>
      rw [h1] at v2 hn p1
      have h2 : b.1 = true := by simpa using hn
      rw [h2] at v4 p1
      simp (maxSteps := 4000000) only [go_sem, ↓reduceIte, Nat.reduceAdd, Nat.reduceSub, Nat.reduceMul, Nat.reduceEqDiff, reduceCtorEq, Int.reduceAdd, Int.reduceLT, Int.reduceLE, Int.reduceToNat, Int.reduceNeg, Int.reduceSub, ← List.map_take, ← List.map_drop, ne_eq, Nat.reduceLeDiff, Nat.reduceLT, Nat.zero_le, Nat.le_refl, wrap64, wrapu64, wrapu32, ← Int.natCast_add, ← Int.natCast_mul, cast_succ, wrapu32_nat, shr32, reps_wd, map_set_wd, List.length_set, zs_len, Try.f5, p1, f2, v2, v4, h1, h2, awake7, z1, z2, Int.reduceEq, places, fillAll, reps, refP, elems]
theorem index_walk_no (D : Int) (hD : 0 ≤ D ∧ D ≤ 1000000) (x y : Int) (fx fy : Bool) (lx : (dg x).length ≤ 4096) (ly : (dg y).length ≤ 4096) (hx0 : 0 ≤ x) (hy0 : 0 ≤ y) (f2 : denP E 12 [.int .i64 D] = some (.ret (.bool true)))
    (p1 : denP E 25 [.int .i64 D, I fx x, I fy y] = some (.ret (.tup [.int .i64 0, .int .i64 6]))) (h : x * x - D * (y * y) ≠ 1) :
    denP E 5 [.int .i64 D, I fx x, I fy y] = some (.ret (.bool true)) := by
  refine denP_eq E5 rfl (by simp [AV.pureL, AV.pure, pure_wd]) ?_
  have z1 : ((4200 : Int) < ((dg x).length : Int)) = False := eq_false (by omega)
  have z2 : ((4200 : Int) < ((dg y).length : Int)) = False := eq_false (by omega)
  have v2 := rValid_spec fx x (by omega)
  have v4 := rValid_spec fy y (by omega)
  rw [decide_eq_true lx] at v2
  rw [decide_eq_true ly] at v4
  have n1 := rNorm D x y fx fy hD (by omega) (by omega)
  have l1 : (dg (x * x - D * (y * y))).length < 2 ^ 60 := by
    have := dg_sub (x * x) (D * (y * y))
    have := dg_mul x x
    have := dg_mul y y
    have := dg_mul D (y * y)
    have := dg_small (z := D) (by omega)
    omega
  have o1 := rOf_spec 1 (by decide) (by decide)
  have s1 := rSame_spec (decide (x * x - D * (y * y) = 0)) (x * x - D * (y * y)) false 1 l1 (by have := dg_small (z := 1) (by decide); omega)
  rw [decide_eq_false h] at s1
  have gx := ng_false.2 hx0
  have gy := ng_false.2 hy0
  simp only [RM] at n1 o1
  rw [show decide ((1 : Int) = 0) = false from rfl] at o1
  generalize x * x - D * (y * y) = w at *
  clear l1 h
  simp only [I, gx, gy] at p1 v2 v4 n1
  simp (maxSteps := 4000000) only [go_sem, ↓reduceIte, Nat.reduceAdd, Nat.reduceSub, Nat.reduceMul, Nat.reduceEqDiff, reduceCtorEq, Int.reduceAdd, Int.reduceLT, Int.reduceLE, Int.reduceToNat, Int.reduceNeg, Int.reduceSub, ← List.map_take, ← List.map_drop, ne_eq, Nat.reduceLeDiff, Nat.reduceLT, Nat.zero_le, Nat.le_refl, wrap64, wrapu64, wrapu32, ← Int.natCast_add, ← Int.natCast_mul, cast_succ, wrapu32_nat, shr32, reps_wd, map_set_wd, List.length_set, zs_len, Try.f5, p1, f2, v2, v4, n1, o1, s1, gx, gy, awake7, z1, z2, Int.reduceEq, places, fillAll, reps, refP, elems]
theorem index_walk_yes (D : Int) (hD : 0 ≤ D ∧ D ≤ 1000000) (x y : Int) (fx fy : Bool) (lx : (dg x).length ≤ 4096) (ly : (dg y).length ≤ 4096) (hx0 : 0 ≤ x) (hy0 : 0 ≤ y) (f2 : denP E 12 [.int .i64 D] = some (.ret (.bool true))) (n : Nat)
    (p1 : denP E 25 [.int .i64 D, I fx x, I fy y] = some (.ret (.tup [.int .i64 (n : Int), .int .i64 0]))) (h : x * x - D * (y * y) = 1)
    (p2 : (dg x).length ≤ 300 → denP E 23 [.int .i64 D, .int .i64 (n : Int)] = some (.ret (.tup [RM x, RM y, .bool true]))) :
    denP E 5 [.int .i64 D, I fx x, I fy y] = some (.ret (.bool true)) := by
  refine denP_eq E5 rfl (by simp [AV.pureL, AV.pure, pure_wd]) ?_
  have z1 : ((4200 : Int) < ((dg x).length : Int)) = False := eq_false (by omega)
  have z2 : ((4200 : Int) < ((dg y).length : Int)) = False := eq_false (by omega)
  have z3 : ((n : Int) < 0) = False := eq_false (by omega)
  have v2 := rValid_spec fx x (by omega)
  have v4 := rValid_spec fy y (by omega)
  rw [decide_eq_true lx] at v2
  rw [decide_eq_true ly] at v4
  have n1 := rNorm D x y fx fy hD (by omega) (by omega)
  rw [h] at n1
  have o1 := rOf_spec 1 (by decide) (by decide)
  have l1 := dg_small (z := 1) (by decide)
  have s1 := rSame_spec false 1 false 1 (by omega) (by omega)
  rw [decide_eq_true rfl] at s1
  have s2 := rSame_spec (decide (x = 0)) x fx x (by omega) (by omega)
  have s3 := rSame_spec (decide (y = 0)) y fy y (by omega) (by omega)
  rw [decide_eq_true rfl] at s2 s3
  have gx := ng_false.2 hx0
  have gy := ng_false.2 hy0
  simp only [RM] at n1 o1 p2
  rw [show decide ((1 : Int) = 0) = false from rfl] at o1 n1
  clear h l1 hx0 hy0
  simp only [I, gx, gy] at p1 v2 v4 n1 s2 s3 p2
  by_cases hl : (dg x).length ≤ 300
  · have z4 : ((300 : Int) < ((dg x).length : Int)) = False := eq_false (by omega)
    have p2 := p2 hl
    simp (maxSteps := 4000000) only [go_sem, ↓reduceIte, Nat.reduceAdd, Nat.reduceSub, Nat.reduceMul, Nat.reduceEqDiff, reduceCtorEq, Int.reduceAdd, Int.reduceLT, Int.reduceLE, Int.reduceToNat, Int.reduceNeg, Int.reduceSub, ← List.map_take, ← List.map_drop, ne_eq, Nat.reduceLeDiff, Nat.reduceLT, Nat.zero_le, Nat.le_refl, wrap64, wrapu64, wrapu32, ← Int.natCast_add, ← Int.natCast_mul, cast_succ, wrapu32_nat, shr32, reps_wd, map_set_wd, List.length_set, zs_len, Try.f5, p1, p2, f2, v2, v4, n1, o1, s1, s2, s3, gx, gy, awake7, z1, z2, z3, z4, Int.reduceEq, places, fillAll, reps, refP, elems]
  · have z4 : ((300 : Int) < ((dg x).length : Int)) = True := eq_true (by omega)
    simp (maxSteps := 4000000) only [go_sem, ↓reduceIte, Nat.reduceAdd, Nat.reduceSub, Nat.reduceMul, Nat.reduceEqDiff, reduceCtorEq, Int.reduceAdd, Int.reduceLT, Int.reduceLE, Int.reduceToNat, Int.reduceNeg, Int.reduceSub, ← List.map_take, ← List.map_drop, ne_eq, Nat.reduceLeDiff, Nat.reduceLT, Nat.zero_le, Nat.le_refl, wrap64, wrapu64, wrapu32, ← Int.natCast_add, ← Int.natCast_mul, cast_succ, wrapu32_nat, shr32, reps_wd, map_set_wd, List.length_set, zs_len, Try.f5, p1, f2, v2, v4, n1, o1, s1, s2, s3, gx, gy, awake7, z1, z2, z3, z4, Int.reduceEq, places, fillAll, reps, refP, elems]
end Go.Proofs.Ytiglncbaomoceaa

/- Walks: rows of words moved to the left. (Own work of this repo.) -/
namespace Go.Proofs.Ytiglncbaomoceaa
open Vm
set_option maxRecDepth 10000

theorem pow32 (n : Nat) : 2 ^ n = 2 ^ (n % 32) * BB ^ (n / 32) := by
  rw [show BB = 2 ^ 32 from rfl, ← Nat.pow_mul, ← Nat.pow_add, Nat.mod_add_div]
theorem shl_nat {x k : Nat} (hk : k < 32) (hx : x < 4294967296) : IntKind.u64.wrap ((x : Int) * 2 ^ min k (kb .u64)) = ((x * 2 ^ k : Nat) : Int) := by
  have h1 := pow_lt32 hk
  have h2 : x * 2 ^ k ≤ 4294967296 * 2147483648 := Nat.mul_le_mul (Nat.le_of_lt hx) h1
  rw [show min k (kb .u64) = k from Nat.min_eq_left (by show k ≤ 64; omega)]
  have e : (x : Int) * 2 ^ k = ((x * 2 ^ k : Nat) : Int) := by push_cast; rfl
  rw [e]
  exact wrapu64 (by omega) (by omega)
theorem left_or {h x k : Nat} (hk : k < 32) (hx : x < 4294967296) (hh : h < 2 ^ k) : IntKind.u32.wrap ((BitVec.ofInt (kb .u32) (h : Int) ||| BitVec.ofInt (kb .u32) ((x * 2 ^ k % 4294967296 : Nat) : Int)).toNat : Int) = ((h + x * 2 ^ k % 4294967296 : Nat) : Int) := by
  have h1 := pow_lt32 hk
  rw [or32b (by omega) (Nat.mod_lt _ (by decide)), (left_word hk hx).2, or_add hh]
theorem left_sum {h x k : Nat} (hk : k < 32) (hx : x < 4294967296) (hh : h < 2 ^ k) : h + x * 2 ^ k % 4294967296 < 4294967296 := by
  rw [(left_word hk hx).2]
  have hp := pow_split hk
  have h3 : x % 2 ^ (32 - k) < 2 ^ (32 - k) := Nat.mod_lt _ (Nat.pow_pos (by decide))
  have h4 : (x % 2 ^ (32 - k) + 1) * 2 ^ k ≤ 2 ^ (32 - k) * 2 ^ k := Nat.mul_le_mul_right _ h3
  rw [Nat.add_mul, Nat.mul_comm (2 ^ (32 - k)), hp] at h4
  omega
theorem left_spec (m : Bool) (a : List Nat) (n : Nat) (ha : InR a) (la : a.length < 2 ^ 38) (hn : n < 2 ^ 38) : denP E 79 [.lst m (a.map wd), .int .i64 n] = some (.ret (.lst (decide (a.length = 0)) ((dig (val a * 2 ^ n)).map wd))) := by
  refine denP_eq E79 rfl (by simp [AV.pureL, AV.pure, pure_wd]) ?_
  by_cases h0 : a.length = 0
  · obtain rfl := List.length_eq_zero_iff.1 h0
    rw [val_nil, Nat.zero_mul, dig_zero]
    simp (maxSteps := 4000000) (disch := omega) only [go_sem, ↓reduceIte, Nat.reduceAdd, Nat.reduceSub, Nat.reduceMul, Nat.reduceEqDiff, reduceCtorEq, Int.reduceAdd, Int.reduceLT, Int.reduceLE, Int.reduceToNat, Int.reduceNeg, Int.reduceSub, ← List.map_take, ← List.map_drop, wrap64, wrapu64, wrapu32, ← Int.natCast_add, ← Int.natCast_mul, cast_succ, wrapu32_nat, shr32, reps_wd, map_set_wd, List.length_set, zs_len, Try.f79]
  · have e1 : (n : Int).tdiv 32 = ((n / 32 : Nat) : Int) := rfl
    have e2 : (n : Int).tmod 32 = ((n % 32 : Nat) : Int) := rfl
    have hpow := pow32 n
    generalize hq : n / 32 = q at *
    generalize hk : n % 32 = k at *
    have hk' : k < 32 := by omega
    have hq' : q < 2 ^ 38 := by omega
    rw [decide_eq_false h0]
    simp (maxSteps := 4000000) (disch := omega) only [go_sem, ↓reduceIte, Nat.reduceAdd, Nat.reduceSub, Nat.reduceMul, Nat.reduceEqDiff, reduceCtorEq, Int.reduceAdd, Int.reduceLT, Int.reduceLE, Int.reduceToNat, Int.reduceNeg, Int.reduceSub, ← List.map_take, ← List.map_drop, wrap64, wrapu64, wrapu32, ← Int.natCast_add, ← Int.natCast_mul, cast_succ, wrapu32_nat, shr32, reps_wd, map_set_wd, List.length_set, zs_len, Try.f79, e1, e2]
    refine W_loopS (fun j sl H nx => ∃ (i : Nat) (o : List Nat), (∃ g : Nat → AV, sl = [g 0, .int .i64 n, g 2, g 3, g 4, .ref 0 0 (q + a.length + 1), .int .u64 k, g 7, g 8, g 9, g 10, g 11, g 12, g 13, g 14, g 15, g 16, g 17, g 18, g 19, g 20, g 21, g 22, .lst m (a.map wd), .int .i64 a.length, .int .i64 i, g 26, g 27, g 28, g 29, g 30, g 31, g 32, g 33, g 34, g 35, g 36, g 37, g 38, g 39, g 40, g 41, g 42, g 43, g 44, g 45, g 46, g 47, g 48, g 49, g 50, g 51, g 52, g 53, g 54, g 55, g 56, g 57]) ∧ nx = 1 ∧
      H 0 = some ⟨o.map wd, false, 1, false⟩ ∧ o.length = q + a.length + 1 ∧ InR o ∧ i + j = a.length ∧ Hd (vp o (q + i + 1) = vp a i * (2 ^ k * BB ^ q)) ∧ Hd (o.getD (q + i) 0 < 2 ^ k) ∧ ∀ t, q + i < t → o.getD t 0 = 0) a.length
      ⟨0, _, garb rfl, rfl, rfl, zs_len _, zs_inR _, by omega, ⟨by rw [zs_vp]; simp [vp]⟩, ⟨by rw [zs_get]; exact Nat.pow_pos (by decide)⟩, fun t _ => zs_get _ t⟩ ?_
    rintro j _ H _ ⟨i, o, ⟨g, rfl⟩, rfl, hH, ho, hr, hi, hv, hh, hz⟩
    by_cases hj : j = 0
    · obtain rfl : i = a.length := by omega
      have hval : val o = val a * 2 ^ n := by rw [val, ho, hv.out, hpow]; rfl
      have ht := trim_spec false o hr (by omega)
      rw [hval] at ht
      clear hv hh hpow
      simp (maxSteps := 4000000) (disch := omega) only [go_sem, ↓reduceIte, Nat.reduceAdd, Nat.reduceSub, Nat.reduceMul, Nat.reduceEqDiff, reduceCtorEq, Int.reduceAdd, Int.reduceLT, Int.reduceLE, Int.reduceToNat, Int.reduceNeg, Int.reduceSub, ← List.map_take, ← List.map_drop, wrap64, wrapu64, wrapu32, ← Int.natCast_add, ← Int.natCast_mul, cast_succ, wrapu32_nat, shr32, reps_wd, map_set_wd, List.length_set, zs_len, hH, ho, List.take_of_length_le, ht]
    · have hx := ha.get i
      have e3 := left_or hk' hx hh.out
      have e4 := left_sum hk' hx hh.out
      have e5 := (left_word hk' hx).1
      have e6 := pow_lt32 hk'
      have e7 := shl_nat hk' hx
      have st := left_step (o := o) hk' hx (by omega) rfl hv.out
      have e8 : a.getD i 0 * 2 ^ k / 4294967296 % 4294967296 = a.getD i 0 * 2 ^ k / 4294967296 := Nat.mod_eq_of_lt (by omega)
      clear hv hh hpow
      simp (maxSteps := 4000000) (disch := omega) only [go_sem, ↓reduceIte, Nat.reduceAdd, Nat.reduceSub, Nat.reduceMul, Nat.reduceEqDiff, reduceCtorEq, Int.reduceAdd, Int.reduceLT, Int.reduceLE, Int.reduceToNat, Int.reduceNeg, Int.reduceSub, ← List.map_take, ← List.map_drop, wrap64, wrapu64, wrapu32, ← Int.natCast_add, ← Int.natCast_mul, cast_succ, wrapu32_nat, shr32, reps_wd, map_set_wd, List.length_set, zs_len, hH, ho, e1, e3, e7, e8]
      refine ⟨j - 1, by omega, i + 1, (o.set (q + i) (o.getD (q + i) 0 + a.getD i 0 * 2 ^ k % 4294967296)).set (q + i + 1) (a.getD i 0 * 2 ^ k / 4294967296), garb rfl, rfl, by rw [List.length_set, List.length_set, ho], (hr.set e4).set (Nat.lt_of_lt_of_le e5 (by show _ ≤ 4294967296; omega)), by omega, ⟨st⟩, ⟨?_⟩, fun t ht => ?_⟩
      · rw [show q + (i + 1) = q + i + 1 by omega, lget_set_self (by rw [List.length_set]; omega)]; exact e5
      · rw [lget_set_ne (by omega), lget_set_ne (by omega)]; exact hz t (by omega)
end Go.Proofs.Ytiglncbaomoceaa

/- Walks: rows of words moved to the right. (Own work of this repo.) -/
namespace Go.Proofs.Ytiglncbaomoceaa
open Vm
set_option maxRecDepth 10000

theorem right1_spec (x : Nat) : denP E 91 [.int .u32 x] = some (.ret (.bool (!decide (x = 0)))) := by
  refine denP_eq E91 rfl (by simp [AV.pureL, AV.pure]) ?_
  by_cases h : x = 0
  · subst h; simp (maxSteps := 4000000) (disch := omega) only [go_sem, ↓reduceIte, Nat.reduceAdd, Nat.reduceSub, Nat.reduceMul, Nat.reduceEqDiff, reduceCtorEq, Int.reduceAdd, Int.reduceLT, Int.reduceLE, Int.reduceToNat, Int.reduceNeg, Int.reduceSub, ← List.map_take, ← List.map_drop, wrap64, wrapu64, wrapu32, Try.f91]
  · simp (maxSteps := 4000000) (disch := omega) only [go_sem, ↓reduceIte, Nat.reduceAdd, Nat.reduceSub, Nat.reduceMul, Nat.reduceEqDiff, reduceCtorEq, Int.reduceAdd, Int.reduceLT, Int.reduceLE, Int.reduceToNat, Int.reduceNeg, Int.reduceSub, ← List.map_take, ← List.map_drop, wrap64, wrapu64, wrapu32, Try.f91]
theorem idx0_walk (m : Bool) (a : List Nat) (la : a.length < 2 ^ 60) : ∃ r : Int, denP E 93 [.lst m (a.map wd), .fn 91 [] []] = some (.ret (.int .i64 r)) ∧ (0 ≤ r ↔ vp a a.length ≠ 0) := by
  refine denP_ex E93 rfl (by simp [AV.pureL, AV.pure, pure_wd]) ?_
  simp (maxSteps := 4000000) (disch := omega) only [go_sem, ↓reduceIte, Nat.reduceAdd, Nat.reduceSub, Nat.reduceMul, Nat.reduceEqDiff, reduceCtorEq, Int.reduceAdd, Int.reduceLT, Int.reduceLE, Int.reduceToNat, Int.reduceNeg, Int.reduceSub, ← List.map_take, ← List.map_drop, wrap64, wrapu64, wrapu32, ← Int.natCast_add, ← Int.natCast_mul, cast_succ, wrapu32_nat, shr32, reps_wd, map_set_wd, List.length_set, zs_len, Try.f93]
  refine W_loopS (fun j sl H nx => ∃ i : Nat, (∃ g : Nat → AV, sl = [.lst m (a.map wd), .fn 91 [] [], g 2, g 3, g 4, g 5, g 6, .int .i64 a.length, .int .i64 i, g 9, g 10, g 11, g 12, g 13, g 14, g 15, g 16, g 17, g 18]) ∧ i + j = a.length ∧ ∀ t, t < i → a.getD t 0 = 0) a.length ⟨0, garb rfl, by omega, by omega⟩ ?_
  rintro j _ H nx ⟨i, ⟨g, rfl⟩, hi, hz⟩
  by_cases hj : j = 0
  · have h0 : vp a a.length = 0 := (vp_nz _).2 fun t ht => hz t (by omega)
    simp (maxSteps := 4000000) (disch := omega) only [go_sem, ↓reduceIte, Nat.reduceAdd, Nat.reduceSub, Nat.reduceMul, Nat.reduceEqDiff, reduceCtorEq, Int.reduceAdd, Int.reduceLT, Int.reduceLE, Int.reduceToNat, Int.reduceNeg, Int.reduceSub, ← List.map_take, ← List.map_drop, wrap64, wrapu64, wrapu32, ← Int.natCast_add, ← Int.natCast_mul, cast_succ, wrapu32_nat, shr32, reps_wd, map_set_wd, List.length_set, zs_len]
    exact ⟨-1, rfl, by omega, fun h => absurd h0 h⟩
  · by_cases h : a.getD i 0 = 0
    · have h1 := right1_spec (a.getD i 0)
      rw [decide_eq_true h, Bool.not_true] at h1
      simp (maxSteps := 4000000) (disch := omega) only [go_sem, ↓reduceIte, Nat.reduceAdd, Nat.reduceSub, Nat.reduceMul, Nat.reduceEqDiff, reduceCtorEq, Int.reduceAdd, Int.reduceLT, Int.reduceLE, Int.reduceToNat, Int.reduceNeg, Int.reduceSub, ← List.map_take, ← List.map_drop, wrap64, wrapu64, wrapu32, ← Int.natCast_add, ← Int.natCast_mul, cast_succ, wrapu32_nat, shr32, reps_wd, map_set_wd, List.length_set, zs_len, h1]
      refine ⟨j - 1, by omega, i + 1, garb rfl, by omega, fun t ht => ?_⟩
      by_cases hti : t = i
      · subst hti; exact h
      · exact hz t (by omega)
    · have h1 := right1_spec (a.getD i 0)
      rw [decide_eq_false h, Bool.not_false] at h1
      simp (maxSteps := 4000000) (disch := omega) only [go_sem, ↓reduceIte, Nat.reduceAdd, Nat.reduceSub, Nat.reduceMul, Nat.reduceEqDiff, reduceCtorEq, Int.reduceAdd, Int.reduceLT, Int.reduceLE, Int.reduceToNat, Int.reduceNeg, Int.reduceSub, ← List.map_take, ← List.map_drop, wrap64, wrapu64, wrapu32, ← Int.natCast_add, ← Int.natCast_mul, cast_succ, wrapu32_nat, shr32, reps_wd, map_set_wd, List.length_set, zs_len, h1]
      exact ⟨i, rfl, fun _ e => h ((vp_nz _).1 e i (by omega)), fun _ => by omega⟩
theorem contains_spec (m : Bool) (a : List Nat) (la : a.length < 2 ^ 60) : denP E 90 [.lst m (a.map wd), .fn 91 [] []] = some (.ret (.bool (!decide (vp a a.length = 0)))) := by
  obtain ⟨r, h1, h2⟩ := idx0_walk m a la
  refine denP_eq E90 rfl (by simp [AV.pureL, AV.pure, pure_wd]) ?_
  by_cases h : vp a a.length = 0
  · have : ¬ 0 ≤ r := fun h' => h2.1 h' h
    rw [decide_eq_true h]
    simp (maxSteps := 4000000) (disch := omega) only [go_sem, ↓reduceIte, Nat.reduceAdd, Nat.reduceSub, Nat.reduceMul, Nat.reduceEqDiff, reduceCtorEq, Int.reduceAdd, Int.reduceLT, Int.reduceLE, Int.reduceToNat, Int.reduceNeg, Int.reduceSub, ← List.map_take, ← List.map_drop, wrap64, wrapu64, wrapu32, ← Int.natCast_add, ← Int.natCast_mul, cast_succ, wrapu32_nat, shr32, reps_wd, map_set_wd, List.length_set, zs_len, Try.f90, h1]
  · have : 0 ≤ r := h2.2 h
    rw [decide_eq_false h]
    simp (maxSteps := 4000000) (disch := omega) only [go_sem, ↓reduceIte, Nat.reduceAdd, Nat.reduceSub, Nat.reduceMul, Nat.reduceEqDiff, reduceCtorEq, Int.reduceAdd, Int.reduceLT, Int.reduceLE, Int.reduceToNat, Int.reduceNeg, Int.reduceSub, ← List.map_take, ← List.map_drop, wrap64, wrapu64, wrapu32, ← Int.natCast_add, ← Int.natCast_mul, cast_succ, wrapu32_nat, shr32, reps_wd, map_set_wd, List.length_set, zs_len, Try.f90, h1]
theorem getD_range (f : Nat → Nat) {n i : Nat} (h : i < n) : ((List.range n).map f).getD i 0 = f i := by
  rw [List.getD_eq_getElem?_getD, List.getElem?_map, List.getElem?_range h]; rfl
/-- What the bits below a place are. -/
theorem mask_low {x k : Nat} (hk : k < 32) (hx : x < 4294967296) : IntKind.u32.wrap ((BitVec.ofInt (kb .u32) (x : Int) &&& BitVec.ofInt (kb .u32) (IntKind.u32.wrap (IntKind.u32.wrap (1 * 2 ^ min k (kb .u32)) - 1))).toNat : Int) = ((x % 2 ^ k : Nat) : Int) := by
  have h1 := pow_lt32 hk
  have h0 : 0 < 2 ^ k := Nat.pow_pos (by decide)
  rw [show min k (kb .u32) = k from Nat.min_eq_left (by show k ≤ 32; omega)]
  have e : (1 : Int) * 2 ^ k = ((2 ^ k : Nat) : Int) := by push_cast; rw [Int.one_mul]
  rw [e, wrapu32 (x := ((2 ^ k : Nat) : Int)) (by omega) (by omega)]
  have e2 : ((2 ^ k : Nat) : Int) - 1 = ((2 ^ k - 1 : Nat) : Int) := by omega
  rw [e2, wrapu32 (x := ((2 ^ k - 1 : Nat) : Int)) (by omega) (by omega), and32b hx (by omega), Nat.and_two_pow_sub_one_eq_mod]
theorem shl32 {y : Nat} (h : y < 4294967296) : IntKind.u64.wrap ((y : Int) * 2 ^ min 32 (kb .u64)) = ((y * 4294967296 : Nat) : Int) := by
  rw [show min 32 (kb .u64) = 32 from rfl, show (y : Int) * 2 ^ 32 = ((y * 4294967296 : Nat) : Int) by rw [Int.natCast_mul]; rfl]
  exact wrapu64 (by omega) (by omega)
theorem or_high {x y : Nat} (hx : x < 4294967296) (hy : y < 4294967296) : IntKind.u64.wrap ((BitVec.ofInt (kb .u64) (x : Int) ||| BitVec.ofInt (kb .u64) ((y * 4294967296 : Nat) : Int)).toNat : Int) = ((x + y * 4294967296 : Nat) : Int) := by
  rw [or64 (by omega) (by omega), show (4294967296 : Nat) = 2 ^ 32 from rfl, or_add hx]
theorem shr_k {x k : Nat} (hk : k < 32) : (x : Int).fdiv (2 ^ min k (kb .u64)) = ((x / 2 ^ k : Nat) : Int) := by
  rw [shr_nat, show min k (kb .u64) = k from Nat.min_eq_left (by show k ≤ 64; omega)]
theorem val_nz {a : List Nat} (h : Norm a) (h0 : a.length ≠ 0) : val a ≠ 0 := by
  have := norm_pos h (fun e => h0 (by rw [e]; rfl)); omega
theorem right_spec (m : Bool) (a : List Nat) (n : Nat) (hn : Norm a) (la : a.length < 2 ^ 38) (ln : n < 2 ^ 38) : denP E 82 [.lst m (a.map wd), .int .i64 n] = some (.ret (.tup [.lst (decide (a.length ≤ n / 32)) ((dig (val a / 2 ^ n)).map wd), .bool (!decide (val a % 2 ^ n = 0))])) := by
  have ha := hn.1
  refine denP_eq E82 rfl (by simp [AV.pureL, AV.pure, pure_wd]) ?_
  have e1 : (n : Int).tdiv 32 = ((n / 32 : Nat) : Int) := rfl
  have e2 : (n : Int).tmod 32 = ((n % 32 : Nat) : Int) := rfl
  have hpow := pow32 n
  generalize hq : n / 32 = q at *
  generalize hk : n % 32 = k at *
  have hk' : k < 32 := by omega
  have hq' : q < 2 ^ 38 := by omega
  by_cases hql : a.length ≤ q
  · have hlt : val a < 2 ^ n := by
      have h1 := val_lt ha
      have h2 : BB ^ a.length ≤ BB ^ q := Nat.pow_le_pow_right (by decide) hql
      have h3 : 1 * BB ^ q ≤ 2 ^ k * BB ^ q := Nat.mul_le_mul_right _ (Nat.pow_pos (by decide))
      rw [hpow]; omega
    rw [decide_eq_true hql, Nat.div_eq_of_lt hlt, Nat.mod_eq_of_lt hlt, dig_zero]
    by_cases h0 : a.length = 0
    · have : val a = 0 := by rw [List.length_eq_zero_iff.1 h0]; rfl
      rw [decide_eq_true this]
      simp (maxSteps := 4000000) (disch := omega) only [go_sem, ↓reduceIte, Nat.reduceAdd, Nat.reduceSub, Nat.reduceMul, Nat.reduceEqDiff, reduceCtorEq, Int.reduceAdd, Int.reduceLT, Int.reduceLE, Int.reduceToNat, Int.reduceNeg, Int.reduceSub, ← List.map_take, ← List.map_drop, wrap64, wrapu64, wrapu32, ← Int.natCast_add, ← Int.natCast_mul, cast_succ, wrapu32_nat, shr32, reps_wd, map_set_wd, List.length_set, zs_len, Try.f82, e1, e2]
    · rw [decide_eq_false (val_nz hn h0)]
      simp (maxSteps := 4000000) (disch := omega) only [go_sem, ↓reduceIte, Nat.reduceAdd, Nat.reduceSub, Nat.reduceMul, Nat.reduceEqDiff, reduceCtorEq, Int.reduceAdd, Int.reduceLT, Int.reduceLE, Int.reduceToNat, Int.reduceNeg, Int.reduceSub, ← List.map_take, ← List.map_drop, wrap64, wrapu64, wrapu32, ← Int.natCast_add, ← Int.natCast_mul, cast_succ, wrapu32_nat, shr32, reps_wd, map_set_wd, List.length_set, zs_len, Try.f82, e1, e2]
  · rw [decide_eq_false hql]
    obtain ⟨b, hb⟩ : ∃ b, b = a.drop q := ⟨_, rfl⟩
    have hbl : b.length = a.length - q := by rw [hb, List.length_drop]
    have hbr : InR b := by rw [hb]; exact ha.drop q
    have hsplit := val_split (a := a) (q := q) (by omega)
    rw [← hb] at hsplit
    have htl : (a.take q).length = q := by rw [List.length_take]; omega
    have hc := contains_spec m (a.take q) (by omega)
    rw [htl, vp_congr q (fun i hi => getD_take hi)] at hc
    have b0 := hbr.get 0
    have em := mask_low hk' b0
    have hb0 : b[0]? = some (b.getD 0 0) := by
      rw [List.getD_eq_getElem?_getD, List.getElem?_eq_getElem (by omega)]; rfl
    have hp0 : 0 < BB ^ q := Nat.pow_pos (by decide)
    have hp1 : 0 < 2 ^ k := Nat.pow_pos (by decide)
    have hvq := vp_lt ha q
    -- what is handed back
    have fin : ∀ o : List Nat, o.length = b.length → (∀ i, i < b.length → o.getD i 0 = (b.getD i 0 + b.getD (i + 1) 0 * 4294967296) / 2 ^ k % 4294967296) →
        val o = val a / 2 ^ n ∧ (val a % 2 ^ n = 0 ↔ vp a q = 0 ∧ b.getD 0 0 % 2 ^ k = 0) := by
      intro o ho hf
      have h1 := right_val hk' hbr ho hf
      have h2 : b.getD 0 0 % 2 ^ k < 2 ^ k := Nat.mod_lt _ hp1
      generalize b.getD 0 0 % 2 ^ k = r at *
      have h3 : val a = (vp a q + BB ^ q * r) + 2 ^ n * val o := by
        rw [hsplit, h1, hpow]; generalize BB ^ q = z; generalize 2 ^ k = w; generalize val o = v; grind
      have h4 : vp a q + BB ^ q * r < 2 ^ n := by
        have : BB ^ q * (r + 1) ≤ BB ^ q * 2 ^ k := Nat.mul_le_mul_left _ h2
        rw [hpow, Nat.mul_comm (2 ^ k)]
        rw [Nat.mul_add] at this; omega
      constructor
      · rw [h3, Nat.add_mul_div_left _ _ (Nat.pow_pos (by decide)), Nat.div_eq_of_lt h4, Nat.zero_add]
      · rw [h3, Nat.add_mul_mod_self_left, Nat.mod_eq_of_lt h4, Nat.add_eq_zero_iff, Nat.mul_eq_zero]
        constructor
        · rintro ⟨x, y⟩; exact ⟨x, y.resolve_left (by omega)⟩
        · rintro ⟨x, y⟩; exact ⟨x, .inr y⟩
    have hlost : val a % 2 ^ n = 0 ↔ vp a q = 0 ∧ b.getD 0 0 % 2 ^ k = 0 := by
      refine (fin ((List.range b.length).map fun i => (b.getD i 0 + b.getD (i + 1) 0 * 4294967296) / 2 ^ k % 4294967296) (by rw [List.length_map, List.length_range]) fun i hi => ?_).2
      exact getD_range _ hi
    have hb' : a.drop q = b := hb.symm
    have e3 : (a.length : Int) - q = (b.length : Int) := by omega
    simp (maxSteps := 4000000) (disch := omega) only [go_sem, ↓reduceIte, Nat.reduceAdd, Nat.reduceSub, Nat.reduceMul, Nat.reduceEqDiff, reduceCtorEq, Int.reduceAdd, Int.reduceLT, Int.reduceLE, Int.reduceToNat, Int.reduceNeg, Int.reduceSub, ← List.map_take, ← List.map_drop, wrap64, wrapu64, wrapu32, ← Int.natCast_add, ← Int.natCast_mul, cast_succ, wrapu32_nat, shr32, reps_wd, map_set_wd, List.length_set, zs_len, Try.f82, e1, e2, cutBounds, hc, List.take_of_length_le, hb']
    refine wantK_mono (Q := fun e σ => e = .norm ∧ (∃ g : Nat → AV, σ.sl = [.lst m (b.map wd), g 1, g 2, g 3, g 4, g 5, .bool (!decide (val a % 2 ^ n = 0)), .int .u64 k, g 8, g 9, g 10, g 11, g 12, g 13, g 14, g 15, g 16, g 17, g 18, g 19, g 20, g 21, g 22, g 23, g 24, g 25, g 26, g 27, g 28, g 29, g 30, g 31, g 32, g 33, g 34, g 35, g 36, g 37, g 38, g 39, g 40, g 41, g 42, g 43, g 44, g 45, g 46, g 47, g 48, g 49, g 50, g 51, g 52, g 53, g 54, g 55, g 56, g 57, g 58, g 59, g 60, g 61, g 62, g 63, g 64, g 65, g 66, g 67, g 68, g 69, g 70, g 71, g 72, g 73, g 74, g 75, g 76, g 77, g 78, g 79]) ∧ σ.nx = 0 ∧ σ.h = Heap.empty) ?_ ?_
    · rintro e ⟨sl, h, nx⟩ ⟨rfl, ⟨g, hs⟩, rfl, rfl⟩
      dsimp only at hs
      subst hs
      generalize (!decide (val a % 2 ^ n = 0)) = lost at *
      have hb2 := hbr
      clear hc em hlost e1 e2 e3 hpow hsplit hvq hn ha
      simp (maxSteps := 4000000) (disch := omega) only [go_sem, ↓reduceIte, Nat.reduceAdd, Nat.reduceSub, Nat.reduceMul, Nat.reduceEqDiff, reduceCtorEq, Int.reduceAdd, Int.reduceLT, Int.reduceLE, Int.reduceToNat, Int.reduceNeg, Int.reduceSub, ← List.map_take, ← List.map_drop, wrap64, wrapu64, wrapu32, ← Int.natCast_add, ← Int.natCast_mul, cast_succ, wrapu32_nat, shr32, reps_wd, map_set_wd, List.length_set, zs_len]
      refine W_loopS (fun j sl H nx => ∃ (i : Nat) (o : List Nat), (∃ g : Nat → AV, sl = [.lst m (b.map wd), g 1, g 2, g 3, g 4, g 5, .bool lost, .int .u64 k, .ref 0 0 b.length, g 9, g 10, g 11, g 12, g 13, g 14, g 15, g 16, g 17, g 18, g 19, g 20, g 21, g 22, g 23, g 24, g 25, g 26, g 27, g 28, g 29, g 30, g 31, g 32, g 33, g 34, g 35, g 36, g 37, g 38, g 39, g 40, g 41, g 42, g 43, g 44, g 45, .lst m (b.map wd), .int .i64 b.length, .int .i64 i, g 49, g 50, g 51, g 52, g 53, g 54, g 55, g 56, g 57, g 58, g 59, g 60, g 61, g 62, g 63, g 64, g 65, g 66, g 67, g 68, g 69, g 70, g 71, g 72, g 73, g 74, g 75, g 76, g 77, g 78, g 79]) ∧ nx = 1 ∧
        H 0 = some ⟨o.map wd, false, 1, false⟩ ∧ o.length = b.length ∧ InR o ∧ i + j = b.length ∧ Hd (∀ t, t < i → o.getD t 0 = (b.getD t 0 + b.getD (t + 1) 0 * 4294967296) / 2 ^ k % 4294967296)) b.length
        ⟨0, _, garb rfl, rfl, rfl, zs_len _, zs_inR _, by omega, ⟨fun t ht => by omega⟩⟩ ?_
      rintro j _ H _ ⟨i, o, ⟨g, rfl⟩, rfl, hH, ho, hr, hi, hv⟩
      by_cases hj : j = 0
      · obtain rfl : i = b.length := by omega
        have hval := (fin o ho hv.out).1
        have ht := trim_spec false o hr (by omega)
        rw [hval] at ht
        clear hv fin
        simp (maxSteps := 4000000) (disch := omega) only [go_sem, ↓reduceIte, Nat.reduceAdd, Nat.reduceSub, Nat.reduceMul, Nat.reduceEqDiff, reduceCtorEq, Int.reduceAdd, Int.reduceLT, Int.reduceLE, Int.reduceToNat, Int.reduceNeg, Int.reduceSub, ← List.map_take, ← List.map_drop, wrap64, wrapu64, wrapu32, ← Int.natCast_add, ← Int.natCast_mul, cast_succ, wrapu32_nat, shr32, reps_wd, map_set_wd, List.length_set, zs_len, hH, ho, List.take_of_length_le, ht]
      · have hx := hbr.get i
        have hy := hbr.get (i + 1)
        have e5 := or_high hx hy
        have e6 := shl32 hy
        obtain ⟨Y, hY⟩ : ∃ Y, Y = b.getD (i + 1) 0 * 4294967296 := ⟨_, rfl⟩
        obtain ⟨X, hX⟩ : ∃ X, X = b.getD i 0 + Y := ⟨_, rfl⟩
        rw [← hY, ← hX] at e5
        rw [← hY] at e6
        clear fin
        have stp : ∀ x : Nat, x = (b.getD i 0 + b.getD (i + 1) 0 * 4294967296) / 2 ^ k % 4294967296 → Hd (∀ t, t < i + 1 → (o.set i x).getD t 0 = (b.getD t 0 + b.getD (t + 1) 0 * 4294967296) / 2 ^ k % 4294967296) := by
          intro x hx
          refine ⟨fun t ht => ?_⟩
          by_cases hti : t = i
          · subst hti; rw [lget_set_self (by omega)]; exact hx
          · rw [lget_set_ne (by omega)]; exact hv.out t (by omega)
        by_cases hlast : i + 1 < b.length
        · simp (maxSteps := 4000000) (disch := omega) only [go_sem, ↓reduceIte, Nat.reduceAdd, Nat.reduceSub, Nat.reduceMul, Nat.reduceEqDiff, reduceCtorEq, Int.reduceAdd, Int.reduceLT, Int.reduceLE, Int.reduceToNat, Int.reduceNeg, Int.reduceSub, ← List.map_take, ← List.map_drop, wrap64, wrapu64, wrapu32, ← Int.natCast_add, ← Int.natCast_mul, cast_succ, wrapu32_nat, shr32, reps_wd, map_set_wd, List.length_set, zs_len, hH, ho, e5, e6, shr_k]
          exact ⟨j - 1, by omega, i + 1, o.set i (X / 2 ^ k % 4294967296), garb rfl, rfl, by rw [List.length_set, ho], hr.set (Nat.mod_lt _ (by decide)), by omega, stp _ (by rw [hX, hY])⟩
        · have h0 := getD_ge (l := b) (i := i + 1) (by omega)
          simp (maxSteps := 4000000) (disch := omega) only [go_sem, ↓reduceIte, Nat.reduceAdd, Nat.reduceSub, Nat.reduceMul, Nat.reduceEqDiff, reduceCtorEq, Int.reduceAdd, Int.reduceLT, Int.reduceLE, Int.reduceToNat, Int.reduceNeg, Int.reduceSub, ← List.map_take, ← List.map_drop, wrap64, wrapu64, wrapu32, ← Int.natCast_add, ← Int.natCast_mul, cast_succ, wrapu32_nat, shr32, reps_wd, map_set_wd, List.length_set, zs_len, hH, ho, shr_k]
          exact ⟨j - 1, by omega, i + 1, o.set i (b.getD i 0 / 2 ^ k % 4294967296), garb rfl, rfl, by rw [List.length_set, ho], hr.set (Nat.mod_lt _ (by decide)), by omega, stp _ (by rw [h0, Nat.zero_mul, Nat.add_zero])⟩
    · by_cases hl : vp a q = 0
      · rw [decide_eq_true hl]
        by_cases hr : b.getD 0 0 % 2 ^ k = 0
        · rw [decide_eq_true (hlost.2 ⟨hl, hr⟩)]
          rw [hr] at em
          clear fin hlost
          simp (maxSteps := 4000000) (disch := omega) only [go_sem, ↓reduceIte, Nat.reduceAdd, Nat.reduceSub, Nat.reduceMul, Nat.reduceEqDiff, reduceCtorEq, Int.reduceAdd, Int.reduceLT, Int.reduceLE, Int.reduceToNat, Int.reduceNeg, Int.reduceSub, ← List.map_take, ← List.map_drop, wrap64, wrapu64, wrapu32, ← Int.natCast_add, ← Int.natCast_mul, cast_succ, wrapu32_nat, shr32, reps_wd, map_set_wd, List.length_set, zs_len, em]
          exact garb rfl
        · rw [decide_eq_false (fun h => hr (hlost.1 h).2)]
          clear fin hlost
          simp (maxSteps := 4000000) (disch := omega) only [go_sem, ↓reduceIte, Nat.reduceAdd, Nat.reduceSub, Nat.reduceMul, Nat.reduceEqDiff, reduceCtorEq, Int.reduceAdd, Int.reduceLT, Int.reduceLE, Int.reduceToNat, Int.reduceNeg, Int.reduceSub, ← List.map_take, ← List.map_drop, wrap64, wrapu64, wrapu32, ← Int.natCast_add, ← Int.natCast_mul, cast_succ, wrapu32_nat, shr32, reps_wd, map_set_wd, List.length_set, zs_len, em]
          exact garb rfl
      · rw [decide_eq_false hl, decide_eq_false (fun h => hl (hlost.1 h).1)]
        clear fin hlost
        simp (maxSteps := 4000000) (disch := omega) only [go_sem, ↓reduceIte, Nat.reduceAdd, Nat.reduceSub, Nat.reduceMul, Nat.reduceEqDiff, reduceCtorEq, Int.reduceAdd, Int.reduceLT, Int.reduceLE, Int.reduceToNat, Int.reduceNeg, Int.reduceSub, ← List.map_take, ← List.map_drop, wrap64, wrapu64, wrapu32, ← Int.natCast_add, ← Int.natCast_mul, cast_succ, wrapu32_nat, shr32, reps_wd, map_set_wd, List.length_set, zs_len]
        exact garb rfl
end Go.Proofs.Ytiglncbaomoceaa

/- Plain facts: dividing rows of words, word by word. (Own work of this repo.) -/
namespace Vm

/-- What n words from place j on are worth. -/
def wv (o : List Nat) (j : Nat) : Nat → Nat
  | 0 => 0
  | k + 1 => wv o j k + o.getD (j + k) 0 * BB ^ k
theorem vp_wv (o : List Nat) (j : Nat) : ∀ n, vp o (j + n) = vp o j + BB ^ j * wv o j n
  | 0 => by simp [wv]
  | n + 1 => by
    rw [← Nat.add_assoc, vp, vp_wv o j n, wv, Nat.mul_add, Nat.pow_add, Nat.add_assoc]
    congr 2
    rw [Nat.mul_comm (BB ^ j) (BB ^ n), ← Nat.mul_assoc, Nat.mul_comm (BB ^ j)]
theorem wv_lt {o : List Nat} (h : InR o) (j : Nat) : ∀ n, wv o j n < BB ^ n
  | 0 => by simp [wv]
  | n + 1 => by
    have h1 := wv_lt h j n
    have h2 := h.get (j + n)
    rw [wv, Nat.pow_succ, Nat.mul_comm (BB ^ n)]
    have h3 : (o.getD (j + n) 0 + 1) * BB ^ n ≤ BB * BB ^ n := Nat.mul_le_mul_right _ h2
    rw [Nat.add_mul] at h3
    omega
theorem wv_set (o : List Nat) (j i x : Nat) : ∀ n, n ≤ i → wv (o.set (j + i) x) j n = wv o j n
  | 0, _ => rfl
  | n + 1, h => by rw [wv, wv, wv_set o j i x n (by omega), lget_set_ne (by omega)]
theorem wv_congr {o p : List Nat} {j : Nat} : ∀ n, (∀ t, j ≤ t → t < j + n → o.getD t 0 = p.getD t 0) → wv o j n = wv p j n
  | 0, _ => rfl
  | n + 1, h => by rw [wv, wv, wv_congr n (fun t h1 h2 => h t h1 (by omega)), h (j + n) (by omega) (by omega)]
theorem split_mul' (s p : Nat) : s % 4294967296 * p + s / 4294967296 * (p * BB) = s * p := split_mul s p
/-- One word of a multiple is subtracted. -/
theorem ms_step {o p v : List Nat} {j i q c0 b0 b1 w x : Nat} (hp : j + i < p.length) (hv : wv p j i + q * vp v i = wv o j i + (c0 + b0) * BB ^ i) (hx : x = q * v.getD i 0 + c0)
    (hw : w + x % 4294967296 + b0 = o.getD (j + i) 0 + b1 * 4294967296) :
    wv (p.set (j + i) w) j (i + 1) + q * vp v (i + 1) = wv o j (i + 1) + (x / 4294967296 + b1) * BB ^ (i + 1) := by
  rw [wv, wv, vp, wv_set p j i w i (Nat.le_refl _), lget_set_self hp, Nat.pow_succ]
  have h1 := split_mul' x (BB ^ i)
  have e : BB = 4294967296 := rfl
  have h2 : w * BB ^ i + x % 4294967296 * BB ^ i + b0 * BB ^ i = o.getD (j + i) 0 * BB ^ i + b1 * (BB ^ i * BB) := by
    rw [← Nat.add_mul, ← Nat.add_mul, hw, Nat.add_mul, Nat.mul_assoc b1, Nat.mul_comm (BB ^ i)]
  have h3 : x * BB ^ i = q * (v.getD i 0 * BB ^ i) + c0 * BB ^ i := by rw [hx, Nat.add_mul, Nat.mul_assoc]
  rw [Nat.mul_add, Nat.add_mul]
  rw [Nat.add_mul] at hv
  omega
theorem ms_last {o p : List Nat} {j n c w b C : Nat} (hp : j + n < p.length) (hv : wv p j n + C = wv o j n + c * BB ^ n) (hw : w + c = o.getD (j + n) 0 + b * 4294967296) :
    wv (p.set (j + n) w) j (n + 1) + C = wv o j (n + 1) + b * BB ^ (n + 1) := by
  rw [wv, wv, wv_set p j n w n (Nat.le_refl _), lget_set_self hp, Nat.pow_succ]
  have e : BB = 4294967296 := rfl
  have h2 : w * BB ^ n + c * BB ^ n = o.getD (j + n) 0 * BB ^ n + b * (BB ^ n * BB) := by
    rw [← Nat.add_mul, hw, Nat.add_mul, Nat.mul_assoc b, Nat.mul_comm (BB ^ n)]
  omega
/-- One word is added. -/
theorem as_step {o p v : List Nat} {j i c s : Nat} (hp : j + i < p.length) (hv : wv p j i + c * BB ^ i = wv o j i + vp v i) (hs : s = c + o.getD (j + i) 0 + v.getD i 0) :
    wv (p.set (j + i) (s % 4294967296)) j (i + 1) + s / 4294967296 * BB ^ (i + 1) = wv o j (i + 1) + vp v (i + 1) := by
  have h := split_mul' s (BB ^ i)
  rw [wv, wv, vp, wv_set p j i _ i (Nat.le_refl _), lget_set_self hp, Nat.pow_succ]
  have h3 : s * BB ^ i = c * BB ^ i + o.getD (j + i) 0 * BB ^ i + v.getD i 0 * BB ^ i := by rw [hs, Nat.add_mul, Nat.add_mul]
  omega
theorem as_last {P p : List Nat} {j n c w V : Nat} (hp : j + n < p.length) (hv : wv p j n + c * BB ^ n = wv P j n + V) (hw : w = P.getD (j + n) 0 + c) :
    wv (p.set (j + n) (w % 4294967296)) j (n + 1) + w / 4294967296 * BB ^ (n + 1) = wv P j (n + 1) + V := by
  have h := split_mul' w (BB ^ n)
  rw [wv, wv, wv_set p j n _ n (Nat.le_refl _), lget_set_self hp, Nat.pow_succ]
  have h3 : w * BB ^ n = P.getD (j + n) 0 * BB ^ n + c * BB ^ n := by rw [hw, Nat.add_mul]
  omega
/-- The guess is too great: it may fall. -/
theorem kn_dec {q r v1 v2 u2 top U V p : Nat} (ht : q * v1 + r = top) (hV : (v1 * 4294967296 + v2) * p ≤ V) (hU : U < (top * 4294967296 + u2 + 1) * p) (hUV : U < V * 4294967296)
    (h : 4294967296 ≤ q ∨ r * 4294967296 + u2 < q * v2) : U < q * V := by
  rcases h with h | h
  · have : 4294967296 * V ≤ q * V := Nat.mul_le_mul_right _ h
    rw [Nat.mul_comm V] at hUV
    omega
  · have h1 : top * 4294967296 + u2 + 1 ≤ q * (v1 * 4294967296 + v2) := by
      rw [Nat.mul_add, ← Nat.mul_assoc, ← ht, Nat.add_mul]; omega
    have h2 := Nat.mul_le_mul_right p h1
    have h3 : q * (v1 * 4294967296 + v2) * p ≤ q * V := by rw [Nat.mul_assoc]; exact Nat.mul_le_mul_left _ hV
    omega
/-- The guess is one too great at most. -/
theorem kn_end {q r v1 v2 u2 top U V p : Nat} (ht : q * v1 + r = top) (hv1 : 1 ≤ v1) (hV : (v1 * 4294967296 + v2) * p ≤ V) (hV2 : V < (v1 * 4294967296 + v2 + 1) * p) (hU : (top * 4294967296 + u2) * p ≤ U)
    (hq : q < 4294967296) (hv2 : v2 < 4294967296) (h : q * v2 ≤ r * 4294967296 + u2 ∨ 4294967296 ≤ r) : q * V ≤ U + V := by
  have h0 : q * v2 ≤ r * 4294967296 + u2 := by
    rcases h with h | h
    · exact h
    · have := Nat.mul_le_mul (Nat.le_of_lt hq) (Nat.le_of_lt hv2)
      omega
  have h1 : q * (v1 * 4294967296 + v2 + 1) ≤ top * 4294967296 + u2 + q := by
    rw [Nat.mul_add, Nat.mul_add, ← Nat.mul_assoc, ← ht, Nat.add_mul]; omega
  have h2 := Nat.mul_le_mul_right p h1
  have h3 : q * V ≤ q * (v1 * 4294967296 + v2 + 1) * p := by rw [Nat.mul_assoc]; exact Nat.mul_le_mul_left _ (Nat.le_of_lt hV2)
  have h4 : q * p ≤ V := by
    refine Nat.le_trans ?_ hV
    refine Nat.mul_le_mul_right _ ?_
    have : 1 * 4294967296 ≤ v1 * 4294967296 := Nat.mul_le_mul_right _ hv1
    omega
  rw [Nat.add_mul] at h2
  omega
theorem kn_fin0 {q U V u' : Nat} (h1 : u' + q * V = U) (h2 : U < (q + 1) * V) : q = U / V ∧ u' = U % V := by
  have hV : 0 < V := by
    rcases Nat.eq_zero_or_pos V with h | h
    · subst h; simp at h2
    · exact h
  rw [Nat.add_mul, Nat.one_mul] at h2
  have h3 : u' < V := by omega
  constructor
  · symm; rw [← h1, Nat.add_mul_div_right _ _ hV, Nat.div_eq_of_lt h3, Nat.zero_add]
  · rw [← h1, Nat.add_mul_mod_self_right, Nat.mod_eq_of_lt h3]
theorem kn_fin0' {q U V u' b w : Nat} (h1 : u' + q * V = U + b * w) (hb : b = 0) (h2 : U < (q + 1) * V) : q = U / V ∧ u' = U % V := by
  rw [hb, Nat.zero_mul] at h1
  exact kn_fin0 h1 h2
theorem kn_one {A U b w : Nat} (h1 : A = U + b * w) (hb : b = 1) : A = U + w := by rw [h1, hb, Nat.one_mul]
theorem kn_fin1 {q U V u' : Nat} (h1 : U < q * V) (h2 : q * V ≤ U + V) (h3 : u' + q * V = U + V) : q - 1 = U / V ∧ u' = U % V ∧ 1 ≤ q := by
  have hq : 1 ≤ q := by
    rcases Nat.eq_zero_or_pos q with h | h
    · subst h; simp at h1
    · exact h
  obtain ⟨k, rfl⟩ : ∃ k, q = k + 1 := ⟨q - 1, by omega⟩
  rw [Nat.add_mul, Nat.one_mul] at h3 h1
  have := kn_fin0 (q := k) (U := U) (V := V) (u' := u') (by omega) (by rw [Nat.add_mul]; omega)
  exact ⟨by simpa using this.1, this.2, hq⟩
theorem kn_back {U V q P A t n : Nat} (hA : A + q * V = U + BB ^ n) (hP : P + t * BB ^ n = A + V) (hPl : P < BB ^ n) (h2 : q * V ≤ U + V) (hVl : V ≤ BB ^ n) (h1 : U < q * V) : P + q * V = U + V := by
  -- t is 1
  have h3 : P + t * BB ^ n + q * V = U + BB ^ n + V := by omega
  have ht : t = 1 := by
    rcases Nat.lt_or_ge t 1 with h | h
    · have : t = 0 := by omega
      subst this; omega
    · rcases Nat.lt_or_ge 1 t with h4 | h4
      · have : 2 * BB ^ n ≤ t * BB ^ n := Nat.mul_le_mul_right _ h4
        omega
      · omega
  subst ht
  omega
/-- The words of a number above its length are zeros. -/
theorem vp_val {o : List Nat} {m : Nat} (h : val o < BB ^ m) : vp o m = val o := by
  rcases Nat.lt_or_ge m o.length with hm | hm
  · have h1 := vp_wv o m (o.length - m)
    rw [show m + (o.length - m) = o.length by omega] at h1
    have h2 : wv o m (o.length - m) = 0 := by
      rcases Nat.eq_zero_or_pos (wv o m (o.length - m)) with h0 | h0
      · exact h0
      · have : BB ^ m * 1 ≤ BB ^ m * wv o m (o.length - m) := Nat.mul_le_mul_left _ h0
        rw [val] at h; omega
    rw [h2, Nat.mul_zero, Nat.add_zero] at h1
    exact h1.symm
  · exact vp_ge o m hm
theorem getD_of_lt {o : List Nat} {m i : Nat} (h : val o < BB ^ m) (hi : m ≤ i) : o.getD i 0 = 0 := by
  have h1 := vp_val h
  have h2 : vp o (i + 1) = val o := vp_val (Nat.lt_of_lt_of_le h (Nat.pow_le_pow_right (by decide) (by omega)))
  have h3 : vp o i = val o := vp_val (Nat.lt_of_lt_of_le h (Nat.pow_le_pow_right (by decide) hi))
  rw [vp, h3] at h2
  have h4 : o.getD i 0 * BB ^ i = 0 := by omega
  rcases Nat.mul_eq_zero.1 h4 with h5 | h5
  · exact h5
  · exact absurd h5 (Nat.ne_of_gt (Nat.pow_pos (by decide)))
theorem val_of_zero {o : List Nat} {m : Nat} (h : ∀ i, m ≤ i → o.getD i 0 = 0) : val o = vp o m := by
  rcases Nat.lt_or_ge m o.length with hm | hm
  · have h1 := vp_hi (a := o) (b := List.replicate m 0) (k := m) o.length (by omega) (fun t h2 h3 => by rw [h t h2, getD_replicate])
    rw [vp_replicate, vp_replicate] at h1
    rw [val]; omega
  · exact (vp_ge o m hm).symm
theorem val_set0 {o : List Nat} {j x : Nat} (hj : j < o.length) (h : o.getD j 0 = 0) : val (o.set j x) = val o + x * BB ^ j := by
  have h1 := vp_hi (a := o.set j x) (b := o) (k := j + 1) o.length (by omega) (fun t h2 h3 => by rw [lget_set_ne (by omega)])
  rw [vp, vp, vp_set o j x j (Nat.le_refl _), lget_set_self hj, h] at h1
  rw [val, val, List.length_set]; omega
/-- One word of the quotient. -/
theorem kn_outer {o p out : List Nat} {V X j n : Nat} (ho : InR o) (hVn : V < BB ^ n) (hj : j < out.length) (h1 : val o + val out * V = X) (h2 : val o < V * BB ^ (j + 1)) (h3 : out.getD j 0 = 0)
    (hp : wv p j (n + 1) = wv o j (n + 1) % V) (hs : ∀ t, t < j ∨ j + n + 1 ≤ t → p.getD t 0 = o.getD t 0) :
    val p + val (out.set j (wv o j (n + 1) / V)) * V = X ∧ val p < V * BB ^ j := by
  have hlt : val o < BB ^ (j + (n + 1)) := by
    refine Nat.lt_of_lt_of_le h2 ?_
    rw [show j + (n + 1) = n + (j + 1) by omega, Nat.pow_add BB n (j + 1)]
    exact Nat.mul_le_mul_right _ (Nat.le_of_lt hVn)
  have e1 : val o = vp o j + BB ^ j * wv o j (n + 1) := by rw [← vp_wv, vp_val hlt]
  have e2 : val p = vp o j + BB ^ j * (wv o j (n + 1) % V) := by
    rw [val_of_zero (m := j + (n + 1)) (fun i hi => by rw [hs i (.inr (by omega)), getD_of_lt hlt hi]), vp_wv, hp]
    congr 1
    exact vp_congr j fun i hi => hs i (.inl hi)
  have hV : 0 < V := by
    rcases Nat.eq_zero_or_pos V with h | h
    · subst h; simp at h2
    · exact h
  generalize wv o j (n + 1) = U at *
  have h4 := Nat.div_add_mod U V
  constructor
  · rw [val_set0 hj h3, Nat.add_mul, ← h1, e1, e2]
    have : BB ^ j * U = BB ^ j * (U % V) + U / V * BB ^ j * V := by
      conv => lhs; rw [← h4]
      rw [Nat.mul_add, Nat.add_comm, Nat.mul_comm (U / V), Nat.mul_assoc, Nat.mul_comm V]
    omega
  · rw [e2]
    have h5 := vp_lt ho j
    have h6 : BB ^ j * (U % V + 1) ≤ BB ^ j * V := Nat.mul_le_mul_left _ (Nat.mod_lt _ hV)
    rw [Nat.mul_add, Nat.mul_one] at h6
    rw [Nat.mul_comm V]
    omega
theorem kn_window {o : List Nat} {V j n : Nat} (hVn : V < BB ^ n) (h2 : val o < V * BB ^ (j + 1)) : wv o j (n + 1) < V * 4294967296 := by
  have hlt : val o < BB ^ (j + (n + 1)) := by
    refine Nat.lt_of_lt_of_le h2 ?_
    rw [show j + (n + 1) = n + (j + 1) by omega, Nat.pow_add BB n (j + 1)]
    exact Nat.mul_le_mul_right _ (Nat.le_of_lt hVn)
  have e1 : val o = vp o j + BB ^ j * wv o j (n + 1) := by rw [← vp_wv, vp_val hlt]
  rw [Nat.pow_succ, ← Nat.mul_assoc, Nat.mul_comm V, Nat.mul_assoc] at h2
  have h3 : BB ^ j * wv o j (n + 1) < BB ^ j * (V * BB) := by omega
  exact Nat.lt_of_mul_lt_mul_left h3
/-- What a row's three highest words and the row are worth. -/
theorem wv_top {o : List Nat} (h : InR o) {j n : Nat} : (o.getD (j + n + 2) 0 * 4294967296 * 4294967296 + o.getD (j + n + 1) 0 * 4294967296 + o.getD (j + n) 0) * BB ^ n ≤ wv o j (n + 3) ∧ wv o j (n + 3) < (o.getD (j + n + 2) 0 * 4294967296 * 4294967296 + o.getD (j + n + 1) 0 * 4294967296 + o.getD (j + n) 0 + 1) * BB ^ n := by
  have h1 := wv_lt h j n
  have e : wv o j (n + 3) = wv o j n + (o.getD (j + n + 2) 0 * 4294967296 * 4294967296 + o.getD (j + n + 1) 0 * 4294967296 + o.getD (j + n) 0) * BB ^ n := by
    rw [wv, wv, wv, Nat.pow_succ, Nat.pow_succ, Nat.pow_succ]
    have e : BB = 4294967296 := rfl
    simp only [← Nat.add_assoc, e]
    generalize (4294967296 : Nat) ^ n = P
    generalize o.getD (j + n + 2) 0 = a
    generalize o.getD (j + n + 1) 0 = b
    generalize o.getD (j + n) 0 = c
    grind
  rw [e, Nat.add_mul _ 1]
  omega
theorem vp_top {o : List Nat} (h : InR o) {n : Nat} : (o.getD (n + 1) 0 * 4294967296 + o.getD n 0) * BB ^ n ≤ vp o (n + 2) ∧ vp o (n + 2) < (o.getD (n + 1) 0 * 4294967296 + o.getD n 0 + 1) * BB ^ n := by
  have h1 := vp_lt h n
  have e : vp o (n + 2) = vp o n + (o.getD (n + 1) 0 * 4294967296 + o.getD n 0) * BB ^ n := by
    rw [vp, vp, Nat.pow_succ]
    have e : BB = 4294967296 := rfl
    simp only [e]
    generalize (4294967296 : Nat) ^ n = P
    generalize o.getD (n + 1) 0 = a
    generalize o.getD n 0 = c
    grind
  rw [e, Nat.add_mul _ 1]
  omega
theorem wv_cons (o : List Nat) (j : Nat) : ∀ n, wv o j (n + 1) = o.getD j 0 + BB * wv o (j + 1) n
  | 0 => by simp [wv]
  | n + 1 => by
    rw [wv, wv_cons o j n, wv, Nat.mul_add, show j + (n + 1) = j + 1 + n by omega, Nat.pow_succ, Nat.add_assoc]
    congr 2
    rw [Nat.mul_comm (BB ^ n), ← Nat.mul_assoc, ← Nat.mul_assoc, Nat.mul_comm BB]
theorem wv_zero (o : List Nat) : ∀ n, wv o 0 n = vp o n
  | 0 => rfl
  | n + 1 => by rw [wv, vp, wv_zero o n, Nat.zero_add]
theorem vp_succ0 {o : List Nat} {n : Nat} (h : o.getD n 0 = 0) : vp o (n + 1) = vp o n := by rw [vp, h]; omega
/-- One word of a quotient by a word. -/
theorem short_step {o a : List Nat} {i n b r T : Nat} (hi : i < o.length) (hr : r < b) (hT : T = a.getD i 0 + r * 4294967296) (hv : wv o (i + 1) n * b + r = wv a (i + 1) n) :
    wv (o.set i (T / b)) i (n + 1) * b + T % b = wv a i (n + 1) := by
  have e : wv (o.set i (T / b)) (i + 1) n = wv o (i + 1) n := wv_congr n fun t h1 h2 => by rw [lget_set_ne (by omega)]
  rw [wv_cons, wv_cons, lget_set_self hi, e, ← hv, Nat.add_mul, Nat.mul_add]
  have h1 := Nat.div_add_mod T b
  rw [Nat.mul_comm b] at h1
  have e2 : BB * r = r * 4294967296 := Nat.mul_comm _ _
  rw [e2, ← Nat.mul_assoc]
  omega
end Vm

/- Walks: one word of a quotient. (Own work of this repo.) -/
namespace Go.Proofs.Ytiglncbaomoceaa
open Vm
set_option maxRecDepth 100000

theorem high_or {x y : Nat} (hx : x < 4294967296) (hy : y < 4294967296) : IntKind.u64.wrap ((BitVec.ofInt (kb .u64) ((y * 4294967296 : Nat) : Int) ||| BitVec.ofInt (kb .u64) (x : Int)).toNat : Int) = ((x + y * 4294967296 : Nat) : Int) := by
  rw [BitVec.or_comm]; exact or_high hx hy
theorem kn_init {v1 v2 u2 top U V p : Nat} (hv1 : 1 ≤ v1) (hu2 : u2 < 4294967296) (hV : (v1 * 4294967296 + v2) * p ≤ V) (hU : U < (top * 4294967296 + u2 + 1) * p) : U < (top / v1 + 1) * V := by
  have h1 : top + 1 ≤ (top / v1 + 1) * v1 := by
    have := Nat.lt_div_mul_add (a := top) (b := v1) (by omega)
    rw [Nat.add_mul]; omega
  have h2 : (top * 4294967296 + u2 + 1) * p ≤ (top / v1 + 1) * V := by
    refine Nat.le_trans (Nat.mul_le_mul_right p (show _ ≤ (top / v1 + 1) * (v1 * 4294967296) by rw [← Nat.mul_assoc]; omega)) ?_
    rw [Nat.mul_assoc]
    refine Nat.mul_le_mul_left _ (Nat.le_trans (Nat.mul_le_mul_right p ?_) hV)
    omega
  omega
theorem kn_htop {v1 v2 u2 top U V p : Nat} (hv2 : v2 < 4294967296) (hV2 : V < (v1 * 4294967296 + v2 + 1) * p) (hU : (top * 4294967296 + u2) * p ≤ U) (hUV : U < V * 4294967296) : top < (v1 + 1) * 4294967296 := by
  rcases Nat.lt_or_ge top ((v1 + 1) * 4294967296) with h | h
  · exact h
  · have h1 : (v1 * 4294967296 + v2 + 1) * 4294967296 ≤ top * 4294967296 + u2 := by
      have h3 : (v1 * 4294967296 + v2 + 1) * 4294967296 ≤ top * 4294967296 := Nat.mul_le_mul_right 4294967296 (by omega)
      exact Nat.le_trans h3 (Nat.le_add_right _ _)
    have h2 := Nat.mul_le_mul_right p h1
    have h3 : (v1 * 4294967296 + v2 + 1) * 4294967296 * p = (v1 * 4294967296 + v2 + 1) * p * 4294967296 := by rw [Nat.mul_assoc, Nat.mul_comm 4294967296, ← Nat.mul_assoc]
    omega
set_option maxHeartbeats 4000000 in
theorem digit_open (id off : Nat) (o v : List Nat) (mv : Bool) (h : Heap) (nx m : Nat) (hH : h id = some ⟨o.map wd, false, 1, false⟩) (ro : InR o) (rv : InR v) (hm : v.length = m + 2) (hv1 : 1 ≤ v.getD (m + 1) 0)
    (hl : off + m + 3 ≤ o.length) (lo : o.length < 2 ^ 40) (hU : wv o off (m + 3) < val v * 4294967296) :
    ∃ (p : List Nat) (h' : Heap), denO E 89 [.ref id off (m + 3), .lst mv (v.map wd)] h nx = some (.ret (.int .u32 (wv o off (m + 3) / val v : Nat)), h', nx) ∧
      h' id = some ⟨p.map wd, false, 1, false⟩ ∧ (∀ j, j ≠ id → h' j = h j) ∧ InR p ∧ p.length = o.length ∧ wv p off (m + 3) = wv o off (m + 3) % val v ∧ ∀ t, t < off ∨ off + m + 3 ≤ t → p.getD t 0 = o.getD t 0 := by
  have key : ∃ x h' n, denO E 89 [.ref id off (m + 3), .lst mv (v.map wd)] h nx = some (.ret x, h', n) ∧ ∃ p : List Nat, x = .int .u32 (wv o off (m + 3) / val v : Nat) ∧ n = nx ∧
      h' id = some ⟨p.map wd, false, 1, false⟩ ∧ (∀ j, j ≠ id → h' j = h j) ∧ InR p ∧ p.length = o.length ∧ wv p off (m + 3) = wv o off (m + 3) % val v ∧ ∀ t, t < off ∨ off + m + 3 ≤ t → p.getD t 0 = o.getD t 0 := by
    refine denO_intro E89 rfl ?_
    have hV0 : val v = vp v (m + 2) := by rw [val, hm]
    have hVt := vp_top rv (n := m)
    have hUt := wv_top ro (j := off) (n := m)
    have hVn : val v < BB ^ (m + 2) := by rw [hV0]; exact vp_lt rv _
    have bu2 := ro.get (off + m + 2)
    have bu1 := ro.get (off + m + 1)
    have bu0 := ro.get (off + m)
    have bv1 := rv.get (m + 1)
    have bv0 := rv.get m
    obtain ⟨T, hT⟩ : ∃ T, T = o.getD (off + m + 1) 0 + o.getD (off + m + 2) 0 * 4294967296 := ⟨_, rfl⟩
    have hT2 : o.getD (off + m + 2) 0 * 4294967296 * 4294967296 + o.getD (off + m + 1) 0 * 4294967296 + o.getD (off + m) 0 = T * 4294967296 + o.getD (off + m) 0 := by rw [hT, Nat.add_mul]; omega
    rw [hT2] at hUt
    rw [← hV0] at hVt
    have e1 := shl32 bu2
    have e2 := high_or bu1 bu2
    rw [← hT] at e2
    have hTb : T < 18446744073709551616 := by omega
    clear hT2
    obtain ⟨Y, hY⟩ : ∃ Y, Y = o.getD (off + m + 2) 0 * 4294967296 := ⟨_, rfl⟩
    rw [← hY] at e1 e2
    clear hY hT
    generalize hVV : val v = V at *
    generalize hUU : wv o off (m + 3) = U at *
    have hin := kn_init (top := T) hv1 bu0 hVt.1 hUt.2
    have htop := kn_htop bv0 hVt.2 hUt.1 hU
    obtain ⟨Pm, hPm⟩ : ∃ Pm, Pm = BB ^ m := ⟨_, rfl⟩
    rw [← hPm] at hVt hUt
    obtain ⟨v1, hv1e⟩ : ∃ v1, v1 = v.getD (m + 1) 0 := ⟨_, rfl⟩
    rw [← hv1e] at hVt hv1 bv1 hin htop
    obtain ⟨v2, hv2e⟩ : ∃ v2, v2 = v.getD m 0 := ⟨_, rfl⟩
    rw [← hv2e] at hVt bv0
    obtain ⟨u2, hu2e⟩ : ∃ u2, u2 = o.getD (off + m) 0 := ⟨_, rfl⟩
    rw [← hu2e] at hUt bu0
    have f1 : v.getD (m + 1) 0 = v1 := hv1e.symm
    have f2 : v.getD m 0 = v2 := hv2e.symm
    have f3 : o.getD (off + m) 0 = u2 := hu2e.symm
    have a1 : ((m + 2 : Nat) : Int) - 1 = ((m + 1 : Nat) : Int) := by omega
    have a2 : ((m + 2 : Nat) : Int) - 2 = ((m : Nat) : Int) := by omega
    have a3 : off + (m + 2) = off + m + 2 := by omega
    have a4 : off + (m + 1) = off + m + 1 := by omega
    have d1 : (T : Int).tdiv (v1 : Int) = ((T / v1 : Nat) : Int) := rfl
    have d2 : (T : Int).tmod (v1 : Int) = ((T % v1 : Nat) : Int) := rfl
    have d3 : T % v1 < v1 := Nat.mod_lt _ hv1
    have d4 : T / v1 < 18446744073709551616 := Nat.lt_of_le_of_lt (Nat.div_le_self _ _) hTb
    have d5 : T / v1 * v1 + T % v1 = T := by rw [Nat.mul_comm]; exact Nat.div_add_mod T v1
    replace hin := Hd.mk hin
    replace d5 := Hd.mk d5
    replace hVt := Hd.mk hVt
    replace hUt := Hd.mk hUt
    replace hU := Hd.mk hU
    replace hVn := Hd.mk hVn
    generalize T / v1 = q0 at *
    generalize T % v1 = r0 at *
    clear hv1e hv2e hu2e hPm
    simp (maxSteps := 4000000) (disch := omega) only [go_sem, ↓reduceIte, Nat.reduceAdd, Nat.reduceSub, Nat.reduceMul, Nat.reduceEqDiff, reduceCtorEq, Int.reduceAdd, Int.reduceLT, Int.reduceLE, Int.reduceToNat, Int.reduceNeg, Int.reduceSub, ← List.map_take, ← List.map_drop, wrap64, wrapu64, wrapu32, ← Int.natCast_add, ← Int.natCast_mul, cast_succ, wrapu32_nat, shr32, reps_wd, map_set_wd, List.length_set, zs_len, Try.f89, hm, a1, a2]
    refine W_drawn ?_
    simp (maxSteps := 4000000) (disch := omega) only [go_sem, ↓reduceIte, Nat.reduceAdd, Nat.reduceSub, Nat.reduceMul, Nat.reduceEqDiff, reduceCtorEq, Int.reduceAdd, Int.reduceLT, Int.reduceLE, Int.reduceToNat, Int.reduceNeg, Int.reduceSub, ← List.map_take, ← List.map_drop, wrap64, wrapu64, wrapu32, ← Int.natCast_add, ← Int.natCast_mul, cast_succ, wrapu32_nat, shr32, reps_wd, map_set_wd, List.length_set, zs_len, hH, hm, a1, a2, a3, a4, e1, e2]
    refine ⟨by rfl, ?_⟩
    refine W_drawn ?_
    simp (maxSteps := 4000000) (disch := omega) only [go_sem, ↓reduceIte, Nat.reduceAdd, Nat.reduceSub, Nat.reduceMul, Nat.reduceEqDiff, reduceCtorEq, Int.reduceAdd, Int.reduceLT, Int.reduceLE, Int.reduceToNat, Int.reduceNeg, Int.reduceSub, ← List.map_take, ← List.map_drop, wrap64, wrapu64, wrapu32, ← Int.natCast_add, ← Int.natCast_mul, cast_succ, wrapu32_nat, shr32, reps_wd, map_set_wd, List.length_set, zs_len, hm, a1, a2, f1, d1, d2]
    refine ⟨by rfl, ?_⟩
    refine W_mono (Q := fun e σ => e = .exit 0 ∧ ∃ (q : Nat), (∃ g : Nat → AV, σ.sl = [.ref id off (m + 3), .lst mv (v.map wd), g 2, g 3, g 4, .int .i64 (m + 2 : Nat), g 6, .int .u64 q, g 8, g 9, g 10, g 11, g 12, g 13, g 14, g 15, g 16, g 17, g 18, g 19, g 20, g 21, g 22, g 23, g 24, g 25, g 26, g 27, g 28, g 29, g 30, g 31, g 32, g 33, g 34, g 35, g 36, g 37, g 38, g 39, g 40, g 41, g 42, g 43, g 44, g 45, g 46, g 47, g 48, g 49, g 50, g 51, g 52, g 53, g 54, g 55, g 56, g 57, g 58, g 59, g 60, g 61, g 62, g 63, g 64, g 65, g 66, g 67, g 68, g 69, g 70, g 71, g 72, g 73, g 74, g 75, g 76, g 77, g 78, g 79, g 80, g 81, g 82, g 83, g 84, g 85, g 86, g 87, g 88, g 89, g 90, g 91, g 92, g 93, g 94, g 95, g 96, g 97, g 98, g 99, g 100, g 101, g 102, g 103, g 104, g 105, g 106, g 107, g 108, g 109, g 110, g 111, g 112, g 113, g 114, g 115, g 116, g 117, g 118, g 119, g 120, g 121, g 122, g 123, g 124, g 125, g 126, g 127, g 128, g 129, g 130, g 131, g 132, g 133, g 134, g 135, g 136, g 137, g 138, g 139, g 140, g 141, g 142, g 143, g 144, g 145, g 146, g 147, g 148, g 149, g 150, g 151, g 152, g 153, g 154, g 155, g 156, g 157, g 158, g 159, g 160, g 161, g 162, g 163, g 164, g 165, g 166, g 167, g 168, g 169]) ∧ σ.h = h ∧ σ.nx = nx ∧ q < 4294967296 ∧ Hd (q * V ≤ U + V) ∧ Hd (U < (q + 1) * V)) ?_ ?_
    · refine W_loopS (fun k sl H n => ∃ (r : Nat), (∃ g : Nat → AV, sl = [.ref id off (m + 3), .lst mv (v.map wd), g 2, g 3, g 4, .int .i64 (m + 2 : Nat), g 6, .int .u64 k, .int .u64 r, g 9, g 10, g 11, g 12, g 13, g 14, g 15, g 16, g 17, g 18, g 19, g 20, g 21, g 22, g 23, g 24, g 25, g 26, g 27, g 28, g 29, g 30, g 31, g 32, g 33, g 34, g 35, g 36, g 37, g 38, g 39, g 40, g 41, g 42, g 43, g 44, g 45, g 46, g 47, g 48, g 49, g 50, g 51, g 52, g 53, g 54, g 55, g 56, g 57, g 58, g 59, g 60, g 61, g 62, g 63, g 64, g 65, g 66, g 67, g 68, g 69, g 70, g 71, g 72, g 73, g 74, g 75, g 76, g 77, g 78, g 79, g 80, g 81, g 82, g 83, g 84, g 85, g 86, g 87, g 88, g 89, g 90, g 91, g 92, g 93, g 94, g 95, g 96, g 97, g 98, g 99, g 100, g 101, g 102, g 103, g 104, g 105, g 106, g 107, g 108, g 109, g 110, g 111, g 112, g 113, g 114, g 115, g 116, g 117, g 118, g 119, g 120, g 121, g 122, g 123, g 124, g 125, g 126, g 127, g 128, g 129, g 130, g 131, g 132, g 133, g 134, g 135, g 136, g 137, g 138, g 139, g 140, g 141, g 142, g 143, g 144, g 145, g 146, g 147, g 148, g 149, g 150, g 151, g 152, g 153, g 154, g 155, g 156, g 157, g 158, g 159, g 160, g 161, g 162, g 163, g 164, g 165, g 166, g 167, g 168, g 169]) ∧ H = h ∧ n = nx ∧
        k < 18446744073709551616 ∧ r < 4294967296 ∧ Hd (k * v1 + r = T) ∧ Hd (U < (k + 1) * V)) q0 ⟨r0, garb rfl, rfl, rfl, d4, by omega, d5, hin⟩ ?_
      clear d1 d2 d3 d4 d5 hin e1 e2
      rintro q _ _ _ ⟨r, ⟨g, rfl⟩, rfl, rfl, hq, hr, ht, hb⟩
      have g1 := shl32 hr
      have g2 := high_or bu0 hr
      obtain ⟨R, hR⟩ : ∃ R, R = r * 4294967296 := ⟨_, rfl⟩
      rw [← hR] at g1 g2
      have hR1 : R ≤ 18446744069414584320 := by omega
      by_cases hq2 : 4294967296 ≤ q
      · have hlt := kn_dec ht.out hVt.out.1 hUt.out.2 hU.out (.inl hq2)
        have g4 : (q : Int) - 1 = ((q - 1 : Nat) : Int) := by omega
        have ht2 : (q - 1) * v1 + (r + v1) = T := by
          have e := ht.out
          obtain ⟨k, rfl⟩ : ∃ k, q = k + 1 := ⟨q - 1, by omega⟩
          rw [Nat.add_mul] at e; simp only [Nat.add_sub_cancel]; omega
        have hb2 : U < (q - 1 + 1) * V := by rw [show q - 1 + 1 = q by omega]; exact hlt
        have hq3 : q / 4294967296 ≠ 0 := by omega
        clear hR g1 g2
        by_cases hr2 : 4294967296 ≤ r + v1
        · have hq1 : q - 1 < 4294967296 := by
            have h1 : (q - 1) * v1 < 4294967296 * v1 := by rw [Nat.add_mul] at htop; rw [Nat.mul_comm 4294967296]; omega
            exact Nat.lt_of_mul_lt_mul_right h1
          have hend := kn_end ht2 hv1 hVt.out.1 hVt.out.2 hUt.out.1 hq1 bv0 (.inr hr2)
          have hr3 : (r + v1) / 4294967296 ≠ 0 := by omega
          replace hb2 := Hd.mk hb2
          replace hend := Hd.mk hend
          clear ht ht2 hlt hq2 htop
          simp (maxSteps := 4000000) (disch := omega) only [go_sem, ↓reduceIte, Nat.reduceAdd, Nat.reduceSub, Nat.reduceMul, Nat.reduceEqDiff, reduceCtorEq, Int.reduceAdd, Int.reduceLT, Int.reduceLE, Int.reduceToNat, Int.reduceNeg, Int.reduceSub, ← List.map_take, ← List.map_drop, wrap64, wrapu64, wrapu32, ← Int.natCast_add, ← Int.natCast_mul, cast_succ, wrapu32_nat, shr32, reps_wd, map_set_wd, List.length_set, zs_len]
          refine W_drawn ?_
          simp (maxSteps := 4000000) (disch := omega) only [go_sem, ↓reduceIte, Nat.reduceAdd, Nat.reduceSub, Nat.reduceMul, Nat.reduceEqDiff, reduceCtorEq, Int.reduceAdd, Int.reduceLT, Int.reduceLE, Int.reduceToNat, Int.reduceNeg, Int.reduceSub, ← List.map_take, ← List.map_drop, wrap64, wrapu64, wrapu32, ← Int.natCast_add, ← Int.natCast_mul, cast_succ, wrapu32_nat, shr32, reps_wd, map_set_wd, List.length_set, zs_len, hm, a1, a2, shr32]
          refine ⟨by rfl, ?_⟩
          simp (maxSteps := 4000000) (disch := omega) only [go_sem, ↓reduceIte, Nat.reduceAdd, Nat.reduceSub, Nat.reduceMul, Nat.reduceEqDiff, reduceCtorEq, Int.reduceAdd, Int.reduceLT, Int.reduceLE, Int.reduceToNat, Int.reduceNeg, Int.reduceSub, ← List.map_take, ← List.map_drop, wrap64, wrapu64, wrapu32, ← Int.natCast_add, ← Int.natCast_mul, cast_succ, wrapu32_nat, shr32, reps_wd, map_set_wd, List.length_set, zs_len, hm, a1, a2, f1, g4, shr32]
          exact ⟨q - 1, garb rfl, hq1, hend, hb2⟩
        · have hr3 : (r + v1) / 4294967296 = 0 := by omega
          replace hb2 := Hd.mk hb2
          replace ht2 := Hd.mk ht2
          clear ht hlt hq2 htop
          simp (maxSteps := 4000000) (disch := omega) only [go_sem, ↓reduceIte, Nat.reduceAdd, Nat.reduceSub, Nat.reduceMul, Nat.reduceEqDiff, reduceCtorEq, Int.reduceAdd, Int.reduceLT, Int.reduceLE, Int.reduceToNat, Int.reduceNeg, Int.reduceSub, ← List.map_take, ← List.map_drop, wrap64, wrapu64, wrapu32, ← Int.natCast_add, ← Int.natCast_mul, cast_succ, wrapu32_nat, shr32, reps_wd, map_set_wd, List.length_set, zs_len]
          refine W_drawn ?_
          simp (maxSteps := 4000000) (disch := omega) only [go_sem, ↓reduceIte, Nat.reduceAdd, Nat.reduceSub, Nat.reduceMul, Nat.reduceEqDiff, reduceCtorEq, Int.reduceAdd, Int.reduceLT, Int.reduceLE, Int.reduceToNat, Int.reduceNeg, Int.reduceSub, ← List.map_take, ← List.map_drop, wrap64, wrapu64, wrapu32, ← Int.natCast_add, ← Int.natCast_mul, cast_succ, wrapu32_nat, shr32, reps_wd, map_set_wd, List.length_set, zs_len, hm, a1, a2, shr32]
          refine ⟨by rfl, ?_⟩
          simp (maxSteps := 4000000) (disch := omega) only [go_sem, ↓reduceIte, Nat.reduceAdd, Nat.reduceSub, Nat.reduceMul, Nat.reduceEqDiff, reduceCtorEq, Int.reduceAdd, Int.reduceLT, Int.reduceLE, Int.reduceToNat, Int.reduceNeg, Int.reduceSub, ← List.map_take, ← List.map_drop, wrap64, wrapu64, wrapu32, ← Int.natCast_add, ← Int.natCast_mul, cast_succ, wrapu32_nat, shr32, reps_wd, map_set_wd, List.length_set, zs_len, hm, a1, a2, f1, g4, shr32]
          exact ⟨q - 1, by omega, r + v1, garb rfl, by omega, by omega, ht2, hb2⟩
      · have hq3 : q / 4294967296 = 0 := by omega
        obtain ⟨X, hX⟩ : ∃ X, X = q * v2 := ⟨_, rfl⟩
        have hX2 : q * v2 = X := hX.symm
        have hXb := mul_word (show q < 4294967296 by omega) bv0
        rw [hX2] at hXb
        by_cases hc : R + u2 < X
        · have hlt := kn_dec ht.out hVt.out.1 hUt.out.2 hU.out (.inr (by rw [← hR, ← hX]; exact hc))
          have hq0 : q ≠ 0 := fun e => by rw [e, Nat.zero_mul] at hlt; omega
          have g4 : (q : Int) - 1 = ((q - 1 : Nat) : Int) := by omega
          have ht2 : (q - 1) * v1 + (r + v1) = T := by
            have e := ht.out
            obtain ⟨k, rfl⟩ : ∃ k, q = k + 1 := ⟨q - 1, by omega⟩
            rw [Nat.add_mul] at e; simp only [Nat.add_sub_cancel]; omega
          have hb2 : U < (q - 1 + 1) * V := by rw [show q - 1 + 1 = q by omega]; exact hlt
          clear hR hX
          by_cases hr2 : 4294967296 ≤ r + v1
          · have hend := kn_end ht2 hv1 hVt.out.1 hVt.out.2 hUt.out.1 (by omega) bv0 (.inr hr2)
            have hr3 : (r + v1) / 4294967296 ≠ 0 := by omega
            replace hb2 := Hd.mk hb2
            replace hend := Hd.mk hend
            have hc' : u2 + R < X := by omega
            clear ht ht2 hlt htop
            simp (maxSteps := 4000000) (disch := omega) only [go_sem, ↓reduceIte, Nat.reduceAdd, Nat.reduceSub, Nat.reduceMul, Nat.reduceEqDiff, reduceCtorEq, Int.reduceAdd, Int.reduceLT, Int.reduceLE, Int.reduceToNat, Int.reduceNeg, Int.reduceSub, ← List.map_take, ← List.map_drop, wrap64, wrapu64, wrapu32, ← Int.natCast_add, ← Int.natCast_mul, cast_succ, wrapu32_nat, shr32, reps_wd, map_set_wd, List.length_set, zs_len]
            refine W_drawn ?_
            simp (maxSteps := 4000000) (disch := omega) only [go_sem, ↓reduceIte, Nat.reduceAdd, Nat.reduceSub, Nat.reduceMul, Nat.reduceEqDiff, reduceCtorEq, Int.reduceAdd, Int.reduceLT, Int.reduceLE, Int.reduceToNat, Int.reduceNeg, Int.reduceSub, ← List.map_take, ← List.map_drop, wrap64, wrapu64, wrapu32, ← Int.natCast_add, ← Int.natCast_mul, cast_succ, wrapu32_nat, shr32, reps_wd, map_set_wd, List.length_set, zs_len, hH, hm, a1, a2, f2, f3, g1, g2, hX2, shr32]
            refine ⟨by rfl, ?_⟩
            simp (maxSteps := 4000000) (disch := omega) only [go_sem, ↓reduceIte, Nat.reduceAdd, Nat.reduceSub, Nat.reduceMul, Nat.reduceEqDiff, reduceCtorEq, Int.reduceAdd, Int.reduceLT, Int.reduceLE, Int.reduceToNat, Int.reduceNeg, Int.reduceSub, ← List.map_take, ← List.map_drop, wrap64, wrapu64, wrapu32, ← Int.natCast_add, ← Int.natCast_mul, cast_succ, wrapu32_nat, shr32, reps_wd, map_set_wd, List.length_set, zs_len, hm, a1, a2, f1, g4, shr32]
            exact ⟨q - 1, garb rfl, by omega, hend, hb2⟩
          · have hr3 : (r + v1) / 4294967296 = 0 := by omega
            replace hb2 := Hd.mk hb2
            replace ht2 := Hd.mk ht2
            have hc' : u2 + R < X := by omega
            clear ht hlt htop
            simp (maxSteps := 4000000) (disch := omega) only [go_sem, ↓reduceIte, Nat.reduceAdd, Nat.reduceSub, Nat.reduceMul, Nat.reduceEqDiff, reduceCtorEq, Int.reduceAdd, Int.reduceLT, Int.reduceLE, Int.reduceToNat, Int.reduceNeg, Int.reduceSub, ← List.map_take, ← List.map_drop, wrap64, wrapu64, wrapu32, ← Int.natCast_add, ← Int.natCast_mul, cast_succ, wrapu32_nat, shr32, reps_wd, map_set_wd, List.length_set, zs_len]
            refine W_drawn ?_
            simp (maxSteps := 4000000) (disch := omega) only [go_sem, ↓reduceIte, Nat.reduceAdd, Nat.reduceSub, Nat.reduceMul, Nat.reduceEqDiff, reduceCtorEq, Int.reduceAdd, Int.reduceLT, Int.reduceLE, Int.reduceToNat, Int.reduceNeg, Int.reduceSub, ← List.map_take, ← List.map_drop, wrap64, wrapu64, wrapu32, ← Int.natCast_add, ← Int.natCast_mul, cast_succ, wrapu32_nat, shr32, reps_wd, map_set_wd, List.length_set, zs_len, hH, hm, a1, a2, f2, f3, g1, g2, hX2, shr32]
            refine ⟨by rfl, ?_⟩
            simp (maxSteps := 4000000) (disch := omega) only [go_sem, ↓reduceIte, Nat.reduceAdd, Nat.reduceSub, Nat.reduceMul, Nat.reduceEqDiff, reduceCtorEq, Int.reduceAdd, Int.reduceLT, Int.reduceLE, Int.reduceToNat, Int.reduceNeg, Int.reduceSub, ← List.map_take, ← List.map_drop, wrap64, wrapu64, wrapu32, ← Int.natCast_add, ← Int.natCast_mul, cast_succ, wrapu32_nat, shr32, reps_wd, map_set_wd, List.length_set, zs_len, hm, a1, a2, f1, g4, shr32]
            exact ⟨q - 1, by omega, r + v1, garb rfl, by omega, by omega, ht2, hb2⟩
        · have hend := kn_end ht.out hv1 hVt.out.1 hVt.out.2 hUt.out.1 (by omega) bv0 (.inl (by rw [← hR, ← hX]; omega))
          replace hend := Hd.mk hend
          have hc' : ¬ u2 + R < X := by omega
          clear ht htop hR hX
          simp (maxSteps := 4000000) (disch := omega) only [go_sem, ↓reduceIte, Nat.reduceAdd, Nat.reduceSub, Nat.reduceMul, Nat.reduceEqDiff, reduceCtorEq, Int.reduceAdd, Int.reduceLT, Int.reduceLE, Int.reduceToNat, Int.reduceNeg, Int.reduceSub, ← List.map_take, ← List.map_drop, wrap64, wrapu64, wrapu32, ← Int.natCast_add, ← Int.natCast_mul, cast_succ, wrapu32_nat, shr32, reps_wd, map_set_wd, List.length_set, zs_len]
          refine W_drawn ?_
          simp (maxSteps := 4000000) (disch := omega) only [go_sem, ↓reduceIte, Nat.reduceAdd, Nat.reduceSub, Nat.reduceMul, Nat.reduceEqDiff, reduceCtorEq, Int.reduceAdd, Int.reduceLT, Int.reduceLE, Int.reduceToNat, Int.reduceNeg, Int.reduceSub, ← List.map_take, ← List.map_drop, wrap64, wrapu64, wrapu32, ← Int.natCast_add, ← Int.natCast_mul, cast_succ, wrapu32_nat, shr32, reps_wd, map_set_wd, List.length_set, zs_len, hH, hm, a1, a2, f2, f3, g1, g2, hX2, shr32]
          refine ⟨by rfl, ?_⟩
          exact ⟨q, garb rfl, by omega, hend, hb⟩
    · clear d1 d2 d3 d4 d5 hin e1 e2 f1 f2 f3 a1 a2 htop hUt hVt bu2 bu1 bu0 bv1 bv0 hTb hv1
      rintro e ⟨sl, H, nx'⟩ ⟨rfl, q, ⟨g, hs⟩, hh, hnn, hq, hle, hgt⟩
      dsimp only at hs hh hnn
      subst hs; subst H; subst nx'
      simp (maxSteps := 4000000) (disch := omega) only [go_sem, ↓reduceIte, Nat.reduceAdd, Nat.reduceSub, Nat.reduceMul, Nat.reduceEqDiff, reduceCtorEq, Int.reduceAdd, Int.reduceLT, Int.reduceLE, Int.reduceToNat, Int.reduceNeg, Int.reduceSub, ← List.map_take, ← List.map_drop, wrap64, wrapu64, wrapu32, ← Int.natCast_add, ← Int.natCast_mul, cast_succ, wrapu32_nat, shr32, reps_wd, map_set_wd, List.length_set, zs_len, hm]
      refine W_loopS (fun k sl H n => ∃ (i c : Nat) (p : List Nat), (∃ g : Nat → AV, sl = [.ref id off (m + 3), .lst mv (v.map wd), g 2, g 3, g 4, .int .i64 (m + 2 : Nat), g 6, .int .u64 q, g 8, .int .u64 c, g 10, g 11, g 12, g 13, g 14, g 15, g 16, g 17, g 18, g 19, g 20, g 21, g 22, g 23, g 24, g 25, g 26, g 27, g 28, g 29, g 30, g 31, g 32, g 33, g 34, g 35, g 36, g 37, g 38, g 39, g 40, g 41, g 42, g 43, g 44, g 45, g 46, g 47, g 48, g 49, g 50, g 51, g 52, g 53, g 54, g 55, g 56, g 57, g 58, g 59, g 60, g 61, g 62, g 63, g 64, g 65, g 66, g 67, g 68, g 69, g 70, g 71, g 72, g 73, g 74, g 75, g 76, g 77, g 78, g 79, g 80, g 81, g 82, g 83, g 84, .lst mv (v.map wd), .int .i64 (m + 2 : Nat), .int .i64 i, g 88, g 89, g 90, g 91, g 92, g 93, g 94, g 95, g 96, g 97, g 98, g 99, g 100, g 101, g 102, g 103, g 104, g 105, g 106, g 107, g 108, g 109, g 110, g 111, g 112, g 113, g 114, g 115, g 116, g 117, g 118, g 119, g 120, g 121, g 122, g 123, g 124, g 125, g 126, g 127, g 128, g 129, g 130, g 131, g 132, g 133, g 134, g 135, g 136, g 137, g 138, g 139, g 140, g 141, g 142, g 143, g 144, g 145, g 146, g 147, g 148, g 149, g 150, g 151, g 152, g 153, g 154, g 155, g 156, g 157, g 158, g 159, g 160, g 161, g 162, g 163, g 164, g 165, g 166, g 167, g 168, g 169]) ∧ n = nx ∧
        H id = some ⟨p.map wd, false, 1, false⟩ ∧ Hd (∀ j, j ≠ id → H j = h j) ∧ p.length = o.length ∧ InR p ∧ i + k = m + 2 ∧ c ≤ 4294967296 ∧ Hd (wv p off i + q * vp v i = wv o off i + (c + 0) * BB ^ i) ∧ Hd (∀ t, t < off ∨ off + i ≤ t → p.getD t 0 = o.getD t 0)) (m + 2)
        ⟨0, 0, o, garb rfl, rfl, hH, ⟨fun _ _ => rfl⟩, rfl, ro, by omega, by omega, ⟨by simp [wv, vp]⟩, ⟨fun _ _ => rfl⟩⟩ ?_
      rintro k _ H nx ⟨i, c, p, ⟨g, rfl⟩, rfl, hHp, hF, hp, rp, hi, hc, hv, hz⟩
      by_cases hk : k = 0
      · obtain rfl : i = m + 2 := by omega
        have hz0 := hz.out (off + m + 2) (.inr (by omega))
        have bx := rp.get (off + m + 2)
        obtain ⟨X, hX⟩ : ∃ X : Nat, (c ≤ p.getD (off + m + 2) 0 ∧ X = p.getD (off + m + 2) 0 - c) ∨ (p.getD (off + m + 2) 0 < c ∧ X = 18446744073709551616 + p.getD (off + m + 2) 0 - c) := by
          by_cases h : c ≤ p.getD (off + m + 2) 0
          · exact ⟨_, .inl ⟨h, rfl⟩⟩
          · exact ⟨_, .inr ⟨by omega, rfl⟩⟩
        have hw : X % 4294967296 + c = p.getD (off + m + 2) 0 + X / 9223372036854775808 * 4294967296 := by omega
        have hb1 : X / 9223372036854775808 ≤ 1 := by omega
        have eX : IntKind.u64.wrap (((p.getD (off + m + 2) 0 : Nat) : Int) - (c : Int)) = (X : Int) := by rw [IntKind.wrap_u64]; omega
        have hlast := ms_last (o := o) (p := p) (j := off) (n := m + 2) (c := c) (w := X % 4294967296) (b := X / 9223372036854775808) (C := q * V) (by omega) (by rw [← hVV, val, hm]; exact hv.out) (by rw [a3, hw, hz0])
        rw [show off + (m + 2) = off + m + 2 by omega, show m + 2 + 1 = m + 3 by omega, hUU] at hlast
        obtain ⟨bt, hbt⟩ : ∃ bt, bt = X / 9223372036854775808 := ⟨_, rfl⟩
        have eb : (X : Int).fdiv (2 ^ min 63 (kb .u64)) = (bt : Int) := by rw [shr63, hbt]
        rw [← hbt] at hlast hb1
        clear hbt
        have rp2 : InR (p.set (off + m + 2) (X % 4294967296)) := rp.set (Nat.mod_lt _ (by decide))
        have hz2 : ∀ t, t < off ∨ off + m + 3 ≤ t → (p.set (off + m + 2) (X % 4294967296)).getD t 0 = o.getD t 0 := fun t ht => by
          rw [lget_set_ne (by omega)]; exact hz.out t (by omega)
        have hF2 : ∀ b, ∀ j, j ≠ id → (H.upd id b) j = h j := fun b j hj => by rw [upd_ne hj]; exact hF.out j hj
        have hpl : (p.set (off + m + 2) (X % 4294967296)).length = o.length := by rw [List.length_set, hp]
        clear hX
        generalize hP1 : p.set (off + m + 2) (X % 4294967296) = P1 at *
        by_cases hbit : bt = 0
        · have hfin := kn_fin0' hlast hbit hgt.out
          clear hlast
          have hqq : q % 4294967296 = q := Nat.mod_eq_of_lt hq
          clear hgt hle hU hVn hv hz
          subst hbit
          simp (maxSteps := 4000000) (disch := omega) only [go_sem, ↓reduceIte, Nat.reduceAdd, Nat.reduceSub, Nat.reduceMul, Nat.reduceEqDiff, reduceCtorEq, Int.reduceAdd, Int.reduceLT, Int.reduceLE, Int.reduceToNat, Int.reduceNeg, Int.reduceSub, ← List.map_take, ← List.map_drop, wrap64, wrapu64, wrapu32, ← Int.natCast_add, ← Int.natCast_mul, cast_succ, wrapu32_nat, shr32, reps_wd, map_set_wd, List.length_set, zs_len, hHp, hp, a3, eX, eb, hP1, hqq]
          exact ⟨P1, by rw [hfin.1], by simp, hF2 _, rp2, hpl, hfin.2, hz2⟩
        · have hbit1 : bt = 1 := by omega
          replace hlast := kn_one hlast hbit1
          have hlt : U < q * V := by
            have h1 := wv_lt rp2 off (m + 3)
            omega
          clear hv hz
          replace hgt := Hd.mk hlt
          replace hlast := Hd.mk hlast
          clear hlt
          subst hbit1
          simp (maxSteps := 4000000) (disch := omega) only [go_sem, ↓reduceIte, Nat.reduceAdd, Nat.reduceSub, Nat.reduceMul, Nat.reduceEqDiff, reduceCtorEq, Int.reduceAdd, Int.reduceLT, Int.reduceLE, Int.reduceToNat, Int.reduceNeg, Int.reduceSub, ← List.map_take, ← List.map_drop, wrap64, wrapu64, wrapu32, ← Int.natCast_add, ← Int.natCast_mul, cast_succ, wrapu32_nat, shr32, reps_wd, map_set_wd, List.length_set, zs_len, hHp, hp, a3, eX, eb, hP1, hm]
          refine W_loopS (fun k sl H2 n => ∃ (i c : Nat) (p2 : List Nat), (∃ g : Nat → AV, sl = [.ref id off (m + 3), .lst mv (v.map wd), g 2, g 3, g 4, .int .i64 (m + 2 : Nat), g 6, .int .u64 q, g 8, g 9, g 10, g 11, g 12, g 13, g 14, .int .u64 c, g 16, g 17, g 18, g 19, g 20, g 21, g 22, g 23, g 24, g 25, g 26, g 27, g 28, g 29, g 30, g 31, g 32, g 33, g 34, g 35, g 36, g 37, g 38, g 39, g 40, g 41, g 42, g 43, g 44, g 45, g 46, g 47, g 48, g 49, g 50, g 51, g 52, g 53, g 54, g 55, g 56, g 57, g 58, g 59, g 60, g 61, g 62, g 63, g 64, g 65, g 66, g 67, g 68, g 69, g 70, g 71, g 72, g 73, g 74, g 75, g 76, g 77, g 78, g 79, g 80, g 81, g 82, g 83, g 84, g 85, g 86, g 87, g 88, g 89, g 90, g 91, g 92, g 93, g 94, g 95, g 96, g 97, g 98, g 99, g 100, g 101, g 102, g 103, g 104, g 105, g 106, g 107, g 108, g 109, g 110, g 111, g 112, g 113, g 114, g 115, g 116, g 117, g 118, g 119, g 120, g 121, g 122, g 123, g 124, g 125, g 126, g 127, g 128, g 129, g 130, g 131, g 132, g 133, .lst mv (v.map wd), .int .i64 (m + 2 : Nat), .int .i64 i, g 137, g 138, g 139, g 140, g 141, g 142, g 143, g 144, g 145, g 146, g 147, g 148, g 149, g 150, g 151, g 152, g 153, g 154, g 155, g 156, g 157, g 158, g 159, g 160, g 161, g 162, g 163, g 164, g 165, g 166, g 167, g 168, g 169]) ∧ n = nx ∧
            H2 id = some ⟨p2.map wd, false, 1, false⟩ ∧ Hd (∀ j, j ≠ id → H2 j = h j) ∧ p2.length = o.length ∧ InR p2 ∧ i + k = m + 2 ∧ c ≤ 1 ∧ Hd (wv p2 off i + c * BB ^ i = wv P1 off i + vp v i) ∧ Hd (∀ t, t < off ∨ off + i ≤ t → p2.getD t 0 = P1.getD t 0)) (m + 2)
            ⟨0, 0, P1, garb rfl, rfl, upd_same, ⟨hF2 _⟩, hpl, rp2, by omega, by omega, ⟨by simp [wv, vp]⟩, ⟨fun _ _ => rfl⟩⟩ ?_
          clear hHp hF eX hbit eb hb1 hc hF2 hz0 bx
          rintro k _ H2 _ ⟨i, c, p2, ⟨g, rfl⟩, rfl, hHp, hF, hp2, rp3, hi, hc, hv, hz⟩
          by_cases hk2 : k = 0
          · obtain rfl : i = m + 2 := by omega
            have hz0 := hz.out (off + m + 2) (.inr (by omega))
            have bx := rp3.get (off + m + 2)
            obtain ⟨w, hw⟩ : ∃ w, w = p2.getD (off + m + 2) 0 + c := ⟨_, rfl⟩
            have hw2 : p2.getD (off + m + 2) 0 + c = w := hw.symm
            have hfin : wv (p2.set (off + m + 2) (w % 4294967296)) off (m + 3) + w / 4294967296 * BB ^ (m + 3) = wv P1 off (m + 3) + V := by
              have h2 := hv.out
              rw [← hV0] at h2
              have h3 := as_last (p := p2) (P := P1) (j := off) (n := m + 2) (c := c) (w := w) (V := V) (by omega) h2 (by rw [a3, hw, hz0])
              rw [a3] at h3
              exact h3
            have rp4 : InR (p2.set (off + m + 2) (w % 4294967296)) := rp3.set (Nat.mod_lt _ (by decide))
            have hback := kn_back (U := U) (V := V) (q := q) (n := m + 3) (by rw [← hlast.out]) hfin (wv_lt rp4 _ _) hle.out (Nat.le_trans (Nat.le_of_lt hVn.out) (Nat.pow_le_pow_right (by decide) (by omega))) hgt.out
            have hres := kn_fin1 hgt.out hle.out hback
            have hz3 : ∀ t, t < off ∨ off + m + 3 ≤ t → (p2.set (off + m + 2) (w % 4294967296)).getD t 0 = o.getD t 0 := fun t ht => by
              rw [lget_set_ne (by omega), hz.out t (by omega), hz2 t (by omega)]
            have hF2 : ∀ b, ∀ j, j ≠ id → (H2.upd id b) j = h j := fun b j hj => by rw [upd_ne hj]; exact hF.out j hj
            have hpl2 : (p2.set (off + m + 2) (w % 4294967296)).length = o.length := by rw [List.length_set, hp2]
            have hq1 := hres.2.2
            have hqq : (q - 1) % 4294967296 = q - 1 := Nat.mod_eq_of_lt (by omega)
            have g4 : (q : Int) - 1 = ((q - 1 : Nat) : Int) := by omega
            have hcm : c % 4294967296 = c := Nat.mod_eq_of_lt (by omega)
            clear hgt hle hU hVn hv hz hw hfin hback hlast hz0
            simp (maxSteps := 4000000) (disch := omega) only [go_sem, ↓reduceIte, Nat.reduceAdd, Nat.reduceSub, Nat.reduceMul, Nat.reduceEqDiff, reduceCtorEq, Int.reduceAdd, Int.reduceLT, Int.reduceLE, Int.reduceToNat, Int.reduceNeg, Int.reduceSub, ← List.map_take, ← List.map_drop, wrap64, wrapu64, wrapu32, ← Int.natCast_add, ← Int.natCast_mul, cast_succ, wrapu32_nat, shr32, reps_wd, map_set_wd, List.length_set, zs_len, hHp, hp2, a3, hw2, hcm, g4, hqq]
            exact ⟨_, by rw [hres.1], by simp, hF2 _, rp4, hpl2, hres.2.1, hz3⟩
          · have hx := rp3.get (off + i)
            have hy := rv.get i
            have hz0 := hz.out (off + i) (.inr (by omega))
            obtain ⟨s, hs⟩ : ∃ s, s = c + (p2.getD (off + i) 0 + v.getD i 0) := ⟨_, rfl⟩
            have hs2 : c + (p2.getD (off + i) 0 + v.getD i 0) = s := hs.symm
            have stp := as_step (o := P1) (p := p2) (v := v) (j := off) (i := i) (c := c) (s := s) (by omega) hv.out (by rw [hs, hz0]; omega)
            have stz : ∀ t, t < off ∨ off + (i + 1) ≤ t → (p2.set (off + i) (s % 4294967296)).getD t 0 = P1.getD t 0 := fun t ht => by
              rw [lget_set_ne (by omega)]; exact hz.out t (by omega)
            have hF2 : ∀ b, ∀ j, j ≠ id → (H2.upd id b) j = h j := fun b j hj => by rw [upd_ne hj]; exact hF.out j hj
            have hsb : s / 4294967296 ≤ 1 := by omega
            have hsb2 : s < 18446744073709551616 := by omega
            have hs3 : p2.getD (off + i) 0 + v.getD i 0 < 18446744073709551616 := by omega
            clear hgt hle hU hVn hv hz hs hlast hz0
            simp (maxSteps := 4000000) (disch := omega) only [go_sem, ↓reduceIte, Nat.reduceAdd, Nat.reduceSub, Nat.reduceMul, Nat.reduceEqDiff, reduceCtorEq, Int.reduceAdd, Int.reduceLT, Int.reduceLE, Int.reduceToNat, Int.reduceNeg, Int.reduceSub, ← List.map_take, ← List.map_drop, wrap64, wrapu64, wrapu32, ← Int.natCast_add, ← Int.natCast_mul, cast_succ, wrapu32_nat, shr32, reps_wd, map_set_wd, List.length_set, zs_len, hHp, hp2, hm, hs2]
            exact ⟨k - 1, by omega, i + 1, s / 4294967296, p2.set (off + i) (s % 4294967296), garb rfl, by simp, ⟨hF2 _⟩, by rw [List.length_set, hp2], rp3.set (Nat.mod_lt _ (by decide)), by omega, hsb, ⟨stp⟩, ⟨stz⟩⟩
      · have hx := rp.get (off + i)
        have hy := rv.get i
        have hz0 := hz.out (off + i) (.inr (by omega))
        have hPb := mul_word hq hy
        obtain ⟨M, hM⟩ : ∃ M, M = q * v.getD i 0 := ⟨_, rfl⟩
        have hM2 : q * v.getD i 0 = M := hM.symm
        rw [hM2] at hPb
        have hMc : M + c < 18446744073709551616 := by omega
        have gl := and_low hMc
        obtain ⟨X, hX⟩ : ∃ X : Nat, ((M + c) % 4294967296 ≤ p.getD (off + i) 0 ∧ X = p.getD (off + i) 0 - (M + c) % 4294967296) ∨ (p.getD (off + i) 0 < (M + c) % 4294967296 ∧ X = 18446744073709551616 + p.getD (off + i) 0 - (M + c) % 4294967296) := by
          by_cases h : (M + c) % 4294967296 ≤ p.getD (off + i) 0
          · exact ⟨_, .inl ⟨h, rfl⟩⟩
          · exact ⟨_, .inr ⟨by omega, rfl⟩⟩
        have hw : X % 4294967296 + (M + c) % 4294967296 + 0 = p.getD (off + i) 0 + X / 9223372036854775808 * 4294967296 := by omega
        have hb1 : X / 9223372036854775808 ≤ 1 := by omega
        have eX : IntKind.u64.wrap (((p.getD (off + i) 0 : Nat) : Int) - (((M + c) % 4294967296 : Nat) : Int)) = (X : Int) := by rw [IntKind.wrap_u64]; omega
        have stp := ms_step (o := o) (p := p) (v := v) (j := off) (i := i) (q := q) (c0 := c) (b0 := 0) (b1 := X / 9223372036854775808) (w := X % 4294967296) (x := M + c) (by omega) hv.out (by rw [hM]) (by rw [hw, hz0])
        have stz : ∀ t, t < off ∨ off + (i + 1) ≤ t → (p.set (off + i) (X % 4294967296)).getD t 0 = o.getD t 0 := fun t ht => by
          rw [lget_set_ne (by omega)]; exact hz.out t (by omega)
        have hF2 : ∀ b, ∀ j, j ≠ id → (H.upd id b) j = h j := fun b j hj => by rw [upd_ne hj]; exact hF.out j hj
        have hcb : (M + c) / 4294967296 + X / 9223372036854775808 ≤ 4294967296 := by omega
        have hcb2 : (M + c) / 4294967296 < 4294967296 := by omega
        clear hgt hle hU hVn hv hz hX hw hM hz0
        simp (maxSteps := 4000000) (disch := omega) only [go_sem, ↓reduceIte, Nat.reduceAdd, Nat.reduceSub, Nat.reduceMul, Nat.reduceEqDiff, reduceCtorEq, Int.reduceAdd, Int.reduceLT, Int.reduceLE, Int.reduceToNat, Int.reduceNeg, Int.reduceSub, ← List.map_take, ← List.map_drop, wrap64, wrapu64, wrapu32, ← Int.natCast_add, ← Int.natCast_mul, cast_succ, wrapu32_nat, shr32, reps_wd, map_set_wd, List.length_set, zs_len, hHp, hp, hm, hM2, gl, eX, shr63]
        exact ⟨k - 1, by omega, i + 1, (M + c) / 4294967296 + X / 9223372036854775808, p.set (off + i) (X % 4294967296), garb rfl, by simp, ⟨hF2 _⟩, by rw [List.length_set, hp], rp.set (Nat.mod_lt _ (by decide)), by omega, hcb, ⟨stp⟩, ⟨stz⟩⟩
  obtain ⟨x, h', n, h1, p, rfl, rfl, h2, h3, h4, h5, h6, h7⟩ := key
  exact ⟨p, h', h1, h2, h3, h4, h5, h6, h7⟩
end Go.Proofs.Ytiglncbaomoceaa

/- Walks: dividing rows of words. (Own work of this repo.) -/
namespace Go.Proofs.Ytiglncbaomoceaa
open Vm
set_option maxRecDepth 100000

theorem div_word {T b r x : Nat} (hr : r < b) (hb : b < 4294967296) (hx : x < 4294967296) (hT : T = x + r * 4294967296) : T / b < 4294967296 := by
  rw [Nat.div_lt_iff_lt_mul (by omega), hT, Nat.mul_comm]
  have : (r + 1) * 4294967296 ≤ b * 4294967296 := Nat.mul_le_mul_right _ hr
  omega
set_option maxHeartbeats 1000000 in
theorem over_spec (m : Bool) (a : List Nat) (b : Nat) (ha : InR a) (la : a.length < 2 ^ 40) (hb : 0 < b) (hb2 : b < 4294967296) :
    denP E 77 [.lst m (a.map wd), .int .u32 b] = some (.ret (.tup [.lst false ((dig (val a / b)).map wd), .int .u32 (val a % b : Nat)])) := by
  refine denP_eq E77 rfl (by simp [AV.pureL, AV.pure, pure_wd]) ?_
  simp (maxSteps := 4000000) (disch := omega) only [go_sem, ↓reduceIte, Nat.reduceAdd, Nat.reduceSub, Nat.reduceMul, Nat.reduceEqDiff, reduceCtorEq, Int.reduceAdd, Int.reduceLT, Int.reduceLE, Int.reduceToNat, Int.reduceNeg, Int.reduceSub, ← List.map_take, ← List.map_drop, wrap64, wrapu64, wrapu32, ← Int.natCast_add, ← Int.natCast_mul, cast_succ, wrapu32_nat, shr32, reps_wd, map_set_wd, List.length_set, zs_len, Try.f77]
  refine W_loopS (fun k sl H nx => ∃ (r : Nat) (o : List Nat), (∃ g : Nat → AV, sl = [.lst m (a.map wd), .int .u32 b, g 2, g 3, g 4, g 5, .ref 0 0 a.length, .int .u64 r, .int .i64 ((k : Int) - 1), g 9, g 10, g 11, g 12, g 13, g 14, g 15, g 16, g 17, g 18, g 19, g 20, g 21, g 22, g 23, g 24, g 25, g 26, g 27, g 28, g 29, g 30, g 31, g 32, g 33, g 34, g 35, g 36, g 37, g 38, g 39, g 40, g 41, g 42]) ∧ nx = 1 ∧
    H 0 = some ⟨o.map wd, false, 1, false⟩ ∧ o.length = a.length ∧ InR o ∧ k ≤ a.length ∧ r < b ∧ Hd (wv o k (a.length - k) * b + r = wv a k (a.length - k))) a.length
    ⟨0, _, garb rfl, rfl, rfl, zs_len _, zs_inR _, by omega, hb, ⟨by rw [Nat.sub_self]; simp [wv]⟩⟩ ?_
  rintro k _ H _ ⟨r, o, ⟨g, rfl⟩, rfl, hH, ho, hr, hk, hrb, hv⟩
  by_cases hk0 : k = 0
  · subst hk0
    have h1 := hv.out
    rw [Nat.sub_zero, wv_zero, wv_zero, ← ho, show vp o o.length = val o from rfl, ho, show vp a a.length = val a from rfl] at h1
    have hq : val a / b = val o := by
      rw [← h1, Nat.mul_comm, Nat.mul_add_div hb, Nat.div_eq_of_lt hrb, Nat.add_zero]
    have hm : val a % b = r := by rw [← h1, Nat.mul_comm, Nat.mul_add_mod, Nat.mod_eq_of_lt hrb]
    have ht := trim_spec false o hr (by omega)
    have hrr : r % 4294967296 = r := Nat.mod_eq_of_lt (by omega)
    clear hv h1
    simp (maxSteps := 4000000) (disch := omega) only [go_sem, ↓reduceIte, Nat.reduceAdd, Nat.reduceSub, Nat.reduceMul, Nat.reduceEqDiff, reduceCtorEq, Int.reduceAdd, Int.reduceLT, Int.reduceLE, Int.reduceToNat, Int.reduceNeg, Int.reduceSub, ← List.map_take, ← List.map_drop, wrap64, wrapu64, wrapu32, ← Int.natCast_add, ← Int.natCast_mul, cast_succ, wrapu32_nat, shr32, reps_wd, map_set_wd, List.length_set, zs_len, hH, ho, List.take_of_length_le, ht, hq, hm, hrr]
  · have e1 : (k : Int) - 1 = ((k - 1 : Nat) : Int) := by omega
    obtain ⟨j, rfl⟩ : ∃ j, k = j + 1 := ⟨k - 1, by omega⟩
    rw [Nat.add_sub_cancel] at e1
    have hx := ha.get j
    have e2 := shl32 (show r < 4294967296 by omega)
    have e3 := high_or hx (show r < 4294967296 by omega)
    obtain ⟨T, hT⟩ : ∃ T, T = a.getD j 0 + r * 4294967296 := ⟨_, rfl⟩
    rw [← hT] at e3
    have hTb : T < 18446744073709551616 := by omega
    have hTq := div_word hrb hb2 hx hT
    have st := short_step (o := o) (a := a) (n := a.length - (j + 1)) (by omega) hrb hT hv.out
    rw [show a.length - (j + 1) + 1 = a.length - j by omega] at st
    obtain ⟨R, hR⟩ : ∃ R, R = r * 4294967296 := ⟨_, rfl⟩
    rw [← hR] at e2 e3
    have hTm : T % b < b := Nat.mod_lt _ hb
    have d1 : (T : Int).tdiv (b : Int) = ((T / b : Nat) : Int) := rfl
    have d2 : (T : Int).tmod (b : Int) = ((T % b : Nat) : Int) := rfl
    clear hv hT hR
    generalize hqe : T / b = q at *
    generalize T % b = r' at *
    have hqq : q % 4294967296 = q := Nat.mod_eq_of_lt hTq
    clear hqe
    simp (maxSteps := 4000000) (disch := omega) only [go_sem, ↓reduceIte, Nat.reduceAdd, Nat.reduceSub, Nat.reduceMul, Nat.reduceEqDiff, reduceCtorEq, Int.reduceAdd, Int.reduceLT, Int.reduceLE, Int.reduceToNat, Int.reduceNeg, Int.reduceSub, ← List.map_take, ← List.map_drop, wrap64, wrapu64, wrapu32, ← Int.natCast_add, ← Int.natCast_mul, cast_succ, wrapu32_nat, shr32, reps_wd, map_set_wd, List.length_set, zs_len, hH, ho, e1, e2, e3, d1, d2, hqq]
    exact ⟨j, by omega, r', o.set j q, garb rfl, rfl, by rw [List.length_set, ho], hr.set hTq, by omega, hTm, ⟨st⟩⟩
end Go.Proofs.Ytiglncbaomoceaa

/- Plain facts: decimal digits, and rows of bytes. (Own work of this repo.) -/
namespace Vm
open Go

/-- The decimal digits, the lowest one first. -/
def dd (n : Nat) : List Nat := if h : n = 0 then [] else n % 10 :: dd (n / 10)
termination_by n
decreasing_by omega
theorem dd_zero : dd 0 = [] := by rw [dd]; simp
theorem dd_pos {n : Nat} (h : n ≠ 0) : dd n = n % 10 :: dd (n / 10) := by rw [dd, dif_neg h]
def dv : List Nat → Nat
  | [] => 0
  | d :: ds => d + 10 * dv ds
theorem dv_dd (n : Nat) : dv (dd n) = n := by
  induction n using Nat.strongRecOn with
  | _ n ih =>
    by_cases h : n = 0
    · subst h; rw [dd_zero]; rfl
    · rw [dd_pos h, dv, ih (n / 10) (by omega)]; omega
theorem dd_lt (n : Nat) : ∀ d ∈ dd n, d < 10 := by
  induction n using Nat.strongRecOn with
  | _ n ih =>
    by_cases h : n = 0
    · subst h; rw [dd_zero]; intro d hd; cases hd
    · rw [dd_pos h]
      intro d hd
      rcases List.mem_cons.1 hd with rfl | hd
      · omega
      · exact ih (n / 10) (by omega) d hd
/-- Digits without a zero at the end are their number's. -/
theorem dd_dv : ∀ (l : List Nat), (∀ d ∈ l, d < 10) → (l = [] ∨ l.getLast? ≠ some 0) → dd (dv l) = l
  | [], _, _ => dd_zero
  | d :: ds, h, hl => by
    have hd := h d (by simp)
    have ih := dd_dv ds (fun x hx => h x (by simp [hx])) (by
      cases ds with
      | nil => exact .inl rfl
      | cons e es =>
        right
        have := hl.resolve_left (by simp)
        rwa [List.getLast?_cons_cons] at this)
    have hpos : d + 10 * dv ds ≠ 0 := by
      intro h0
      have h1 : d = 0 := by omega
      have h2 : dv ds = 0 := by omega
      have h3 : ds = [] := by rw [← ih, h2, dd_zero]
      subst h3; subst h1
      exact (hl.resolve_left (by simp)) rfl
    rw [dv, dd_pos hpos]
    have e1 : (d + 10 * dv ds) % 10 = d := by omega
    have e2 : (d + 10 * dv ds) / 10 = dv ds := by omega
    rw [e1, e2, ih]
theorem dd_last (n : Nat) : dd n = [] ∨ (dd n).getLast? ≠ some 0 := by
  induction n using Nat.strongRecOn with
  | _ n ih =>
    by_cases h : n = 0
    · subst h; exact .inl dd_zero
    · right
      rw [dd_pos h]
      rcases ih (n / 10) (by omega) with h1 | h1
      · rw [h1]
        have : n / 10 = 0 := by have := dv_dd (n / 10); rw [h1] at this; exact this.symm
        intro h2
        simp at h2
        omega
      · cases hq : dd (n / 10) with
        | nil => rw [hq] at h1; intro h2; have := dv_dd (n / 10); rw [hq] at this; simp [dv] at this; simp at h2; omega
        | cons e es => rw [hq] at h1; rwa [List.getLast?_cons_cons]
theorem dd_len {n k : Nat} (h : n < 2 ^ (3 * k)) : (dd n).length ≤ k := by
  induction k generalizing n with
  | zero => have : n = 0 := by simpa using h
            subst this; rw [dd_zero]; simp
  | succ k ih =>
    by_cases h0 : n = 0
    · subst h0; rw [dd_zero]; simp
    · rw [dd_pos h0, List.length_cons]
      have : n / 10 < 2 ^ (3 * k) := by
        rw [Nat.mul_succ, Nat.pow_add] at h
        omega
      have := ih this
      omega
theorem dd_nil {n : Nat} : dd n = [] ↔ n = 0 := ⟨fun h => by rw [← dv_dd n, h]; rfl, fun h => by rw [h, dd_zero]⟩

/-! #### rows of bytes -/
def by8 (n : Nat) : AV := .int .u8 n
/-- A string out of numbers of bytes. -/
def bstr (l : List Nat) : ByteArray := ⟨(l.map UInt8.ofNat).toArray⟩
def InB (l : List Nat) : Prop := ∀ x ∈ l, x < 256
theorem bytes_by : ∀ (l : List Nat), bytesOf (l.map by8) = some (l.map UInt8.ofNat)
  | [] => rfl
  | x :: xs => by simp only [List.map_cons, bytesOf, bytes_by xs]; rfl
theorem pure_by (l : List Nat) : AV.pureL (l.map by8) = true := by induction l <;> simp_all [AV.pureL, AV.pure, by8]
theorem mapL_by {n : Nat} {H : Heap} (l : List Nat) : mapL (purify (n + 1) H) (l.map by8) = some (l.map by8, []) := by
  induction l with
  | nil => rfl
  | cons x xs ih => simp only [List.map_cons, mapL, ih, by8, purify_int]; rfl
theorem get_by {l : List Nat} {i : Nat} (h : i < l.length) : (l.map by8)[i]? = some (by8 (l.getD i 0)) := by simp [h]
theorem map_set_by {l : List Nat} {i x : Nat} : (l.map by8).set i (.int .u8 (x : Int)) = (l.set i x).map by8 := by
  rw [show AV.int .u8 (x : Int) = by8 x from rfl, List.map_set]
theorem bstr_size (l : List Nat) : (bstr l).size = l.length := by simp [bstr, ByteArray.size]
theorem bstr_list (l : List Nat) : (bstr l).data.toList = l.map UInt8.ofNat := by simp [bstr]
theorem u8_nat {x : Nat} (h : x < 256) : (UInt8.ofNat x).toNat = x := by rw [UInt8.toNat_ofNat', Nat.mod_eq_of_lt (by omega)]
theorem bstr_get {l : List Nat} {i : Nat} (h : i < l.length) : (bstr l).data.toList[i]? = some (UInt8.ofNat (l.getD i 0)) := by
  rw [bstr_list]; simp [h]
theorem inB_get {l : List Nat} (h : InB l) (i : Nat) : l.getD i 0 < 256 := by
  rw [List.getD_eq_getElem?_getD]
  by_cases hi : i < l.length
  · rw [List.getElem?_eq_getElem hi]; exact h _ (List.getElem_mem hi)
  · rw [List.getElem?_eq_none (by omega)]; decide
theorem bstr_all (s : ByteArray) : ∃ l, s = bstr l ∧ InB l := by
  refine ⟨s.data.toList.map UInt8.toNat, ?_, ?_⟩
  · unfold bstr
    have : (s.data.toList.map UInt8.toNat).map UInt8.ofNat = s.data.toList := by
      rw [List.map_map]
      have : (UInt8.ofNat ∘ UInt8.toNat) = id := by funext x; simp
      rw [this, List.map_id]
    rw [this]
  · intro x hx
    obtain ⟨u, _, rfl⟩ := List.mem_map.1 hx
    exact u.toNat_lt
theorem map_u8_inj : ∀ {a b : List Nat}, InB a → InB b → a.map UInt8.ofNat = b.map UInt8.ofNat → a = b
  | [], [], _, _, _ => rfl
  | [], _ :: _, _, _, h => by simp at h
  | _ :: _, [], _, _, h => by simp at h
  | x :: xs, y :: ys, ha, hb, h => by
    simp only [List.map_cons, List.cons.injEq] at h
    have := congrArg UInt8.toNat h.1
    rw [u8_nat (ha x (by simp)), u8_nat (hb y (by simp))] at this
    rw [this, map_u8_inj (fun z hz => ha z (by simp [hz])) (fun z hz => hb z (by simp [hz])) h.2]
theorem bstr_inj {a b : List Nat} (ha : InB a) (hb : InB b) : bstr a = bstr b ↔ a = b := by
  refine ⟨fun h => ?_, fun h => by rw [h]⟩
  have : (bstr a).data.toList = (bstr b).data.toList := by rw [h]
  rw [bstr_list, bstr_list] at this
  exact map_u8_inj ha hb this
theorem bstr_drop {l : List Nat} {k : Nat} (h : k ≤ l.length) : (bstr l).extract k l.length = bstr (l.drop k) := by
  unfold bstr
  refine ByteArray.ext ?_
  rw [ByteArray.data_extract]
  apply Array.ext'
  simp [List.map_drop, List.take_of_length_le]
theorem bstr_eql {a b : List Nat} (ha : InB a) (hb : InB b) : ((bstr a).toList == (bstr b).toList) = decide (a = b) := by
  rw [ByteArray.toList_eq, ByteArray.toList_eq, bstr_list, bstr_list]
  by_cases h : a = b
  · subst h; simp
  · rw [decide_eq_false h, beq_eq_false_iff_ne]
    exact fun e => h (map_u8_inj ha hb e)
end Vm

/- Plain facts: what texts are numbers. (Own work of this repo.) -/
namespace Vm
open Go

/-- What digits mean, the highest one first. -/
def dval (d : List Nat) : Nat := dv ((d.map (· - 48)).reverse)
theorem dval_nil : dval [] = 0 := rfl
theorem dval_snoc (d : List Nat) (c : Nat) : dval (d ++ [c]) = 10 * dval d + (c - 48) := by
  unfold dval
  rw [List.map_append, List.reverse_append]
  simp only [List.map_cons, List.map_nil, List.reverse_cons, List.reverse_nil, List.nil_append, List.cons_append, dv]
  omega
theorem dval_take {d : List Nat} {i : Nat} (h : i < d.length) : dval (d.take (i + 1)) = 10 * dval (d.take i) + (d.getD i 0 - 48) := by
  rw [List.take_add_one, List.getElem?_eq_getElem h]
  simp only [Option.toList_some]
  rw [dval_snoc, List.getD_eq_getElem?_getD, List.getElem?_eq_getElem h]; rfl
def DecG (d : List Nat) : Prop := ∀ c ∈ d, 48 ≤ c ∧ c ≤ 57
instance (d : List Nat) : Decidable (DecG d) := by unfold DecG; infer_instance
theorem good_get {d : List Nat} (h : DecG d) {i : Nat} (hi : i < d.length) : 48 ≤ d.getD i 0 ∧ d.getD i 0 ≤ 57 := by
  rw [List.getD_eq_getElem?_getD, List.getElem?_eq_getElem hi]; exact h _ (List.getElem_mem hi)
theorem good_of {d : List Nat} (h : ∀ i, i < d.length → 48 ≤ d.getD i 0 ∧ d.getD i 0 ≤ 57) : DecG d := by
  intro c hc
  obtain ⟨i, hi, rfl⟩ := List.getElem_of_mem hc
  have := h i hi
  rwa [List.getD_eq_getElem?_getD, List.getElem?_eq_getElem hi] at this
def pneg (l : List Nat) : Bool := decide (l.getD 0 0 = 45)
def pbody (l : List Nat) : List Nat := if pneg l then l.drop 1 else l
/-- Is it the text of a number? -/
def pOk (l : List Nat) : Bool := decide (l.length ≤ 60000 ∧ pbody l ≠ [] ∧ ¬ ((pbody l).getD 0 0 = 48 ∧ (pneg l = true ∨ 1 < (pbody l).length)) ∧ DecG (pbody l))
def pval (l : List Nat) : Int := sg (pneg l) (dval (pbody l))
/-- The text of a number: its bytes. -/
def txt (z : Int) : List Nat := if z = 0 then [48] else (if z < 0 then [45] else []) ++ ((dd z.natAbs).map (48 + ·)).reverse
theorem map_back {l : List Nat} : (l.map (48 + ·)).map (· - 48) = l := by
  rw [List.map_map]
  have : ((· - 48) ∘ (48 + ·) : Nat → Nat) = id := by funext x; simp
  rw [this, List.map_id]
theorem map_forth {l : List Nat} (h : DecG l) : (l.map (· - 48)).map (48 + ·) = l := by
  rw [List.map_map]
  conv => rhs; rw [← List.map_id l]
  refine List.map_congr_left fun x hx => ?_
  have := h x hx
  simp; omega
theorem dval_dd (n : Nat) : dval ((dd n).map (48 + ·)).reverse = n := by
  unfold dval
  rw [List.map_reverse, List.reverse_reverse, map_back, dv_dd]
theorem good_dd (n : Nat) : DecG ((dd n).map (48 + ·)).reverse := by
  intro c hc
  rw [List.mem_reverse] at hc
  obtain ⟨d, hd, rfl⟩ := List.mem_map.1 hc
  have := dd_lt n d hd
  omega
theorem dd_head {n : Nat} (h : n ≠ 0) : ((dd n).map (48 + ·)).reverse.getD 0 0 ≠ 48 ∧ ((dd n).map (48 + ·)).reverse.getD 0 0 ≠ 45 ∧ 0 < ((dd n).map (48 + ·)).reverse.length := by
  have h1 : dd n ≠ [] := fun e => h (dd_nil.1 e)
  have h2 := (dd_last n).resolve_left h1
  have h3 : 0 < (dd n).length := List.length_pos_iff.2 h1
  have e : ((dd n).map (48 + ·)).reverse.getD 0 0 = 48 + (dd n).getLast h1 := by
    rw [List.getD_eq_getElem?_getD, List.getElem?_reverse (by simpa using h3), List.length_map, List.getElem?_map, List.getLast_eq_getElem h1, show (dd n).length - 1 - 0 = (dd n).length - 1 by omega, List.getElem?_eq_getElem (by omega)]; rfl
  rw [List.getLast?_eq_some_getLast h1] at h2
  refine ⟨?_, ?_, by rw [List.length_reverse, List.length_map]; exact h3⟩
  · rw [e]; intro h4; exact h2 (by congr 1; omega)
  · rw [e]; omega
theorem txt_body (a : Int) (h : a ≠ 0) : pneg (txt a) = decide (a < 0) ∧ pbody (txt a) = ((dd a.natAbs).map (48 + ·)).reverse := by
  obtain ⟨h1, h2, h3⟩ := dd_head (n := a.natAbs) (by omega)
  have e : pneg (txt a) = decide (a < 0) := by
    unfold txt pneg
    rw [if_neg h]
    by_cases h0 : a < 0
    · rw [if_pos h0]; simp [h0]
    · rw [if_neg h0, List.nil_append, decide_eq_false h2, decide_eq_false h0]
  refine ⟨e, ?_⟩
  unfold pbody
  rw [e]
  unfold txt
  rw [if_neg h]
  by_cases h0 : a < 0
  · rw [decide_eq_true h0, if_pos rfl, if_pos h0]; rfl
  · rw [decide_eq_false h0, if_neg h0, List.nil_append]; rfl
theorem pval_txt (a : Int) : pval (txt a) = a := by
  by_cases h : a = 0
  · subst h; rfl
  · obtain ⟨h1, h2⟩ := txt_body a h
    unfold pval
    rw [h1, h2, dval_dd]
    unfold sg
    by_cases h0 : a < 0
    · rw [decide_eq_true h0, if_pos rfl]; omega
    · rw [decide_eq_false h0]; simp only [Bool.false_eq_true, if_false]; omega
theorem pOk_txt (a : Int) (hl : (txt a).length ≤ 60000) : pOk (txt a) = true := by
  by_cases h : a = 0
  · subst h; decide
  · obtain ⟨h1, h2⟩ := txt_body a h
    obtain ⟨h3, h4, h5⟩ := dd_head (n := a.natAbs) (by omega)
    refine decide_eq_true ⟨hl, ?_, ?_, ?_⟩
    · rw [h2]; exact List.length_pos_iff.1 h5
    · rw [h2]; exact fun h => h3 h.1
    · rw [h2]; exact good_dd _
theorem txt_pval {l : List Nat} (h : pOk l = true) : txt (pval l) = l := by
  obtain ⟨h1, h2, h3, h4⟩ := of_decide_eq_true h
  have hl : l = (if pneg l then [45] else []) ++ pbody l := by
    unfold pbody
    cases hn : pneg l with
    | false => rfl
    | true =>
      have := of_decide_eq_true hn
      cases l with
      | nil => simp at this
      | cons x xs => simp at this; subst this; rfl
  have hb : 0 < (pbody l).length := List.length_pos_iff.2 h2
  have hg := good_get h4 hb
  by_cases h0 : (pbody l).getD 0 0 = 48
  · have h5 : pneg l = false ∧ (pbody l).length = 1 := by
      refine ⟨?_, ?_⟩
      · cases hn : pneg l with
        | false => rfl
        | true => exact absurd ⟨h0, .inl hn⟩ h3
      · by_cases h6 : 1 < (pbody l).length
        · exact absurd ⟨h0, .inr h6⟩ h3
        · omega
    have h6 : pbody l = [48] := by
      generalize pbody l = b at *
      match b, h5.2 with
      | [x], _ => simp at h0; rw [h0]
    unfold pval
    rw [h5.1, h6]
    rw [hl, h5.1, h6]; rfl
  · have hdd : dd (dval (pbody l)) = ((pbody l).map (· - 48)).reverse := by
      unfold dval
      refine dd_dv _ ?_ (.inr ?_)
      · intro d hd
        rw [List.mem_reverse] at hd
        obtain ⟨c, hc, rfl⟩ := List.mem_map.1 hd
        have := h4 c hc
        omega
      · rw [List.getLast?_reverse, List.head?_map]
        intro h5
        generalize pbody l = b at *
        cases b with
        | nil => simp at h2
        | cons x xs =>
          simp at h5 h0 hg
          omega
    have hne : dval (pbody l) ≠ 0 := fun e => by
      rw [e, dd_zero] at hdd
      have := congrArg List.length hdd
      simp at this
      exact h2 (List.length_eq_zero_iff.1 this.symm)
    have hna : (pval l).natAbs = dval (pbody l) := by unfold pval sg; split <;> omega
    have hz : pval l ≠ 0 := by omega
    have hneg : (pval l < 0) ↔ pneg l = true := by
      unfold pval sg
      cases pneg l with
      | true => simp; omega
      | false => simp
    unfold txt
    rw [if_neg hz, hna, hdd, List.map_reverse, List.reverse_reverse, map_forth h4]
    conv => rhs; rw [hl]
    congr 1
    by_cases h7 : pneg l = true
    · rw [if_pos (hneg.2 h7), if_pos h7]
    · rw [if_neg (fun h => h7 (hneg.1 h)), if_neg h7]
end Vm

/- Walks: Shift. (Own work of this repo.) -/
namespace Go.Proofs.Ytiglncbaomoceaa
open Vm
set_option maxRecDepth 10000

theorem floor_neg (y c : Nat) (hc : 0 < c) : (-(y : Int)) / (c : Int) = -((y / c + (if y % c = 0 then 0 else 1) : Nat) : Int) := by
  have h := Nat.div_add_mod y c
  have hm := Nat.mod_lt y hc
  generalize y / c = q at *
  generalize y % c = r at *
  have hy : (y : Int) = c * q + r := by rw [← h]; push_cast; rfl
  have hc' : (0 : Int) < c := by omega
  by_cases h0 : r = 0
  · rw [if_pos h0, hy, h0]
    rw [show -((c : Int) * q + ((0 : Nat) : Int)) = (c : Int) * (-(q : Int)) by rw [Int.mul_neg]; simp, Int.mul_ediv_cancel_left _ (by omega)]
    simp
  · rw [if_neg h0, hy]
    rw [show -((c : Int) * q + r) = (c - r) + (c : Int) * (-(q : Int) - 1) by rw [Int.mul_sub, Int.mul_neg]; omega, Int.add_mul_ediv_left _ _ (by omega), Int.ediv_eq_zero_of_lt (by omega) (by omega)]
    push_cast
    omega
theorem floor_pos (y c : Nat) : (y : Int) / (c : Int) = ((y / c : Nat) : Int) := by push_cast; rfl
theorem shl_abs (x : Int) (n : Nat) : sg (ng x) (x.natAbs * 2 ^ n) = x * 2 ^ n := by
  have e : ((2 ^ n : Nat) : Int) = 2 ^ n := by push_cast; rfl
  unfold sg
  by_cases h : x < 0
  · rw [if_pos (ng_true.2 h)]
    rw [show x * 2 ^ n = -(-x * 2 ^ n) by rw [Int.neg_mul, Int.neg_neg], show -x = ((x.natAbs : Nat) : Int) by omega]
    push_cast; rfl
  · rw [if_neg (by rw [Bool.not_eq_true]; exact ng_false.2 (by omega))]
    rw [show x * 2 ^ n = ((x.natAbs : Nat) : Int) * 2 ^ n by rw [show ((x.natAbs : Nat) : Int) = x by omega]]
    push_cast; rfl
theorem valid_len {x : Int} {k : Nat} (h : (dg x).length ≤ k) : x.natAbs < 2 ^ (32 * k) := by
  have := dg_len.1 h
  rwa [show BB = 2 ^ 32 from rfl, ← Nat.pow_mul] at this
theorem shl_no {x : Int} {n k : Nat} (hx : x ≠ 0) (h : 32 * k ≤ n) : ¬ (dg (x * 2 ^ n)).length ≤ k := by
  intro hl
  have h1 := valid_len hl
  rw [Int.natAbs_mul, Int.natAbs_pow] at h1
  have h4 : 2 ^ (32 * k) ≤ 2 ^ n := Nat.pow_le_pow_right (by decide) h
  have h5 : 1 * 2 ^ n ≤ x.natAbs * 2 ^ n := Nat.mul_le_mul_right _ (by omega)
  rw [Nat.one_mul] at h5
  exact absurd (Nat.lt_of_le_of_lt (Nat.le_trans h4 h5) h1) (Nat.lt_irrefl _)
theorem floor_far {x : Int} {n m k : Nat} (hx : (dg x).length ≤ k) (hn : 32 * k ≤ n) (hm : 32 * k ≤ m) : x / 2 ^ n = x / 2 ^ m := by
  have hv := valid_len hx
  have hv2 : x.natAbs < 2 ^ n := Nat.lt_of_lt_of_le hv (Nat.pow_le_pow_right (by decide) hn)
  have hv1 : x.natAbs < 2 ^ m := Nat.lt_of_lt_of_le hv (Nat.pow_le_pow_right (by decide) hm)
  have p1 : ((2 ^ n : Nat) : Int) = 2 ^ n := by push_cast; rfl
  have p2 : ((2 ^ m : Nat) : Int) = 2 ^ m := by push_cast; rfl
  rw [← p1, ← p2]
  rcases Int.natAbs_eq x with h | h
  · rw [h, floor_pos, floor_pos, Nat.div_eq_of_lt hv1, Nat.div_eq_of_lt hv2]
  · rw [h, floor_neg _ _ (Nat.pow_pos (by decide)), floor_neg _ _ (Nat.pow_pos (by decide)), Nat.div_eq_of_lt hv1, Nat.div_eq_of_lt hv2, Nat.mod_eq_of_lt hv1, Nat.mod_eq_of_lt hv2]
theorem len_ge {x : Int} {k : Nat} (h : BB ^ k ≤ x.natAbs) : k < (dg x).length := by
  rcases Nat.lt_or_ge k (dg x).length with h1 | h1
  · exact h1
  · have := dg_len.1 h1; omega
theorem dig_shl (a n : Nat) : (dig (a * 2 ^ n)).length ≤ (dig a).length + (n / 32 + 1) := by
  have h := dig_mul a (2 ^ n)
  have h2 : (dig (2 ^ n)).length ≤ n / 32 + 1 := by
    rw [dig_len, show BB = 2 ^ 32 from rfl, ← Nat.pow_mul]
    exact Nat.pow_lt_pow_right (by decide) (by omega)
  omega
end Go.Proofs.Ytiglncbaomoceaa

/- Walks: the text of a number. (Own work of this repo.) -/
namespace Go.Proofs.Ytiglncbaomoceaa
open Vm
set_option maxRecDepth 100000

theorem refP_by {n : Nat} {H : Heap} {id len : Nat} {l : List Nat} {fz : Bool} (hl : l.length = len) : refP (n + 1) H id 0 len (some ⟨l.map by8, false, 1, fz⟩) = some (.lst false (l.map by8), [id]) := by
  unfold refP
  dsimp only
  rw [if_pos (by simp; omega)]
  simp only [List.drop_zero, Nat.mul_one]
  rw [List.take_of_length_le (by simp; omega), mapL_by]
  dsimp only
  rw [elems_one _ _ (by simp; omega)]
set_option maxHeartbeats 1000000 in
theorem reverse_open (id : Nat) (l : List Nat) (h : Heap) (nx : Nat) (hH : h id = some ⟨l.map by8, false, 1, false⟩) (hl0 : 0 < l.length) (hl : l.length < 2 ^ 40) :
    ∃ (p : List Nat) (h' : Heap), denO E 78 [.ref id 0 l.length] h nx = some (.ret (.tup []), h', nx) ∧ h' id = some ⟨p.map by8, false, 1, false⟩ ∧ (∀ j, j ≠ id → h' j = h j) ∧ p = l.reverse := by
  have key : ∃ v h' n, denO E 78 [.ref id 0 l.length] h nx = some (.ret v, h', n) ∧ ∃ p : List Nat, v = .tup [] ∧ n = nx ∧ h' id = some ⟨p.map by8, false, 1, false⟩ ∧ (∀ j, j ≠ id → h' j = h j) ∧ p = l.reverse := by
    refine denO_intro E78 rfl ?_
    have e0 : (l.length : Int) - 1 = ((l.length - 1 : Nat) : Int) := by omega
    simp (maxSteps := 4000000) (disch := omega) only [go_sem, ↓reduceIte, Nat.reduceAdd, Nat.reduceSub, Nat.reduceMul, Nat.reduceEqDiff, reduceCtorEq, Int.reduceAdd, Int.reduceLT, Int.reduceLE, Int.reduceToNat, Int.reduceNeg, Int.reduceSub, ← List.map_take, ← List.map_drop, wrap64, wrapu64, wrapu32, ← Int.natCast_add, ← Int.natCast_mul, cast_succ, wrapu32_nat, shr32, reps_wd, map_set_wd, List.length_set, zs_len, Try.f78, hH, e0]
    refine W_loopS (fun k sl H n => ∃ (i : Nat) (p : List Nat), (∃ g : Nat → AV, sl = [.ref id 0 l.length, g 1, .int .i64 i, .int .i64 ((l.length : Int) - 1 - i), g 4, g 5, g 6, g 7, g 8, g 9, g 10, g 11, g 12, g 13, g 14, g 15, g 16, g 17, g 18, g 19, g 20, g 21, g 22, g 23, g 24, g 25, g 26, g 27]) ∧ n = nx ∧
      H id = some ⟨p.map by8, false, 1, false⟩ ∧ Hd (∀ j, j ≠ id → H j = h j) ∧ p.length = l.length ∧ i + k = l.length ∧ 2 * i ≤ l.length ∧ Hd (∀ t, t < l.length → p.getD t 0 = if t < i ∨ l.length ≤ t + i then l.getD (l.length - 1 - t) 0 else l.getD t 0)) l.length
      ⟨0, l, by rw [show (l.length : Int) - 1 - ((0 : Nat) : Int) = ((l.length - 1 : Nat) : Int) by omega]; exact garb rfl, rfl, hH, ⟨fun _ _ => rfl⟩, rfl, by omega, by omega, ⟨fun t ht => by rw [if_neg (by omega)]⟩⟩ ?_
    clear hH
    rintro k _ H _ ⟨i, p, ⟨g, rfl⟩, rfl, hp, hF, hpl, hk, hi, hv⟩
    by_cases hc : i + 1 < l.length - i
    · have e1 : (l.length : Int) - 1 - (i : Int) = ((l.length - 1 - i : Nat) : Int) := by omega
      have e2 : ((l.length - 1 - i : Nat) : Int) - 1 = (l.length : Int) - 1 - ((i + 1 : Nat) : Int) := by omega
      obtain ⟨j, hj⟩ : ∃ j, j = l.length - 1 - i := ⟨_, rfl⟩
      rw [← hj] at e1 e2
      have hji : i < j := by omega
      have hjl : j < l.length := by omega
      have hF3 := hF.out
      have hv2 : ∀ t, t < l.length → ((p.set i (p.getD j 0)).set j (p.getD i 0)).getD t 0 = if t < i + 1 ∨ l.length ≤ t + (i + 1) then l.getD (l.length - 1 - t) 0 else l.getD t 0 := fun t ht => by
        have h1 := hv.out i (by omega)
        have h2 := hv.out j hjl
        rw [if_neg (by omega)] at h1 h2
        by_cases htj : t = j
        · subst htj
          rw [lget_set_self (by rw [List.length_set]; omega), h1, if_pos (by omega)]
          congr 1; omega
        · rw [lget_set_ne (fun e => htj e.symm)]
          by_cases hti : t = i
          · subst hti
            rw [lget_set_self (by omega), h2, if_pos (by omega)]
            congr 1
          · rw [lget_set_ne (fun e => hti e.symm), hv.out t ht]
            by_cases hq : t < i ∨ l.length ≤ t + i
            · rw [if_pos hq, if_pos (by omega)]
            · rw [if_neg hq, if_neg (by omega)]
      clear hv hF hj
      simp (maxSteps := 4000000) (disch := omega) only [go_sem, ↓reduceIte, Nat.reduceAdd, Nat.reduceSub, Nat.reduceMul, Nat.reduceEqDiff, reduceCtorEq, Int.reduceAdd, Int.reduceLT, Int.reduceLE, Int.reduceToNat, Int.reduceNeg, Int.reduceSub, ← List.map_take, ← List.map_drop, wrap64, wrapu64, wrapu32, ← Int.natCast_add, ← Int.natCast_mul, cast_succ, wrapu32_nat, shr32, reps_wd, map_set_wd, List.length_set, zs_len, e1]
      refine W_drawn ?_
      simp (maxSteps := 4000000) (disch := omega) only [go_sem, ↓reduceIte, Nat.reduceAdd, Nat.reduceSub, Nat.reduceMul, Nat.reduceEqDiff, reduceCtorEq, Int.reduceAdd, Int.reduceLT, Int.reduceLE, Int.reduceToNat, Int.reduceNeg, Int.reduceSub, ← List.map_take, ← List.map_drop, wrap64, wrapu64, wrapu32, ← Int.natCast_add, ← Int.natCast_mul, cast_succ, wrapu32_nat, shr32, reps_wd, map_set_wd, List.length_set, zs_len, hp, hpl, get_by, map_set_by, by8, e1, Int.toNat_natCast]
      exact ⟨by refine okR_pairs ?_; (repeat ((with_unfolding_all refine And.intro ?_ ?_); (focus (rw [free_mk] <;> (try simp) <;> (try omega))))); (with_unfolding_all exact True.intro), k - 1, by omega, i + 1, (p.set i (p.getD j 0)).set j (p.getD i 0), by rw [e2]; exact garb rfl, rfl, ⟨fun t ht => by rw [if_neg ht]; exact hF3 t ht⟩, by rw [List.length_set, List.length_set, hpl], by omega, by omega, ⟨hv2⟩⟩
    · have hfin : p = l.reverse := by
        refine List.ext_getElem (by rw [List.length_reverse, hpl]) fun t h1 h2 => ?_
        have h3 := hv.out t (by omega)
        rw [List.getD_eq_getElem?_getD, List.getElem?_eq_getElem h1] at h3
        simp only [Option.getD_some] at h3
        rw [h3, List.getElem_reverse]
        by_cases hq : t < i ∨ l.length ≤ t + i
        · rw [if_pos hq, List.getD_eq_getElem?_getD, List.getElem?_eq_getElem (by omega)]; rfl
        · rw [if_neg hq, List.getD_eq_getElem?_getD, List.getElem?_eq_getElem (by omega)]
          simp only [Option.getD_some]
          congr 1; omega
      have hF2 := hF.out
      clear hv hF
      simp (maxSteps := 4000000) (disch := omega) only [go_sem, ↓reduceIte, Nat.reduceAdd, Nat.reduceSub, Nat.reduceMul, Nat.reduceEqDiff, reduceCtorEq, Int.reduceAdd, Int.reduceLT, Int.reduceLE, Int.reduceToNat, Int.reduceNeg, Int.reduceSub, ← List.map_take, ← List.map_drop, wrap64, wrapu64, wrapu32, ← Int.natCast_add, ← Int.natCast_mul, cast_succ, wrapu32_nat, shr32, reps_wd, map_set_wd, List.length_set, zs_len, hp]
      exact ⟨p, rfl, hF2, hfin⟩
  obtain ⟨v, h', n, h1, p, rfl, rfl, h2, h3, h4⟩ := key
  exact ⟨p, h', h1, h2, h3, h4⟩
/-- A row of bytes that grows: nothing yet, or a row of the heap. -/
def Grow (H : Heap) (nx : Nat) (v : AV) (l : List Nat) : Prop := (l = [] ∧ v = .lst true []) ∨ (0 < l.length ∧ ∃ id, 0 < id ∧ id < nx ∧ v = .ref id 0 l.length ∧ H id = some ⟨l.map by8, false, 1, false⟩)
theorem txt_inB (z : Int) : InB (txt z) := by
  intro x hx
  unfold txt at hx
  split at hx
  · simp at hx; omega
  · rcases List.mem_append.1 hx with h | h
    · split at h
      · simp at h; omega
      · cases h
    · rw [List.mem_reverse, List.mem_map] at h
      obtain ⟨d, hd, rfl⟩ := h
      have := dd_lt _ d hd
      omega
/-- How far the digits are written. -/
theorem dg_step {A M : Nat} {pre : List Nat} (hM : 0 < M) (h : pre ++ dd M = dd A) : (pre ++ [M % 10]) ++ dd (M / 10) = dd A := by
  rw [← h, dd_pos (n := M) (by omega), List.append_assoc]; rfl
theorem grow_bytes {H : Heap} {nx : Nat} {v : AV} {l : List Nat} (h : Grow H nx v l) : l.map by8 = [] ∨ 0 < l.length := by
  rcases h with ⟨rfl, _⟩ | ⟨h, _⟩
  · exact .inl rfl
  · exact .inr h
theorem pow9 {i : Nat} (h : i < 9) : 10 ^ (9 - i) = 10 * 10 ^ (8 - i) := by
  rw [show 9 - i = 8 - i + 1 by omega, Nat.pow_succ, Nat.mul_comm]
set_option maxHeartbeats 4000000 in
theorem text_spec (m : Bool) (a : Int) (ha : (dg a).length ≤ 4096) : denP E 61 [I m a] = some (.ret (.tup [.str (bstr (txt a)), .int .i64 0])) := by
  refine denP_eq E61 rfl (by simp [AV.pureL, AV.pure, pure_wd]) ?_
  have h1 := valid_I m a ha
  by_cases h0 : a = 0
  · subst h0
    have e : bstr (txt 0) = ⟨#[48]⟩ := rfl
    rw [e]
    simp only [I, ng_zero, dg_zero, List.map_nil] at h1
    simp (maxSteps := 4000000) (disch := omega) only [go_sem, ↓reduceIte, Nat.reduceAdd, Nat.reduceSub, Nat.reduceMul, Nat.reduceEqDiff, reduceCtorEq, Int.reduceAdd, Int.reduceLT, Int.reduceLE, Int.reduceToNat, Int.reduceNeg, Int.reduceSub, ← List.map_take, ← List.map_drop, wrap64, wrapu64, wrapu32, ← Int.natCast_add, ← Int.natCast_mul, cast_succ, wrapu32_nat, shr32, reps_wd, map_set_wd, List.length_set, zs_len, Try.f61, h1, ng_zero, dg_zero, List.map_nil]
  · have hl := dg_pos.2 h0
    obtain ⟨A, hA⟩ : ∃ A, A = a.natAbs := ⟨_, rfl⟩
    have hA0 : A ≠ 0 := by omega
    obtain ⟨L, hLL⟩ : ∃ L, L = 4096 := ⟨_, rfl⟩
    obtain ⟨K, hK⟩ : ∃ K, K = 43691 := ⟨_, rfl⟩
    have hddl : (dd A).length ≤ K := dd_len (by
      have h9 := valid_len (k := L) (by rw [hLL]; exact ha)
      rw [← hA] at h9
      exact Nat.lt_of_lt_of_le h9 (Nat.pow_le_pow_right (by decide) (by omega)))
    have hdA : dg a = dig A := by rw [hA]; rfl
    simp (maxSteps := 4000000) (disch := omega) only [go_sem, ↓reduceIte, Nat.reduceAdd, Nat.reduceSub, Nat.reduceMul, Nat.reduceEqDiff, reduceCtorEq, Int.reduceAdd, Int.reduceLT, Int.reduceLE, Int.reduceToNat, Int.reduceNeg, Int.reduceSub, ← List.map_take, ← List.map_drop, wrap64, wrapu64, wrapu32, ← Int.natCast_add, ← Int.natCast_mul, cast_succ, wrapu32_nat, shr32, reps_wd, map_set_wd, List.length_set, zs_len, Try.f61, h1]
    refine W_loopS (fun N sl H nx => ∃ (v : AV) (pre : List Nat) (f : Bool), (∃ g : Nat → AV, sl = [g 0, .ptr 0 0, g 2, g 3, v, .lst f ((dig N).map wd), g 6, g 7, g 8, g 9, g 10, g 11, g 12, g 13, g 14, g 15, g 16, g 17, g 18, g 19, g 20, g 21, g 22, g 23, g 24, g 25, g 26, g 27, g 28, g 29, g 30, g 31, g 32, g 33, g 34, g 35, g 36, g 37, g 38, g 39, g 40, g 41, g 42, g 43, g 44, g 45, g 46, g 47, g 48, g 49, g 50, g 51, g 52, g 53, g 54, g 55, g 56, g 57]) ∧ 1 ≤ nx ∧
      H 0 = some ⟨[.bool (ng a), .lst m ((dg a).map wd)], true, 2, false⟩ ∧ Grow H nx v (pre.map (48 + ·)) ∧ N ≤ A ∧ Hd (pre ++ dd N = dd A)) A
      ⟨.lst true [], [], m, by rw [hdA]; exact garb rfl, Nat.le_refl 1, rfl, .inl ⟨rfl, rfl⟩, Nat.le_refl _, ⟨rfl⟩⟩ ?_
    clear h1
    rintro N _ H nx ⟨v, pre, f, ⟨g, rfl⟩, hnx, q0, hG, hNA, hpre⟩
    have hplen : pre.length ≤ K := by
      have := congrArg List.length hpre.out
      rw [List.length_append] at this; omega
    have lN : (dig N).length ≤ 4096 := Nat.le_trans (dig_mono hNA) (by rw [← hdA]; exact ha)
    by_cases hN0 : N = 0
    · subst hN0
      have hd0 : (dig 0).length = 0 := by rw [dig_zero]; rfl
      have hfin : pre = dd A := by have := hpre.out; rwa [dd_zero, List.append_nil] at this
      have hne : 0 < pre.length := by
        rw [hfin]; exact List.length_pos_iff.2 (fun e => hA0 (dd_nil.1 e))
      rcases hG with ⟨hG, _⟩ | ⟨hGl, id, hid0, hid, rfl, hGH⟩
      · have := congrArg List.length hG; simp at this; subst this; simp at hne
      · rw [List.length_map] at hGl
        rw [List.length_map] at *
        have htx : txt a = (if a < 0 then [45] else []) ++ ((pre.map (48 + ·)).reverse) := by rw [txt, if_neg h0, hfin, hA]
        obtain ⟨bs, hbs⟩ : ∃ bs, bs = pre.map (48 + ·) := ⟨_, rfl⟩
        rw [← hbs] at hGH htx
        have hbl : pre.length = bs.length := by rw [hbs, List.length_map]
        rw [hbl] at hplen hGl
        rw [htx, hbl]
        clear hpre htx hfin hbs hbl hne hddl
        cases hs : ng a with
        | false =>
          have hs0 := ng_false.1 hs
          rw [if_neg (show ¬ a < 0 by omega), List.nil_append]
          rw [hs] at q0
          have hrev := reverse_open id bs
          simp (maxSteps := 4000000) (disch := omega) only [go_sem, ↓reduceIte, Nat.reduceAdd, Nat.reduceSub, Nat.reduceMul, Nat.reduceEqDiff, reduceCtorEq, Int.reduceAdd, Int.reduceLT, Int.reduceLE, Int.reduceToNat, Int.reduceNeg, Int.reduceSub, ← List.map_take, ← List.map_drop, wrap64, wrapu64, wrapu32, ← Int.natCast_add, ← Int.natCast_mul, cast_succ, wrapu32_nat, shr32, reps_wd, map_set_wd, List.length_set, zs_len, q0, hd0, hs]
          refine openK_ex (hrev _ _ hGH hGl (by omega)) ?_
          rintro p H' ⟨hp, hF, rfl⟩
          have htk : List.take bs.length bs.reverse = bs.reverse := List.take_of_length_le (by rw [List.length_reverse]; omega)
          simp (maxSteps := 4000000) (disch := omega) only [go_sem, ↓reduceIte, Nat.reduceAdd, Nat.reduceSub, Nat.reduceMul, Nat.reduceEqDiff, reduceCtorEq, Int.reduceAdd, Int.reduceLT, Int.reduceLE, Int.reduceToNat, Int.reduceNeg, Int.reduceSub, ← List.map_take, ← List.map_drop, wrap64, wrapu64, wrapu32, ← Int.natCast_add, ← Int.natCast_mul, cast_succ, wrapu32_nat, shr32, reps_wd, map_set_wd, List.length_set, zs_len, strEff, strOf, hp, srcCells, List.length_reverse, htk, bytes_by]
          rfl
        | true =>
          have hs0 := ng_true.1 hs
          rw [if_pos hs0]
          rw [hs] at q0
          have hm1 : List.map by8 bs ++ [AV.int .u8 45] = List.map by8 (bs ++ [45]) := by rw [List.map_append]; rfl
          have hrev := reverse_open (nx + 1) (bs ++ [45])
          have hbl2 : (bs ++ [45]).length = bs.length + 1 := by rw [List.length_append]; rfl
          have hrv : (bs ++ [45]).reverse = [45] ++ bs.reverse := by rw [List.reverse_append]; rfl
          simp (maxSteps := 4000000) (disch := omega) only [go_sem, ↓reduceIte, Nat.reduceAdd, Nat.reduceSub, Nat.reduceMul, Nat.reduceEqDiff, reduceCtorEq, Int.reduceAdd, Int.reduceLT, Int.reduceLE, Int.reduceToNat, Int.reduceNeg, Int.reduceSub, ← List.map_take, ← List.map_drop, wrap64, wrapu64, wrapu32, ← Int.natCast_add, ← Int.natCast_mul, cast_succ, wrapu32_nat, shr32, reps_wd, map_set_wd, List.length_set, zs_len, q0, hd0, hs, hGH, reps, fillAll, appendEff, srcCells, List.headD, hm1]
          rw [← hbl2]
          refine openK_ex (hrev _ _ (by simp [upd_apply]) (by omega) (by omega)) ?_
          rintro p H' ⟨hp, hF, rfl⟩
          have htk : List.take (bs ++ [45]).length (bs ++ [45]).reverse = (bs ++ [45]).reverse := List.take_of_length_le (by rw [List.length_reverse]; omega)
          simp (maxSteps := 4000000) (disch := omega) only [go_sem, ↓reduceIte, Nat.reduceAdd, Nat.reduceSub, Nat.reduceMul, Nat.reduceEqDiff, reduceCtorEq, Int.reduceAdd, Int.reduceLT, Int.reduceLE, Int.reduceToNat, Int.reduceNeg, Int.reduceSub, ← List.map_take, ← List.map_drop, wrap64, wrapu64, wrapu32, ← Int.natCast_add, ← Int.natCast_mul, cast_succ, wrapu32_nat, shr32, reps_wd, map_set_wd, List.length_set, zs_len, strEff, strOf, hp, srcCells, List.length_reverse, htk, bytes_by]
          rw [hrv]
          rfl
    · have hNl : 0 < (dig N).length := List.length_pos_iff.2 (fun e => hN0 (dig_nil.1 e))
      have ho := over_spec f (dig N) 1000000000 (dig_inR N) (by omega) (by decide) (by decide)
      rw [val_dig] at ho
      have hr := Nat.mod_lt N (show 0 < 1000000000 by decide)
      have hdm := Nat.div_add_mod N 1000000000
      have hqN : N / 1000000000 < N := Nat.div_lt_self (by omega) (by decide)
      generalize N / 1000000000 = q at *
      generalize N % 1000000000 = r0 at *
      have lq : (dig q).length ≤ 4096 := Nat.le_trans (dig_mono (Nat.le_of_lt hqN)) lN
      have h0d : (0 < (dig q).length) ↔ q ≠ 0 := by rw [List.length_pos_iff, ne_eq, dig_nil]
      simp only [Int.cast_ofNat_Int] at ho
      simp (maxSteps := 4000000) (disch := omega) only [go_sem, ↓reduceIte, Nat.reduceAdd, Nat.reduceSub, Nat.reduceMul, Nat.reduceEqDiff, reduceCtorEq, Int.reduceAdd, Int.reduceLT, Int.reduceLE, Int.reduceToNat, Int.reduceNeg, Int.reduceSub, ← List.map_take, ← List.map_drop, wrap64, wrapu64, wrapu32, ← Int.natCast_add, ← Int.natCast_mul, cast_succ, wrapu32_nat, shr32, reps_wd, map_set_wd, List.length_set, zs_len, ho]
      refine W_loopS (fun k sl H2 nx2 => ∃ (v : AV) (pre : List Nat) (i r : Nat), (∃ g : Nat → AV, sl = [g 0, .ptr 0 0, g 2, g 3, v, .lst false ((dig q).map wd), g 6, .int .u32 r, .int .i64 i, g 9, g 10, g 11, g 12, g 13, g 14, g 15, g 16, g 17, g 18, g 19, g 20, g 21, g 22, g 23, g 24, g 25, g 26, g 27, g 28, g 29, g 30, g 31, g 32, g 33, g 34, g 35, g 36, g 37, g 38, g 39, g 40, g 41, g 42, g 43, g 44, g 45, g 46, g 47, g 48, g 49, g 50, g 51, g 52, g 53, g 54, g 55, g 56, g 57]) ∧ 1 ≤ nx2 ∧
        H2 0 = some ⟨[.bool (ng a), .lst m ((dg a).map wd)], true, 2, false⟩ ∧ Grow H2 nx2 v (pre.map (48 + ·)) ∧ i + k = 9 ∧ r < 1000000000 ∧ Hd (r < 10 ^ (9 - i)) ∧ Hd (pre ++ dd (r + q * 10 ^ (9 - i)) = dd A)) 9
        ⟨v, pre, 0, r0, garb rfl, hnx, q0, hG, by omega, hr, ⟨hr⟩, ⟨by rw [show r0 + q * 10 ^ (9 - 0) = N by rw [← hdm]; show r0 + q * 1000000000 = _; omega]; exact hpre.out⟩⟩ ?_
      clear ho q0 hG hpre hplen lN hnx hdm hN0 hNl hr
      rintro k _ H2 nx2 ⟨v2, pre2, i, r, ⟨g2, rfl⟩, hnx, q0, hG, hik, hr, hr9, hpre⟩
      have hplen : pre2.length ≤ K := by
        have := congrArg List.length hpre.out
        rw [List.length_append] at this; omega
      by_cases hgo : i < 9 ∧ (q ≠ 0 ∨ 0 < r)
      · obtain ⟨hi, hqr⟩ := hgo
        have hM : 0 < r + q * 10 ^ (9 - i) := by
          rcases hqr with h | h
          · have : 0 < q * 10 ^ (9 - i) := Nat.mul_pos (by omega) (Nat.pow_pos (by decide))
            omega
          · omega
        have hMm : (r + q * 10 ^ (9 - i)) % 10 = r % 10 := by rw [pow9 hi, Nat.mul_left_comm]; omega
        have hMd : (r + q * 10 ^ (9 - i)) / 10 = r / 10 + q * 10 ^ (9 - (i + 1)) := by
          rw [pow9 hi, Nat.mul_left_comm, show 9 - (i + 1) = 8 - i by omega]; omega
        have hst := dg_step hM hpre.out
        rw [hMm, hMd] at hst
        have hr9' : r / 10 < 10 ^ (9 - (i + 1)) := by
          have := hr9.out
          rw [pow9 hi] at this
          rw [show 9 - (i + 1) = 8 - i by omega]; omega
        have d1 : (r : Int).tmod 10 = ((r % 10 : Nat) : Int) := rfl
        have d2 : (r : Int).tdiv 10 = ((r / 10 : Nat) : Int) := rfl
        have d3 : r / 10 % 4294967296 = r / 10 := Nat.mod_eq_of_lt (by omega)
        have d4 : IntKind.u8.wrap ((48 : Int) + ((r % 10 : Nat) : Int)) = ((48 + r % 10 : Nat) : Int) := by rw [IntKind.wrap_u8']; omega
        have d5 : IntKind.u32.wrap ((48 : Int) + ((r % 10 : Nat) : Int)) = (48 : Int) + ((r % 10 : Nat) : Int) := by rw [IntKind.wrap_u32']; omega
        obtain ⟨D, hD⟩ : ∃ D, D = 48 + r % 10 := ⟨_, rfl⟩
        rw [← hD] at d4
        have hmap : (pre2 ++ [r % 10]).map (48 + ·) = pre2.map (48 + ·) ++ [D] := by rw [List.map_append, hD]; rfl
        have hpl2 : (pre2.map (48 + ·)).length ≤ K := by rw [List.length_map]; exact hplen
        have hr8 : r / 10 < 1000000000 := by omega
        replace hst := Hd.mk hst
        replace hr9' := Hd.mk hr9'
        clear hpre hr9 hMm hMd hM hD hplen hddl
        have fin : ∀ (bs : List Nat), (pre2 ++ [r % 10]).map (48 + ·) = bs → ∀ (H3 : Heap) (n3 : Nat) (v3 : AV), Grow H3 n3 v3 bs → Grow H3 n3 v3 ((pre2 ++ [r % 10]).map (48 + ·)) := fun bs hb H3 n3 v3 h => by rw [hb]; exact h
        generalize hbs : pre2.map (48 + ·) = bs at *
        have hone : [AV.int .u8 ((D : Nat) : Int)] = List.map by8 [D] := rfl
        have key : ∀ (cnd : (0 < (dig q).length) ∨ ((dig q).length = 0 ∧ 0 < r)), (0 < (dig q).length) ∨ ((dig q).length = 0 ∧ 0 < r) := fun h => h
        have hcnd : (0 < (dig q).length) ∨ ((dig q).length = 0 ∧ 0 < r) := by
          rcases hqr with h | h
          · exact .inl (h0d.2 h)
          · by_cases hq : q = 0
            · exact .inr ⟨by rw [hq, dig_zero]; rfl, h⟩
            · exact .inl (h0d.2 hq)
        clear key hqr h0d
        rcases hG with ⟨hG1, rfl⟩ | ⟨hGl, id, hid0, hid, rfl, hGH⟩
        · subst hG1
          rw [List.nil_append] at hmap
          rcases hcnd with hq1 | ⟨hq1, hq2⟩
          · simp (maxSteps := 4000000) (disch := omega) only [go_sem, ↓reduceIte, Nat.reduceAdd, Nat.reduceSub, Nat.reduceMul, Nat.reduceEqDiff, reduceCtorEq, Int.reduceAdd, Int.reduceLT, Int.reduceLE, Int.reduceToNat, Int.reduceNeg, Int.reduceSub, ← List.map_take, ← List.map_drop, wrap64, wrapu64, wrapu32, ← Int.natCast_add, ← Int.natCast_mul, cast_succ, wrapu32_nat, shr32, reps_wd, map_set_wd, List.length_set, zs_len, hq1, d1, d2, d3, d4, d5, q0, reps, fillAll, appendEff, srcCells, List.headD]
            exact ⟨k - 1, by omega, .ref (nx2 + 1) 0 1, pre2 ++ [r % 10], i + 1, r / 10, garb rfl, by omega, .inr ⟨by rw [hmap]; exact Nat.one_pos, nx2 + 1, by omega, by omega, by rw [hmap]; rfl, by rw [hmap]; exact upd_same⟩, by omega, hr8, hr9', hst⟩
          · simp (maxSteps := 4000000) (disch := omega) only [go_sem, ↓reduceIte, Nat.reduceAdd, Nat.reduceSub, Nat.reduceMul, Nat.reduceEqDiff, reduceCtorEq, Int.reduceAdd, Int.reduceLT, Int.reduceLE, Int.reduceToNat, Int.reduceNeg, Int.reduceSub, ← List.map_take, ← List.map_drop, wrap64, wrapu64, wrapu32, ← Int.natCast_add, ← Int.natCast_mul, cast_succ, wrapu32_nat, shr32, reps_wd, map_set_wd, List.length_set, zs_len, hq1, d1, d2, d3, d4, d5, q0, reps, fillAll, appendEff, srcCells, List.headD]
            exact ⟨k - 1, by omega, .ref (nx2 + 1) 0 1, pre2 ++ [r % 10], i + 1, r / 10, garb rfl, by omega, .inr ⟨by rw [hmap]; exact Nat.one_pos, nx2 + 1, by omega, by omega, by rw [hmap]; rfl, by rw [hmap]; exact upd_same⟩, by omega, hr8, hr9', hst⟩
        · have hm1 : List.map by8 bs ++ [AV.int .u8 ((D : Nat) : Int)] = List.map by8 (bs ++ [D]) := by rw [List.map_append]; rfl
          rcases hcnd with hq1 | ⟨hq1, hq2⟩
          · simp (maxSteps := 4000000) (disch := omega) only [go_sem, ↓reduceIte, Nat.reduceAdd, Nat.reduceSub, Nat.reduceMul, Nat.reduceEqDiff, reduceCtorEq, Int.reduceAdd, Int.reduceLT, Int.reduceLE, Int.reduceToNat, Int.reduceNeg, Int.reduceSub, ← List.map_take, ← List.map_drop, wrap64, wrapu64, wrapu32, ← Int.natCast_add, ← Int.natCast_mul, cast_succ, wrapu32_nat, shr32, reps_wd, map_set_wd, List.length_set, zs_len, hq1, d1, d2, d3, d4, d5, q0, hGH, reps, fillAll, appendEff, srcCells, List.headD, hm1]
            exact ⟨k - 1, by omega, .ref (nx2 + 1) 0 (bs.length + 1), pre2 ++ [r % 10], i + 1, r / 10, garb rfl, by omega, .inr ⟨by rw [hmap, List.length_append]; exact Nat.succ_pos _, nx2 + 1, by omega, by omega, by rw [hmap, List.length_append]; rfl, by rw [hmap]; exact upd_same⟩, by omega, hr8, hr9', hst⟩
          · simp (maxSteps := 4000000) (disch := omega) only [go_sem, ↓reduceIte, Nat.reduceAdd, Nat.reduceSub, Nat.reduceMul, Nat.reduceEqDiff, reduceCtorEq, Int.reduceAdd, Int.reduceLT, Int.reduceLE, Int.reduceToNat, Int.reduceNeg, Int.reduceSub, ← List.map_take, ← List.map_drop, wrap64, wrapu64, wrapu32, ← Int.natCast_add, ← Int.natCast_mul, cast_succ, wrapu32_nat, shr32, reps_wd, map_set_wd, List.length_set, zs_len, hq1, d1, d2, d3, d4, d5, q0, hGH, reps, fillAll, appendEff, srcCells, List.headD, hm1]
            exact ⟨k - 1, by omega, .ref (nx2 + 1) 0 (bs.length + 1), pre2 ++ [r % 10], i + 1, r / 10, garb rfl, by omega, .inr ⟨by rw [hmap, List.length_append]; exact Nat.succ_pos _, nx2 + 1, by omega, by omega, by rw [hmap, List.length_append]; rfl, by rw [hmap]; exact upd_same⟩, by omega, hr8, hr9', hst⟩
      · have hfin : pre2 ++ dd q = dd A := by
          have h := hpre.out
          by_cases hi : i < 9
          · have hq0 : q = 0 ∧ r = 0 := by omega
            rw [hq0.1, hq0.2, Nat.zero_mul, Nat.add_zero] at h
            rw [hq0.1]; exact h
          · obtain rfl : i = 9 := by omega
            have h10 := hr9.out
            rw [show 9 - 9 = 0 from rfl, Nat.pow_zero] at h10
            rw [show 9 - 9 = 0 from rfl, Nat.pow_zero, Nat.mul_one, show r = 0 by omega, Nat.zero_add] at h
            exact h
        replace hfin := Hd.mk hfin
        clear hpre hr9 hddl hplen
        have stop : ¬ i < 9 ∨ (i < 9 ∧ (dig q).length = 0 ∧ r = 0) := by
          by_cases hi : i < 9
          · right
            have hq0 : q = 0 ∧ r = 0 := by omega
            exact ⟨hi, by rw [hq0.1, dig_zero]; rfl, hq0.2⟩
          · exact .inl hi
        rcases stop with hi | ⟨hi, hq1, hr0⟩
        · simp (maxSteps := 4000000) (disch := omega) only [go_sem, ↓reduceIte, Nat.reduceAdd, Nat.reduceSub, Nat.reduceMul, Nat.reduceEqDiff, reduceCtorEq, Int.reduceAdd, Int.reduceLT, Int.reduceLE, Int.reduceToNat, Int.reduceNeg, Int.reduceSub, ← List.map_take, ← List.map_drop, wrap64, wrapu64, wrapu32, ← Int.natCast_add, ← Int.natCast_mul, cast_succ, wrapu32_nat, shr32, reps_wd, map_set_wd, List.length_set, zs_len]
          exact ⟨q, hqN, v2, pre2, false, garb rfl, by omega, q0, hG, by omega, hfin⟩
        · simp (maxSteps := 4000000) (disch := omega) only [go_sem, ↓reduceIte, Nat.reduceAdd, Nat.reduceSub, Nat.reduceMul, Nat.reduceEqDiff, reduceCtorEq, Int.reduceAdd, Int.reduceLT, Int.reduceLE, Int.reduceToNat, Int.reduceNeg, Int.reduceSub, ← List.map_take, ← List.map_drop, wrap64, wrapu64, wrapu32, ← Int.natCast_add, ← Int.natCast_mul, cast_succ, wrapu32_nat, shr32, reps_wd, map_set_wd, List.length_set, zs_len, hq1]
          exact ⟨q, hqN, v2, pre2, false, garb rfl, by omega, q0, hG, by omega, hfin⟩
end Go.Proofs.Ytiglncbaomoceaa

/- Walks of the reference of chapter 1: Power. (Own work of this repo.) -/
namespace Go.Proofs.Ytiglncbaomoceaa
open Vm
set_option maxRecDepth 10000

theorem bl_one {x : Int} (h : bl x.natAbs ≤ 1) : x = 0 ∨ x = 1 ∨ x = -1 := by
  have := bl_le.1 h
  omega
theorem pow_bl {x : Int} {n : Nat} : (x ^ n).natAbs < 2 ^ (bl x.natAbs * n + 1) := by
  rw [Int.natAbs_pow, Nat.pow_succ, Nat.pow_mul]
  have h1 := Nat.pow_le_pow_left (Nat.le_of_lt (bl_lt x.natAbs)) n
  have h3 : 0 < (2 ^ bl x.natAbs) ^ n := Nat.pow_pos (Nat.pow_pos (by decide))
  omega
theorem dg_bits {z : Int} {k : Nat} (h : z.natAbs < 2 ^ (32 * k)) : (dg z).length ≤ k := by
  rw [dg_len, show BB = 2 ^ 32 from rfl, ← Nat.pow_mul]; exact h
theorem bl_of_words {x : Int} {k : Nat} (h : (dg x).length ≤ k) : bl x.natAbs ≤ 32 * k := bl_le.2 (valid_len h)
/-- How far the reference computes a power. -/
def powFar (x : Int) (n : Nat) : Bool := decide (1 < bl x.natAbs) && decide (262144 / (bl x.natAbs - 1) < n)
theorem natAbs_le_mul {a b : Int} (hb : b ≠ 0) : a.natAbs ≤ (a * b).natAbs := by
  rw [Int.natAbs_mul]; exact Nat.le_mul_of_pos_right _ (by omega)
end Go.Proofs.Ytiglncbaomoceaa

/- Walks: the number of a text. (Own work of this repo.) -/
namespace Go.Proofs.Ytiglncbaomoceaa
open Vm
set_option maxRecDepth 100000

theorem u8_get {l : List Nat} (h : InB l) (i : Nat) : ((UInt8.ofNat (l.getD i 0)).toNat : Int) = ((l.getD i 0 : Nat) : Int) := by rw [u8_nat (inB_get h i)]
theorem bstr_drop1 {l : List Nat} (h : 1 ≤ l.length) : (bstr l).extract 1 l.length = bstr (l.drop 1) := bstr_drop h
theorem str_nil {d : List Nat} (h : InB d) : ((bstr d).toList == (ByteArray.mk #[]).toList) = decide (d = []) := bstr_eql (b := []) h (by intro x hx; cases hx)
theorem str_zero {d : List Nat} (h : InB d) : ((bstr d).toList == (ByteArray.mk #[48]).toList) = decide (d = [48]) := bstr_eql (b := [48]) h (by intro x hx; simp at hx; omega)
theorem inB_drop {l : List Nat} (h : InB l) : InB (pbody l) := by
  unfold pbody
  split
  · exact fun x hx => h x (List.mem_of_mem_drop hx)
  · exact h
theorem dval_lt {d : List Nat} : ∀ (i : Nat), i ≤ d.length → (∀ t, t < i → 48 ≤ d.getD t 0 ∧ d.getD t 0 ≤ 57) → dval (d.take i) < 2 ^ (4 * i)
  | 0, _, _ => by rw [List.take_zero, dval_nil]; exact Nat.pow_pos (by decide)
  | i + 1, hi, h => by
    have ih := dval_lt i (by omega) fun t ht => h t (by omega)
    have h1 := h i (by omega)
    rw [dval_take (by omega), show 4 * (i + 1) = 4 * i + 4 by omega, Nat.pow_add]
    omega
theorem dig_pre {d : List Nat} {i : Nat} (hi : i ≤ d.length) (hl : d.length ≤ 60000) (h : ∀ t, t < i → 48 ≤ d.getD t 0 ∧ d.getD t 0 ≤ 57) : (dig (dval (d.take i))).length ≤ 7500 := by
  obtain ⟨L, hL⟩ : ∃ L, L = 7500 := ⟨_, rfl⟩
  rw [← hL]
  have h1 := dval_lt i hi h
  have h2 : dval (d.take i) < 2 ^ (32 * L) := Nat.lt_of_lt_of_le h1 (Nat.pow_le_pow_right (by decide) (by omega))
  have h3 := dg_bits (z := ((dval (d.take i) : Nat) : Int)) (k := L) (by rwa [Int.natAbs_natCast])
  rwa [dg_nat] at h3
theorem pbody_len (l : List Nat) : (pbody l).length ≤ l.length := by
  unfold pbody; split
  · rw [List.length_drop]; omega
  · exact Nat.le_refl _
theorem eq48 {l : List Nat} : l = [48] ↔ pneg l = false ∧ pbody l = [48] := by
  constructor
  · intro h; subst h; exact ⟨rfl, rfl⟩
  · rintro ⟨h1, h2⟩
    rw [pbody, h1] at h2
    exact h2
theorem one48 {d : List Nat} (h : d.getD 0 0 = 48) (hl : d.length = 1) : d = [48] := by
  match d, hl with
  | [x], _ => rw [show x = 48 from h]
theorem thenK_cut {E : Env} {A B : Code} {Q Q' : Ex → St → Prop} {σ : St} (h1 : ∀ e σ, Q e σ → thenK E B Q' e σ) (h2 : W E A σ Q) : thenK E (A.seq B) Q' .norm σ := by
  rw [thenK_norm, W_seq]; exact W_mono h2 h1
theorem pow10 {j B : Nat} (h : B = 10 ^ j) : (j < 9 → B ≤ 100000000) ∧ (j = 9 → B = 1000000000) := by
  subst h
  refine ⟨fun hj => ?_, fun hj => by rw [hj]⟩
  exact Nat.le_trans (Nat.pow_le_pow_right (by decide) (show j ≤ 8 by omega)) (by decide)
theorem val_sing (x : Nat) : val [x] = x := by rw [val_cons, val_nil, Nat.mul_zero, Nat.add_zero]
set_option maxHeartbeats 4000000 in
theorem parse_spec (l : List Nat) (hI : InB l) (hl : l.length < 2 ^ 40) : ∃ f : Bool, denP E 59 [.str (bstr l)] = some (.ret (if pOk l then RI f (pval l) else .tup [I true 0, .int .i64 3])) ∧ (f = true → pval l = 0) := by
  refine denP_ex E59 rfl (by simp [AV.pureL, AV.pure, pure_wd]) ?_
  by_cases h1 : 60000 < l.length
  · have hp : pOk l = false := decide_eq_false fun h => by omega
    rw [hp]
    simp (maxSteps := 4000000) (disch := omega) only [go_sem, ↓reduceIte, Nat.reduceAdd, Nat.reduceSub, Nat.reduceMul, Nat.reduceEqDiff, reduceCtorEq, Int.reduceAdd, Int.reduceLT, Int.reduceLE, Int.reduceToNat, Int.reduceNeg, Int.reduceSub, ← List.map_take, ← List.map_drop, wrap64, wrapu64, wrapu32, ← Int.natCast_add, ← Int.natCast_mul, cast_succ, wrapu32_nat, shr32, reps_wd, map_set_wd, List.length_set, zs_len, Try.f59, bstr_size, fillAll, reps, refP, elems, places, ng_zero, dg_zero, List.map_nil]
    exact ⟨false, fun h => by cases h⟩
  · have hB := inB_drop hI
    have hu := u8_get hI
    simp (maxSteps := 4000000) (disch := omega) only [go_sem, ↓reduceIte, Nat.reduceAdd, Nat.reduceSub, Nat.reduceMul, Nat.reduceEqDiff, reduceCtorEq, Int.reduceAdd, Int.reduceLT, Int.reduceLE, Int.reduceToNat, Int.reduceNeg, Int.reduceSub, ← List.map_take, ← List.map_drop, wrap64, wrapu64, wrapu32, ← Int.natCast_add, ← Int.natCast_mul, cast_succ, wrapu32_nat, shr32, reps_wd, map_set_wd, List.length_set, zs_len, Try.f59, bstr_size, fillAll, reps, refP, elems, places, ng_zero, dg_zero, List.map_nil]
    refine wantK_mono (Q := thenK E _ (fun e σ => e = .norm ∧ (∃ g : Nat → AV, σ.sl = [.str (bstr l), g 1, .ptr 0 0, .int .i64 0, .str (bstr (pbody l)), .bool (pneg l), g 6, g 7, g 8, g 9, g 10, g 11, g 12, g 13, g 14, g 15, g 16, g 17, g 18, g 19, g 20, g 21, g 22, g 23, g 24, g 25, g 26, g 27, g 28, g 29, g 30, g 31, g 32, g 33, g 34, g 35, g 36, g 37, g 38, g 39, g 40, g 41, g 42, g 43, g 44, g 45, g 46, g 47, g 48, g 49, g 50, g 51, g 52, g 53, g 54, g 55, g 56, g 57, g 58, g 59, g 60, g 61, g 62, g 63, g 64, g 65, g 66, g 67, g 68, g 69, g 70, g 71, g 72, g 73, g 74, g 75, g 76, g 77, g 78, g 79, g 80, g 81, g 82, g 83, g 84]) ∧ σ.nx = 1 ∧ σ.h 0 = some ⟨[.bool false, .lst true []], true, 2, false⟩)) (thenK_mono ?_) ?_
    · rintro e ⟨sl, H, nx⟩ ⟨rfl, ⟨g, hs⟩, rfl, h0⟩
      dsimp only at hs h0
      subst hs
      have hok : pOk l = decide (l.length ≤ 60000 ∧ pbody l ≠ [] ∧ ¬ ((pbody l).getD 0 0 = 48 ∧ (pneg l = true ∨ 1 < (pbody l).length)) ∧ DecG (pbody l)) := by unfold pOk; exact decide_eq_decide.2 Iff.rfl
      have hv : pval l = sg (pneg l) (dval (pbody l)) := rfl
      have hdl := pbody_len l
      have hz := eq48 (l := l)
      rw [hok, hv]
      clear hok hv hu
      generalize pneg l = neg at *
      generalize pbody l = d at *
      have hu := u8_get hB
      have q1 := str_nil hB
      have q2 := str_zero hI
      have hdl2 : d.length ≤ 60000 := by omega
      by_cases hd0 : d = []
      · rw [decide_eq_true hd0] at q1
        rw [decide_eq_false (fun h => h.2.1 hd0)]
        simp (maxSteps := 4000000) (disch := omega) only [go_sem, ↓reduceIte, Nat.reduceAdd, Nat.reduceSub, Nat.reduceMul, Nat.reduceEqDiff, reduceCtorEq, Int.reduceAdd, Int.reduceLT, Int.reduceLE, Int.reduceToNat, Int.reduceNeg, Int.reduceSub, ← List.map_take, ← List.map_drop, wrap64, wrapu64, wrapu32, ← Int.natCast_add, ← Int.natCast_mul, cast_succ, wrapu32_nat, shr32, reps_wd, map_set_wd, List.length_set, zs_len, q1, bstr_size, h0, fillAll, reps, refP, elems, places, ng_zero, dg_zero, List.map_nil]
        exact ⟨false, fun h => by cases h⟩
      · rw [decide_eq_false hd0] at q1
        have hpos : 0 < d.length := List.length_pos_iff.2 hd0
        by_cases hh : d.getD 0 0 = 48 ∧ (neg = true ∨ 1 < d.length)
        · have hl48 : ¬ l = [48] := fun h => by
            obtain ⟨h5, h6⟩ := hz.1 h
            rcases hh.2 with h7 | h7
            · rw [h5] at h7; cases h7
            · rw [h6] at h7; exact absurd h7 (by decide)
          rw [decide_eq_false hl48] at q2
          rw [decide_eq_false (fun h => h.2.2.1 hh)]
          have h48 : ((d.getD 0 0 : Nat) : Int) = 48 := by rw [hh.1]; rfl
          clear hz hh hl48
          simp (maxSteps := 4000000) (disch := omega) only [go_sem, ↓reduceIte, Nat.reduceAdd, Nat.reduceSub, Nat.reduceMul, Nat.reduceEqDiff, reduceCtorEq, Int.reduceAdd, Int.reduceLT, Int.reduceLE, Int.reduceToNat, Int.reduceNeg, Int.reduceSub, ← List.map_take, ← List.map_drop, wrap64, wrapu64, wrapu32, ← Int.natCast_add, ← Int.natCast_mul, cast_succ, wrapu32_nat, shr32, reps_wd, map_set_wd, List.length_set, zs_len, q1, q2, bstr_size, bstr_get, hu, h48, h0, fillAll, reps, refP, elems, places, ng_zero, dg_zero, List.map_nil]
          exact ⟨false, fun h => by cases h⟩
        · have hgo : (¬ ((d.getD 0 0 : Nat) : Int) = 48) ∨ (((d.getD 0 0 : Nat) : Int) = 48 ∧ l = [48]) := by
            by_cases h48 : d.getD 0 0 = 48
            · right
              have h9 : ¬ (neg = true ∨ 1 < d.length) := fun h => hh ⟨h48, h⟩
              have hn9 : neg = false := by cases neg with
                | true => exact absurd (.inl rfl) h9
                | false => rfl
              have hl9 : d.length = 1 := by
                by_cases h : 1 < d.length
                · exact absurd (.inr h) h9
                · omega
              exact ⟨by omega, hz.2 ⟨hn9, one48 h48 hl9⟩⟩
            · exact .inl (by omega)
          have hok : ∀ b : Bool, (DecG d ↔ b = true) → decide (l.length ≤ 60000 ∧ d ≠ [] ∧ ¬ (d.getD 0 0 = 48 ∧ (neg = true ∨ 1 < d.length)) ∧ DecG d) = b := by
            intro b hb
            cases b with
            | true => exact decide_eq_true ⟨by omega, hd0, hh, hb.2 rfl⟩
            | false => exact decide_eq_false fun h => by have := hb.1 h.2.2.2; cases this
          generalize decide (l.length ≤ 60000 ∧ d ≠ [] ∧ ¬ (d.getD 0 0 = 48 ∧ (neg = true ∨ 1 < d.length)) ∧ DecG d) = ok at *
          replace hok := Hd.mk hok
          clear hz hh
          refine thenK_cut (Q := fun e σ => e = .norm ∧ (∃ g : Nat → AV, σ.sl = [.str (bstr l), g 1, .ptr 0 0, .int .i64 0, .str (bstr d), .bool neg, g 6, g 7, g 8, g 9, g 10, g 11, g 12, g 13, g 14, g 15, g 16, g 17, g 18, g 19, g 20, g 21, g 22, g 23, g 24, g 25, g 26, g 27, g 28, g 29, g 30, g 31, g 32, g 33, g 34, g 35, g 36, g 37, g 38, g 39, g 40, g 41, g 42, g 43, g 44, g 45, g 46, g 47, g 48, g 49, g 50, g 51, g 52, g 53, g 54, g 55, g 56, g 57, g 58, g 59, g 60, g 61, g 62, g 63, g 64, g 65, g 66, g 67, g 68, g 69, g 70, g 71, g 72, g 73, g 74, g 75, g 76, g 77, g 78, g 79, g 80, g 81, g 82, g 83, g 84]) ∧ σ.nx = 1 ∧ σ.h 0 = some ⟨[.bool false, .lst true []], true, 2, false⟩) ?_ ?_
          · rintro e ⟨sl, H2, nx⟩ ⟨rfl, ⟨g2, hs⟩, rfl, h02⟩
            dsimp only at hs h02
            subst hs
            clear hgo q1 q2 h0
            simp (maxSteps := 4000000) (disch := omega) only [go_sem, ↓reduceIte, Nat.reduceAdd, Nat.reduceSub, Nat.reduceMul, Nat.reduceEqDiff, reduceCtorEq, Int.reduceAdd, Int.reduceLT, Int.reduceLE, Int.reduceToNat, Int.reduceNeg, Int.reduceSub, ← List.map_take, ← List.map_drop, wrap64, wrapu64, wrapu32, ← Int.natCast_add, ← Int.natCast_mul, cast_succ, wrapu32_nat, shr32, reps_wd, map_set_wd, List.length_set, zs_len]
            refine W_loopS (fun k sl H nx => ∃ (i : Nat) (f : Bool) (N : Nat), (∃ g : Nat → AV, sl = [.str (bstr l), g 1, .ptr 0 0, .int .i64 0, .str (bstr d), .bool neg, .lst f ((dig N).map wd), .int .i64 i, g 8, g 9, g 10, g 11, g 12, g 13, g 14, g 15, g 16, g 17, g 18, g 19, g 20, g 21, g 22, g 23, g 24, g 25, g 26, g 27, g 28, g 29, g 30, g 31, g 32, g 33, g 34, g 35, g 36, g 37, g 38, g 39, g 40, g 41, g 42, g 43, g 44, g 45, g 46, g 47, g 48, g 49, g 50, g 51, g 52, g 53, g 54, g 55, g 56, g 57, g 58, g 59, g 60, g 61, g 62, g 63, g 64, g 65, g 66, g 67, g 68, g 69, g 70, g 71, g 72, g 73, g 74, g 75, g 76, g 77, g 78, g 79, g 80, g 81, g 82, g 83, g 84]) ∧ 1 ≤ nx ∧
              H 0 = some ⟨[.bool false, .lst true []], true, 2, false⟩ ∧ i + k = d.length ∧ Hd (∀ t, t < i → 48 ≤ d.getD t 0 ∧ d.getD t 0 ≤ 57) ∧ Hd (N = dval (d.take i)) ∧ (f = true → N = 0)) d.length
              ⟨0, true, 0, by rw [dig_zero]; refine garb ?_; rfl, Nat.le_refl 1, h02, by omega, ⟨fun t ht => absurd ht (Nat.not_lt_zero _)⟩, ⟨by rw [List.take_zero, dval_nil]⟩, fun _ => rfl⟩ ?_
            clear h02
            rintro k _ H nx ⟨i, f, N, ⟨g, rfl⟩, hnx, h0, hik, hgd, hN, hf⟩
            by_cases hi : i < d.length
            · simp (maxSteps := 4000000) (disch := omega) only [go_sem, ↓reduceIte, Nat.reduceAdd, Nat.reduceSub, Nat.reduceMul, Nat.reduceEqDiff, reduceCtorEq, Int.reduceAdd, Int.reduceLT, Int.reduceLE, Int.reduceToNat, Int.reduceNeg, Int.reduceSub, ← List.map_take, ← List.map_drop, wrap64, wrapu64, wrapu32, ← Int.natCast_add, ← Int.natCast_mul, cast_succ, wrapu32_nat, shr32, reps_wd, map_set_wd, List.length_set, zs_len, bstr_size]
              refine W_loopS (fun k sl H nx => ∃ (i2 j part B : Nat), (∃ g : Nat → AV, sl = [.str (bstr l), g 1, .ptr 0 0, .int .i64 0, .str (bstr d), .bool neg, .lst f ((dig N).map wd), .int .i64 i2, .int .u32 part, .int .u32 B, g 10, g 11, g 12, g 13, g 14, g 15, g 16, g 17, g 18, g 19, g 20, g 21, g 22, g 23, g 24, g 25, g 26, g 27, g 28, g 29, g 30, g 31, g 32, g 33, g 34, g 35, g 36, g 37, g 38, g 39, g 40, g 41, g 42, g 43, g 44, g 45, g 46, g 47, g 48, g 49, g 50, g 51, g 52, g 53, g 54, g 55, g 56, g 57, g 58, g 59, g 60, g 61, g 62, g 63, g 64, g 65, g 66, g 67, g 68, g 69, g 70, g 71, g 72, g 73, g 74, g 75, g 76, g 77, g 78, g 79, g 80, g 81, g 82, g 83, g 84]) ∧ 1 ≤ nx ∧
                H 0 = some ⟨[.bool false, .lst true []], true, 2, false⟩ ∧ i2 + k = d.length ∧ i2 = i + j ∧ j ≤ 9 ∧ (j < 9 → B ≤ 100000000) ∧ (j = 9 → B = 1000000000) ∧ part < B ∧ Hd (B = 10 ^ j) ∧ Hd (∀ t, t < i2 → 48 ≤ d.getD t 0 ∧ d.getD t 0 ≤ 57) ∧ Hd (N * B + part = dval (d.take i2))) (d.length - i)
                ⟨i, 0, 0, 1, by refine garb ?_; rfl, hnx, h0, by omega, by omega, by omega, fun _ => by omega, fun h => by omega, by omega, ⟨rfl⟩, hgd, ⟨by rw [Nat.mul_one, Nat.add_zero]; exact hN.out⟩⟩ ?_
              clear h0 hgd hN hnx
              rintro k2 _ H nx ⟨i2, j, part, B, ⟨g, rfl⟩, hnx, h0, hik2, hij, hj9, hB1, hB2, hpart, hBj, hgd, hN⟩
              by_cases hgo : i2 < d.length ∧ j < 9
              · obtain ⟨hi2, hj⟩ := hgo
                have hB1 := hB1 hj
                have hBI : (B : Int) < 1000000000 := by omega
                have hx := inB_get hB i2
                obtain ⟨x, hxx⟩ : ∃ x, x = d.getD i2 0 := ⟨_, rfl⟩
                have hux : ((UInt8.ofNat x).toNat : Int) = (x : Int) := by rw [hxx, u8_nat hx]
                by_cases hc : 48 ≤ d.getD i2 0 ∧ d.getD i2 0 ≤ 57
                · obtain ⟨hc1, hc2⟩ := hc
                  obtain ⟨y, hy⟩ : ∃ y, y = x - 48 := ⟨_, rfl⟩
                  obtain ⟨P, hP⟩ : ∃ P, P = 10 * part + y := ⟨_, rfl⟩
                  obtain ⟨B2, hB2'⟩ : ∃ B2, B2 = 10 * B := ⟨_, rfl⟩
                  have hgd2 : ∀ t, t < i2 + 1 → 48 ≤ d.getD t 0 ∧ d.getD t 0 ≤ 57 := fun t ht => by
                    by_cases h : t = i2
                    · subst h; exact ⟨hc1, hc2⟩
                    · exact hgd.out t (by omega)
                  have hBj2 : B2 = 10 ^ (j + 1) := by rw [hB2', hBj.out, Nat.pow_succ, Nat.mul_comm]
                  have hN2 : N * B2 + P = dval (d.take (i2 + 1)) := by
                    rw [dval_take hi2, ← hN.out, ← hxx, ← hy, hP, hB2', Nat.mul_left_comm, Nat.mul_add, Nat.add_assoc]
                  obtain ⟨m1, m2⟩ := pow10 hBj2
                  have hP2 : P < B2 := by omega
                  have hPs : P < 4294967296 := by omega
                  replace hgd2 := Hd.mk hgd2
                  replace hBj2 := Hd.mk hBj2
                  replace hN2 := Hd.mk hN2
                  have e1 : IntKind.u8.wrap ((x : Int) - 48) = (y : Int) := by rw [IntKind.wrap_u8']; omega
                  have e2 : y % 4294967296 = y := Nat.mod_eq_of_lt (by omega)
                  have e3 : (10 : Int) * (part : Int) + (y : Int) = (P : Int) := by omega
                  have e4 : (10 : Int) * (B : Int) = (B2 : Int) := by omega
                  have hB2s : B2 < 4294967296 := by omega
                  have e5 : IntKind.u32.wrap ((10 : Int) * (part : Int)) = (10 : Int) * (part : Int) := by rw [IntKind.wrap_u32']; omega
                  have e6 : P % 4294967296 = P := Nat.mod_eq_of_lt hPs
                  have e7 : B2 % 4294967296 = B2 := Nat.mod_eq_of_lt hB2s
                  rw [← hxx] at hc1 hc2
                  clear hok hgd hN hBj hB2 hy hP hB2' hf
                  simp (maxSteps := 4000000) (disch := omega) only [go_sem, ↓reduceIte, Nat.reduceAdd, Nat.reduceSub, Nat.reduceMul, Nat.reduceEqDiff, reduceCtorEq, Int.reduceAdd, Int.reduceLT, Int.reduceLE, Int.reduceToNat, Int.reduceNeg, Int.reduceSub, ← List.map_take, ← List.map_drop, wrap64, wrapu64, wrapu32, ← Int.natCast_add, ← Int.natCast_mul, cast_succ, wrapu32_nat, shr32, reps_wd, map_set_wd, List.length_set, zs_len, bstr_size, bstr_get, ← hxx, hux, h0, e1, e2, e5, e3, e4, e6, e7]
                  exact ⟨k2 - 1, by omega, i2 + 1, j + 1, P, B2, by refine garb ?_; rfl, hnx, by omega, by omega, by omega, m1, m2, hP2, hBj2, hgd2, hN2⟩
                · have hbad : ok = false := hok.out false ⟨fun h => absurd (good_get h hi2) hc, fun h => by cases h⟩
                  rw [hbad]
                  rw [← hxx] at hc hx
                  clear hok hgd hN hBj hB2 hbad
                  by_cases hlow : x < 48
                  · simp (maxSteps := 4000000) (disch := omega) only [go_sem, ↓reduceIte, Nat.reduceAdd, Nat.reduceSub, Nat.reduceMul, Nat.reduceEqDiff, reduceCtorEq, Int.reduceAdd, Int.reduceLT, Int.reduceLE, Int.reduceToNat, Int.reduceNeg, Int.reduceSub, ← List.map_take, ← List.map_drop, wrap64, wrapu64, wrapu32, ← Int.natCast_add, ← Int.natCast_mul, cast_succ, wrapu32_nat, shr32, reps_wd, map_set_wd, List.length_set, zs_len, bstr_size, bstr_get, ← hxx, hux, h0, fillAll, reps, refP, elems, places, ng_zero, dg_zero, List.map_nil]
                    exact ⟨false, fun h => by cases h⟩
                  · simp (maxSteps := 4000000) (disch := omega) only [go_sem, ↓reduceIte, Nat.reduceAdd, Nat.reduceSub, Nat.reduceMul, Nat.reduceEqDiff, reduceCtorEq, Int.reduceAdd, Int.reduceLT, Int.reduceLE, Int.reduceToNat, Int.reduceNeg, Int.reduceSub, ← List.map_take, ← List.map_drop, wrap64, wrapu64, wrapu32, ← Int.natCast_add, ← Int.natCast_mul, cast_succ, wrapu32_nat, shr32, reps_wd, map_set_wd, List.length_set, zs_len, bstr_size, bstr_get, ← hxx, hux, h0, fillAll, reps, refP, elems, places, ng_zero, dg_zero, List.map_nil]
                    exact ⟨false, fun h => by cases h⟩
              · have hstop : d.length ≤ i2 ∨ (i2 < d.length ∧ B = 1000000000) := by
                  by_cases h : i2 < d.length
                  · exact .inr ⟨h, hB2 (by omega)⟩
                  · exact .inl (by omega)
                have hji : i < i2 := by omega
                have hi2l : i2 ≤ d.length := by omega
                have hBs : B ≤ 1000000000 := by
                  by_cases h : j < 9
                  · have := hB1 h; omega
                  · have := hB2 (by omega); omega
                have hln := dig_pre hi2l hdl2 hgd.out
                rw [← hN.out] at hln
                have hlnB : (dig (N * B)).length ≤ 7500 := Nat.le_trans (dig_mono (Nat.le_add_right _ _)) hln
                have hBpos : 0 < B := by omega
                have hlnN : (dig N).length ≤ 7500 := Nat.le_trans (dig_mono (Nat.le_mul_of_pos_right _ hBpos)) hlnB
                have ht := times_spec f (dig N) false [B] (dig_inR N) (by intro x hx; simp at hx; rw [hx]; show B < 4294967296; omega) (by omega) (by simp)
                have htr := trim_spec false [part] (by intro x hx; simp at hx; rw [hx]; show part < 4294967296; omega) (by simp)
                obtain ⟨tf, htf⟩ : ∃ tf, tf = decide ((dig N).length = 0 ∨ [B].length = 0) := ⟨_, rfl⟩
                rw [← htf, val_dig, val_sing] at ht
                rw [val_sing] at htr
                have hlp : (dig part).length ≤ 2 := by rw [dig_len]; exact Nat.lt_of_lt_of_le (show part < 4294967296 by omega) (by decide)
                have hpl := plus_spec tf (dig (N * B)) false (dig part) (dig_inR _) (dig_inR _) (by omega) (by omega)
                rw [val_dig, val_dig] at hpl
                simp only [List.map_cons, List.map_nil, wd] at ht htr
                have hN2 := hN
                clear hok hln hlnB hlnN hN hlp htf hBj hB1 hB2
                generalize N * B = NB at *
                generalize NB + part = N2 at *
                rcases hstop with hs | ⟨hs, hs2⟩
                · simp (maxSteps := 4000000) (disch := omega) only [go_sem, ↓reduceIte, Nat.reduceAdd, Nat.reduceSub, Nat.reduceMul, Nat.reduceEqDiff, reduceCtorEq, Int.reduceAdd, Int.reduceLT, Int.reduceLE, Int.reduceToNat, Int.reduceNeg, Int.reduceSub, ← List.map_take, ← List.map_drop, wrap64, wrapu64, wrapu32, ← Int.natCast_add, ← Int.natCast_mul, cast_succ, wrapu32_nat, shr32, reps_wd, map_set_wd, List.length_set, zs_len, bstr_size, h0, ht, htr, hpl, List.headD, fillAll, reps, refP, elems, places, ng_zero, dg_zero, List.map_nil]
                  exact ⟨k - (i2 - i), by omega, i2, false, N2, by refine garb ?_; rfl, by omega, by omega, hgd, hN2, fun h => by cases h⟩
                · simp (maxSteps := 4000000) (disch := omega) only [go_sem, ↓reduceIte, Nat.reduceAdd, Nat.reduceSub, Nat.reduceMul, Nat.reduceEqDiff, reduceCtorEq, Int.reduceAdd, Int.reduceLT, Int.reduceLE, Int.reduceToNat, Int.reduceNeg, Int.reduceSub, ← List.map_take, ← List.map_drop, wrap64, wrapu64, wrapu32, ← Int.natCast_add, ← Int.natCast_mul, cast_succ, wrapu32_nat, shr32, reps_wd, map_set_wd, List.length_set, zs_len, bstr_size, h0, ht, htr, hpl, List.headD, fillAll, reps, refP, elems, places, ng_zero, dg_zero, List.map_nil]
                  exact ⟨k - (i2 - i), by omega, i2, false, N2, by refine garb ?_; rfl, by omega, by omega, hgd, hN2, fun h => by cases h⟩
            · obtain rfl : i = d.length := by omega
              have htk : d.take d.length = d := List.take_length
              have hN2 := hN.out
              rw [htk] at hN2
              have hg : ok = true := hok.out true ⟨fun _ => rfl, fun _ => good_of hgd.out⟩
              rw [hg]
              have hln := dig_pre (Nat.le_refl _) hdl2 hgd.out
              rw [← hN.out] at hln
              have hmd := made_dig neg f N hf (by omega)
              rw [← hN2]
              simp only [RI, I] at hmd
              clear hok hgd hN hN2
              simp (maxSteps := 4000000) (disch := omega) only [go_sem, ↓reduceIte, Nat.reduceAdd, Nat.reduceSub, Nat.reduceMul, Nat.reduceEqDiff, reduceCtorEq, Int.reduceAdd, Int.reduceLT, Int.reduceLE, Int.reduceToNat, Int.reduceNeg, Int.reduceSub, ← List.map_take, ← List.map_drop, wrap64, wrapu64, wrapu32, ← Int.natCast_add, ← Int.natCast_mul, cast_succ, wrapu32_nat, shr32, reps_wd, map_set_wd, List.length_set, zs_len, bstr_size, hmd, h0, fillAll, reps, refP, elems, places, ng_zero, dg_zero, List.map_nil]
              exact ⟨f, rfl, fun h => by rw [hf h]; cases neg <;> rfl⟩
          · clear hok
            rcases hgo with h48 | ⟨h48, hl48⟩
            · simp (maxSteps := 4000000) (disch := omega) only [go_sem, ↓reduceIte, Nat.reduceAdd, Nat.reduceSub, Nat.reduceMul, Nat.reduceEqDiff, reduceCtorEq, Int.reduceAdd, Int.reduceLT, Int.reduceLE, Int.reduceToNat, Int.reduceNeg, Int.reduceSub, ← List.map_take, ← List.map_drop, wrap64, wrapu64, wrapu32, ← Int.natCast_add, ← Int.natCast_mul, cast_succ, wrapu32_nat, shr32, reps_wd, map_set_wd, List.length_set, zs_len, q1, bstr_size, bstr_get, hu, h48, h0]
              refine garb ?_
              rfl
            · rw [decide_eq_true hl48] at q2
              simp (maxSteps := 4000000) (disch := omega) only [go_sem, ↓reduceIte, Nat.reduceAdd, Nat.reduceSub, Nat.reduceMul, Nat.reduceEqDiff, reduceCtorEq, Int.reduceAdd, Int.reduceLT, Int.reduceLE, Int.reduceToNat, Int.reduceNeg, Int.reduceSub, ← List.map_take, ← List.map_drop, wrap64, wrapu64, wrapu32, ← Int.natCast_add, ← Int.natCast_mul, cast_succ, wrapu32_nat, shr32, reps_wd, map_set_wd, List.length_set, zs_len, q1, q2, bstr_size, bstr_get, hu, h48, h0]
              refine garb ?_
              rfl
    · by_cases hn : l = []
      · subst hn
        simp (maxSteps := 4000000) (disch := omega) only [go_sem, ↓reduceIte, Nat.reduceAdd, Nat.reduceSub, Nat.reduceMul, Nat.reduceEqDiff, reduceCtorEq, Int.reduceAdd, Int.reduceLT, Int.reduceLE, Int.reduceToNat, Int.reduceNeg, Int.reduceSub, ← List.map_take, ← List.map_drop, wrap64, wrapu64, wrapu32, ← Int.natCast_add, ← Int.natCast_mul, cast_succ, wrapu32_nat, shr32, reps_wd, map_set_wd, List.length_set, zs_len, bstr_size]
        exact garb rfl
      · have hpos : 0 < l.length := List.length_pos_iff.2 hn
        cases hp : pneg l with
        | true =>
          have h45 : ((UInt8.ofNat (l.getD 0 0)).toNat : Int) = 45 := by rw [show l.getD 0 0 = 45 from of_decide_eq_true hp]; rfl
          have hd : pbody l = l.drop 1 := by rw [pbody, hp, if_pos rfl]
          have hx := bstr_drop1 (l := l) (by omega)
          rw [hd]
          simp (maxSteps := 4000000) (disch := omega) only [go_sem, ↓reduceIte, Nat.reduceAdd, Nat.reduceSub, Nat.reduceMul, Nat.reduceEqDiff, reduceCtorEq, Int.reduceAdd, Int.reduceLT, Int.reduceLE, Int.reduceToNat, Int.reduceNeg, Int.reduceSub, ← List.map_take, ← List.map_drop, wrap64, wrapu64, wrapu32, ← Int.natCast_add, ← Int.natCast_mul, cast_succ, wrapu32_nat, shr32, reps_wd, map_set_wd, List.length_set, zs_len, bstr_size, bstr_get, h45, cutBounds, hx]
          refine garb ?_
          rfl
        | false =>
          have h45 : ¬ ((l.getD 0 0 : Nat) : Int) = 45 := by have : l.getD 0 0 ≠ 45 := of_decide_eq_false hp; omega
          have hd : pbody l = l := by rw [pbody, hp]; rfl
          rw [hd]
          simp (maxSteps := 4000000) (disch := omega) only [go_sem, ↓reduceIte, Nat.reduceAdd, Nat.reduceSub, Nat.reduceMul, Nat.reduceEqDiff, reduceCtorEq, Int.reduceAdd, Int.reduceLT, Int.reduceLE, Int.reduceToNat, Int.reduceNeg, Int.reduceSub, ← List.map_take, ← List.map_drop, wrap64, wrapu64, wrapu32, ← Int.natCast_add, ← Int.natCast_mul, cast_succ, wrapu32_nat, shr32, reps_wd, map_set_wd, List.length_set, zs_len, bstr_size, bstr_get, hu, h45, cutBounds]
          refine garb ?_
          rfl
end Go.Proofs.Ytiglncbaomoceaa

/- The example of the laws of the top. (Own work of this repo.) -/
namespace Go.Proofs.Ytiglncbaomoceaa
open Vm
set_option maxRecDepth 100000

def sA : List Nat := [49, 50, 51, 52, 53, 54, 55, 56, 57, 48, 49, 50, 51, 52, 53, 54, 55, 56, 57, 48, 49, 50, 51, 52, 53, 54, 55, 56, 57, 48]
def sB : List Nat := [49, 53, 50, 52, 49, 53, 55, 56, 55, 53, 51, 50, 51, 56, 56, 51, 54, 55, 53, 48, 52, 57, 53, 51, 53, 49, 53, 54, 50, 53, 51, 54, 49, 57, 56, 55, 56, 55, 53, 48, 49, 57, 48, 53, 49, 57, 57, 56, 55, 53, 48, 49, 57, 48, 53, 50, 49, 48, 48]
theorem sA_ok : pOk sA = true := by decide +kernel
theorem sB_ok : pOk sB = true := by decide +kernel
theorem sA_in : InB sA := by unfold InB; decide +kernel
theorem sB_in : InB sB := by unfold InB; decide +kernel
theorem sAB : pval sA * pval sA = pval sB := by decide +kernel
theorem sA_small : (pval sA).natAbs < 2 ^ 128 := by decide +kernel
theorem lives_true : denP E 31 [] = some (.ret (.bool true)) := by
  refine denP_eq E31 rfl rfl ?_
  obtain ⟨f, h1, _⟩ := parse_spec sA sA_in (by decide)
  rw [sA_ok, if_pos rfl] at h1
  have l1 : (dg (pval sA)).length ≤ 4 := dg_len.2 (by have := sA_small; exact this)
  have h2 := mul_spec f (pval sA) f (pval sA) (by omega) (by omega)
  have l2 := dg_mul (pval sA) (pval sA)
  have l3 : (dg (pval sA * pval sA)).length ≤ 4096 := by omega
  have h3 := text_spec (mz (pval sA) (pval sA)) (pval sA * pval sA) l3
  have l4 : (dg (pval sA)).length ≤ 4096 := by omega
  have h4 : ((bstr (txt (pval sA * pval sA))).toList == (bstr sB).toList) = true := by rw [sAB, txt_pval sB_ok]; exact beq_self_eq_true _
  have b1 : bstr sA = ByteArray.mk #[49, 50, 51, 52, 53, 54, 55, 56, 57, 48, 49, 50, 51, 52, 53, 54, 55, 56, 57, 48, 49, 50, 51, 52, 53, 54, 55, 56, 57, 48] := rfl
  have b2 : bstr sB = ByteArray.mk #[49, 53, 50, 52, 49, 53, 55, 56, 55, 53, 51, 50, 51, 56, 56, 51, 54, 55, 53, 48, 52, 57, 53, 51, 53, 49, 53, 54, 50, 53, 51, 54, 49, 57, 56, 55, 56, 55, 53, 48, 49, 57, 48, 53, 49, 57, 57, 56, 55, 53, 48, 49, 57, 48, 53, 50, 49, 48, 48] := rfl
  rw [b1] at h1
  rw [b2] at h4
  simp only [RI, fm_of l4, fit_of l4, er_of l4] at h1
  simp only [RI, fm_of l3, fit_of l3, er_of l3] at h2
  clear b1 b2 l1 l2 l3 l4
  generalize pval sA * pval sA = zz at *
  generalize mz (pval sA) (pval sA) = mm at *
  generalize pval sA = z at *
  generalize bstr (txt zz) = st at *
  simp (maxSteps := 4000000) only [go_sem, ↓reduceIte, Nat.reduceAdd, Nat.reduceSub, Nat.reduceMul, Nat.reduceEqDiff, reduceCtorEq, Int.reduceAdd, Int.reduceLT, Int.reduceLE, Int.reduceToNat, Int.reduceNeg, Int.reduceSub, ← List.map_take, ← List.map_drop, ne_eq, Nat.reduceLeDiff, Nat.reduceLT, Nat.zero_le, Nat.le_refl, wrap64, wrapu64, wrapu32, ← Int.natCast_add, ← Int.natCast_mul, cast_succ, wrapu32_nat, shr32, reps_wd, map_set_wd, List.length_set, zs_len, Try.f31, h1, h2, h3, h4, Int.reduceEq, places, fillAll]
end Go.Proofs.Ytiglncbaomoceaa

/- The law TopPell: its parts. (Own work of this repo.) -/
namespace Go.Proofs.Ytiglncbaomoceaa
open Vm
open Pel hiding allS
set_option maxRecDepth 10000

theorem squared_yes (r : Nat) (h1 : 1 ≤ r) (h2 : r ≤ 1000) : denP E 32 [.int .i64 ((r * r : Nat) : Int)] = some (.ret (.bool true)) := by
  refine denP_eq E32 rfl (by simp [AV.pureL, AV.pure, pure_wd]) ?_
  obtain ⟨q, hq⟩ : ∃ q, q = r * r := ⟨_, rfl⟩
  rw [← hq]
  have hqm : q ≤ 1000 * 1000 := by rw [hq]; exact Nat.mul_le_mul h2 h2
  simp (maxSteps := 4000000) only [go_sem, ↓reduceIte, Nat.reduceAdd, Nat.reduceSub, Nat.reduceMul, Nat.reduceEqDiff, reduceCtorEq, Int.reduceAdd, Int.reduceLT, Int.reduceLE, Int.reduceToNat, Int.reduceNeg, Int.reduceSub, ← List.map_take, ← List.map_drop, ne_eq, Nat.reduceLeDiff, Nat.reduceLT, Nat.zero_le, Nat.le_refl, wrap64, wrapu64, wrapu32, ← Int.natCast_add, ← Int.natCast_mul, cast_succ, wrapu32_nat, shr32, reps_wd, map_set_wd, List.length_set, zs_len, Try.f32, places, fillAll]
  refine W_loopS (fun k sl h nn => ∃ i : Nat, (∃ g : Nat → AV, sl = [.int .i64 (q : Int), g 1, g 2, .int .i64 (i : Int), g 4, g 5, g 6, g 7, g 8, g 9, g 10, g 11, g 12, g 13, g 14, g 15]) ∧ i + k = r) r ⟨0, garb rfl, by omega⟩ ?_
  rintro k _ h nn ⟨i, ⟨g, rfl⟩, hk⟩
  obtain ⟨p, hp⟩ : ∃ p, p = i * i := ⟨_, rfl⟩
  have hpm : p ≤ 1000 * 1000 := by rw [hp]; exact Nat.mul_le_mul (by omega) (by omega)
  have w1 : IntKind.i64.wrap ((i * i : Nat) : Int) = (p : Int) := by rw [hp]; exact wrap64 (by omega) (by omega)
  have w2 : IntKind.i64.wrap ((i + 1 : Nat) : Int) = ((i + 1 : Nat) : Int) := wrap64 (by omega) (by omega)
  by_cases hi : i = r
  · obtain rfl : p = q := by rw [hp, hq, hi]
    have z1 : ((p : Int) < (p : Int)) = False := eq_false (by omega)
    simp (maxSteps := 4000000) only [go_sem, ↓reduceIte, Nat.reduceAdd, Nat.reduceSub, Nat.reduceMul, Nat.reduceEqDiff, reduceCtorEq, Int.reduceAdd, Int.reduceLT, Int.reduceLE, Int.reduceToNat, Int.reduceNeg, Int.reduceSub, ← List.map_take, ← List.map_drop, ne_eq, Nat.reduceLeDiff, Nat.reduceLT, Nat.zero_le, Nat.le_refl, wrap64, wrapu64, wrapu32, ← Int.natCast_add, ← Int.natCast_mul, cast_succ, wrapu32_nat, shr32, reps_wd, map_set_wd, List.length_set, zs_len, w1, z1]
  · have hlt : p < q := by
      have h3 := Nat.mul_le_mul (show i + 1 ≤ r by omega) (show i + 1 ≤ r by omega)
      have e : (i + 1) * (i + 1) = i * i + 2 * i + 1 := by grind
      omega
    have z1 : ((p : Int) < (q : Int)) = True := eq_true (by omega)
    simp (maxSteps := 4000000) only [go_sem, ↓reduceIte, Nat.reduceAdd, Nat.reduceSub, Nat.reduceMul, Nat.reduceEqDiff, reduceCtorEq, Int.reduceAdd, Int.reduceLT, Int.reduceLE, Int.reduceToNat, Int.reduceNeg, Int.reduceSub, ← List.map_take, ← List.map_drop, ne_eq, Nat.reduceLeDiff, Nat.reduceLT, Nat.zero_le, Nat.le_refl, wrap64, wrapu64, wrapu32, ← Int.natCast_add, ← Int.natCast_mul, cast_succ, wrapu32_nat, shr32, reps_wd, map_set_wd, List.length_set, zs_len, w1, w2, z1]
    exact ⟨k - 1, by omega, i + 1, garb rfl, by omega⟩
theorem rValid_top (neg nl : Bool) (l : List Nat) (hl : l.length < 9223372036854775808) : denP E 26 [iv neg nl l] = some (.ret (.bool (rvalidW neg l))) := by
  refine denP_eq E26 rfl (by simp [AV.pureL, AV.pure, pure_wd]) ?_
  unfold rvalidW
  by_cases h2 : l.length = 0
  · simp (maxSteps := 4000000) (disch := omega) only [go_sem, ↓reduceIte, Nat.reduceAdd, Nat.reduceSub, Nat.reduceMul, Nat.reduceEqDiff, reduceCtorEq, Int.reduceAdd, Int.reduceLT, Int.reduceLE, Int.reduceToNat, Int.reduceNeg, Int.reduceSub, ← List.map_take, ← List.map_drop, wrap64, wrapu64, wrapu32, Try.f26]
  · have e : (l.length : Int) - 1 = (l.length - 1 : Nat) := by omega
    by_cases h1 : l.length ≤ 4096
    · by_cases h3 : l.getD (l.length - 1) 0 = 0
      · simp (maxSteps := 4000000) (disch := omega) only [go_sem, ↓reduceIte, Nat.reduceAdd, Nat.reduceSub, Nat.reduceMul, Nat.reduceEqDiff, reduceCtorEq, Int.reduceAdd, Int.reduceLT, Int.reduceLE, Int.reduceToNat, Int.reduceNeg, Int.reduceSub, ← List.map_take, ← List.map_drop, wrap64, wrapu64, wrapu32, Try.f26, e, ne_eq]
      · simp (maxSteps := 4000000) (disch := omega) only [go_sem, ↓reduceIte, Nat.reduceAdd, Nat.reduceSub, Nat.reduceMul, Nat.reduceEqDiff, reduceCtorEq, Int.reduceAdd, Int.reduceLT, Int.reduceLE, Int.reduceToNat, Int.reduceNeg, Int.reduceSub, ← List.map_take, ← List.map_drop, wrap64, wrapu64, wrapu32, Try.f26, e, ne_eq]
    · simp (maxSteps := 4000000) (disch := omega) only [go_sem, ↓reduceIte, Nat.reduceAdd, Nat.reduceSub, Nat.reduceMul, Nat.reduceEqDiff, reduceCtorEq, Int.reduceAdd, Int.reduceLT, Int.reduceLE, Int.reduceToNat, Int.reduceNeg, Int.reduceSub, ← List.map_take, ← List.map_drop, wrap64, wrapu64, wrapu32, Try.f26]
theorem natural_two (a b : Raw) (la : a.2.2.length < 9223372036854775808) (lb : b.2.2.length < 9223372036854775808) : denP E 30 [.lst false [ivr a, ivr b]] = some (.ret (.bool ((rvalidW a.1 a.2.2 && !a.1) && (rvalidW b.1 b.2.2 && !b.1)))) := by
  refine denP_eq E30 rfl (by simp [AV.pureL, AV.pure, pure_wd, iv, ivr]) ?_
  have v1 := rValid_top a.1 a.2.1 a.2.2 la
  have v2 := rValid_top b.1 b.2.1 b.2.2 lb
  simp only [ivr, iv] at *
  simp (maxSteps := 4000000) only [go_sem, ↓reduceIte, Nat.reduceAdd, Nat.reduceSub, Nat.reduceMul, Nat.reduceEqDiff, reduceCtorEq, Int.reduceAdd, Int.reduceLT, Int.reduceLE, Int.reduceToNat, Int.reduceNeg, Int.reduceSub, ← List.map_take, ← List.map_drop, ne_eq, Nat.reduceLeDiff, Nat.reduceLT, Nat.zero_le, Nat.le_refl, wrap64, wrapu64, wrapu32, ← Int.natCast_add, ← Int.natCast_mul, cast_succ, wrapu32_nat, shr32, reps_wd, map_set_wd, List.length_set, zs_len, Try.f30]
  rw [W_unroll]
  cases ha : rvalidW a.1 a.2.2 with
  | false => rw [ha] at v1; simp (maxSteps := 4000000) only [go_sem, ↓reduceIte, Nat.reduceAdd, Nat.reduceSub, Nat.reduceMul, Nat.reduceEqDiff, reduceCtorEq, Int.reduceAdd, Int.reduceLT, Int.reduceLE, Int.reduceToNat, Int.reduceNeg, Int.reduceSub, ← List.map_take, ← List.map_drop, ne_eq, Nat.reduceLeDiff, Nat.reduceLT, Nat.zero_le, Nat.le_refl, wrap64, wrapu64, wrapu32, ← Int.natCast_add, ← Int.natCast_mul, cast_succ, wrapu32_nat, shr32, reps_wd, map_set_wd, List.length_set, zs_len, v1]
  | true =>
    rw [ha] at v1
    cases ha1 : a.1 with
    | true => rw [ha1] at v1; simp (maxSteps := 4000000) only [go_sem, ↓reduceIte, Nat.reduceAdd, Nat.reduceSub, Nat.reduceMul, Nat.reduceEqDiff, reduceCtorEq, Int.reduceAdd, Int.reduceLT, Int.reduceLE, Int.reduceToNat, Int.reduceNeg, Int.reduceSub, ← List.map_take, ← List.map_drop, ne_eq, Nat.reduceLeDiff, Nat.reduceLT, Nat.zero_le, Nat.le_refl, wrap64, wrapu64, wrapu32, ← Int.natCast_add, ← Int.natCast_mul, cast_succ, wrapu32_nat, shr32, reps_wd, map_set_wd, List.length_set, zs_len, v1, ha1]
    | false =>
      rw [ha1] at v1
      simp (maxSteps := 4000000) only [go_sem, ↓reduceIte, Nat.reduceAdd, Nat.reduceSub, Nat.reduceMul, Nat.reduceEqDiff, reduceCtorEq, Int.reduceAdd, Int.reduceLT, Int.reduceLE, Int.reduceToNat, Int.reduceNeg, Int.reduceSub, ← List.map_take, ← List.map_drop, ne_eq, Nat.reduceLeDiff, Nat.reduceLT, Nat.zero_le, Nat.le_refl, wrap64, wrapu64, wrapu32, ← Int.natCast_add, ← Int.natCast_mul, cast_succ, wrapu32_nat, shr32, reps_wd, map_set_wd, List.length_set, zs_len, v1, ha1]
      rw [W_unroll]
      cases hb : rvalidW b.1 b.2.2 with
      | false => rw [hb] at v2; simp (maxSteps := 4000000) only [go_sem, ↓reduceIte, Nat.reduceAdd, Nat.reduceSub, Nat.reduceMul, Nat.reduceEqDiff, reduceCtorEq, Int.reduceAdd, Int.reduceLT, Int.reduceLE, Int.reduceToNat, Int.reduceNeg, Int.reduceSub, ← List.map_take, ← List.map_drop, ne_eq, Nat.reduceLeDiff, Nat.reduceLT, Nat.zero_le, Nat.le_refl, wrap64, wrapu64, wrapu32, ← Int.natCast_add, ← Int.natCast_mul, cast_succ, wrapu32_nat, shr32, reps_wd, map_set_wd, List.length_set, zs_len, v2]
      | true =>
        rw [hb] at v2
        cases hb1 : b.1 with
        | true => rw [hb1] at v2; simp (maxSteps := 4000000) only [go_sem, ↓reduceIte, Nat.reduceAdd, Nat.reduceSub, Nat.reduceMul, Nat.reduceEqDiff, reduceCtorEq, Int.reduceAdd, Int.reduceLT, Int.reduceLE, Int.reduceToNat, Int.reduceNeg, Int.reduceSub, ← List.map_take, ← List.map_drop, ne_eq, Nat.reduceLeDiff, Nat.reduceLT, Nat.zero_le, Nat.le_refl, wrap64, wrapu64, wrapu32, ← Int.natCast_add, ← Int.natCast_mul, cast_succ, wrapu32_nat, shr32, reps_wd, map_set_wd, List.length_set, zs_len, v2, hb1]
        | false =>
          rw [hb1] at v2
          simp (maxSteps := 4000000) only [go_sem, ↓reduceIte, Nat.reduceAdd, Nat.reduceSub, Nat.reduceMul, Nat.reduceEqDiff, reduceCtorEq, Int.reduceAdd, Int.reduceLT, Int.reduceLE, Int.reduceToNat, Int.reduceNeg, Int.reduceSub, ← List.map_take, ← List.map_drop, ne_eq, Nat.reduceLeDiff, Nat.reduceLT, Nat.zero_le, Nat.le_refl, wrap64, wrapu64, wrapu32, ← Int.natCast_add, ← Int.natCast_mul, cast_succ, wrapu32_nat, shr32, reps_wd, map_set_wd, List.length_set, zs_len, v2, hb1]
          rw [W_unroll]
          simp (maxSteps := 4000000) only [go_sem, ↓reduceIte, Nat.reduceAdd, Nat.reduceSub, Nat.reduceMul, Nat.reduceEqDiff, reduceCtorEq, Int.reduceAdd, Int.reduceLT, Int.reduceLE, Int.reduceToNat, Int.reduceNeg, Int.reduceSub, ← List.map_take, ← List.map_drop, ne_eq, Nat.reduceLeDiff, Nat.reduceLT, Nat.zero_le, Nat.le_refl, wrap64, wrapu64, wrapu32, ← Int.natCast_add, ← Int.natCast_mul, cast_succ, wrapu32_nat, shr32, reps_wd, map_set_wd, List.length_set, zs_len, places]
theorem top_out (D : Int) (a b : Raw) (la : a.2.2.length < 9223372036854775808) (lb : b.2.2.length < 9223372036854775808) (h : D < 2 ∨ 1000000 < D ∨ ((rvalidW a.1 a.2.2 && !a.1) && (rvalidW b.1 b.2.2 && !b.1)) = false ∨ 600 < a.2.2.length ∨ 600 < b.2.2.length) :
    denP E 7 [.int .i64 D, ivr a, ivr b] = some (.ret (.bool true)) := by
  refine denP_eq E7 rfl (by simp [AV.pureL, AV.pure, pure_wd]) ?_
  have n1 := natural_two a b la lb
  generalize hc : ((rvalidW a.1 a.2.2 && !a.1) && (rvalidW b.1 b.2.2 && !b.1)) = c at *
  clear hc
  simp only [ivr, iv] at *
  by_cases h1 : D < 2
  · have z1 : (D < 2) = True := eq_true h1
    simp (maxSteps := 4000000) only [go_sem, ↓reduceIte, Nat.reduceAdd, Nat.reduceSub, Nat.reduceMul, Nat.reduceEqDiff, reduceCtorEq, Int.reduceAdd, Int.reduceLT, Int.reduceLE, Int.reduceToNat, Int.reduceNeg, Int.reduceSub, ← List.map_take, ← List.map_drop, ne_eq, Nat.reduceLeDiff, Nat.reduceLT, Nat.zero_le, Nat.le_refl, wrap64, wrapu64, wrapu32, ← Int.natCast_add, ← Int.natCast_mul, cast_succ, wrapu32_nat, shr32, reps_wd, map_set_wd, List.length_set, zs_len, Try.f7, z1, lives_true, places, fillAll, reps, refP, elems]
  · have z1 : (D < 2) = False := eq_false h1
    by_cases h2 : 1000000 < D
    · have z2 : ((1000000 : Int) < D) = True := eq_true h2
      simp (maxSteps := 4000000) only [go_sem, ↓reduceIte, Nat.reduceAdd, Nat.reduceSub, Nat.reduceMul, Nat.reduceEqDiff, reduceCtorEq, Int.reduceAdd, Int.reduceLT, Int.reduceLE, Int.reduceToNat, Int.reduceNeg, Int.reduceSub, ← List.map_take, ← List.map_drop, ne_eq, Nat.reduceLeDiff, Nat.reduceLT, Nat.zero_le, Nat.le_refl, wrap64, wrapu64, wrapu32, ← Int.natCast_add, ← Int.natCast_mul, cast_succ, wrapu32_nat, shr32, reps_wd, map_set_wd, List.length_set, zs_len, Try.f7, z1, z2, lives_true, places, fillAll, reps, refP, elems]
    · have z2 : ((1000000 : Int) < D) = False := eq_false h2
      cases c with
      | false => simp (maxSteps := 4000000) only [go_sem, ↓reduceIte, Nat.reduceAdd, Nat.reduceSub, Nat.reduceMul, Nat.reduceEqDiff, reduceCtorEq, Int.reduceAdd, Int.reduceLT, Int.reduceLE, Int.reduceToNat, Int.reduceNeg, Int.reduceSub, ← List.map_take, ← List.map_drop, ne_eq, Nat.reduceLeDiff, Nat.reduceLT, Nat.zero_le, Nat.le_refl, wrap64, wrapu64, wrapu32, ← Int.natCast_add, ← Int.natCast_mul, cast_succ, wrapu32_nat, shr32, reps_wd, map_set_wd, List.length_set, zs_len, Try.f7, z1, z2, n1, lives_true, places, fillAll, reps, refP, elems]
      | true =>
        by_cases h3 : 600 < a.2.2.length
        · have z3 : ((600 : Int) < (a.2.2.length : Int)) = True := eq_true (by omega)
          simp (maxSteps := 4000000) only [go_sem, ↓reduceIte, Nat.reduceAdd, Nat.reduceSub, Nat.reduceMul, Nat.reduceEqDiff, reduceCtorEq, Int.reduceAdd, Int.reduceLT, Int.reduceLE, Int.reduceToNat, Int.reduceNeg, Int.reduceSub, ← List.map_take, ← List.map_drop, ne_eq, Nat.reduceLeDiff, Nat.reduceLT, Nat.zero_le, Nat.le_refl, wrap64, wrapu64, wrapu32, ← Int.natCast_add, ← Int.natCast_mul, cast_succ, wrapu32_nat, shr32, reps_wd, map_set_wd, List.length_set, zs_len, Try.f7, z1, z2, z3, n1, lives_true, places, fillAll, reps, refP, elems]
        · have z3 : ((600 : Int) < (a.2.2.length : Int)) = False := eq_false (by omega)
          have z4 : ((600 : Int) < (b.2.2.length : Int)) = True := eq_true (by
            rcases h with h | h | h | h | h
            · exact absurd h h1
            · exact absurd h h2
            · cases h
            · exact absurd h h3
            · omega)
          simp (maxSteps := 4000000) only [go_sem, ↓reduceIte, Nat.reduceAdd, Nat.reduceSub, Nat.reduceMul, Nat.reduceEqDiff, reduceCtorEq, Int.reduceAdd, Int.reduceLT, Int.reduceLE, Int.reduceToNat, Int.reduceNeg, Int.reduceSub, ← List.map_take, ← List.map_drop, ne_eq, Nat.reduceLeDiff, Nat.reduceLT, Nat.zero_le, Nat.le_refl, wrap64, wrapu64, wrapu32, ← Int.natCast_add, ← Int.natCast_mul, cast_succ, wrapu32_nat, shr32, reps_wd, map_set_wd, List.length_set, zs_len, Try.f7, z1, z2, z3, z4, n1, lives_true, places, fillAll, reps, refP, elems]
theorem top_square (D : Int) (a b : Raw) (hD : 2 ≤ D ∧ D ≤ 1000000) (la : a.2.2.length ≤ 600) (lb : b.2.2.length ≤ 600) (n1 : denP E 30 [.lst false [ivr a, ivr b]] = some (.ret (.bool true)))
    (p1 : denP E 10 [.int .i64 D] = some (.ret (RP3 (I true 0) (I true 0) 2))) (q1 : denP E 32 [.int .i64 D] = some (.ret (.bool true))) :
    denP E 7 [.int .i64 D, ivr a, ivr b] = some (.ret (.bool true)) := by
  refine denP_eq E7 rfl (by simp [AV.pureL, AV.pure, pure_wd]) ?_
  have z1 : (D < 2) = False := eq_false (by omega)
  have z2 : ((1000000 : Int) < D) = False := eq_false (by omega)
  have z3 : ((600 : Int) < (a.2.2.length : Int)) = False := eq_false (by omega)
  have z4 : ((600 : Int) < (b.2.2.length : Int)) = False := eq_false (by omega)
  simp only [ivr, iv] at *
  simp (maxSteps := 4000000) only [go_sem, ↓reduceIte, Nat.reduceAdd, Nat.reduceSub, Nat.reduceMul, Nat.reduceEqDiff, reduceCtorEq, Int.reduceAdd, Int.reduceLT, Int.reduceLE, Int.reduceToNat, Int.reduceNeg, Int.reduceSub, ← List.map_take, ← List.map_drop, ne_eq, Nat.reduceLeDiff, Nat.reduceLT, Nat.zero_le, Nat.le_refl, wrap64, wrapu64, wrapu32, ← Int.natCast_add, ← Int.natCast_mul, cast_succ, wrapu32_nat, shr32, reps_wd, map_set_wd, List.length_set, zs_len, Try.f7, z1, z2, z3, z4, n1, p1, q1, lives_true, Int.reduceEq, places, fillAll, reps, refP, elems, ng_zero, dg_zero, List.map_nil]
theorem top_none (D X Y x y : Int) (fx fy : Bool) (hD : 2 ≤ D ∧ D ≤ 1000000) (lx : (dg x).length ≤ 600) (ly : (dg y).length ≤ 600) (n1 : denP E 30 [.lst false [I fx x, I fy y]] = some (.ret (.bool true)))
    (p1 : denP E 10 [.int .i64 D] = some (.ret (RP3 (I false X) (I false Y) 0))) (p2 : denP E 25 [.int .i64 D, I fx x, I fy y] = some (.ret (.tup [.int .i64 0, .int .i64 6]))) (h : x * x - D * (y * y) ≠ 1) :
    denP E 7 [.int .i64 D, I fx x, I fy y] = some (.ret (.bool true)) := by
  refine denP_eq E7 rfl (by simp [AV.pureL, AV.pure, pure_wd]) ?_
  have z1 : (D < 2) = False := eq_false (by omega)
  have z2 : ((1000000 : Int) < D) = False := eq_false (by omega)
  have z3 : ((600 : Int) < ((dg x).length : Int)) = False := eq_false (by omega)
  have z4 : ((600 : Int) < ((dg y).length : Int)) = False := eq_false (by omega)
  have o1 := rOf_spec D (by omega) (by omega)
  have o2 := rOf_spec 1 (by decide) (by decide)
  have lD := dg_small (z := D) (by omega)
  have l1 := dg_small (z := 1) (by decide)
  have a1 := dg_mul x x
  have a2 := dg_mul y y
  have a3 := dg_mul D (y * y)
  have a4 := dg_sub (x * x) (D * (y * y))
  have M1 := rMul_spec fx x fx x (by omega) (by omega)
  have M2 := rMul_spec fy y fy y (by omega) (by omega)
  have M3 := rMul_spec (decide (D = 0)) D (decide (y * y = 0)) (y * y) (by omega) (by omega)
  have S1 := rSub_spec (decide (x * x = 0)) (x * x) (decide (D * (y * y) = 0)) (D * (y * y)) (by omega) (by omega)
  have E1 := rSame_spec (decide (x * x - D * (y * y) = 0)) (x * x - D * (y * y)) false 1 (by omega) (by omega)
  rw [decide_eq_false h] at E1
  clear a1 a2 a3 a4 lx ly lD l1 h
  simp only [RM] at *
  rw [show decide ((1 : Int) = 0) = false from rfl] at o2
  generalize x * x - D * (y * y) = z at *
  generalize decide (z = 0) = fz at *
  generalize D * (y * y) = a3 at *
  generalize decide (a3 = 0) = f3 at *
  generalize y * y = a2 at *
  generalize decide (a2 = 0) = f2 at *
  generalize x * x = a1 at *
  generalize decide (a1 = 0) = f1 at *
  generalize decide (D = 0) = f0 at *
  obtain ⟨QQ, hQQ⟩ : ∃ QQ : Ex → St → Prop, QQ = fun ex τ => ex = .norm ∧ (∃ g : Nat → AV, τ.sl = [g 0, g 1, g 2, g 3, g 4, g 5, g 6, g 7, g 8, .int .i64 6, g 10, g 11, g 12, g 13, g 14, g 15, g 16, g 17, g 18, g 19, g 20, g 21, g 22, g 23, g 24, g 25, g 26, g 27, g 28, g 29, g 30, g 31, g 32, g 33, g 34, g 35, g 36, g 37, g 38, g 39, g 40, g 41, g 42, g 43, g 44, g 45, g 46, g 47, g 48, g 49, g 50, g 51, g 52, g 53, g 54, g 55, g 56, g 57, g 58, g 59, g 60, g 61, g 62, g 63, g 64, g 65, g 66, g 67, g 68, g 69, g 70, g 71, g 72, g 73, g 74, g 75, .bool true, g 77, g 78, g 79, g 80, g 81, g 82, g 83, g 84, g 85, g 86, g 87, g 88, g 89, g 90, g 91, g 92, g 93, g 94, g 95, g 96, g 97, g 98, g 99, g 100, g 101, g 102, g 103, g 104, g 105, g 106, g 107, g 108, g 109, g 110, g 111, g 112, g 113, g 114, g 115, g 116, g 117, g 118, g 119, g 120, g 121, g 122, g 123, g 124, g 125, g 126]) ∧ 5 ≤ τ.nx := ⟨_, rfl⟩
  simp (maxSteps := 4000000) only [go_sem, ↓reduceIte, Nat.reduceAdd, Nat.reduceSub, Nat.reduceMul, Nat.reduceEqDiff, reduceCtorEq, Int.reduceAdd, Int.reduceLT, Int.reduceLE, Int.reduceToNat, Int.reduceNeg, Int.reduceSub, ← List.map_take, ← List.map_drop, ne_eq, Nat.reduceLeDiff, Nat.reduceLT, Nat.zero_le, Nat.le_refl, wrap64, wrapu64, wrapu32, ← Int.natCast_add, ← Int.natCast_mul, cast_succ, wrapu32_nat, shr32, reps_wd, map_set_wd, List.length_set, zs_len, Try.f7, z1, z2, z3, z4, n1, p1, p2, Int.reduceEq, places, fillAll, reps, refP, elems]
  refine W_mono (Q := QQ) ?_ ?_
  · refine W_drawn ?_
    simp (maxSteps := 4000000) only [go_sem, ↓reduceIte, Nat.reduceAdd, Nat.reduceSub, Nat.reduceMul, Nat.reduceEqDiff, reduceCtorEq, Int.reduceAdd, Int.reduceLT, Int.reduceLE, Int.reduceToNat, Int.reduceNeg, Int.reduceSub, ← List.map_take, ← List.map_drop, ne_eq, Nat.reduceLeDiff, Nat.reduceLT, Nat.zero_le, Nat.le_refl, wrap64, wrapu64, wrapu32, ← Int.natCast_add, ← Int.natCast_mul, cast_succ, wrapu32_nat, shr32, reps_wd, map_set_wd, List.length_set, zs_len, o1, o2, M1, M2, M3, S1, E1, places, fillAll]
    refine ⟨by rfl, ?_⟩
    rw [hQQ]
    refine ⟨rfl, ?_, Nat.le_refl _⟩
    refine garb ?_
    rfl
  · rw [hQQ]
    clear hQQ QQ o1 o2 M1 M2 M3 S1 E1
    rintro ex ⟨sl, H', m⟩ ⟨rfl, ⟨g', rfl⟩, hm⟩
    simp (maxSteps := 4000000) only [go_sem, ↓reduceIte, Nat.reduceAdd, Nat.reduceSub, Nat.reduceMul, Nat.reduceEqDiff, reduceCtorEq, Int.reduceAdd, Int.reduceLT, Int.reduceLE, Int.reduceToNat, Int.reduceNeg, Int.reduceSub, ← List.map_take, ← List.map_drop, ne_eq, Nat.reduceLeDiff, Nat.reduceLT, Nat.zero_le, Nat.le_refl, wrap64, wrapu64, wrapu32, ← Int.natCast_add, ← Int.natCast_mul, cast_succ, wrapu32_nat, shr32, reps_wd, map_set_wd, List.length_set, zs_len, lives_true, Int.reduceEq]
end Go.Proofs.Ytiglncbaomoceaa

/- The law TopPell: a solution. (Own work of this repo.) -/
namespace Go.Proofs.Ytiglncbaomoceaa
open Vm
open Pel hiding allS
set_option maxRecDepth 10000

set_option maxHeartbeats 4000000 in
theorem top_yes (D X Y x y : Int) (fx fy : Bool) (n : Nat) (hD : 2 ≤ D ∧ D ≤ 1000000) (lx : (dg x).length ≤ 600) (ly : (dg y).length ≤ 600) (n1 : denP E 30 [.lst false [I fx x, I fy y]] = some (.ret (.bool true)))
    (p1 : denP E 10 [.int .i64 D] = some (.ret (RP3 (I false X) (I false Y) 0))) (p2 : denP E 25 [.int .i64 D, I fx x, I fy y] = some (.ret (.tup [.int .i64 (n : Int), .int .i64 0]))) (h : x * x - D * (y * y) = 1)
    (hn : n ≤ 40000) (lX : (dg X).length ≤ 4096) (lY : (dg Y).length ≤ 4096) (hp : pw D X Y n = (x, y)) (hlen : ∀ i, i ≤ n → (dg (pw D X Y i).1).length ≤ 600 ∧ (dg (pw D X Y i).2).length ≤ 600) :
    denP E 7 [.int .i64 D, I fx x, I fy y] = some (.ret (.bool true)) := by
  refine denP_eq E7 rfl (by simp [AV.pureL, AV.pure, pure_wd]) ?_
  have z1 : (D < 2) = False := eq_false (by omega)
  have z2 : ((1000000 : Int) < D) = False := eq_false (by omega)
  have z3 : ((600 : Int) < ((dg x).length : Int)) = False := eq_false (by omega)
  have z4 : ((600 : Int) < ((dg y).length : Int)) = False := eq_false (by omega)
  have z5 : ((n : Int) < 0) = False := eq_false (by omega)
  have z6 : ((40000 : Int) < (n : Int)) = False := eq_false (by omega)
  have o1 := rOf_spec D (by omega) (by omega)
  have o2 := rOf_spec 1 (by decide) (by decide)
  have o3 := rOf_spec 0 (by decide) (by decide)
  have lD := dg_small (z := D) (by omega)
  have l1 := dg_small (z := 1) (by decide)
  have a1 := dg_mul x x
  have a2 := dg_mul y y
  have M1 := rMul_spec fx x fx x (by omega) (by omega)
  have M2 := rMul_spec fy y fy y (by omega) (by omega)
  have M3 := rMul_spec (decide (D = 0)) D (decide (y * y = 0)) (y * y) (by omega) (by omega)
  have a3 := dg_mul D (y * y)
  have S1 := rSub_spec (decide (x * x = 0)) (x * x) (decide (D * (y * y) = 0)) (D * (y * y)) (by omega) (by omega)
  rw [h] at S1
  have E1 := rSame_spec false 1 false 1 (by omega) (by omega)
  have E2 := rSame_spec (decide (x = 0)) x fx x (by omega) (by omega)
  have E3 := rSame_spec (decide (y = 0)) y fy y (by omega) (by omega)
  rw [decide_eq_true rfl] at E1 E2 E3
  clear a1 a2 a3 l1 h
  simp only [RM] at M1 M2 M3 S1 o1 o2 o3
  rw [show decide ((1 : Int) = 0) = false from rfl] at o2 S1
  simp only [decide_true] at o3
  generalize D * (y * y) = a3 at *
  generalize decide (a3 = 0) = f3 at *
  generalize y * y = a2 at *
  generalize decide (a2 = 0) = f2 at *
  generalize x * x = a1 at *
  generalize decide (a1 = 0) = f1 at *
  obtain ⟨QQ, hQQ⟩ : ∃ QQ : Ex → St → Prop, QQ = fun ex τ => ex = .norm ∧ (∃ g : Nat → AV, τ.sl = [.int .i64 D, g 1, g 2, g 3, .ptr 0 0, .ptr 1 0, g 6, .ptr 3 0, .ptr 4 0, .int .i64 0, .int .i64 (n : Int), g 11, g 12, g 13, g 14, g 15, g 16, g 17, g 18, g 19, g 20, g 21, g 22, g 23, g 24, g 25, g 26, g 27, g 28, g 29, g 30, g 31, g 32, g 33, g 34, g 35, g 36, g 37, g 38, g 39, g 40, g 41, g 42, g 43, g 44, g 45, g 46, g 47, g 48, g 49, g 50, g 51, g 52, g 53, g 54, g 55, g 56, g 57, g 58, g 59, g 60, g 61, g 62, g 63, g 64, g 65, g 66, g 67, g 68, g 69, g 70, g 71, g 72, g 73, g 74, g 75, .bool false, g 77, g 78, g 79, g 80, g 81, g 82, g 83, g 84, g 85, g 86, g 87, g 88, g 89, g 90, g 91, g 92, g 93, g 94, g 95, g 96, g 97, g 98, g 99, g 100, g 101, g 102, g 103, g 104, g 105, g 106, g 107, g 108, g 109, g 110, g 111, g 112, g 113, g 114, g 115, g 116, g 117, g 118, g 119, g 120, g 121, g 122, g 123, g 124, g 125, g 126]) ∧ τ.nx = 5 ∧ τ.h 0 = some (drw fx x) ∧ τ.h 1 = some (drw fy y) ∧ τ.h 3 = some (drw false X) ∧ τ.h 4 = some (drw false Y) := ⟨_, rfl⟩
  simp (maxSteps := 4000000) only [go_sem, ↓reduceIte, Nat.reduceAdd, Nat.reduceSub, Nat.reduceMul, Nat.reduceEqDiff, reduceCtorEq, Int.reduceAdd, Int.reduceLT, Int.reduceLE, Int.reduceToNat, Int.reduceNeg, Int.reduceSub, ← List.map_take, ← List.map_drop, ne_eq, Nat.reduceLeDiff, Nat.reduceLT, Nat.zero_le, Nat.le_refl, wrap64, wrapu64, wrapu32, ← Int.natCast_add, ← Int.natCast_mul, cast_succ, wrapu32_nat, shr32, reps_wd, map_set_wd, List.length_set, zs_len, Try.f7, z1, z2, z3, z4, n1, p1, p2, Int.reduceEq, places, fillAll, reps, refP, elems]
  refine W_mono (Q := QQ) ?_ ?_
  · refine W_drawn ?_
    simp (maxSteps := 4000000) only [go_sem, ↓reduceIte, Nat.reduceAdd, Nat.reduceSub, Nat.reduceMul, Nat.reduceEqDiff, reduceCtorEq, Int.reduceAdd, Int.reduceLT, Int.reduceLE, Int.reduceToNat, Int.reduceNeg, Int.reduceSub, ← List.map_take, ← List.map_drop, ne_eq, Nat.reduceLeDiff, Nat.reduceLT, Nat.zero_le, Nat.le_refl, wrap64, wrapu64, wrapu32, ← Int.natCast_add, ← Int.natCast_mul, cast_succ, wrapu32_nat, shr32, reps_wd, map_set_wd, List.length_set, zs_len, o1, o2, M1, M2, M3, S1, E1, places, fillAll]
    refine ⟨by rfl, ?_⟩
    rw [hQQ]
    refine ⟨rfl, ?_, rfl, ?_, ?_, ?_, ?_⟩
    · refine garb ?_
      rfl
    · simp only [upd_apply, ↓reduceIte, Nat.reduceEqDiff, if_pos]
    · simp only [upd_apply, ↓reduceIte, Nat.reduceEqDiff, if_pos]
    · simp only [upd_apply, ↓reduceIte, Nat.reduceEqDiff, if_pos]
    · simp only [upd_apply, ↓reduceIte, Nat.reduceEqDiff, if_pos]
  rw [hQQ]
  clear hQQ QQ M1 M2 M3 S1 E1 n1 p1 p2 z1 z2 z3 z4
  rintro ex ⟨sl, H', m⟩ ⟨rfl, ⟨g', rfl⟩, hm, e0, e1, e3, e4⟩
  dsimp only at hm e0 e1 e3 e4
  subst hm
  simp (maxSteps := 4000000) only [go_sem, ↓reduceIte, Nat.reduceAdd, Nat.reduceSub, Nat.reduceMul, Nat.reduceEqDiff, reduceCtorEq, Int.reduceAdd, Int.reduceLT, Int.reduceLE, Int.reduceToNat, Int.reduceNeg, Int.reduceSub, ← List.map_take, ← List.map_drop, ne_eq, Nat.reduceLeDiff, Nat.reduceLT, Nat.zero_le, Nat.le_refl, wrap64, wrapu64, wrapu32, ← Int.natCast_add, ← Int.natCast_mul, cast_succ, wrapu32_nat, shr32, reps_wd, map_set_wd, List.length_set, zs_len, z5, z6, o2, o3, Int.reduceEq, places, fillAll]
  clear o2 o3 z5 z6
  refine W_loopS (fun k sl h nn => ∃ i : Nat, (∃ g : Nat → AV, sl = [.int .i64 D, g 1, g 2, g 3, .ptr 0 0, .ptr 1 0, g 6, .ptr 3 0, .ptr 4 0, g 9, .int .i64 (n : Int), .ptr 5 0, .ptr 6 0, .int .i64 (i : Int), g 14, g 15, g 16, g 17, g 18, g 19, g 20, g 21, g 22, g 23, g 24, g 25, g 26, g 27, g 28, g 29, g 30, g 31, g 32, g 33, g 34, g 35, g 36, g 37, g 38, g 39, g 40, g 41, g 42, g 43, g 44, g 45, g 46, g 47, g 48, g 49, g 50, g 51, g 52, g 53, g 54, g 55, g 56, g 57, g 58, g 59, g 60, g 61, g 62, g 63, g 64, g 65, g 66, g 67, g 68, g 69, g 70, g 71, g 72, g 73, g 74, g 75, g 76, g 77, g 78, g 79, g 80, g 81, g 82, g 83, g 84, g 85, g 86, g 87, g 88, g 89, g 90, g 91, g 92, g 93, g 94, g 95, g 96, g 97, g 98, g 99, g 100, g 101, g 102, g 103, g 104, g 105, g 106, g 107, g 108, g 109, g 110, g 111, g 112, g 113, g 114, g 115, g 116, g 117, g 118, g 119, g 120, g 121, g 122, g 123, g 124, g 125, g 126]) ∧ (h 0 = some (drw fx x) ∧ h 1 = some (drw fy y) ∧ h 3 = some (drw false X) ∧ h 4 = some (drw false Y) ∧ h 5 = some (zz (pw D X Y i).1) ∧ h 6 = some (zz (pw D X Y i).2)) ∧ 7 ≤ nn ∧ i + k = n) n ⟨0, ?_, ⟨?_, ?_, ?_, ?_, ?_, ?_⟩, Nat.le_refl _, by omega⟩ ?_
  · refine garb ?_
    rfl
  · simp only [upd_apply, ↓reduceIte, Nat.reduceEqDiff, e0, if_pos]
  · simp only [upd_apply, ↓reduceIte, Nat.reduceEqDiff, e1, if_pos]
  · simp only [upd_apply, ↓reduceIte, Nat.reduceEqDiff, e3, if_pos]
  · simp only [upd_apply, ↓reduceIte, Nat.reduceEqDiff, e4, if_pos]
  · rw [pw_zero]; simp only [upd_apply, ↓reduceIte, Nat.reduceEqDiff, if_pos]; rfl
  · rw [pw_zero]; simp only [upd_apply, ↓reduceIte, Nat.reduceEqDiff, if_pos]; rfl
  clear e0 e1 e3 e4
  rintro k _ h nn ⟨i, ⟨g, rfl⟩, ⟨e0, e1, e3, e4, e5, e6⟩, hnn, hk⟩
  by_cases hi : i = n
  · subst hi
    rw [hp] at e5 e6
    have z1 : ((i : Int) < (i : Int)) = False := eq_false (by omega)
    simp only [I] at E2 E3
    simp (maxSteps := 4000000) only [go_sem, ↓reduceIte, Nat.reduceAdd, Nat.reduceSub, Nat.reduceMul, Nat.reduceEqDiff, reduceCtorEq, Int.reduceAdd, Int.reduceLT, Int.reduceLE, Int.reduceToNat, Int.reduceNeg, Int.reduceSub, ← List.map_take, ← List.map_drop, ne_eq, Nat.reduceLeDiff, Nat.reduceLT, Nat.zero_le, Nat.le_refl, wrap64, wrapu64, wrapu32, ← Int.natCast_add, ← Int.natCast_mul, cast_succ, wrapu32_nat, shr32, reps_wd, map_set_wd, List.length_set, zs_len, z1, e0, e1, e5, e6, E2, E3, lives_true]
  · have z1 : ((i : Int) < (n : Int)) = True := eq_true (by omega)
    have w1 : IntKind.i64.wrap ((i + 1 : Nat) : Int) = ((i + 1 : Nat) : Int) := wrap64 (by omega) (by omega)
    obtain ⟨lu, lv⟩ := hlen i (by omega)
    have hs := pw_succ D X Y i
    have hfin : ∀ (h' : Heap) (m : Nat) (sl : List AV), (∃ g : Nat → AV, sl = [.int .i64 D, g 1, g 2, g 3, .ptr 0 0, .ptr 1 0, g 6, .ptr 3 0, .ptr 4 0, g 9, .int .i64 (n : Int), .ptr 5 0, .ptr 6 0, .int .i64 ((i + 1 : Nat) : Int), g 14, g 15, g 16, g 17, g 18, g 19, g 20, g 21, g 22, g 23, g 24, g 25, g 26, g 27, g 28, g 29, g 30, g 31, g 32, g 33, g 34, g 35, g 36, g 37, g 38, g 39, g 40, g 41, g 42, g 43, g 44, g 45, g 46, g 47, g 48, g 49, g 50, g 51, g 52, g 53, g 54, g 55, g 56, g 57, g 58, g 59, g 60, g 61, g 62, g 63, g 64, g 65, g 66, g 67, g 68, g 69, g 70, g 71, g 72, g 73, g 74, g 75, g 76, g 77, g 78, g 79, g 80, g 81, g 82, g 83, g 84, g 85, g 86, g 87, g 88, g 89, g 90, g 91, g 92, g 93, g 94, g 95, g 96, g 97, g 98, g 99, g 100, g 101, g 102, g 103, g 104, g 105, g 106, g 107, g 108, g 109, g 110, g 111, g 112, g 113, g 114, g 115, g 116, g 117, g 118, g 119, g 120, g 121, g 122, g 123, g 124, g 125, g 126]) → h' 0 = some (drw fx x) → h' 1 = some (drw fy y) → h' 3 = some (drw false X) → h' 4 = some (drw false Y) → h' 5 = some (zz ((pw D X Y i).1 * X + D * ((pw D X Y i).2 * Y))) → h' 6 = some (zz ((pw D X Y i).1 * Y + (pw D X Y i).2 * X)) → 7 ≤ m →
        ∃ k', k' < k ∧ ∃ i : Nat, (∃ g : Nat → AV, sl = [.int .i64 D, g 1, g 2, g 3, .ptr 0 0, .ptr 1 0, g 6, .ptr 3 0, .ptr 4 0, g 9, .int .i64 (n : Int), .ptr 5 0, .ptr 6 0, .int .i64 (i : Int), g 14, g 15, g 16, g 17, g 18, g 19, g 20, g 21, g 22, g 23, g 24, g 25, g 26, g 27, g 28, g 29, g 30, g 31, g 32, g 33, g 34, g 35, g 36, g 37, g 38, g 39, g 40, g 41, g 42, g 43, g 44, g 45, g 46, g 47, g 48, g 49, g 50, g 51, g 52, g 53, g 54, g 55, g 56, g 57, g 58, g 59, g 60, g 61, g 62, g 63, g 64, g 65, g 66, g 67, g 68, g 69, g 70, g 71, g 72, g 73, g 74, g 75, g 76, g 77, g 78, g 79, g 80, g 81, g 82, g 83, g 84, g 85, g 86, g 87, g 88, g 89, g 90, g 91, g 92, g 93, g 94, g 95, g 96, g 97, g 98, g 99, g 100, g 101, g 102, g 103, g 104, g 105, g 106, g 107, g 108, g 109, g 110, g 111, g 112, g 113, g 114, g 115, g 116, g 117, g 118, g 119, g 120, g 121, g 122, g 123, g 124, g 125, g 126]) ∧ (h' 0 = some (drw fx x) ∧ h' 1 = some (drw fy y) ∧ h' 3 = some (drw false X) ∧ h' 4 = some (drw false Y) ∧ h' 5 = some (zz (pw D X Y i).1) ∧ h' 6 = some (zz (pw D X Y i).2)) ∧ 7 ≤ m ∧ i + k' = n := fun h' m sl a0 a1 a2 a3 a4 a5 a6 a7 => ⟨k - 1, by omega, i + 1, a0, ⟨a1, a2, a3, a4, by rw [hs]; exact a5, by rw [hs]; exact a6⟩, a7, by omega⟩
    generalize hIQ : (fun (k : Nat) (σ : St) => ∃ i : Nat, (∃ g : Nat → AV, σ.sl = [.int .i64 D, g 1, g 2, g 3, .ptr 0 0, .ptr 1 0, g 6, .ptr 3 0, .ptr 4 0, g 9, .int .i64 (n : Int), .ptr 5 0, .ptr 6 0, .int .i64 (i : Int), g 14, g 15, g 16, g 17, g 18, g 19, g 20, g 21, g 22, g 23, g 24, g 25, g 26, g 27, g 28, g 29, g 30, g 31, g 32, g 33, g 34, g 35, g 36, g 37, g 38, g 39, g 40, g 41, g 42, g 43, g 44, g 45, g 46, g 47, g 48, g 49, g 50, g 51, g 52, g 53, g 54, g 55, g 56, g 57, g 58, g 59, g 60, g 61, g 62, g 63, g 64, g 65, g 66, g 67, g 68, g 69, g 70, g 71, g 72, g 73, g 74, g 75, g 76, g 77, g 78, g 79, g 80, g 81, g 82, g 83, g 84, g 85, g 86, g 87, g 88, g 89, g 90, g 91, g 92, g 93, g 94, g 95, g 96, g 97, g 98, g 99, g 100, g 101, g 102, g 103, g 104, g 105, g 106, g 107, g 108, g 109, g 110, g 111, g 112, g 113, g 114, g 115, g 116, g 117, g 118, g 119, g 120, g 121, g 122, g 123, g 124, g 125, g 126]) ∧ (σ.h 0 = some (drw fx x) ∧ σ.h 1 = some (drw fy y) ∧ σ.h 3 = some (drw false X) ∧ σ.h 4 = some (drw false Y) ∧ σ.h 5 = some (zz (pw D X Y i).1) ∧ σ.h 6 = some (zz (pw D X Y i).2)) ∧ 7 ≤ σ.nx ∧ i + k = n) = IQ
    generalize (pw D X Y i).1 = u at *
    generalize (pw D X Y i).2 = v at *
    have b1 := dg_mul u X
    have b2 := dg_mul v Y
    have b3 := dg_mul D (v * Y)
    have b4 := dg_mul u Y
    have b5 := dg_mul v X
    have M1 := rMul_spec (decide (u = 0)) u false X (by omega) (by omega)
    have M2 := rMul_spec (decide (v = 0)) v false Y (by omega) (by omega)
    have M3 := rMul_spec (decide (D = 0)) D (decide (v * Y = 0)) (v * Y) (by omega) (by omega)
    have M4 := rMul_spec (decide (u = 0)) u false Y (by omega) (by omega)
    have M5 := rMul_spec (decide (v = 0)) v false X (by omega) (by omega)
    have S1 := rAdd_spec (decide (u * X = 0)) (u * X) (decide (D * (v * Y) = 0)) (D * (v * Y)) (by omega) (by omega)
    have S2 := rAdd_spec (decide (u * Y = 0)) (u * Y) (decide (v * X = 0)) (v * X) (by omega) (by omega)
    simp only [RM] at M1 M2 M3 M4 M5 S1 S2
    clear b1 b2 b3 b4 b5 lu lv lX lY lD lx ly hlen hs hp E2 E3 hD
    generalize u * X + D * (v * Y) = un at *
    generalize u * Y + v * X = vn at *
    generalize D * (v * Y) = c3 at *
    generalize v * Y = c2 at *
    generalize u * X = c1 at *
    generalize u * Y = c4 at *
    generalize v * X = c5 at *
    simp (maxSteps := 4000000) only [go_sem, ↓reduceIte, Nat.reduceAdd, Nat.reduceSub, Nat.reduceMul, Nat.reduceEqDiff, reduceCtorEq, Int.reduceAdd, Int.reduceLT, Int.reduceLE, Int.reduceToNat, Int.reduceNeg, Int.reduceSub, ← List.map_take, ← List.map_drop, ne_eq, Nat.reduceLeDiff, Nat.reduceLT, Nat.zero_le, Nat.le_refl, wrap64, wrapu64, wrapu32, ← Int.natCast_add, ← Int.natCast_mul, cast_succ, wrapu32_nat, shr32, reps_wd, map_set_wd, List.length_set, zs_len, z1]
    refine W_drawn ?_
    simp (maxSteps := 4000000) only [go_sem, ↓reduceIte, Nat.reduceAdd, Nat.reduceSub, Nat.reduceMul, Nat.reduceEqDiff, reduceCtorEq, Int.reduceAdd, Int.reduceLT, Int.reduceLE, Int.reduceToNat, Int.reduceNeg, Int.reduceSub, ← List.map_take, ← List.map_drop, ne_eq, Nat.reduceLeDiff, Nat.reduceLT, Nat.zero_le, Nat.le_refl, wrap64, wrapu64, wrapu32, ← Int.natCast_add, ← Int.natCast_mul, cast_succ, wrapu32_nat, shr32, reps_wd, map_set_wd, List.length_set, zs_len, e3, e4, e5, e6, o1, M1, M2, M3, M4, M5, S1, S2, places, fillAll]
    refine ⟨by rfl, ?_⟩
    simp (maxSteps := 4000000) only [go_sem, ↓reduceIte, Nat.reduceAdd, Nat.reduceSub, Nat.reduceMul, Nat.reduceEqDiff, reduceCtorEq, Int.reduceAdd, Int.reduceLT, Int.reduceLE, Int.reduceToNat, Int.reduceNeg, Int.reduceSub, ← List.map_take, ← List.map_drop, ne_eq, Nat.reduceLeDiff, Nat.reduceLT, Nat.zero_le, Nat.le_refl, wrap64, wrapu64, wrapu32, ← Int.natCast_add, ← Int.natCast_mul, cast_succ, wrapu32_nat, shr32, reps_wd, map_set_wd, List.length_set, zs_len, w1]
    rw [← hIQ]
    refine hfin _ _ _ ?_ ?_ ?_ ?_ ?_ ?_ ?_ hnn
    · refine garb ?_
      rfl
    · simp only [upd_apply, ↓reduceIte, Nat.reduceEqDiff, e0, if_pos]
    · simp only [upd_apply, ↓reduceIte, Nat.reduceEqDiff, e1, if_pos]
    · simp only [upd_apply, ↓reduceIte, Nat.reduceEqDiff, e3, if_pos]
    · simp only [upd_apply, ↓reduceIte, Nat.reduceEqDiff, e4, if_pos]
    · simp only [upd_apply, ↓reduceIte, Nat.reduceEqDiff, if_pos]
    · simp only [upd_apply, ↓reduceIte, Nat.reduceEqDiff, if_pos]
end Go.Proofs.Ytiglncbaomoceaa
