/- Part 4 of a proof about this seat: Rpl, BitLen, Bit1, Pow1, Pel4, Nth1, PanD, Tpan, Pel5, Ind1, Pel6, Rnth, Cpl, Ind2, Awake7, Fit8, Fcs, Stp0, Nlw, Nla. (Own work of this repo.) -/
import Derived.Test.YtiglncbaomoceaaZPellNth3
set_option linter.unusedVariables false
set_option linter.unusedSimpArgs false
/- Walks: the reference's unit, norm and product. (Own work of this repo.) -/
namespace Go.Proofs.Ytiglncbaomoceaa
open Vm
open Pel hiding allS
set_option maxRecDepth 10000

theorem rNorm (D x y : Int) (fx fy : Bool) (hD : 0 ≤ D ∧ D ≤ 1000000) (lx : (dg x).length ≤ 100000) (ly : (dg y).length ≤ 100000) : denP E 18 [.int .i64 D, I fx x, I fy y] = some (.ret (RM (x * x - D * (y * y)))) := by
  refine denP_eq E18 rfl (by simp [AV.pureL, AV.pure, pure_wd]) ?_
  have o1 := rOf_spec D (by omega) (by omega)
  have lD := dg_small (z := D) (by omega)
  have a1 := dg_mul x x
  have a2 := dg_mul y y
  have a3 := dg_mul D (y * y)
  have M1 := rMul_spec fx x fx x (by omega) (by omega)
  have M2 := rMul_spec fy y fy y (by omega) (by omega)
  have M3 := rMul_spec (decide (D = 0)) D (decide (y * y = 0)) (y * y) (by omega) (by omega)
  have S1 := rSub_spec (decide (x * x = 0)) (x * x) (decide (D * (y * y) = 0)) (D * (y * y)) (by omega) (by omega)
  clear a1 a2 a3 lx ly lD
  rw [RM] at *
  generalize x * x - D * (y * y) = z at *
  generalize decide (z = 0) = fz at *
  generalize D * (y * y) = a3 at *
  generalize decide (a3 = 0) = f3 at *
  generalize y * y = a2 at *
  generalize decide (a2 = 0) = f2 at *
  generalize x * x = a1 at *
  generalize decide (a1 = 0) = f1 at *
  generalize decide (D = 0) = f0 at *
  simp (maxSteps := 4000000) only [go_sem, ↓reduceIte, Nat.reduceAdd, Nat.reduceSub, Nat.reduceMul, Nat.reduceEqDiff, reduceCtorEq, Int.reduceAdd, Int.reduceLT, Int.reduceLE, Int.reduceToNat, Int.reduceNeg, Int.reduceSub, ← List.map_take, ← List.map_drop, ne_eq, Nat.reduceLeDiff, Nat.reduceLT, Nat.zero_le, Nat.le_refl, wrap64, wrapu64, wrapu32, ← Int.natCast_add, ← Int.natCast_mul, cast_succ, wrapu32_nat, shr32, reps_wd, map_set_wd, List.length_set, zs_len, Try.f18, places, fillAll]
  refine W_drawn ?_
  simp (maxSteps := 4000000) only [go_sem, ↓reduceIte, Nat.reduceAdd, Nat.reduceSub, Nat.reduceMul, Nat.reduceEqDiff, reduceCtorEq, Int.reduceAdd, Int.reduceLT, Int.reduceLE, Int.reduceToNat, Int.reduceNeg, Int.reduceSub, ← List.map_take, ← List.map_drop, ne_eq, Nat.reduceLeDiff, Nat.reduceLT, Nat.zero_le, Nat.le_refl, wrap64, wrapu64, wrapu32, ← Int.natCast_add, ← Int.natCast_mul, cast_succ, wrapu32_nat, shr32, reps_wd, map_set_wd, List.length_set, zs_len, o1, M1, M2, M3, S1, places, fillAll]
  refine okR_pairs ?_; (repeat ((with_unfolding_all refine And.intro ?_ ?_); (focus (rw [free_mk] <;> (try simp) <;> (try omega))))); (with_unfolding_all exact True.intro)
set_option maxHeartbeats 1000000 in
theorem rProduct (D x y u v : Int) (fx fy fu fv : Bool) (hD : 0 ≤ D ∧ D ≤ 1000000) (lx : (dg x).length ≤ 1000000) (ly : (dg y).length ≤ 1000000) (lu : (dg u).length ≤ 1000000) (lv : (dg v).length ≤ 1000000) :
    denP E 27 [.int .i64 D, I fx x, I fy y, I fu u, I fv v] = some (.ret (.tup [RM (x * u + D * (y * v)), RM (x * v + y * u)])) := by
  refine denP_eq E27 rfl (by simp [AV.pureL, AV.pure, pure_wd]) ?_
  have o1 := rOf_spec D (by omega) (by omega)
  have lD := dg_small (z := D) (by omega)
  have a1 := dg_mul x u
  have a2 := dg_mul y v
  have a3 := dg_mul D (y * v)
  have a4 := dg_mul x v
  have a5 := dg_mul y u
  have M1 := rMul_spec fx x fu u (by omega) (by omega)
  have M2 := rMul_spec fy y fv v (by omega) (by omega)
  have M3 := rMul_spec (decide (D = 0)) D (decide (y * v = 0)) (y * v) (by omega) (by omega)
  have M4 := rMul_spec fx x fv v (by omega) (by omega)
  have M5 := rMul_spec fy y fu u (by omega) (by omega)
  have S1 := rAdd_spec (decide (x * u = 0)) (x * u) (decide (D * (y * v) = 0)) (D * (y * v)) (by omega) (by omega)
  have S2 := rAdd_spec (decide (x * v = 0)) (x * v) (decide (y * u = 0)) (y * u) (by omega) (by omega)
  clear a1 a2 a3 a4 a5 lx ly lu lv lD
  simp only [RM] at *
  generalize x * u + D * (y * v) = z at *
  generalize x * v + y * u = z2 at *
  generalize decide (z = 0) = fz at *
  generalize decide (z2 = 0) = fz2 at *
  generalize D * (y * v) = a3 at *
  generalize decide (a3 = 0) = f3 at *
  generalize y * v = a2 at *
  generalize decide (a2 = 0) = f2 at *
  generalize x * u = a1 at *
  generalize decide (a1 = 0) = f1 at *
  generalize x * v = a4 at *
  generalize decide (a4 = 0) = f4 at *
  generalize y * u = a5 at *
  generalize decide (a5 = 0) = f5 at *
  generalize decide (D = 0) = f0 at *
  simp (maxSteps := 4000000) only [go_sem, ↓reduceIte, Nat.reduceAdd, Nat.reduceSub, Nat.reduceMul, Nat.reduceEqDiff, reduceCtorEq, Int.reduceAdd, Int.reduceLT, Int.reduceLE, Int.reduceToNat, Int.reduceNeg, Int.reduceSub, ← List.map_take, ← List.map_drop, ne_eq, Nat.reduceLeDiff, Nat.reduceLT, Nat.zero_le, Nat.le_refl, wrap64, wrapu64, wrapu32, ← Int.natCast_add, ← Int.natCast_mul, cast_succ, wrapu32_nat, shr32, reps_wd, map_set_wd, List.length_set, zs_len, Try.f27, places, fillAll]
  refine W_drawn ?_
  simp (maxSteps := 4000000) only [go_sem, ↓reduceIte, Nat.reduceAdd, Nat.reduceSub, Nat.reduceMul, Nat.reduceEqDiff, reduceCtorEq, Int.reduceAdd, Int.reduceLT, Int.reduceLE, Int.reduceToNat, Int.reduceNeg, Int.reduceSub, ← List.map_take, ← List.map_drop, ne_eq, Nat.reduceLeDiff, Nat.reduceLT, Nat.zero_le, Nat.le_refl, wrap64, wrapu64, wrapu32, ← Int.natCast_add, ← Int.natCast_mul, cast_succ, wrapu32_nat, shr32, reps_wd, map_set_wd, List.length_set, zs_len, o1, M1, M2, M3, M4, M5, S1, S2, places, fillAll]
  refine okR_pairs ?_; (repeat ((with_unfolding_all refine And.intro ?_ ?_); (focus (rw [free_mk] <;> (try simp) <;> (try omega))))); (with_unfolding_all exact True.intro)
/-- A row of the reference. -/
abbrev zz (z : Int) : Blk := ⟨[.bool (ng z), .lst (decide (z = 0)) ((dg z).map wd)], true, 2, false⟩
set_option maxHeartbeats 2000000 in
theorem rUnit (D r : Int) (hr : Rt D r) (hD : D ≤ 1000000) (L : Nat) (hL : Per D r L) :
    denP E 20 [.int .i64 D] = some (.ret (.tup [I false (H D r (L - 1)).1.1, I false (H D r (L - 1)).1.2])) := by
  refine denP_eq E20 rfl (by simp [AV.pureL, AV.pure, pure_wd]) ?_
  have hr2 := (A_small hr hD 0).1
  have hp := hr.pos
  have hlen := per_len hr hr2 hL
  have hL1 := hL.1
  have o0 := rPeriod D r hr hD L hL
  have o1 := arithmancyref07_root D r hD (by omega) (by have := hr.lo; omega) hr.hi
  have o2 := rOf_spec r (by omega) (by omega)
  have o3 := rOf_spec 1 (by decide) (by decide)
  have o4 := rOf_spec 0 (by decide) (by decide)
  rw [RM] at o2 o3 o4
  simp (maxSteps := 4000000) only [go_sem, ↓reduceIte, Nat.reduceAdd, Nat.reduceSub, Nat.reduceMul, Nat.reduceEqDiff, reduceCtorEq, Int.reduceAdd, Int.reduceLT, Int.reduceLE, Int.reduceToNat, Int.reduceNeg, Int.reduceSub, ← List.map_take, ← List.map_drop, ne_eq, Nat.reduceLeDiff, Nat.reduceLT, Nat.zero_le, Nat.le_refl, wrap64, wrapu64, wrapu32, ← Int.natCast_add, ← Int.natCast_mul, cast_succ, wrapu32_nat, shr32, reps_wd, map_set_wd, List.length_set, zs_len, Try.f20, o0, o1, o2, o3, o4, places, fillAll]
  refine W_loopS (fun k sl h nn => ∃ i : Nat, (∃ g : Nat → AV, sl = [g 0, g 1, .ptr 0 0, .ptr 1 0, .lst false (As D r L), .ptr 2 0, .ptr 3 0, .ptr 4 0, .ptr 5 0, .int .i64 (i : Int), g 10, g 11, g 12, g 13, g 14, g 15, g 16, g 17, g 18, g 19, g 20, g 21, g 22, g 23, g 24, g 25, g 26, g 27, g 28, g 29, g 30, g 31, g 32, g 33, g 34, g 35, g 36, g 37, g 38, g 39, g 40, g 41, g 42, g 43, g 44]) ∧ (h 0 = some ⟨[.bool false, .lst true []], true, 2, false⟩ ∧ h 1 = some ⟨[.bool false, .lst true []], true, 2, false⟩ ∧ h 2 = some (zz (H D r i).1.1) ∧ h 3 = some (zz (H D r i).1.2) ∧ h 4 = some (zz (H D r i).2.1) ∧ h 5 = some (zz (H D r i).2.2)) ∧ 6 ≤ nn ∧ i + k + 1 = L) (L - 1) ⟨0, garb rfl, ?_, Nat.le_refl _, by omega⟩ ?_
  · refine ⟨?_, ?_, ?_, ?_, ?_, ?_⟩ <;> simp only [upd_apply, ↓reduceIte, Nat.reduceEqDiff, if_pos] <;> rfl
  clear o0 o1 o2 o3 o4
  rintro k _ h nn ⟨i, ⟨g, rfl⟩, ⟨e0, e1, e2, e3, e4, e5⟩, hnn, hk⟩
  have hlA := As_len D r L
  have zi : ((0 : Int) ≤ (i : Int)) = True := eq_true (by omega)
  have w1 : IntKind.i64.wrap ((i + 1 : Nat) : Int) = ((i + 1 : Nat) : Int) := wrap64 (by omega) (by omega)
  have y0 : (nn = 0) = False := eq_false (by omega)
  have x0 : (0 = nn) = False := eq_false (by omega)
  have y1 : (nn = 1) = False := eq_false (by omega)
  have x1 : (1 = nn) = False := eq_false (by omega)
  have y2 : (nn = 2) = False := eq_false (by omega)
  have x2 : (2 = nn) = False := eq_false (by omega)
  have y3 : (nn = 3) = False := eq_false (by omega)
  have x3 : (3 = nn) = False := eq_false (by omega)
  have y4 : (nn = 4) = False := eq_false (by omega)
  have x4 : (4 = nn) = False := eq_false (by omega)
  have y5 : (nn = 5) = False := eq_false (by omega)
  have x5 : (5 = nn) = False := eq_false (by omega)
  by_cases h1 : i + 1 = L
  · have z1 : (((i + 1 : Nat) : Int) < (L : Int)) = False := eq_false (by omega)
    obtain rfl : i = L - 1 := by omega
    have hP := H_pos hr (L - 1)
    have d1 : decide ((H D r (L - 1)).1.1 = 0) = false := decide_eq_false (by omega)
    have d2 : decide ((H D r (L - 1)).1.2 = 0) = false := decide_eq_false (by omega)
    simp only [zz, d1, d2] at e2 e3
    generalize (H D r (L - 1)).1.1 = x at *
    generalize (H D r (L - 1)).1.2 = y at *
    simp (maxSteps := 4000000) only [go_sem, ↓reduceIte, Nat.reduceAdd, Nat.reduceSub, Nat.reduceMul, Nat.reduceEqDiff, reduceCtorEq, Int.reduceAdd, Int.reduceLT, Int.reduceLE, Int.reduceToNat, Int.reduceNeg, Int.reduceSub, ← List.map_take, ← List.map_drop, ne_eq, Nat.reduceLeDiff, Nat.reduceLT, Nat.zero_le, Nat.le_refl, wrap64, wrapu64, wrapu32, ← Int.natCast_add, ← Int.natCast_mul, cast_succ, wrapu32_nat, shr32, reps_wd, map_set_wd, List.length_set, zs_len, hlA, w1, z1]
    refine W_drawn ?_
    simp (maxSteps := 4000000) only [go_sem, ↓reduceIte, Nat.reduceAdd, Nat.reduceSub, Nat.reduceMul, Nat.reduceEqDiff, reduceCtorEq, Int.reduceAdd, Int.reduceLT, Int.reduceLE, Int.reduceToNat, Int.reduceNeg, Int.reduceSub, ← List.map_take, ← List.map_drop, ne_eq, Nat.reduceLeDiff, Nat.reduceLT, Nat.zero_le, Nat.le_refl, wrap64, wrapu64, wrapu32, ← Int.natCast_add, ← Int.natCast_mul, cast_succ, wrapu32_nat, shr32, reps_wd, map_set_wd, List.length_set, zs_len, e0, e1, e2, e3]
    refine okR_pairs ?_; (repeat ((with_unfolding_all refine And.intro ?_ ?_); (focus (rw [free_mk] <;> (try simp) <;> (try omega))))); (with_unfolding_all exact True.intro)
  · have z1 : (((i + 1 : Nat) : Int) < (L : Int)) = True := eq_true (by omega)
    have hg := As_get D r L i (by omega)
    have hA := A_pos hr (i + 1)
    have hA2 := (A_small hr hD (i + 1)).2.2.2.2.2.2.1
    have hP := H_pos hr i
    have l1 := H_len hr hr2 hL i (by omega)
    have l3 : (dg (H D r i).2.1).length ≤ 1630 := Nat.le_trans (dg_mono (by omega)) l1.1
    have l4 : (dg (H D r i).2.2).length ≤ 1630 := Nat.le_trans (dg_mono (by omega)) l1.2
    have o1 := rOf_spec (A D r (i + 1)) (by omega) (by omega)
    have la := dg_small (z := A D r (i + 1)) (by omega)
    simp (maxSteps := 4000000) only [go_sem, ↓reduceIte, Nat.reduceAdd, Nat.reduceSub, Nat.reduceMul, Nat.reduceEqDiff, reduceCtorEq, Int.reduceAdd, Int.reduceLT, Int.reduceLE, Int.reduceToNat, Int.reduceNeg, Int.reduceSub, ← List.map_take, ← List.map_drop, ne_eq, Nat.reduceLeDiff, Nat.reduceLT, Nat.zero_le, Nat.le_refl, wrap64, wrapu64, wrapu32, ← Int.natCast_add, ← Int.natCast_mul, cast_succ, wrapu32_nat, shr32, reps_wd, map_set_wd, List.length_set, zs_len, hlA, zi, w1, z1, hg, o1, e0, e1, e2, e3, e4, e5, y0, x0, y1, x1, y2, x2, y3, x3, y4, x4, y5, x5, places, fillAll]
    have lx := dg_mul (A D r (i + 1)) (H D r i).1.1
    have ly := dg_mul (A D r (i + 1)) (H D r i).1.2
    have M1 := rMul_spec (decide (A D r (i + 1) = 0)) (A D r (i + 1)) (decide ((H D r i).1.1 = 0)) (H D r i).1.1 (by omega) (by omega)
    have M2 := rMul_spec (decide (A D r (i + 1) = 0)) (A D r (i + 1)) (decide ((H D r i).1.2 = 0)) (H D r i).1.2 (by omega) (by omega)
    have S1 := rAdd_spec (decide (A D r (i + 1) * (H D r i).1.1 = 0)) (A D r (i + 1) * (H D r i).1.1) (decide ((H D r i).2.1 = 0)) (H D r i).2.1 (by omega) (by omega)
    have S2 := rAdd_spec (decide (A D r (i + 1) * (H D r i).1.2 = 0)) (A D r (i + 1) * (H D r i).1.2) (decide ((H D r i).2.2 = 0)) (H D r i).2.2 (by omega) (by omega)
    have hfin : ∀ (h : Heap) (m : Nat) (sl : List AV), (∃ g : Nat → AV, sl = [g 0, g 1, .ptr 0 0, .ptr 1 0, .lst false (As D r L), .ptr 2 0, .ptr 3 0, .ptr 4 0, .ptr 5 0, .int .i64 ((i + 1 : Nat) : Int), g 10, g 11, g 12, g 13, g 14, g 15, g 16, g 17, g 18, g 19, g 20, g 21, g 22, g 23, g 24, g 25, g 26, g 27, g 28, g 29, g 30, g 31, g 32, g 33, g 34, g 35, g 36, g 37, g 38, g 39, g 40, g 41, g 42, g 43, g 44]) → h 0 = some ⟨[.bool false, .lst true []], true, 2, false⟩ → h 1 = some ⟨[.bool false, .lst true []], true, 2, false⟩ →
        h 2 = some (zz (A D r (i + 1) * (H D r i).1.1 + (H D r i).2.1)) → h 3 = some (zz (A D r (i + 1) * (H D r i).1.2 + (H D r i).2.2)) → h 4 = some (zz (H D r i).1.1) → h 5 = some (zz (H D r i).1.2) → 6 ≤ m → ∃ k', k' < k ∧ ∃ i : Nat, (∃ g : Nat → AV, sl = [g 0, g 1, .ptr 0 0, .ptr 1 0, .lst false (As D r L), .ptr 2 0, .ptr 3 0, .ptr 4 0, .ptr 5 0, .int .i64 (i : Int), g 10, g 11, g 12, g 13, g 14, g 15, g 16, g 17, g 18, g 19, g 20, g 21, g 22, g 23, g 24, g 25, g 26, g 27, g 28, g 29, g 30, g 31, g 32, g 33, g 34, g 35, g 36, g 37, g 38, g 39, g 40, g 41, g 42, g 43, g 44]) ∧ (h 0 = some ⟨[.bool false, .lst true []], true, 2, false⟩ ∧ h 1 = some ⟨[.bool false, .lst true []], true, 2, false⟩ ∧ h 2 = some (zz (H D r i).1.1) ∧ h 3 = some (zz (H D r i).1.2) ∧ h 4 = some (zz (H D r i).2.1) ∧ h 5 = some (zz (H D r i).2.2)) ∧ 6 ≤ m ∧ i + k' + 1 = L := fun h m sl a0 a1 a2 a3 a4 a5 a6 a7 =>
      ⟨k - 1, by omega, i + 1, a0, ⟨a1, a2, by rw [H_succ]; exact a3, by rw [H_succ]; exact a4, by rw [H_succ]; exact a5, by rw [H_succ]; exact a6⟩, a7, by omega⟩
    generalize hIQ : (fun (k : Nat) (σ : St) => ∃ i : Nat, (∃ g : Nat → AV, σ.sl = [g 0, g 1, .ptr 0 0, .ptr 1 0, .lst false (As D r L), .ptr 2 0, .ptr 3 0, .ptr 4 0, .ptr 5 0, .int .i64 (i : Int), g 10, g 11, g 12, g 13, g 14, g 15, g 16, g 17, g 18, g 19, g 20, g 21, g 22, g 23, g 24, g 25, g 26, g 27, g 28, g 29, g 30, g 31, g 32, g 33, g 34, g 35, g 36, g 37, g 38, g 39, g 40, g 41, g 42, g 43, g 44]) ∧ (σ.h 0 = some ⟨[.bool false, .lst true []], true, 2, false⟩ ∧ σ.h 1 = some ⟨[.bool false, .lst true []], true, 2, false⟩ ∧ σ.h 2 = some (zz (H D r i).1.1) ∧ σ.h 3 = some (zz (H D r i).1.2) ∧ σ.h 4 = some (zz (H D r i).2.1) ∧ σ.h 5 = some (zz (H D r i).2.2)) ∧ 6 ≤ σ.nx ∧ i + k + 1 = L) = IQ
    clear l1 l3 l4 la lx ly o1 hg hlA hA hA2 hP hL hr
    simp only [RM] at M1 M2 S1 S2
    generalize (H D r i).1.1 = x at *
    generalize (H D r i).1.2 = y at *
    generalize (H D r i).2.1 = u at *
    generalize (H D r i).2.2 = v at *
    generalize A D r (i + 1) = a at *
    generalize a * x + u = xn at *
    generalize a * y + v = yn at *
    generalize a * x = ax at *
    generalize a * y = ay at *
    obtain ⟨QQ, hQQ⟩ : ∃ QQ : Ex → St → Prop, QQ = fun ex τ => ex = .norm ∧ (∃ g : Nat → AV, τ.sl = [g 0, g 1, .ptr 0 0, .ptr 1 0, .lst false (As D r L), .ptr 2 0, .ptr 3 0, .ptr 4 0, .ptr 5 0, .int .i64 (i : Int), .ptr nn 0, g 11, g 12, g 13, g 14, g 15, g 16, g 17, g 18, g 19, g 20, g 21, g 22, g 23, g 24, g 25, g 26, g 27, g 28, g 29, g 30, g 31, g 32, g 33, g 34, g 35, g 36, g 37, g 38, g 39, g 40, g 41, g 42, g 43, g 44]) ∧ nn + 1 ≤ τ.nx ∧ τ.h 0 = some ⟨[.bool false, .lst true []], true, 2, false⟩ ∧ τ.h 1 = some ⟨[.bool false, .lst true []], true, 2, false⟩ ∧ τ.h 2 = some (zz xn) ∧ τ.h 3 = some (zz y) ∧ τ.h 4 = some (zz x) ∧ τ.h 5 = some (zz v) ∧ τ.h nn = some (zz a) := ⟨_, rfl⟩
    refine W_mono (Q := QQ) ?_ ?_
    · refine W_drawn2 ?_
      simp (maxSteps := 4000000) only [go_sem, ↓reduceIte, Nat.reduceAdd, Nat.reduceSub, Nat.reduceMul, Nat.reduceEqDiff, reduceCtorEq, Int.reduceAdd, Int.reduceLT, Int.reduceLE, Int.reduceToNat, Int.reduceNeg, Int.reduceSub, ← List.map_take, ← List.map_drop, ne_eq, Nat.reduceLeDiff, Nat.reduceLT, Nat.zero_le, Nat.le_refl, wrap64, wrapu64, wrapu32, ← Int.natCast_add, ← Int.natCast_mul, cast_succ, wrapu32_nat, shr32, reps_wd, map_set_wd, List.length_set, zs_len, e0, e1, e2, e3, e4, e5, M1, S1, y0, x0, y1, x1, y2, x2, y3, x3, y4, x4, y5, x5, places, fillAll]
      refine ⟨by exact allW_of [] [0, 0, 3, 0, 15, 0, 63, 127] (by kernel_rfl) (by ((simp only [List.flatMap_cons, List.flatMap_nil, cr, List.append_nil, List.nil_append, List.cons_append]); rfl)) (by ((simp (disch := omega) [sts, stB, allS, stOk, cr, Dep.ok, loadEff, upd_apply, if_neg, T1, T2, T3, T4, T5, T6, T9, T10, T11, T12, T15, T16, T17, T20, T21, T22, T23, T25, T26, T27, T28, T30, T31, T32, T33, T34, T36, T37, T38, T39, T40, T41, T43, T44, T46, T47, T48, T49, T50, T51, T52, T53, T54, T55, T56, T57, T58, T59, T60, T61, T62, T63, T64, T65, T67, T68, T69, T70, T71, T72, T73, T74, T75, T76, T77, T78, T80, T81, T83, T84, T86, T87, T88, T89, T90, T91, T93, T94, T95, T96, T98, T99, T100, T101, T103, T105, T106, T107, T108, T109, T110, T111, T112, T113, T114, T117, T120, T121, T122, T123, T124, T125, T126, e0, e1, e2, e3, e4, e5, y0, x0, y1, x1, y2, x2, y3, x3, y4, x4, y5, x5]) <;> (repeat (any_goals apply And.intro)) <;> (first | omega | rfl | (intro hx; first | omega | rfl)))) (by ((repeat ((with_unfolding_all refine And.intro ?_ ?_); (focus ((with_unfolding_all refine ⟨?_, ?_, ?_⟩) <;> ((intro i hi hj); (simp only [cr, Rec.ids, List.map_cons, List.map_nil, List.mem_cons, List.not_mem_nil, or_false, false_or] at hi hj); (first | done | omega)))))); (with_unfolding_all exact True.intro))), ?_⟩
      rw [hQQ]
      refine ⟨rfl, garb rfl, by dsimp only; omega, ?_, ?_, ?_, ?_, ?_, ?_, ?_⟩ <;> simp only [upd_apply, ↓reduceIte, Nat.reduceEqDiff, e0, e1, e2, e3, e4, e5, if_pos, y0, x0, y1, x1, y2, x2, y3, x3, y4, x4, y5, x5]
    · rw [hQQ]
      clear hQQ QQ e0 e1 e2 e3 e4 e5 M1 S1
      rintro ex ⟨sl, H', m⟩ ⟨rfl, ⟨g', rfl⟩, hm, e0, e1, e2, e3, e4, e5, e6⟩
      dsimp only at hm e0 e1 e2 e3 e4 e5 e6
      simp (maxSteps := 4000000) only [go_sem, ↓reduceIte, Nat.reduceAdd, Nat.reduceSub, Nat.reduceMul, Nat.reduceEqDiff, reduceCtorEq, Int.reduceAdd, Int.reduceLT, Int.reduceLE, Int.reduceToNat, Int.reduceNeg, Int.reduceSub, ← List.map_take, ← List.map_drop, ne_eq, Nat.reduceLeDiff, Nat.reduceLT, Nat.zero_le, Nat.le_refl, wrap64, wrapu64, wrapu32, ← Int.natCast_add, ← Int.natCast_mul, cast_succ, wrapu32_nat, shr32, reps_wd, map_set_wd, List.length_set, zs_len, e0]
      refine W_drawn2 ?_
      simp (maxSteps := 4000000) only [go_sem, ↓reduceIte, Nat.reduceAdd, Nat.reduceSub, Nat.reduceMul, Nat.reduceEqDiff, reduceCtorEq, Int.reduceAdd, Int.reduceLT, Int.reduceLE, Int.reduceToNat, Int.reduceNeg, Int.reduceSub, ← List.map_take, ← List.map_drop, ne_eq, Nat.reduceLeDiff, Nat.reduceLT, Nat.zero_le, Nat.le_refl, wrap64, wrapu64, wrapu32, ← Int.natCast_add, ← Int.natCast_mul, cast_succ, wrapu32_nat, shr32, reps_wd, map_set_wd, List.length_set, zs_len, e0, e1, e2, e3, e4, e5, e6, M2, S2, y0, x0, y1, x1, y2, x2, y3, x3, y4, x4, y5, x5, places, fillAll]
      refine ⟨by exact allW_of [] [0, 0, 3, 0, 15, 0, 63, 127] (by kernel_rfl) (by ((simp only [List.flatMap_cons, List.flatMap_nil, cr, List.append_nil, List.nil_append, List.cons_append]); rfl)) (by ((simp (disch := omega) [sts, stB, allS, stOk, cr, Dep.ok, loadEff, upd_apply, if_neg, T1, T2, T3, T4, T5, T6, T9, T10, T11, T12, T15, T16, T17, T20, T21, T22, T23, T25, T26, T27, T28, T30, T31, T32, T33, T34, T36, T37, T38, T39, T40, T41, T43, T44, T46, T47, T48, T49, T50, T51, T52, T53, T54, T55, T56, T57, T58, T59, T60, T61, T62, T63, T64, T65, T67, T68, T69, T70, T71, T72, T73, T74, T75, T76, T77, T78, T80, T81, T83, T84, T86, T87, T88, T89, T90, T91, T93, T94, T95, T96, T98, T99, T100, T101, T103, T105, T106, T107, T108, T109, T110, T111, T112, T113, T114, T117, T120, T121, T122, T123, T124, T125, T126, e0, e1, e2, e3, e4, e5, e6, y0, x0, y1, x1, y2, x2, y3, x3, y4, x4, y5, x5]) <;> (repeat (any_goals apply And.intro)) <;> (first | omega | rfl | (intro hx; first | omega | rfl)))) (by ((repeat ((with_unfolding_all refine And.intro ?_ ?_); (focus ((with_unfolding_all refine ⟨?_, ?_, ?_⟩) <;> ((intro i hi hj); (simp only [cr, Rec.ids, List.map_cons, List.map_nil, List.mem_cons, List.not_mem_nil, or_false, false_or] at hi hj); (first | done | omega)))))); (with_unfolding_all exact True.intro))), ?_⟩
      simp (maxSteps := 4000000) only [go_sem, ↓reduceIte, Nat.reduceAdd, Nat.reduceSub, Nat.reduceMul, Nat.reduceEqDiff, reduceCtorEq, Int.reduceAdd, Int.reduceLT, Int.reduceLE, Int.reduceToNat, Int.reduceNeg, Int.reduceSub, ← List.map_take, ← List.map_drop, ne_eq, Nat.reduceLeDiff, Nat.reduceLT, Nat.zero_le, Nat.le_refl, wrap64, wrapu64, wrapu32, ← Int.natCast_add, ← Int.natCast_mul, cast_succ, wrapu32_nat, shr32, reps_wd, map_set_wd, List.length_set, zs_len, e0, e1, e2, e3, e4, e5, e6, w1]
      rw [← hIQ]
      refine hfin _ _ _ (garb rfl) ?_ ?_ ?_ ?_ ?_ ?_ (by dsimp only; omega) <;> simp only [upd_apply, ↓reduceIte, Nat.reduceEqDiff, e0, e1, e2, e3, e4, e5, if_pos]
theorem rLeast (D r : Int) (hr : Rt D r) (hD : D ≤ 1000000) (L : Nat) (hL : Per D r L) :
    denP E 16 [.int .i64 D] = some (.ret (.tup [RM (LX D r L), RM (LY D r L)])) := by
  refine denP_eq E16 rfl (by simp [AV.pureL, AV.pure, pure_wd]) ?_
  have hr2 := (A_small hr hD 0).1
  have hp := hr.pos
  have hlo := hr.lo
  have hrr : 1 ≤ r * r := Int.mul_le_mul (a := 1) (b := 1) (c := r) (d := r) hp hp (by omega) (by omega)
  have hlen := per_len hr hr2 hL
  have hl := H_len hr hr2 hL (L - 1) (by omega)
  have o0 := rPeriod D r hr hD L hL
  have o1 := rUnit D r hr hD L hL
  have hlA := As_len D r L
  have hP := H_pos hr (L - 1)
  have d1 : decide ((H D r (L - 1)).1.1 = 0) = false := decide_eq_false (by omega)
  have d2 : decide ((H D r (L - 1)).1.2 = 0) = false := decide_eq_false (by omega)
  have t1 := rProduct D (H D r (L - 1)).1.1 (H D r (L - 1)).1.2 (H D r (L - 1)).1.1 (H D r (L - 1)).1.2 false false false false (by omega) (by omega) (by omega) (by omega) (by omega)
  have w1 : IntKind.i64.wrap ((L : Int).tmod 2) = (L : Int).tmod 2 := wrap64 (by have := odd_int L; omega) (by have := odd_int L; omega)
  unfold LX LY
  by_cases h : L % 2 = 1
  · rw [if_pos h, if_pos h]
    have z1 : ((L : Int).tmod 2 = 1) = True := eq_true ((odd_int L).1.2 h)
    simp only [RM] at t1 ⊢
    generalize (H D r (L - 1)).1.1 = x at *
    generalize (H D r (L - 1)).1.2 = y at *
    generalize x * x + D * (y * y) = x2 at *
    generalize x * y + y * x = y2 at *
    simp (maxSteps := 4000000) only [go_sem, ↓reduceIte, Nat.reduceAdd, Nat.reduceSub, Nat.reduceMul, Nat.reduceEqDiff, reduceCtorEq, Int.reduceAdd, Int.reduceLT, Int.reduceLE, Int.reduceToNat, Int.reduceNeg, Int.reduceSub, ← List.map_take, ← List.map_drop, ne_eq, Nat.reduceLeDiff, Nat.reduceLT, Nat.zero_le, Nat.le_refl, wrap64, wrapu64, wrapu32, ← Int.natCast_add, ← Int.natCast_mul, cast_succ, wrapu32_nat, shr32, reps_wd, map_set_wd, List.length_set, zs_len, Try.f16, o0, o1, hlA, t1, w1, z1, Int.reduceEq, places, fillAll]
  · rw [if_neg h, if_neg h]
    have z1 : ((L : Int).tmod 2 = 1) = False := eq_false fun h1 => h ((odd_int L).1.1 h1)
    simp only [RM, d1, d2]
    generalize (H D r (L - 1)).1.1 = x at *
    generalize (H D r (L - 1)).1.2 = y at *
    simp (maxSteps := 4000000) only [go_sem, ↓reduceIte, Nat.reduceAdd, Nat.reduceSub, Nat.reduceMul, Nat.reduceEqDiff, reduceCtorEq, Int.reduceAdd, Int.reduceLT, Int.reduceLE, Int.reduceToNat, Int.reduceNeg, Int.reduceSub, ← List.map_take, ← List.map_drop, ne_eq, Nat.reduceLeDiff, Nat.reduceLT, Nat.zero_le, Nat.le_refl, wrap64, wrapu64, wrapu32, ← Int.natCast_add, ← Int.natCast_mul, cast_succ, wrapu32_nat, shr32, reps_wd, map_set_wd, List.length_set, zs_len, Try.f16, o0, o1, hlA, w1, z1, Int.reduceEq, places, fillAll]
    refine W_drawn ?_
    simp (maxSteps := 4000000) only [go_sem, ↓reduceIte, Nat.reduceAdd, Nat.reduceSub, Nat.reduceMul, Nat.reduceEqDiff, reduceCtorEq, Int.reduceAdd, Int.reduceLT, Int.reduceLE, Int.reduceToNat, Int.reduceNeg, Int.reduceSub, ← List.map_take, ← List.map_drop, ne_eq, Nat.reduceLeDiff, Nat.reduceLT, Nat.zero_le, Nat.le_refl, wrap64, wrapu64, wrapu32, ← Int.natCast_add, ← Int.natCast_mul, cast_succ, wrapu32_nat, shr32, reps_wd, map_set_wd, List.length_set, zs_len, places, fillAll]
    refine okR_pairs ?_; (repeat ((with_unfolding_all refine And.intro ?_ ?_); (focus (rw [free_mk] <;> (try simp) <;> (try omega))))); (with_unfolding_all exact True.intro)
end Go.Proofs.Ytiglncbaomoceaa

/- Plain facts: numbers of binary digits, shifts of rows of words. (Own work of this repo.) -/
namespace Vm

/-- How many binary digits. -/
def bl (n : Nat) : Nat := if h : n = 0 then 0 else bl (n / 2) + 1
termination_by n
decreasing_by omega
theorem bl_zero : bl 0 = 0 := by rw [bl]; simp
theorem bl_pos {n : Nat} (h : n ≠ 0) : bl n = bl (n / 2) + 1 := by rw [bl, dif_neg h]
theorem bl_lt (n : Nat) : n < 2 ^ bl n := by
  induction n using Nat.strongRecOn with
  | _ n ih =>
    by_cases h : n = 0
    · subst h; rw [bl_zero]; decide
    · have := ih (n / 2) (by omega)
      rw [bl_pos h, Nat.pow_succ]; omega
theorem bl_ge {n : Nat} (h : n ≠ 0) : 2 ^ (bl n - 1) ≤ n := by
  induction n using Nat.strongRecOn with
  | _ n ih =>
    rw [bl_pos h, Nat.add_sub_cancel]
    by_cases h2 : n / 2 = 0
    · rw [h2, bl_zero]; simp; omega
    · have := ih (n / 2) (by omega) h2
      have h3 : bl (n / 2) = bl (n / 2) - 1 + 1 := by rw [bl_pos h2]; omega
      rw [h3, Nat.pow_succ]; omega
theorem bl_le {n k : Nat} : bl n ≤ k ↔ n < 2 ^ k := by
  constructor
  · intro h
    exact Nat.lt_of_lt_of_le (bl_lt n) (Nat.pow_le_pow_right (by decide) h)
  · intro h
    by_cases h0 : n = 0
    · subst h0; rw [bl_zero]; omega
    · have h1 := bl_ge h0
      have h2 : 2 ^ (bl n - 1) < 2 ^ k := by omega
      have := (Nat.pow_lt_pow_iff_right (by decide : 1 < 2)).1 h2
      omega
theorem bl_eq {n k : Nat} (h1 : n < 2 ^ k) (h2 : k = 0 ∨ 2 ^ (k - 1) ≤ n) : bl n = k := by
  have h3 := bl_le.2 h1
  rcases h2 with rfl | h2
  · omega
  · rcases Nat.lt_or_ge (bl n) k with h | h
    · have h4 : n < 2 ^ (k - 1) := bl_le.1 (by omega)
      omega
    · omega
theorem bl_mono {a b : Nat} (h : a ≤ b) : bl a ≤ bl b := bl_le.2 (Nat.lt_of_le_of_lt h (bl_lt b))
theorem bl_nz {n : Nat} (h : n ≠ 0) : 0 < bl n := by rw [bl_pos h]; omega
/-- A number's binary digits, from its words. -/
theorem bl_val {l : List Nat} (hr : InR l) (h : l.getD (l.length - 1) 0 ≠ 0) : bl (val l) = 32 * (l.length - 1) + bl (l.getD (l.length - 1) 0) := by
  have hl : l.length ≠ 0 := fun e => by rw [List.length_eq_zero_iff] at e; subst e; simp at h
  obtain ⟨k, hk⟩ : ∃ k, l.length = k + 1 := ⟨l.length - 1, by omega⟩
  rw [hk, Nat.add_sub_cancel] at h ⊢
  have e : val l = vp l k + l.getD k 0 * BB ^ k := by rw [val, hk, vp]
  have h1 := vp_lt hr k
  have hp : BB ^ k = 2 ^ (32 * k) := by rw [Nat.pow_mul]
  generalize l.getD k 0 = t at *
  have h2 := bl_lt t
  have h3 := bl_ge h
  have h4 := bl_nz h
  refine bl_eq ?_ (.inr ?_)
  · rw [e, Nat.pow_add, ← hp]
    have : (t + 1) * BB ^ k ≤ 2 ^ bl t * BB ^ k := Nat.mul_le_mul_right _ h2
    rw [Nat.add_mul] at this
    rw [Nat.mul_comm (BB ^ k)]
    omega
  · rw [e, show 32 * k + bl t - 1 = 32 * k + (bl t - 1) by omega, Nat.pow_add, ← hp, Nat.mul_comm]
    have : 2 ^ (bl t - 1) * BB ^ k ≤ t * BB ^ k := Nat.mul_le_mul_right _ h3
    omega
/-- The table of the library. -/
def lenTab (x : Nat) : Nat := bl x
theorem bl_shift16 {x : Nat} (h : 65536 ≤ x) : bl x = 16 + bl (x / 65536) := by
  refine bl_eq ?_ (.inr ?_)
  · have := bl_lt (x / 65536)
    rw [Nat.pow_add]
    have h2 : (x / 65536 + 1) * 65536 ≤ 2 ^ bl (x / 65536) * 65536 := Nat.mul_le_mul_right _ this
    omega
  · have h0 : x / 65536 ≠ 0 := by omega
    have := bl_ge h0
    have h4 := bl_nz h0
    rw [show 16 + bl (x / 65536) - 1 = 16 + (bl (x / 65536) - 1) by omega, Nat.pow_add]
    have h2 : 2 ^ (bl (x / 65536) - 1) * 65536 ≤ x / 65536 * 65536 := Nat.mul_le_mul_right _ this
    omega
theorem bl_shift8 {x : Nat} (h : 256 ≤ x) : bl x = 8 + bl (x / 256) := by
  refine bl_eq ?_ (.inr ?_)
  · have := bl_lt (x / 256)
    rw [Nat.pow_add]
    have h2 : (x / 256 + 1) * 256 ≤ 2 ^ bl (x / 256) * 256 := Nat.mul_le_mul_right _ this
    omega
  · have h0 : x / 256 ≠ 0 := by omega
    have := bl_ge h0
    have h4 := bl_nz h0
    rw [show 8 + bl (x / 256) - 1 = 8 + (bl (x / 256) - 1) by omega, Nat.pow_add]
    have h2 : 2 ^ (bl (x / 256) - 1) * 256 ≤ x / 256 * 256 := Nat.mul_le_mul_right _ this
    omega

/-! #### shifts -/
theorem pow_split {k : Nat} (h : k < 32) : 2 ^ k * 2 ^ (32 - k) = 4294967296 := by
  rw [← Nat.pow_add, show k + (32 - k) = 32 by omega]
theorem pow_lt32 {k : Nat} (h : k < 32) : 2 ^ k ≤ 2147483648 := by
  have : 2 ^ k ≤ 2 ^ 31 := Nat.pow_le_pow_right (by decide) (by omega)
  exact this
/-- A word moved to the left: what is carried, and what stays has zeros. -/
theorem left_word {x k : Nat} (hk : k < 32) (hx : x < 4294967296) : x * 2 ^ k / 4294967296 < 2 ^ k ∧ x * 2 ^ k % 4294967296 = (x % 2 ^ (32 - k)) * 2 ^ k := by
  have hp := pow_split hk
  have h0 : 0 < 2 ^ k := Nat.pow_pos (by decide)
  constructor
  · rw [Nat.div_lt_iff_lt_mul (by decide), Nat.mul_comm]
    exact Nat.mul_lt_mul_of_pos_left hx h0
  · rw [← hp, Nat.mul_comm (2 ^ k), Nat.mul_mod_mul_right]
theorem left_step {o a : List Nat} {q i k h : Nat} (hk : k < 32) (ha : a.getD i 0 < 4294967296) (ho : q + i + 1 < o.length) (hh : o.getD (q + i) 0 = h) (hv : vp o (q + i + 1) = vp a i * (2 ^ k * BB ^ q)) :
    vp ((o.set (q + i) (h + a.getD i 0 * 2 ^ k % 4294967296)).set (q + i + 1) (a.getD i 0 * 2 ^ k / 4294967296)) (q + (i + 1) + 1) = vp a (i + 1) * (2 ^ k * BB ^ q) := by
  rw [show q + (i + 1) + 1 = q + i + 1 + 1 by omega, vp, lget_set_self (by rw [List.length_set]; omega), vp_set _ _ _ _ (Nat.le_refl _), vp, lget_set_self (by omega), vp_set _ _ _ _ (Nat.le_refl _)]
  rw [vp, hh] at hv
  rw [vp, Nat.add_mul, Nat.add_mul, ← hv, show BB ^ (q + i + 1) = BB ^ (q + i) * BB from Nat.pow_succ _ _]
  have h1 : a.getD i 0 * 2 ^ k % 4294967296 * BB ^ (q + i) + a.getD i 0 * 2 ^ k / 4294967296 * (BB ^ (q + i) * BB) = a.getD i 0 * 2 ^ k * BB ^ (q + i) := split_mul (a.getD i 0 * 2 ^ k) (BB ^ (q + i))
  have h2 : a.getD i 0 * BB ^ i * (2 ^ k * BB ^ q) = a.getD i 0 * 2 ^ k * BB ^ (q + i) := by
    rw [Nat.pow_add]; generalize a.getD i 0 = x; generalize BB ^ i = y; generalize BB ^ q = z; generalize 2 ^ k = w; grind
  rw [h2]
  omega
/-- A row's words moved to the right, each with the low part of the next one. -/
theorem right_word {x y k : Nat} (hk : k < 32) (hx : x < 4294967296) : (x + y * 4294967296) / 2 ^ k % 4294967296 = x / 2 ^ k + (y % 2 ^ k) * 2 ^ (32 - k) := by
  have hp := pow_split hk
  have h0 : 0 < 2 ^ k := Nat.pow_pos (by decide)
  have h0' : 0 < 2 ^ (32 - k) := Nat.pow_pos (by decide)
  have h1 : (x + y * 4294967296) / 2 ^ k = x / 2 ^ k + y * 2 ^ (32 - k) := by
    rw [← hp, show y * (2 ^ k * 2 ^ (32 - k)) = 2 ^ k * (y * 2 ^ (32 - k)) by grind, Nat.add_mul_div_left _ _ h0]
  have hlt : x / 2 ^ k < 2 ^ (32 - k) := by rw [Nat.div_lt_iff_lt_mul h0, Nat.mul_comm, hp]; exact hx
  rw [h1]
  have h2 : y * 2 ^ (32 - k) = (y % 2 ^ k) * 2 ^ (32 - k) + 4294967296 * (y / 2 ^ k) := by
    have := Nat.mod_add_div y (2 ^ k)
    generalize y / 2 ^ k = d at *
    rw [← hp]
    generalize hm : y % 2 ^ k = m at *
    rw [← this]; grind
  rw [h2, ← Nat.add_assoc, Nat.add_mul_mod_self_left, Nat.mod_eq_of_lt]
  have h3 : y % 2 ^ k < 2 ^ k := Nat.mod_lt _ h0
  have h4 : (y % 2 ^ k + 1) * 2 ^ (32 - k) ≤ 2 ^ k * 2 ^ (32 - k) := Nat.mul_le_mul_right _ h3
  rw [Nat.add_mul, hp] at h4
  omega
theorem right_inv {o b : List Nat} {k : Nat} (hk : k < 32) (hb : InR b) (h : ∀ i, i < b.length → o.getD i 0 = (b.getD i 0 + b.getD (i + 1) 0 * 4294967296) / 2 ^ k % 4294967296) : ∀ i, i ≤ b.length →
    vp b (i + 1) = 2 ^ k * (vp o i + b.getD i 0 / 2 ^ k * BB ^ i) + b.getD 0 0 % 2 ^ k := by
  have hp := pow_split hk
  intro i
  induction i with
  | zero =>
    intro _
    have := Nat.div_add_mod (b.getD 0 0) (2 ^ k)
    simp only [vp, Nat.pow_zero, Nat.mul_one, Nat.zero_add]
    omega
  | succ i ih =>
    intro hi
    have h1 := ih (by omega)
    have h2 := h i (by omega)
    rw [right_word hk (hb.get i)] at h2
    rw [vp, h1, vp, h2]
    have h3 := Nat.div_add_mod (b.getD (i + 1) 0) (2 ^ k)
    generalize b.getD (i + 1) 0 = y at *
    generalize y / 2 ^ k = d at *
    generalize y % 2 ^ k = m at *
    generalize b.getD i 0 / 2 ^ k = e at *
    generalize b.getD 0 0 % 2 ^ k = r at *
    rw [← h3, Nat.pow_succ, show BB = 2 ^ k * 2 ^ (32 - k) from hp.symm]
    generalize (2 ^ k * 2 ^ (32 - k)) ^ i = z
    grind
theorem right_val {o b : List Nat} {k : Nat} (hk : k < 32) (hb : InR b) (hl : o.length = b.length) (h : ∀ i, i < b.length → o.getD i 0 = (b.getD i 0 + b.getD (i + 1) 0 * 4294967296) / 2 ^ k % 4294967296) :
    val b = 2 ^ k * val o + b.getD 0 0 % 2 ^ k := by
  have := right_inv hk hb h b.length (Nat.le_refl _)
  rw [vp_ge b _ (by omega), getD_ge (Nat.le_refl _), Nat.zero_div, Nat.zero_mul, Nat.add_zero] at this
  rw [this, val, hl]
/-- A row, cut in two. -/
theorem vp_split (a : List Nat) (q : Nat) : ∀ n, vp a (q + n) = vp a q + BB ^ q * vp (a.drop q) n := by
  intro n
  induction n with
  | zero => simp [vp]
  | succ n ih =>
    rw [← Nat.add_assoc, vp, ih, vp, getD_drop, Nat.pow_add]
    generalize BB ^ q = x; generalize BB ^ n = y; generalize a.getD (q + n) 0 = z; grind
theorem val_split {a : List Nat} {q : Nat} (h : q ≤ a.length) : val a = vp a q + BB ^ q * val (a.drop q) := by
  have := vp_split a q (a.length - q)
  rw [show q + (a.length - q) = a.length by omega] at this
  rw [val, val, List.length_drop, this]
theorem vp_take {a : List Nat} {q : Nat} (h : q ≤ a.length) : val (a.take q) = vp a q := by
  rw [val, List.length_take, Nat.min_eq_left h]
  exact vp_congr _ fun i hi => getD_take hi
theorem vp_nz {a : List Nat} : ∀ n, vp a n = 0 ↔ ∀ i, i < n → a.getD i 0 = 0
  | 0 => by simp [vp]
  | n + 1 => by
    have h0 : 0 < BB ^ n := Nat.pow_pos (by decide)
    rw [vp, Nat.add_eq_zero_iff, vp_nz n, Nat.mul_eq_zero]
    constructor
    · rintro ⟨h1, h2⟩ i hi
      by_cases e : i = n
      · subst e; rcases h2 with h2 | h2
        · exact h2
        · omega
      · exact h1 i (by omega)
    · intro h
      exact ⟨fun i hi => h i (by omega), .inl (h n (by omega))⟩
end Vm

/- Walks: numbers of binary digits. (Own work of this repo.) -/
namespace Go.Proofs.Ytiglncbaomoceaa
open Vm
set_option maxRecDepth 10000

def blF : Nat → Nat → Nat
  | 0, _ => 0
  | f + 1, n => if n = 0 then 0 else blF f (n / 2) + 1
theorem blF_eq : ∀ (f n : Nat), n < 2 ^ f → blF f n = bl n
  | 0, n, h => by
    have : n = 0 := by simpa using h
    subst this; rw [bl_zero]; rfl
  | f + 1, n, h => by
    by_cases h0 : n = 0
    · subst h0; rw [bl_zero]; rfl
    · rw [blF, if_neg h0, blF_eq f (n / 2) (by rw [Nat.pow_succ] at h; omega), bl_pos h0]
theorem tab_all : ∀ x : Fin 256, ((((0 :: 1 :: 2 :: 2 :: 3 :: 3 :: 3 :: 3 :: 4 :: 4 :: 4 :: 4 :: 4 :: 4 :: 4 :: 4 :: 5 :: 5 :: 5 :: 5 :: 5 :: 5 :: 5 :: 5 :: 5 :: 5 :: 5 :: 5 :: 5 :: 5 :: 5 :: 5 :: 6 :: 6 :: 6 :: 6 :: 6 :: 6 :: 6 :: 6 :: 6 :: 6 :: 6 :: 6 :: 6 :: 6 :: 6 :: 6 :: 6 :: 6 :: 6 :: 6 :: 6 :: 6 :: 6 :: 6 :: 6 :: 6 :: 6 :: 6 :: 6 :: 6 :: 6 :: 6 :: []) : List UInt8).append (7 :: 7 :: 7 :: 7 :: 7 :: 7 :: 7 :: 7 :: 7 :: 7 :: 7 :: 7 :: 7 :: 7 :: 7 :: 7 :: 7 :: 7 :: 7 :: 7 :: 7 :: 7 :: 7 :: 7 :: 7 :: 7 :: 7 :: 7 :: 7 :: 7 :: 7 :: 7 :: 7 :: 7 :: 7 :: 7 :: 7 :: 7 :: 7 :: 7 :: 7 :: 7 :: 7 :: 7 :: 7 :: 7 :: 7 :: 7 :: 7 :: 7 :: 7 :: 7 :: 7 :: 7 :: 7 :: 7 :: 7 :: 7 :: 7 :: 7 :: 7 :: 7 :: 7 :: 7 :: [])).append (((8 :: 8 :: 8 :: 8 :: 8 :: 8 :: 8 :: 8 :: 8 :: 8 :: 8 :: 8 :: 8 :: 8 :: 8 :: 8 :: 8 :: 8 :: 8 :: 8 :: 8 :: 8 :: 8 :: 8 :: 8 :: 8 :: 8 :: 8 :: 8 :: 8 :: 8 :: 8 :: 8 :: 8 :: 8 :: 8 :: 8 :: 8 :: 8 :: 8 :: 8 :: 8 :: 8 :: 8 :: 8 :: 8 :: 8 :: 8 :: 8 :: 8 :: 8 :: 8 :: 8 :: 8 :: 8 :: 8 :: 8 :: 8 :: 8 :: 8 :: 8 :: 8 :: 8 :: 8 :: []) : List UInt8).append (8 :: 8 :: 8 :: 8 :: 8 :: 8 :: 8 :: 8 :: 8 :: 8 :: 8 :: 8 :: 8 :: 8 :: 8 :: 8 :: 8 :: 8 :: 8 :: 8 :: 8 :: 8 :: 8 :: 8 :: 8 :: 8 :: 8 :: 8 :: 8 :: 8 :: 8 :: 8 :: 8 :: 8 :: 8 :: 8 :: 8 :: 8 :: 8 :: 8 :: 8 :: 8 :: 8 :: 8 :: 8 :: 8 :: 8 :: 8 :: 8 :: 8 :: 8 :: 8 :: 8 :: 8 :: 8 :: 8 :: 8 :: 8 :: 8 :: 8 :: 8 :: 8 :: 8 :: 8 :: [])))[x.val]? = some (UInt8.ofNat (blF 8 x.val)) := by decide +kernel
theorem tab_get {x : Nat} (h : x < 256) : ((((0 :: 1 :: 2 :: 2 :: 3 :: 3 :: 3 :: 3 :: 4 :: 4 :: 4 :: 4 :: 4 :: 4 :: 4 :: 4 :: 5 :: 5 :: 5 :: 5 :: 5 :: 5 :: 5 :: 5 :: 5 :: 5 :: 5 :: 5 :: 5 :: 5 :: 5 :: 5 :: 6 :: 6 :: 6 :: 6 :: 6 :: 6 :: 6 :: 6 :: 6 :: 6 :: 6 :: 6 :: 6 :: 6 :: 6 :: 6 :: 6 :: 6 :: 6 :: 6 :: 6 :: 6 :: 6 :: 6 :: 6 :: 6 :: 6 :: 6 :: 6 :: 6 :: 6 :: 6 :: []) : List UInt8).append (7 :: 7 :: 7 :: 7 :: 7 :: 7 :: 7 :: 7 :: 7 :: 7 :: 7 :: 7 :: 7 :: 7 :: 7 :: 7 :: 7 :: 7 :: 7 :: 7 :: 7 :: 7 :: 7 :: 7 :: 7 :: 7 :: 7 :: 7 :: 7 :: 7 :: 7 :: 7 :: 7 :: 7 :: 7 :: 7 :: 7 :: 7 :: 7 :: 7 :: 7 :: 7 :: 7 :: 7 :: 7 :: 7 :: 7 :: 7 :: 7 :: 7 :: 7 :: 7 :: 7 :: 7 :: 7 :: 7 :: 7 :: 7 :: 7 :: 7 :: 7 :: 7 :: 7 :: 7 :: [])).append (((8 :: 8 :: 8 :: 8 :: 8 :: 8 :: 8 :: 8 :: 8 :: 8 :: 8 :: 8 :: 8 :: 8 :: 8 :: 8 :: 8 :: 8 :: 8 :: 8 :: 8 :: 8 :: 8 :: 8 :: 8 :: 8 :: 8 :: 8 :: 8 :: 8 :: 8 :: 8 :: 8 :: 8 :: 8 :: 8 :: 8 :: 8 :: 8 :: 8 :: 8 :: 8 :: 8 :: 8 :: 8 :: 8 :: 8 :: 8 :: 8 :: 8 :: 8 :: 8 :: 8 :: 8 :: 8 :: 8 :: 8 :: 8 :: 8 :: 8 :: 8 :: 8 :: 8 :: 8 :: []) : List UInt8).append (8 :: 8 :: 8 :: 8 :: 8 :: 8 :: 8 :: 8 :: 8 :: 8 :: 8 :: 8 :: 8 :: 8 :: 8 :: 8 :: 8 :: 8 :: 8 :: 8 :: 8 :: 8 :: 8 :: 8 :: 8 :: 8 :: 8 :: 8 :: 8 :: 8 :: 8 :: 8 :: 8 :: 8 :: 8 :: 8 :: 8 :: 8 :: 8 :: 8 :: 8 :: 8 :: 8 :: 8 :: 8 :: 8 :: 8 :: 8 :: 8 :: 8 :: 8 :: 8 :: 8 :: 8 :: 8 :: 8 :: 8 :: 8 :: 8 :: 8 :: 8 :: 8 :: 8 :: 8 :: [])))[x]? = some (UInt8.ofNat (bl x)) := by
  rw [← blF_eq 8 x h]
  exact tab_all ⟨x, h⟩
theorem tab_nat {x : Nat} (h : x < 256) : (UInt8.ofNat (bl x)).toNat = bl x := by
  have : bl x ≤ 8 := bl_le.2 h
  rw [UInt8.toNat_ofNat', Nat.mod_eq_of_lt (by omega)]
theorem shr16u (n : Nat) : (n : Int).fdiv (2 ^ min 16 (kb .u32)) = ((n / 65536 : Nat) : Int) := by
  rw [show min 16 (kb .u32) = 16 from rfl, Int.fdiv_eq_ediv_of_nonneg _ (by decide)]; rfl
theorem shr8u (n : Nat) : (n : Int).fdiv (2 ^ min 8 (kb .u32)) = ((n / 256 : Nat) : Int) := by
  rw [show min 8 (kb .u32) = 8 from rfl, Int.fdiv_eq_ediv_of_nonneg _ (by decide)]; rfl
theorem wrapu8 {n : Nat} (h : n < 256) : IntKind.u8.wrap (n : Int) = (n : Int) := by rw [IntKind.wrap_u8']; omega
theorem len32_spec (x : Nat) (hx : x < 4294967296) : denP E 87 [.int .u32 x] = some (.ret (.int .i64 (bl x))) := by
  refine denP_eq E87 rfl (by simp [AV.pureL, AV.pure]) ?_
  by_cases h1 : 65536 ≤ x
  · have e1 := bl_shift16 h1
    by_cases h2 : 256 ≤ x / 65536
    · have e2 := bl_shift8 h2
      have h3 : x / 65536 / 256 < 256 := by omega
      have hb := bl_le.2 (show x / 65536 / 256 < 2 ^ 8 from h3)
      have hg := tab_get h3
      have hn := tab_nat h3
      have e3 : (24 : Int) + ((bl (x / 65536 / 256) : Nat) : Int) = ((bl x : Nat) : Int) := by omega
      have h1' : (65536 : Int) ≤ (x : Int) := by omega
      have h2' : (256 : Int) ≤ ((x / 65536 : Nat) : Int) := by omega
      simp (maxSteps := 4000000) (disch := omega) only [go_sem, ↓reduceIte, Nat.reduceAdd, Nat.reduceSub, Nat.reduceMul, Nat.reduceEqDiff, reduceCtorEq, Int.reduceAdd, Int.reduceLT, Int.reduceLE, Int.reduceToNat, Int.reduceNeg, Int.reduceSub, ← List.map_take, ← List.map_drop, wrap64, wrapu64, wrapu32, Int.zero_add, Try.f87, shr16u, shr8u, wrapu8, hg, hn, e3]
    · have h3 : x / 65536 < 256 := by omega
      have hb := bl_le.2 (show x / 65536 < 2 ^ 8 from h3)
      have hg := tab_get h3
      have hn := tab_nat h3
      have e3 : (16 : Int) + ((bl (x / 65536) : Nat) : Int) = ((bl x : Nat) : Int) := by omega
      simp (maxSteps := 4000000) (disch := omega) only [go_sem, ↓reduceIte, Nat.reduceAdd, Nat.reduceSub, Nat.reduceMul, Nat.reduceEqDiff, reduceCtorEq, Int.reduceAdd, Int.reduceLT, Int.reduceLE, Int.reduceToNat, Int.reduceNeg, Int.reduceSub, ← List.map_take, ← List.map_drop, wrap64, wrapu64, wrapu32, Int.zero_add, Try.f87, shr16u, shr8u, wrapu8, hg, hn, e3]
  · by_cases h2 : 256 ≤ x
    · have e2 := bl_shift8 h2
      have h3 : x / 256 < 256 := by omega
      have hb := bl_le.2 (show x / 256 < 2 ^ 8 from h3)
      have hg := tab_get h3
      have hn := tab_nat h3
      have e3 : (8 : Int) + ((bl (x / 256) : Nat) : Int) = ((bl x : Nat) : Int) := by omega
      simp (maxSteps := 4000000) (disch := omega) only [go_sem, ↓reduceIte, Nat.reduceAdd, Nat.reduceSub, Nat.reduceMul, Nat.reduceEqDiff, reduceCtorEq, Int.reduceAdd, Int.reduceLT, Int.reduceLE, Int.reduceToNat, Int.reduceNeg, Int.reduceSub, ← List.map_take, ← List.map_drop, wrap64, wrapu64, wrapu32, Int.zero_add, Try.f87, shr16u, shr8u, wrapu8, hg, hn, e3]
    · have h3 : x < 256 := by omega
      have hb := bl_le.2 (show x < 2 ^ 8 from h3)
      have hg := tab_get h3
      have hn := tab_nat h3
      simp (maxSteps := 4000000) (disch := omega) only [go_sem, ↓reduceIte, Nat.reduceAdd, Nat.reduceSub, Nat.reduceMul, Nat.reduceEqDiff, reduceCtorEq, Int.reduceAdd, Int.reduceLT, Int.reduceLE, Int.reduceToNat, Int.reduceNeg, Int.reduceSub, ← List.map_take, ← List.map_drop, wrap64, wrapu64, wrapu32, Int.zero_add, Try.f87, shr16u, shr8u, wrapu8, hg, hn]
theorem lz32_spec (x : Nat) (hx : x < 4294967296) : denP E 88 [.int .u32 x] = some (.ret (.int .i64 (32 - (bl x : Int)))) := by
  refine denP_eq E88 rfl (by simp [AV.pureL, AV.pure]) ?_
  have h := len32_spec x hx
  have hb := bl_le.2 (show x < 2 ^ 32 from hx)
  simp (maxSteps := 4000000) (disch := omega) only [go_sem, ↓reduceIte, Nat.reduceAdd, Nat.reduceSub, Nat.reduceMul, Nat.reduceEqDiff, reduceCtorEq, Int.reduceAdd, Int.reduceLT, Int.reduceLE, Int.reduceToNat, Int.reduceNeg, Int.reduceSub, ← List.map_take, ← List.map_drop, wrap64, wrapu64, wrapu32, Try.f88, h]
theorem dg_top {z : Int} (h : z ≠ 0) : (dg z).getD ((dg z).length - 1) 0 ≠ 0 := by
  rcases (dg_norm z).2 with h1 | h1
  · exact absurd (dg_nil.1 h1) h
  · exact h1
theorem bl_dg {z : Int} (h : z ≠ 0) : bl z.natAbs = 32 * ((dg z).length - 1) + bl ((dg z).getD ((dg z).length - 1) 0) := by
  have := bl_val (dg_inR z) (dg_top h)
  rwa [val_dg] at this
theorem size_spec (m : Bool) (z : Int) (hz : (dg z).length < 2 ^ 40) : denP E 80 [.lst m ((dg z).map wd)] = some (.ret (.int .i64 (bl z.natAbs))) := by
  refine denP_eq E80 rfl (by simp [AV.pureL, AV.pure, pure_wd]) ?_
  by_cases h0 : z = 0
  · subst h0
    have e : bl (Int.natAbs 0) = 0 := bl_zero
    have e2 : (dg 0).length = 0 := dg_len0.2 rfl
    rw [e]
    simp (maxSteps := 4000000) (disch := omega) only [go_sem, ↓reduceIte, Nat.reduceAdd, Nat.reduceSub, Nat.reduceMul, Nat.reduceEqDiff, reduceCtorEq, Int.reduceAdd, Int.reduceLT, Int.reduceLE, Int.reduceToNat, Int.reduceNeg, Int.reduceSub, ← List.map_take, ← List.map_drop, wrap64, wrapu64, wrapu32, Try.f80, e2]
  · have hl := dg_pos.2 h0
    have e1 : ((dg z).length : Int) - 1 = (((dg z).length - 1 : Nat) : Int) := by omega
    have hx := (dg_inR z).get ((dg z).length - 1)
    have h := len32_spec _ hx
    have hb := bl_le.2 (show (dg z).getD ((dg z).length - 1) 0 < 2 ^ 32 from hx)
    have e2 : 32 * (((dg z).length - 1 : Nat) : Int) + ((bl ((dg z).getD ((dg z).length - 1) 0) : Nat) : Int) = ((bl z.natAbs : Nat) : Int) := by
      have := bl_dg h0; omega
    simp (maxSteps := 4000000) (disch := omega) only [go_sem, ↓reduceIte, Nat.reduceAdd, Nat.reduceSub, Nat.reduceMul, Nat.reduceEqDiff, reduceCtorEq, Int.reduceAdd, Int.reduceLT, Int.reduceLE, Int.reduceToNat, Int.reduceNeg, Int.reduceSub, ← List.map_take, ← List.map_drop, wrap64, wrapu64, wrapu32, Try.f80, e1, h, e2]
theorem rBits_spec (m : Bool) (z : Int) (hz : (dg z).length < 2 ^ 40) : denP E 22 [I m z] = some (.ret (.int .i64 (bl z.natAbs))) := by
  refine denP_eq E22 rfl (by simp [AV.pureL, AV.pure, pure_wd]) ?_
  by_cases h0 : z = 0
  · subst h0
    have e : bl (Int.natAbs 0) = 0 := bl_zero
    have e2 : (dg 0).length = 0 := dg_len0.2 rfl
    rw [e]
    simp (maxSteps := 4000000) (disch := omega) only [go_sem, ↓reduceIte, Nat.reduceAdd, Nat.reduceSub, Nat.reduceMul, Nat.reduceEqDiff, reduceCtorEq, Int.reduceAdd, Int.reduceLT, Int.reduceLE, Int.reduceToNat, Int.reduceNeg, Int.reduceSub, ← List.map_take, ← List.map_drop, wrap64, wrapu64, wrapu32, Try.f22, e2]
  · have hl := dg_pos.2 h0
    have e1 : ((dg z).length : Int) - 1 = (((dg z).length - 1 : Nat) : Int) := by omega
    have hx := (dg_inR z).get ((dg z).length - 1)
    have hd := bl_dg h0
    simp (maxSteps := 4000000) (disch := omega) only [go_sem, ↓reduceIte, Nat.reduceAdd, Nat.reduceSub, Nat.reduceMul, Nat.reduceEqDiff, reduceCtorEq, Int.reduceAdd, Int.reduceLT, Int.reduceLE, Int.reduceToNat, Int.reduceNeg, Int.reduceSub, ← List.map_take, ← List.map_drop, wrap64, wrapu64, wrapu32, Try.f22, e1]
    generalize (dg z).getD ((dg z).length - 1) 0 = top at *
    have hb := bl_le.2 (show top < 2 ^ 32 from hx)
    refine W_loopS (fun k sl H nx => ∃ (c : Nat), (∃ g : Nat → AV, sl = [g 0, g 1, g 2, .int .i64 (dg z).length, .int .i64 c, .int .u32 k, g 6, g 7, g 8, g 9, g 10, g 11, g 12, g 13, g 14, g 15, g 16, g 17, g 18, g 19, g 20, g 21, g 22, g 23, g 24, g 25, g 26, g 27]) ∧ k < 4294967296 ∧ c + bl k = bl top) top ⟨0, garb rfl, hx, by omega⟩ ?_
    rintro k _ H nx ⟨c, ⟨g, rfl⟩, hk, hc⟩
    by_cases hk0 : k = 0
    · subst hk0
      rw [bl_zero] at hc
      have e2 : 32 * (((dg z).length - 1 : Nat) : Int) + (c : Int) = ((bl z.natAbs : Nat) : Int) := by omega
      simp (maxSteps := 4000000) (disch := omega) only [go_sem, ↓reduceIte, Nat.reduceAdd, Nat.reduceSub, Nat.reduceMul, Nat.reduceEqDiff, reduceCtorEq, Int.reduceAdd, Int.reduceLT, Int.reduceLE, Int.reduceToNat, Int.reduceNeg, Int.reduceSub, ← List.map_take, ← List.map_drop, wrap64, wrapu64, wrapu32, e1, e2]
    · have e2 : IntKind.u32.wrap ((k : Int).tdiv 2) = ((k / 2 : Nat) : Int) := by
        rw [IntKind.wrap_u32', Int.tdiv_eq_ediv_of_nonneg (by omega)]; omega
      rw [bl_pos hk0] at hc
      simp (maxSteps := 4000000) (disch := omega) only [go_sem, ↓reduceIte, Nat.reduceAdd, Nat.reduceSub, Nat.reduceMul, Nat.reduceEqDiff, reduceCtorEq, Int.reduceAdd, Int.reduceLT, Int.reduceLE, Int.reduceToNat, Int.reduceNeg, Int.reduceSub, ← List.map_take, ← List.map_drop, wrap64, wrapu64, wrapu32, e1, e2, cast_succ]
      exact ⟨k / 2, by omega, c + 1, garb rfl, by omega, by omega⟩
end Go.Proofs.Ytiglncbaomoceaa

/- Walks: Power. (Own work of this repo.) -/
namespace Go.Proofs.Ytiglncbaomoceaa
open Vm
set_option maxRecDepth 10000

theorem pow_big {x : Int} {e n : Nat} (h : ¬ (dg (x ^ e)).length ≤ 4096) (hen : e ≤ n) : ¬ (dg (x ^ n)).length ≤ 4096 := by
  intro h2
  apply h
  by_cases hx : x.natAbs = 0
  · have hx0 : x = 0 := by omega
    subst hx0
    have : ((0 : Int) ^ e).natAbs ≤ 1 := by
      rw [Int.natAbs_pow]
      cases e with
      | zero => decide
      | succ e => rw [Nat.pow_succ]; simp
    have h3 : (dg ((0 : Int) ^ e)).length ≤ (dg 1).length := dg_mono (by simpa using this)
    have h4 : (dg 1).length ≤ 2 := dg_small (by decide)
    omega
  · refine Nat.le_trans (dg_mono ?_) h2
    rw [Int.natAbs_pow, Int.natAbs_pow]
    exact Nat.pow_le_pow_right (by omega) hen
theorem half_step (n k : Nat) : n / 2 ^ k = 2 * (n / 2 ^ (k + 1)) + n / 2 ^ k % 2 := by
  rw [Nat.pow_succ, ← Nat.div_div_eq_div_mul]
  omega
theorem bit63 {n k : Nat} (hn : n < 9223372036854775808) (hk : k < 63) : IntKind.i64.wrap ((BitVec.ofInt (kb .i64) ((n : Int).fdiv (2 ^ min k (kb .i64))) &&& BitVec.ofInt (kb .i64) 1).toNat : Int) = ((n / 2 ^ k % 2 : Nat) : Int) := by
  rw [shr_nat, show min k (kb .i64) = k from Nat.min_eq_left (by show k ≤ 64; omega)]
  have h1 : n / 2 ^ k ≤ n := Nat.div_le_self _ _
  have := and63 (a := n / 2 ^ k) (b := 1) (by omega) (by decide)
  rw [show (1 : Int) = ((1 : Nat) : Int) from rfl, this, Nat.and_one_is_mod]
end Go.Proofs.Ytiglncbaomoceaa

/- Powers of a unit. (Own work of this repo.) -/
namespace Pel
def pw (D x y : Int) : Nat → Int × Int
  | 0 => (1, 0)
  | n + 1 => ((pw D x y n).1 * x + D * ((pw D x y n).2 * y), (pw D x y n).1 * y + (pw D x y n).2 * x)
theorem pw_zero (D x y : Int) : pw D x y 0 = (1, 0) := rfl
theorem pw_succ (D x y : Int) (n : Nat) : pw D x y (n + 1) = ((pw D x y n).1 * x + D * ((pw D x y n).2 * y), (pw D x y n).1 * y + (pw D x y n).2 * x) := rfl
theorem pw_add (D x y : Int) (m : Nat) : ∀ n, pw D x y (m + n) = ((pw D x y m).1 * (pw D x y n).1 + D * ((pw D x y m).2 * (pw D x y n).2), (pw D x y m).1 * (pw D x y n).2 + (pw D x y m).2 * (pw D x y n).1)
  | 0 => by simp [pw_zero]
  | n + 1 => by
    rw [← Nat.add_assoc, pw_succ, pw_add D x y m n, pw_succ]
    dsimp only
    generalize (pw D x y m).1 = a
    generalize (pw D x y m).2 = b
    generalize (pw D x y n).1 = c
    generalize (pw D x y n).2 = d
    refine Prod.ext ?_ ?_ <;> dsimp only <;> grind
theorem pw_bounds {D x y : Int} (hD : 1 ≤ D) (hx : 1 ≤ x) (hy : 0 ≤ y) (hyx : y ≤ x) : ∀ n, 1 ≤ (pw D x y n).1 ∧ 0 ≤ (pw D x y n).2 ∧ (pw D x y n).2 ≤ (pw D x y n).1 ∧ (pw D x y n).1 ≤ (pw D x y (n + 1)).1
  | 0 => by
    rw [pw_succ, pw_zero]
    dsimp only
    simp
    exact hx
  | n + 1 => by
    obtain ⟨h1, h2, h3, h4⟩ := pw_bounds hD hx hy hyx n
    have key : ∀ a b : Int, 1 ≤ a → 0 ≤ b → a ≤ a * x + D * (b * y) ∧ 0 ≤ D * (b * y) := fun a b ha hb => by
      have e1 : a * 1 ≤ a * x := Int.mul_le_mul_of_nonneg_left hx (by omega)
      have e2 : 0 ≤ D * (b * y) := Int.mul_nonneg (by omega) (Int.mul_nonneg hb hy)
      omega
    have k1 := key _ _ h1 h2
    have e3 : 0 ≤ (pw D x y n).1 * y := Int.mul_nonneg (by omega) hy
    have e4 : 0 ≤ (pw D x y n).2 * x := Int.mul_nonneg h2 (by omega)
    have h2' : 0 ≤ (pw D x y (n + 1)).2 := by rw [pw_succ]; dsimp only; omega
    have h1' : 1 ≤ (pw D x y (n + 1)).1 := by omega
    have k2 := key _ _ h1' h2'
    refine ⟨h1', h2', ?_, ?_⟩
    · rw [pw_succ]
      dsimp only
      generalize (pw D x y n).1 = a at *
      generalize (pw D x y n).2 = b at *
      have e5 : 0 ≤ (a - b) * (x - y) := Int.mul_nonneg (by omega) (by omega)
      have e6 : b * y ≤ D * (b * y) := by
        have : 1 * (b * y) ≤ D * (b * y) := Int.mul_le_mul_of_nonneg_right hD (Int.mul_nonneg h2 hy)
        omega
      have e7 : (a - b) * (x - y) = a * x - a * y - b * x + b * y := by grind
      omega
    · rw [pw_succ D x y (n + 1)]
      dsimp only
      exact k2.1
theorem pw_mono {D x y : Int} (hD : 1 ≤ D) (hx : 1 ≤ x) (hy : 0 ≤ y) (hyx : y ≤ x) (m : Nat) : ∀ k, (pw D x y m).1 ≤ (pw D x y (m + k)).1
  | 0 => Int.le_refl _
  | k + 1 => Int.le_trans (pw_mono hD hx hy hyx m k) (pw_bounds hD hx hy hyx (m + k)).2.2.2
end Pel

/- Walks: the powers of the least solution. (Own work of this repo.) -/
namespace Go.Proofs.Ytiglncbaomoceaa
open Vm
open Pel hiding allS
set_option maxRecDepth 10000

theorem H_ge {D r : Int} (hr : Rt D r) (n : Nat) : (H D r n).1.2 ≤ (H D r n).1.1 := (H_le hr n).1
theorem LXY_pos {D r : Int} (hr : Rt D r) (L : Nat) : 1 ≤ LX D r L ∧ 0 ≤ LY D r L ∧ LY D r L ≤ LX D r L := by
  have hp := H_pos hr (L - 1)
  have h1 := H_ge hr (L - 1)
  have hD : 1 ≤ D := by
    have := hr.lo
    have := Int.mul_nonneg (show 0 ≤ r by have := hr.pos; omega) (show 0 ≤ r by have := hr.pos; omega)
    omega
  unfold LX LY
  split
  · generalize (H D r (L - 1)).1.1 = x at *
    generalize (H D r (L - 1)).1.2 = y at *
    have e1 : 1 ≤ x * x := Int.mul_le_mul (a := 1) (b := 1) (c := x) (d := x) hp.1 hp.1 (by omega) (by omega)
    have e2 : 0 ≤ y * y := Int.mul_nonneg (by omega) (by omega)
    have e3 : y * y ≤ D * (y * y) := by
      have : 1 * (y * y) ≤ D * (y * y) := Int.mul_le_mul_of_nonneg_right hD e2
      omega
    have e4 : 0 ≤ x * y := Int.mul_nonneg (by omega) (by omega)
    have e5 : 0 ≤ (x - y) * (x - y) := by
      exact Int.mul_nonneg (by omega) (by omega)
    have e6 : (x - y) * (x - y) = x * x - x * y - y * x + y * y := by grind
    have e7 : 0 ≤ y * x := Int.mul_nonneg (by omega) (by omega)
    omega
  · omega
/-- What is needed for a product within bounds. -/
theorem times_in (D x y u v X : Int) (fx fy fu fv : Bool) (hD : 1 ≤ D ∧ D ≤ 1000000) (hx : 1 ≤ x) (hy : 0 ≤ y) (hyx : y ≤ x) (hu : 1 ≤ u) (hv : 0 ≤ v) (hvu : v ≤ u) (hX : x * u + D * (y * v) ≤ X) (lX : (dg X).length ≤ 4096) :
    denP E 50 [pq fx x fy y, pq fu u fv v, .int .i64 D] = some (.ret (pq false (x * u + D * (y * v)) false (x * v + y * u))) := by
  have e0 : 0 ≤ y * v := Int.mul_nonneg hy hv
  have e1 : 0 ≤ D * (y * v) := Int.mul_nonneg (by omega) e0
  have e2 : y * v ≤ D * (y * v) := by
    have : 1 * (y * v) ≤ D * (y * v) := Int.mul_le_mul_of_nonneg_right hD.1 e0
    omega
  have e3 : x * 1 ≤ x * u := Int.mul_le_mul_of_nonneg_left hu (by omega)
  have e4 : 1 * u ≤ x * u := Int.mul_le_mul_of_nonneg_right hx (by omega)
  have e5 : 0 ≤ x * v := Int.mul_nonneg (by omega) hv
  have e6 : 0 ≤ y * u := Int.mul_nonneg hy (by omega)
  have e7 : x * v ≤ x * u := Int.mul_le_mul_of_nonneg_left hvu (by omega)
  have e8 : y * u ≤ x * u := Int.mul_le_mul_of_nonneg_right hyx (by omega)
  have e9 : 0 ≤ (x - y) * (u - v) := Int.mul_nonneg (by omega) (by omega)
  have e10 : (x - y) * (u - v) = x * u - x * v - y * u + y * v := by grind
  have hl : ∀ z, 0 ≤ z → z ≤ X → (dg z).length ≤ 4096 := fun z h1 h2 => Nat.le_trans (dg_mono (by omega)) lX
  exact pairTimes_spec D x y u v fx fy fu fv hD (hl _ (by omega) (by omega)) (hl _ (by omega) (by omega)) (hl _ (by omega) (by omega)) (hl _ (by omega) (by omega)) (hl _ (by omega) (by omega)) (hl _ (by omega) (by omega)) (hl _ (by omega) (by omega)) (hl _ (by omega) (by omega)) (hl _ (by omega) (by omega)) (hl _ (by omega) (by omega)) (hl _ (by omega) (by omega))
set_option maxHeartbeats 2000000 in
theorem nth1_calm (D r : Int) (hr : Rt D r) (hD : D ≤ 1000000) (L : Nat) (hL : Per D r L) (m : Nat) (hm : m < 9223372036854775808) (hfit : (dg (pw D (LX D r L) (LY D r L) m).1).length ≤ 4096) (pd pn : Nat) (h : Heap) (nx : Nat) (hp : pd < nx) (hp2 : pn < nx) (hh : h pd = some ⟨[.int .i64 D], false, 1, false⟩) (hh2 : h pn = some ⟨[.int .i64 (m : Int)], false, 1, false⟩) :
    Calm 48 [.ptr pd 0, .ptr pn 0] (.ret (pq false (pw D (LX D r L) (LY D r L) m).1 false (pw D (LX D r L) (LY D r L) m).2)) h nx := by
  intro HH N hN hH
  have q := (hH pd hp).trans hh
  have q2 := (hH pn hp2).trans hh2
  have c1 := least_spec D r hr hD L hL
  have hpos := LXY_pos hr L
  have hD1 : 1 ≤ D := by
    have := hr.lo
    have := Int.mul_nonneg (show 0 ≤ r by have := hr.pos; omega) (show 0 ≤ r by have := hr.pos; omega)
    omega
  clear hL hr
  generalize LX D r L = bx at *
  generalize LY D r L = byy at *
  have o1 := of_spec 1 (by decide) (by decide)
  have o0 := of_spec 0 (by decide) (by decide)
  have key : ∃ v h' n', denO E 48 [.ptr pd 0, .ptr pn 0] HH N = some (.ret v, h', n') ∧ v = pq false (pw D bx byy m).1 false (pw D bx byy m).2 ∧ N ≤ n' ∧ ∀ i, i < N → h' i = HH i := by
    refine denO_intro E48 rfl ?_
    have y0 : (pd = N) = False := eq_false (by omega)
    have y1 : (pd = N + 1) = False := eq_false (by omega)
    have y2 : (pd = N + 2) = False := eq_false (by omega)
    have y3 : (pn = N) = False := eq_false (by omega)
    have y4 : (pn = N + 1) = False := eq_false (by omega)
    have y5 : (pn = N + 2) = False := eq_false (by omega)
    simp (maxSteps := 4000000) only [go_sem, ↓reduceIte, Nat.reduceAdd, Nat.reduceSub, Nat.reduceMul, Nat.reduceEqDiff, reduceCtorEq, Int.reduceAdd, Int.reduceLT, Int.reduceLE, Int.reduceToNat, Int.reduceNeg, Int.reduceSub, ← List.map_take, ← List.map_drop, ne_eq, Nat.reduceLeDiff, Nat.reduceLT, Nat.zero_le, Nat.le_refl, wrap64, wrapu64, wrapu32, ← Int.natCast_add, ← Int.natCast_mul, cast_succ, wrapu32_nat, shr32, reps_wd, map_set_wd, List.length_set, zs_len, Try.f48, q, q2, places, fillAll]
    obtain ⟨QQ, hQQ⟩ : ∃ QQ : Ex → St → Prop, QQ = fun ex τ => ex = .norm ∧ (∃ g : Nat → AV, τ.sl = [.ptr pd 0, .ptr pn 0, .ptr N 0, .ptr (N + 1) 0, .ptr (N + 2) 0, g 5, g 6, g 7, g 8, g 9, g 10, g 11, g 12, g 13, g 14, g 15, g 16, g 17, g 18, g 19, g 20, g 21, g 22, g 23, g 24, g 25, g 26, g 27, g 28]) ∧ N + 3 ≤ τ.nx ∧ τ.h N = some zrow ∧ τ.h (N + 1) = some (pqrow false 1 false 0) ∧ τ.h (N + 2) = some (pqrow false bx false byy) ∧ ∀ i, i < N → τ.h i = HH i := ⟨_, rfl⟩
    refine W_mono (Q := QQ) ?_ ?_
    · refine W_drawn2 ?_
      simp (maxSteps := 4000000) only [go_sem, ↓reduceIte, Nat.reduceAdd, Nat.reduceSub, Nat.reduceMul, Nat.reduceEqDiff, reduceCtorEq, Int.reduceAdd, Int.reduceLT, Int.reduceLE, Int.reduceToNat, Int.reduceNeg, Int.reduceSub, ← List.map_take, ← List.map_drop, ne_eq, Nat.reduceLeDiff, Nat.reduceLT, Nat.zero_le, Nat.le_refl, wrap64, wrapu64, wrapu32, ← Int.natCast_add, ← Int.natCast_mul, cast_succ, wrapu32_nat, shr32, reps_wd, map_set_wd, List.length_set, zs_len, q, q2, c1, o1, o0, y0, y1, y2, y3, y4, y5, off_ne, ne_off, places, fillAll]
      refine ⟨by exact allW_of [] [0, 1, 3, 0, 11, 0, 0, 127, 255] (by kernel_rfl) (by ((simp only [List.flatMap_cons, List.flatMap_nil, cr, List.append_nil, List.nil_append, List.cons_append]); rfl)) (by ((simp (disch := omega) [sts, stB, allS, stOk, cr, Dep.ok, loadEff, upd_apply, if_neg, T1, T2, T3, T4, T5, T6, T9, T10, T11, T12, T15, T16, T17, T20, T21, T22, T23, T25, T26, T27, T28, T30, T31, T32, T33, T34, T36, T37, T38, T39, T40, T41, T43, T44, T46, T47, T48, T49, T50, T51, T52, T53, T54, T55, T56, T57, T58, T59, T60, T61, T62, T63, T64, T65, T67, T68, T69, T70, T71, T72, T73, T74, T75, T76, T77, T78, T80, T81, T83, T84, T86, T87, T88, T89, T90, T91, T93, T94, T95, T96, T98, T99, T100, T101, T103, T105, T106, T107, T108, T109, T110, T111, T112, T113, T114, T117, T120, T121, T122, T123, T124, T125, T126, q, q2, y0, y1, y2, y3, y4, y5, off_ne, ne_off]) <;> (repeat (any_goals apply And.intro)) <;> (first | omega | rfl | (intro hx; first | omega | rfl)))) (by ((repeat ((with_unfolding_all refine And.intro ?_ ?_); (focus ((with_unfolding_all refine ⟨?_, ?_, ?_⟩) <;> ((intro i hi hj); (simp only [cr, Rec.ids, List.map_cons, List.map_nil, List.mem_cons, List.not_mem_nil, or_false, false_or] at hi hj); (first | done | omega)))))); (with_unfolding_all exact True.intro))), ?_⟩
      rw [hQQ]
      refine ⟨rfl, garb rfl, by dsimp only; omega, ?_, ?_, ?_, ?_⟩
      · simp only [upd_apply, ↓reduceIte, Nat.reduceEqDiff, Nat.add_assoc, off_ne, ne_off]
      · simp only [upd_apply, ↓reduceIte, Nat.reduceEqDiff, Nat.add_assoc, off_ne, ne_off, Nat.add_right_inj]
      · simp only [upd_apply, ↓reduceIte, Nat.reduceEqDiff, Nat.add_assoc, off_ne, ne_off]
      · intro i hi
        (repeat (refine (upd_ne (by omega)).trans ?_))
        rfl
    · rw [hQQ]
      clear hQQ QQ c1 o1 o0
      rintro ex ⟨sl, H', nn⟩ ⟨rfl, ⟨g', rfl⟩, hn, k1, k2, k3, k4⟩
      dsimp only at hn k1 k2 k3 k4
      have k5 := (k4 pd (by omega)).trans q
      have k6 := (k4 pn (by omega)).trans q2
      clear q q2
      generalize hro : N + 1 = ro at *
      generalize hrb : N + 2 = rb at *
      simp (maxSteps := 4000000) only [go_sem, ↓reduceIte, Nat.reduceAdd, Nat.reduceSub, Nat.reduceMul, Nat.reduceEqDiff, reduceCtorEq, Int.reduceAdd, Int.reduceLT, Int.reduceLE, Int.reduceToNat, Int.reduceNeg, Int.reduceSub, ← List.map_take, ← List.map_drop, ne_eq, Nat.reduceLeDiff, Nat.reduceLT, Nat.zero_le, Nat.le_refl, wrap64, wrapu64, wrapu32, ← Int.natCast_add, ← Int.natCast_mul, cast_succ, wrapu32_nat, shr32, reps_wd, map_set_wd, List.length_set, zs_len, k1]
      refine W_loopS (fun k sl h nx => (∃ g : Nat → AV, sl = [.ptr pd 0, .ptr pn 0, .ptr N 0, .ptr ro 0, .ptr rb 0, .int .i64 ((k : Int) - 1), g 6, g 7, g 8, g 9, g 10, g 11, g 12, g 13, g 14, g 15, g 16, g 17, g 18, g 19, g 20, g 21, g 22, g 23, g 24, g 25, g 26, g 27, g 28]) ∧ k ≤ 63 ∧ N + 3 ≤ nx ∧
        h N = some zrow ∧ h ro = some (pqrow false (pw D bx byy (m / 2 ^ k)).1 false (pw D bx byy (m / 2 ^ k)).2) ∧ h rb = some (pqrow false bx false byy) ∧ h pd = some ⟨[.int .i64 D], false, 1, false⟩ ∧ h pn = some ⟨[.int .i64 (m : Int)], false, 1, false⟩ ∧ ∀ i, i < N → h i = HH i) 63 ⟨garb rfl, by omega, hn, k1, ?_, k3, k5, k6, k4⟩ ?_
      · rw [Nat.div_eq_of_lt (show m < 2 ^ 63 from hm), pw_zero]
        exact k2
      clear k1 k2 k3 k4 k5 k6 hn
      rintro k _ h nx ⟨⟨g, rfl⟩, hk, hn, k1, k2, k3, k5, k6, k4⟩
      have u1 : (N = ro) = False := eq_false (by omega)
      have u2 : (ro = N) = False := eq_false (by omega)
      have u3 : (rb = ro) = False := eq_false (by omega)
      have u4 : (ro = rb) = False := eq_false (by omega)
      have u5 : (pd = ro) = False := eq_false (by omega)
      have u6 : (pn = ro) = False := eq_false (by omega)
      have u7 : (pd = N) = False := eq_false (by omega)
      by_cases hk0 : k = 0
      · subst hk0
        rw [Nat.pow_zero, Nat.div_one] at k2
        generalize (pw D bx byy m).1 = X at *
        generalize (pw D bx byy m).2 = Y at *
        simp (maxSteps := 4000000) only [go_sem, ↓reduceIte, Nat.reduceAdd, Nat.reduceSub, Nat.reduceMul, Nat.reduceEqDiff, reduceCtorEq, Int.reduceAdd, Int.reduceLT, Int.reduceLE, Int.reduceToNat, Int.reduceNeg, Int.reduceSub, ← List.map_take, ← List.map_drop, ne_eq, Nat.reduceLeDiff, Nat.reduceLT, Nat.zero_le, Nat.le_refl, wrap64, wrapu64, wrapu32, ← Int.natCast_add, ← Int.natCast_mul, cast_succ, wrapu32_nat, shr32, reps_wd, map_set_wd, List.length_set, zs_len, k1, k2, u1, u2]
        refine ⟨by omega, fun i hi => ?_⟩
        rw [if_neg (by omega)]
        exact k4 i hi
      · obtain ⟨j, rfl⟩ : ∃ j, k = j + 1 := ⟨k - 1, by omega⟩
        have hst := half_step m j
        have hb := bit63 hm (show j < 63 by omega)
        have e1 : ((j + 1 : Nat) : Int) - 1 = (j : Int) := by omega
        have hle : m / 2 ^ j ≤ m := Nat.div_le_self _ _
        have hbd := pw_bounds hD1 hpos.1 hpos.2.1 hpos.2.2
        have hmn := pw_mono hD1 hpos.1 hpos.2.1 hpos.2.2
        have hj0 : ((0 : Int) ≤ (j : Int)) = True := eq_true (by omega)
        have wj : IntKind.i64.wrap ((j : Int) - 1) = (j : Int) - 1 := wrap64 (by omega) (by omega)
        have hjn : ((j : Int) < 0) = False := eq_false (by omega)
        generalize hq : m / 2 ^ (j + 1) = a at *
        have hdb := pw_add D bx byy a a
        have t1 := times_in D (pw D bx byy a).1 (pw D bx byy a).2 (pw D bx byy a).1 (pw D bx byy a).2 (pw D bx byy m).1 false false false false ⟨hD1, hD⟩ (hbd a).1 (hbd a).2.1 (hbd a).2.2.1 (hbd a).1 (hbd a).2.1 (hbd a).2.2.1 (by
          have := hmn (a + a) (m - (a + a))
          rw [show a + a + (m - (a + a)) = m by omega, hdb] at this
          exact this) hfit
        have hd1 := congrArg Prod.fst hdb
        have hd2 := congrArg Prod.snd hdb
        dsimp only at hd1 hd2
        rw [← hd1, ← hd2] at t1
        clear hd1 hd2
        rcases Nat.mod_two_eq_zero_or_one (m / 2 ^ j) with hbit | hbit
        · rw [hbit] at hb hst
          have hnx : m / 2 ^ j = a + a := by omega
          generalize hX : (pw D bx byy (a + a)).1 = X at *
          generalize hY : (pw D bx byy (a + a)).2 = Y at *
          generalize (pw D bx byy a).1 = x at *
          generalize (pw D bx byy a).2 = y at *
          clear hbd hmn hdb hfit
          simp (maxSteps := 4000000) only [go_sem, ↓reduceIte, Nat.reduceAdd, Nat.reduceSub, Nat.reduceMul, Nat.reduceEqDiff, reduceCtorEq, Int.reduceAdd, Int.reduceLT, Int.reduceLE, Int.reduceToNat, Int.reduceNeg, Int.reduceSub, ← List.map_take, ← List.map_drop, ne_eq, Nat.reduceLeDiff, Nat.reduceLT, Nat.zero_le, Nat.le_refl, wrap64, wrapu64, wrapu32, ← Int.natCast_add, ← Int.natCast_mul, cast_succ, wrapu32_nat, shr32, reps_wd, map_set_wd, List.length_set, zs_len, e1, wj, hj0, hjn, k1, k2, k3, k5, k6, t1, hb, u1, u2, u3, u4, u5, u6, u7, Int.reduceEq, places, fillAll]
          refine ⟨j, by omega, garb rfl, by omega, hn, ?_, fun i hi => ?_⟩
          · rw [hnx, hX, hY]
          · (repeat rw [if_neg (by omega)])
            exact k4 i hi
        · rw [hbit] at hb hst
          have hnx : m / 2 ^ j = a + a + 1 := by omega
          have hsc := pw_succ D bx byy (a + a)
          have t2 := times_in D (pw D bx byy (a + a)).1 (pw D bx byy (a + a)).2 bx byy (pw D bx byy m).1 false false false false ⟨hD1, hD⟩ (hbd _).1 (hbd _).2.1 (hbd _).2.2.1 hpos.1 hpos.2.1 hpos.2.2 (by
            have := hmn (a + a + 1) (m - (a + a + 1))
            rw [show a + a + 1 + (m - (a + a + 1)) = m by omega, hsc] at this
            exact this) hfit
          have hd1 := congrArg Prod.fst hsc
          have hd2 := congrArg Prod.snd hsc
          dsimp only at hd1 hd2
          rw [← hd1, ← hd2] at t2
          clear hd1 hd2
          generalize hX2 : (pw D bx byy (a + a + 1)).1 = X2 at *
          generalize hY2 : (pw D bx byy (a + a + 1)).2 = Y2 at *
          generalize hX : (pw D bx byy (a + a)).1 = X at *
          generalize hY : (pw D bx byy (a + a)).2 = Y at *
          generalize (pw D bx byy a).1 = x at *
          generalize (pw D bx byy a).2 = y at *
          clear hbd hmn hdb hfit hsc
          simp (maxSteps := 4000000) only [go_sem, ↓reduceIte, Nat.reduceAdd, Nat.reduceSub, Nat.reduceMul, Nat.reduceEqDiff, reduceCtorEq, Int.reduceAdd, Int.reduceLT, Int.reduceLE, Int.reduceToNat, Int.reduceNeg, Int.reduceSub, ← List.map_take, ← List.map_drop, ne_eq, Nat.reduceLeDiff, Nat.reduceLT, Nat.zero_le, Nat.le_refl, wrap64, wrapu64, wrapu32, ← Int.natCast_add, ← Int.natCast_mul, cast_succ, wrapu32_nat, shr32, reps_wd, map_set_wd, List.length_set, zs_len, e1, wj, hj0, hjn, k1, k2, k3, k5, k6, t1, t2, hb, u1, u2, u3, u4, u5, u6, u7, Int.reduceEq, places, fillAll]
          refine ⟨j, by omega, garb rfl, by omega, hn, ?_, fun i hi => ?_⟩
          · rw [hnx, hX2, hY2]
          · (repeat rw [if_neg (by omega)])
            exact k4 i hi
  obtain ⟨v, h', n', h1, rfl, h2⟩ := key
  exact ⟨h', n', h1, h2⟩
theorem Nth_yes (D r : Int) (hr : Rt D r) (hD : D ≤ 1000000) (L : Nat) (hL : Per D r L) (m : Nat) (hm : m < 9223372036854775808) (hfit : (dg (pw D (LX D r L) (LY D r L) m).1).length ≤ 4096) :
    denP E 21 [.int .i64 D, .int .i64 (m : Int)] = some (.ret (RP3 (I false (pw D (LX D r L) (LY D r L) m).1) (I false (pw D (LX D r L) (LY D r L) m).2) 0)) := by
  refine denP_eq E21 rfl (by simp [AV.pureL, AV.pure, pure_wd]) ?_
  have hf := fits_yes D r hr hD
  have z1 : ((m : Int) < 0) = False := eq_false (by omega)
  have hc := fun (p q : Nat) (H : Heap) (nx : Nat) h1 h2 h3 h4 => nth1_calm D r hr hD L hL m hm hfit p q H nx h1 h2 h3 h4
  generalize (pw D (LX D r L) (LY D r L) m).1 = x at *
  generalize (pw D (LX D r L) (LY D r L) m).2 = y at *
  simp (maxSteps := 4000000) only [go_sem, ↓reduceIte, Nat.reduceAdd, Nat.reduceSub, Nat.reduceMul, Nat.reduceEqDiff, reduceCtorEq, Int.reduceAdd, Int.reduceLT, Int.reduceLE, Int.reduceToNat, Int.reduceNeg, Int.reduceSub, ← List.map_take, ← List.map_drop, ne_eq, Nat.reduceLeDiff, Nat.reduceLT, Nat.zero_le, Nat.le_refl, wrap64, wrapu64, wrapu32, ← Int.natCast_add, ← Int.natCast_mul, cast_succ, wrapu32_nat, shr32, reps_wd, map_set_wd, List.length_set, zs_len, Try.f21, hf, z1, places, fillAll]
  refine openK_get (tried_ret 48 [] [.ptr 0 0, .ptr 1 0] rfl false false x y _ 4 (hc 0 1 _ 4 (by decide) (by decide) ?_ ?_)) ?_
  · simp only [upd_apply, ↓reduceIte, Nat.reduceEqDiff, if_pos]
  · simp only [upd_apply, ↓reduceIte, Nat.reduceEqDiff, if_pos]
  intro H' N' k1 k2
  have q0 := k2 0 (by decide)
  have q1 := k2 1 (by decide)
  have q2 := k2 2 (by decide)
  have q3 := k2 3 (by decide)
  simp only [upd_apply, ↓reduceIte, Nat.reduceEqDiff, if_pos] at q0 q1 q2 q3
  clear k2 hc
  simp (maxSteps := 4000000) only [go_sem, ↓reduceIte, Nat.reduceAdd, Nat.reduceSub, Nat.reduceMul, Nat.reduceEqDiff, reduceCtorEq, Int.reduceAdd, Int.reduceLT, Int.reduceLE, Int.reduceToNat, Int.reduceNeg, Int.reduceSub, ← List.map_take, ← List.map_drop, ne_eq, Nat.reduceLeDiff, Nat.reduceLT, Nat.zero_le, Nat.le_refl, wrap64, wrapu64, wrapu32, ← Int.natCast_add, ← Int.natCast_mul, cast_succ, wrapu32_nat, shr32, reps_wd, map_set_wd, List.length_set, zs_len, q0, q1, q2, q3]
theorem Nth_no (D n : Int) (h : denP E 36 [.int .i64 D] = some (.ret (.bool false))) : denP E 21 [.int .i64 D, .int .i64 n] = some (.ret (RP3 (I true 0) (I true 0) 2)) := by
  refine denP_eq E21 rfl (by simp [AV.pureL, AV.pure, pure_wd]) ?_
  have q0 := ng_zero
  have q1 := dg_zero
  simp (maxSteps := 4000000) only [go_sem, ↓reduceIte, Nat.reduceAdd, Nat.reduceSub, Nat.reduceMul, Nat.reduceEqDiff, reduceCtorEq, Int.reduceAdd, Int.reduceLT, Int.reduceLE, Int.reduceToNat, Int.reduceNeg, Int.reduceSub, ← List.map_take, ← List.map_drop, ne_eq, Nat.reduceLeDiff, Nat.reduceLT, Nat.zero_le, Nat.le_refl, wrap64, wrapu64, wrapu32, ← Int.natCast_add, ← Int.natCast_mul, cast_succ, wrapu32_nat, shr32, reps_wd, map_set_wd, List.length_set, zs_len, Try.f21, h, places, fillAll, ng_zero, dg_zero, List.map_nil]
theorem Nth_neg (D n : Int) (h : denP E 36 [.int .i64 D] = some (.ret (.bool true))) (hn : n < 0) : denP E 21 [.int .i64 D, .int .i64 n] = some (.ret (RP3 (I true 0) (I true 0) 2)) := by
  refine denP_eq E21 rfl (by simp [AV.pureL, AV.pure, pure_wd]) ?_
  have z1 : (n < 0) = True := eq_true hn
  simp (maxSteps := 4000000) only [go_sem, ↓reduceIte, Nat.reduceAdd, Nat.reduceSub, Nat.reduceMul, Nat.reduceEqDiff, reduceCtorEq, Int.reduceAdd, Int.reduceLT, Int.reduceLE, Int.reduceToNat, Int.reduceNeg, Int.reduceSub, ← List.map_take, ← List.map_drop, ne_eq, Nat.reduceLeDiff, Nat.reduceLT, Nat.zero_le, Nat.le_refl, wrap64, wrapu64, wrapu32, ← Int.natCast_add, ← Int.natCast_mul, cast_succ, wrapu32_nat, shr32, reps_wd, map_set_wd, List.length_set, zs_len, Try.f21, h, z1, places, fillAll, ng_zero, dg_zero, List.map_nil]
end Go.Proofs.Ytiglncbaomoceaa

/- The machine over pure values: a statement that leaves its order open and panics. (Own work of this repo.) -/
namespace Vm
open Go
/-- What an operation does: it is carried out; it panics; it is never reached. -/
inductive PK where
  | n | p | d
def scriptOk (all : List Oper) : Nat → List PK → List Nat → Bool
  | _, [], qs => !qs.isEmpty
  | i, .d :: ks, qs => qs.any (befBit all i) && scriptOk all (i + 1) ks qs
  | i, .n :: ks, qs => !qs.any (befBit all i) && scriptOk all (i + 1) ks qs
  | i, .p :: ks, qs => !qs.any (befBit all i) && scriptOk all (i + 1) ks (i :: qs)
def okRP (all : List Oper) (n0 : Nat) (rs : List Rec) : Bool := match rs.all Rec.quiet with | true => true | false => dynOk all 0 rs && rs.all (fun r => r.ids.all fun i => n0 ≤ i)
theorem summ_okP {all : List Oper} {n0 : Nat} (rs : List Rec) : okRP all n0 (rs.map summ) = okRP all n0 rs := by
  unfold okRP
  have h1 : (rs.map summ).all Rec.quiet = rs.all Rec.quiet := by
    rw [List.all_map]; congr 1; funext r; exact summ_quiet r
  have h2 : (rs.map summ).all (fun r => r.ids.all fun i => n0 ≤ i) = rs.all (fun r => r.ids.all fun i => n0 ≤ i) := by
    rw [List.all_map]; congr 1; funext r; simp only [Function.comp, summ_ids]
  rw [h1, h2, summ_dyn]
section
variable {E : Env}
def rpaK (E : Env) (V : AV) (next : List Rec → St → Prop) (acc : List Rec) (σ : St) (g : FuncId) : Option (List AV × List Nat) → Prop
  | some (l, ids) => ids = [] ∧ denP E g l = some (.panic V) ∧ next (acc ++ [mk [] []]) σ
  | none => False
def rptK (E : Env) (V : AV) (next : List Rec → St → Prop) (acc : List Rec) (σ : St) : Option (FuncId × List AV) → Prop
  | some (g, l) => rpaK E V next acc σ g (mapL (purify deep σ.h) l)
  | none => False
def rpwK (E : Env) (V : AV) (o : Oper) (next : List Rec → St → Prop) (acc : List Rec) (σ : St) : Option Bool → Prop
  | some true => rptK E V next acc σ (target σ.sl o.op)
  | _ => False
def Rp (E : Env) (all : List Oper) (V : AV) (σ0 : St) (Q : Ex → St → Prop) : List Oper → List PK → List Rec → St → Prop
  | [], [] => fun acc σ => okRP all σ0.nx acc = true ∧ Q (.panic V) ⟨σ0.sl, σ0.h, σ.nx⟩
  | o :: os, .n :: ks => fun acc σ => rwK E o (Rp E all V σ0 Q os ks) acc σ (want all σ.sl o)
  | _ :: os, .d :: ks => fun acc σ => Rp E all V σ0 Q os ks (acc ++ [mk [] []]) σ
  | o :: os, .p :: ks => fun acc σ => rpwK E V o (Rp E all V σ0 Q os ks) acc σ (want all σ.sl o)
  | _, _ => fun _ _ => False
theorem ce_pan {N : Nat} {H : Heap} {g : FuncId} {l l' : List AV} {v : AV} (hl : mapL (purify deep H) l = some (l', [])) (hd : denP E g l' = some (.panic v)) : CE E N H g l = some ⟨.panic v, [], [], false⟩ := by
  have h1 := mapL_lends (n := 4) hl
  have hd' : (cl E (den E)).p g l' = some (.panic v) := hd
  unfold CE callEff
  rw [h1, Bool.and_false, if_neg (by simp)]
  simp only [pcallEff, hl, hd']
  rfl
def pst (qs : List Nat) (V : AV) : Option (List Nat × AV) := match qs with | [] => none | q :: qs => some (q :: qs, V)
theorem pst_dead (qs : List Nat) (V : AV) (all : List Oper) (i : Nat) : (match pst qs V with | some (qs, _) => qs.any (befBit all i) | none => false) = qs.any (befBit all i) := by
  cases qs <;> rfl
theorem Rp_sound {N : Nat} {all : List Oper} {V : AV} {σ0 : St} {Q : Ex → St → Prop} (hV : sameP V V = true) : ∀ (os : List Oper) (ks : List PK) (i : Nat) (qs : List Nat) (acc : List Rec) (σ : St), scriptOk all i ks qs = true → Rp E all V σ0 Q os ks acc σ →
    ∃ rs qs' σ', recs E (CE E N) all os i (pst qs V) σ = some (rs, some (qs', V), σ') ∧ okRP all σ0.nx (acc ++ rs.map summ) = true ∧ Q (.panic V) ⟨σ0.sl, σ0.h, σ'.nx⟩
  | [], [], i, qs, acc, σ, hs, h => by
    simp only [Rp] at h
    cases qs with
    | nil => simp [scriptOk] at hs
    | cons q qs => exact ⟨[], q :: qs, σ, rfl, by simpa using h.1, h.2⟩
  | o :: os, .n :: ks, i, qs, acc, σ, hs, h => by
    simp only [scriptOk, Bool.and_eq_true, Bool.not_eq_true'] at hs
    have step : ∀ (r : Rec) (σ1 : St), Rp E all V σ0 Q os ks (acc ++ [summ r]) σ1 → ∃ rs qs' σ', recs E (CE E N) all os (i + 1) (pst qs V) σ1 = some (rs, some (qs', V), σ') ∧ okRP all σ0.nx (acc ++ (r :: rs).map summ) = true ∧ Q (.panic V) ⟨σ0.sl, σ0.h, σ'.nx⟩ := by
      intro r σ1 h
      obtain ⟨rs, qs', σ', h1, h2, h3⟩ := Rp_sound (N := N) hV os ks (i + 1) qs _ σ1 hs.2 h
      exact ⟨rs, qs', σ', h1, by simpa using h2, h3⟩
    simp only [Rp] at h
    unfold rwK at h
    split at h
    · rename_i hw
      unfold rtK at h
      split at h
      · rename_i g l ht
        unfold raK at h
        split at h
        · rename_i l' ids hl
          unfold rcK at h
          split at h
          · rename_i v hd
            obtain ⟨rs, qs', σ', h1, h2, h3⟩ := step ⟨.ok, o.dst, v, ids, freezes σ.h ids, none, depOf σ.sl σ.h o.op ⟨.val v, ids, freezes σ.h ids, false⟩⟩ _ h
            refine ⟨_, qs', σ', ?_, h2, h3⟩
            have he : anyEff E (CE E N) σ.h σ.nx σ.sl o.op = some ⟨.val v, ids, freezes σ.h ids, false⟩ := by
              unfold anyEff
              rw [ht]
              exact ce_pure hl hd
            have h1' : recs E (CE E N) all os (i + 1) (pst qs V) ((σ.eff ⟨.val v, ids, freezes σ.h ids, false⟩).put o.dst v) = some (rs, some (qs', V), σ') := h1
            cases qs with
            | nil => simp only [pst] at h1' ⊢; simp only [recs, hw, he, h1', Bool.false_eq_true, if_false]
            | cons q qs => have hd := hs.1; simp only [pst] at h1' ⊢; simp only [recs, hd, hw, he, h1', Bool.false_eq_true, if_false]
          · exact h.elim
        · exact h.elim
      · rename_i ht
        have he : anyEff E (CE E N) σ.h σ.nx σ.sl o.op = opEff E σ.h σ.nx σ.sl o.op := by unfold anyEff; rw [ht]
        unfold reK at h
        split at h
        · rename_i v rds ups new ho
          obtain ⟨rs, qs', σ', h1, h2, h3⟩ := step ⟨.ok, o.dst, v, rds, ups, if new then some σ.nx else none, depOf σ.sl σ.h o.op ⟨.val v, rds, ups, new⟩⟩ _ h
          refine ⟨_, qs', σ', ?_, h2, h3⟩
          have h1' : recs E (CE E N) all os (i + 1) (pst qs V) ((σ.eff ⟨.val v, rds, ups, new⟩).put o.dst v) = some (rs, some (qs', V), σ') := h1
          rw [ho] at he
          cases qs with
          | nil => simp only [pst] at h1' ⊢; simp only [recs, hw, he, h1']
          | cons q qs => have hd := hs.1; simp only [pst] at h1' ⊢; simp only [recs, hd, hw, he, h1']
        · rename_i rds ups new ho
          obtain ⟨rs, qs', σ', h1, h2, h3⟩ := step ⟨.ok, o.dst, undef, rds, ups, if new then some σ.nx else none, depOf σ.sl σ.h o.op ⟨.skip, rds, ups, new⟩⟩ _ h
          refine ⟨_, qs', σ', ?_, h2, h3⟩
          have h1' : recs E (CE E N) all os (i + 1) (pst qs V) ((σ.eff ⟨.skip, rds, ups, new⟩).put o.dst undef) = some (rs, some (qs', V), σ') := h1
          rw [ho] at he
          cases qs with
          | nil => simp only [pst] at h1' ⊢; simp only [recs, hw, he, h1']
          | cons q qs => have hd := hs.1; simp only [pst] at h1' ⊢; simp only [recs, hd, hw, he, h1']
        · exact h.elim
    · rename_i hw
      obtain ⟨rs, qs', σ', h1, h2, h3⟩ := step ⟨.ok, o.dst, undef, [], [], none, .all⟩ _ h
      refine ⟨_, qs', σ', ?_, h2, h3⟩
      have h1' : recs E (CE E N) all os (i + 1) (pst qs V) (σ.put o.dst undef) = some (rs, some (qs', V), σ') := h1
      cases qs with
      | nil => simp only [pst] at h1' ⊢; simp only [recs, hw, h1']
      | cons q qs => have hd := hs.1; simp only [pst] at h1' ⊢; simp only [recs, hd, hw, h1']
    · exact h.elim
  | o :: os, .d :: ks, i, qs, acc, σ, hs, h => by
    simp only [scriptOk, Bool.and_eq_true] at hs
    simp only [Rp] at h
    obtain ⟨rs, qs', σ', h1, h2, h3⟩ := Rp_sound (N := N) hV os ks (i + 1) qs _ σ hs.2 h
    refine ⟨⟨.dead, none, undef, [], [], none, .all⟩ :: rs, qs', σ', ?_, ?_, h3⟩
    · cases qs with
      | nil => simp at hs
      | cons q qs => have hd := hs.1; simp only [pst] at h1 ⊢; simp only [recs, hd, h1]
    · rw [← h2, List.map_cons, List.append_assoc]; rfl
  | o :: os, .p :: ks, i, qs, acc, σ, hs, h => by
    simp only [scriptOk, Bool.and_eq_true, Bool.not_eq_true'] at hs
    simp only [Rp] at h
    unfold rpwK at h
    split at h
    · rename_i hw
      unfold rptK at h
      split at h
      · rename_i g l ht
        unfold rpaK at h
        split at h
        · rename_i l' ids hl
          obtain ⟨rfl, hd, h⟩ := h
          obtain ⟨rs, qs', σ', h1, h2, h3⟩ := Rp_sound (N := N) hV os ks (i + 1) (i :: qs) _ σ hs.2 h
          have he : anyEff E (CE E N) σ.h σ.nx σ.sl o.op = some ⟨.panic V, [], [], false⟩ := by
            unfold anyEff
            rw [ht]
            exact ce_pan hl hd
          refine ⟨⟨.pan, none, V, [], [], none, .all⟩ :: rs, qs', σ', ?_, ?_, h3⟩
          · have h1' : recs E (CE E N) all os (i + 1) (some (i :: qs, V)) σ = some (rs, some (qs', V), σ') := h1
            cases qs with
            | nil => simp only [pst]; simp only [recs, hw, he, h1', List.isEmpty_nil, Bool.not_false, Bool.and_self, if_true]
            | cons q qs => have hd := hs.1; simp only [pst]; simp only [recs, hd, hw, he, h1', hV, List.isEmpty_nil, Bool.not_false, Bool.and_self, if_true]
          · rw [← h2, List.map_cons, List.append_assoc]; rfl
        · exact h.elim
      · exact h.elim
    · exact h.elim
  | [], .n :: ks, i, qs, acc, σ, hs, h => by simp only [Rp] at h
  | [], .d :: ks, i, qs, acc, σ, hs, h => by simp only [Rp] at h
  | [], .p :: ks, i, qs, acc, σ, hs, h => by simp only [Rp] at h
  | o :: os, [], i, qs, acc, σ, hs, h => by simp only [Rp] at h
variable {Q : Ex → St → Prop} {σ : St}
theorem W_drawnP {i : Nat} {ops : Array Oper} {V : AV} (ks : List PK) (hV : sameP V V = true) (hs : scriptOk ops.toList 0 ks [] = true) (h : Rp E ops.toList V σ Q ops.toList ks [] σ) : W E (.region i ops true) σ Q := by
  obtain ⟨rs, qs', σ', h1, h2, h3⟩ := Rp_sound (N := σ.nx + ops.toList.length) hV ops.toList ks 0 [] [] σ hs h
  rw [List.nil_append, summ_okP] at h2
  have : runDraw E (cl E (den E)) ops.toList σ = some (.panic V, ⟨σ.sl, σ.h, σ'.nx⟩) := by
    unfold runDraw
    have h1' : recs E (callEff E (cl E (den E)) (σ.nx + ops.toList.length)) ops.toList ops.toList 0 none σ = some (rs, some (qs', V), σ') := h1
    rw [h1']
    unfold okRP at h2
    dsimp only
    split
    · rfl
    · rename_i hf; cases hq : rs.all Rec.quiet <;> simp only [hq] at h2 hf <;> first | (cases hf; done) | (rw [h2] at hf; cases hf)
  rw [W_draw this]
  exact h3
variable {all os : List Oper} {V : AV} {σ0 : St} {ks : List PK} {acc : List Rec} {o : Oper} {g : FuncId} {l : List AV} {ids : List Nat} {next : List Rec → St → Prop}
theorem Rp_nil : Rp E all V σ0 Q [] [] acc σ = (okRP all σ0.nx acc = true ∧ Q (.panic V) ⟨σ0.sl, σ0.h, σ.nx⟩) := propext (by simp only [Rp])
theorem Rp_n : Rp E all V σ0 Q (o :: os) (.n :: ks) acc σ = rwK E o (Rp E all V σ0 Q os ks) acc σ (want all σ.sl o) := propext (by simp only [Rp])
theorem Rp_d : Rp E all V σ0 Q (o :: os) (.d :: ks) acc σ = Rp E all V σ0 Q os ks (acc ++ [mk [] []]) σ := propext (by simp only [Rp])
theorem Rp_p : Rp E all V σ0 Q (o :: os) (.p :: ks) acc σ = rpwK E V o (Rp E all V σ0 Q os ks) acc σ (want all σ.sl o) := propext (by simp only [Rp])
theorem rpwK_t : rpwK E V o next acc σ (some true) = rptK E V next acc σ (target σ.sl o.op) := propext ⟨fun h => h, fun h => h⟩
theorem rptK_some : rptK E V next acc σ (some (g, l)) = rpaK E V next acc σ g (mapL (purify deep σ.h) l) := propext ⟨fun h => h, fun h => h⟩
theorem rpaK_some : rpaK E V next acc σ g (some (l, ids)) = (ids = [] ∧ denP E g l = some (.panic V) ∧ next (acc ++ [mk [] []]) σ) := propext ⟨fun h => h, fun h => h⟩
end
attribute [go_sem] Rp_nil Rp_n Rp_d Rp_p rpwK_t rptK_some rpaK_some
end Vm

/- Walks: products of pairs that do not fit. (Own work of this repo.) -/
namespace Go.Proofs.Ytiglncbaomoceaa
open Vm
open Pel hiding allS
set_option maxRecDepth 10000
theorem thr_same (e : Int) : sameP (Thr e) (Thr e) = true := by simp [sameP, Thr]
set_option maxHeartbeats 1000000 in
theorem pairTimes_pan (D x y u v : Int) (fx fy fu fv : Bool) (hD : 1 ≤ D ∧ D ≤ 1000000) (hx : 1 ≤ x) (hy : 0 ≤ y) (hyx : y ≤ x) (hu : 1 ≤ u) (hv : 0 ≤ v) (hvu : v ≤ u) (lx : (dg x).length ≤ 4096) (lu : (dg u).length ≤ 4096) (hX : ¬ (dg (x * u + D * (y * v))).length ≤ 4096) :
    denP E 50 [pq fx x fy y, pq fu u fv v, .int .i64 D] = some (.panic (Thr 4)) := by
  have ly : (dg y).length ≤ 4096 := Nat.le_trans (dg_mono (by omega)) lx
  have lv : (dg v).length ≤ 4096 := Nat.le_trans (dg_mono (by omega)) lu
  refine denP_pan E50 rfl (by simp [AV.pureL, AV.pure, pure_wd]) ?_
  have o1 := of_spec D (by omega) (by omega)
  have lD := dg_small (z := D) (by omega)
  have hV := thr_same 4
  by_cases l1 : (dg (x * u)).length ≤ 4096
  · have e0 : 0 ≤ y * v := Int.mul_nonneg hy hv
    have e7 : y * v ≤ x * u := Int.mul_le_mul hyx hvu hv (by omega)
    have l2 : (dg (y * v)).length ≤ 4096 := Nat.le_trans (dg_mono (by omega)) l1
    have M1 := exMul_ret fx fu x u lx lu l1
    have M2 := exMul_ret fy fv y v ly lv l2
    by_cases l3 : (dg (D * (y * v))).length ≤ 4096
    · have M3 := exMul_ret false (mz y v) D (y * v) (by omega) l2 l3
      have S1 := exAdd_pan (mz x u) (mz D (y * v)) (x * u) (D * (y * v)) l1 l3 hX
      clear e0 e7 l1 l2 l3 hX lx ly lu lv lD hx hy hyx hu hv hvu
      generalize mz x u = f1 at *
      generalize mz D (y * v) = f2 at *
      generalize mz y v = f3 at *
      generalize D * (y * v) = a3 at *
      generalize y * v = a4 at *
      generalize x * u = a5 at *
      simp (maxSteps := 4000000) only [go_sem, ↓reduceIte, Nat.reduceAdd, Nat.reduceSub, Nat.reduceMul, Nat.reduceEqDiff, reduceCtorEq, Int.reduceAdd, Int.reduceLT, Int.reduceLE, Int.reduceToNat, Int.reduceNeg, Int.reduceSub, ← List.map_take, ← List.map_drop, ne_eq, Nat.reduceLeDiff, Nat.reduceLT, Nat.zero_le, Nat.le_refl, wrap64, wrapu64, wrapu32, ← Int.natCast_add, ← Int.natCast_mul, cast_succ, wrapu32_nat, shr32, reps_wd, map_set_wd, List.length_set, zs_len, Try.f50, places, fillAll]
      refine W_drawnP [.n, .n, .n, .n, .n, .n, .n, .n, .n, .n, .n, .n, .n, .p, .n, .n, .n, .n, .d, .n, .n, .n, .n, .d, .d, .d, .d] hV (by decide +kernel) ?_
      simp (maxSteps := 4000000) only [go_sem, ↓reduceIte, Nat.reduceAdd, Nat.reduceSub, Nat.reduceMul, Nat.reduceEqDiff, reduceCtorEq, Int.reduceAdd, Int.reduceLT, Int.reduceLE, Int.reduceToNat, Int.reduceNeg, Int.reduceSub, ← List.map_take, ← List.map_drop, ne_eq, Nat.reduceLeDiff, Nat.reduceLT, Nat.zero_le, Nat.le_refl, wrap64, wrapu64, wrapu32, ← Int.natCast_add, ← Int.natCast_mul, cast_succ, wrapu32_nat, shr32, reps_wd, map_set_wd, List.length_set, zs_len, o1, M1, M2, M3, S1, places, fillAll]
      rfl
    · have M3 := exMul_pan false (mz y v) D (y * v) (by omega) l2 l3
      clear e0 e7 l1 l2 l3 hX lx ly lu lv lD hx hy hyx hu hv hvu
      generalize mz x u = f1 at *
      generalize mz y v = f3 at *
      generalize y * v = a4 at *
      generalize x * u = a5 at *
      simp (maxSteps := 4000000) only [go_sem, ↓reduceIte, Nat.reduceAdd, Nat.reduceSub, Nat.reduceMul, Nat.reduceEqDiff, reduceCtorEq, Int.reduceAdd, Int.reduceLT, Int.reduceLE, Int.reduceToNat, Int.reduceNeg, Int.reduceSub, ← List.map_take, ← List.map_drop, ne_eq, Nat.reduceLeDiff, Nat.reduceLT, Nat.zero_le, Nat.le_refl, wrap64, wrapu64, wrapu32, ← Int.natCast_add, ← Int.natCast_mul, cast_succ, wrapu32_nat, shr32, reps_wd, map_set_wd, List.length_set, zs_len, Try.f50, places, fillAll]
      refine W_drawnP [.n, .n, .n, .n, .n, .n, .n, .n, .n, .n, .n, .n, .p, .d, .n, .n, .n, .n, .d, .n, .n, .n, .n, .d, .d, .d, .d] hV (by decide +kernel) ?_
      simp (maxSteps := 4000000) only [go_sem, ↓reduceIte, Nat.reduceAdd, Nat.reduceSub, Nat.reduceMul, Nat.reduceEqDiff, reduceCtorEq, Int.reduceAdd, Int.reduceLT, Int.reduceLE, Int.reduceToNat, Int.reduceNeg, Int.reduceSub, ← List.map_take, ← List.map_drop, ne_eq, Nat.reduceLeDiff, Nat.reduceLT, Nat.zero_le, Nat.le_refl, wrap64, wrapu64, wrapu32, ← Int.natCast_add, ← Int.natCast_mul, cast_succ, wrapu32_nat, shr32, reps_wd, map_set_wd, List.length_set, zs_len, o1, M1, M2, M3, places, fillAll]
      rfl
  · have M1 := exMul_pan fx fu x u lx lu l1
    clear l1 hX lx ly lu lv lD hx hy hyx hu hv hvu
    simp (maxSteps := 4000000) only [go_sem, ↓reduceIte, Nat.reduceAdd, Nat.reduceSub, Nat.reduceMul, Nat.reduceEqDiff, reduceCtorEq, Int.reduceAdd, Int.reduceLT, Int.reduceLE, Int.reduceToNat, Int.reduceNeg, Int.reduceSub, ← List.map_take, ← List.map_drop, ne_eq, Nat.reduceLeDiff, Nat.reduceLT, Nat.zero_le, Nat.le_refl, wrap64, wrapu64, wrapu32, ← Int.natCast_add, ← Int.natCast_mul, cast_succ, wrapu32_nat, shr32, reps_wd, map_set_wd, List.length_set, zs_len, Try.f50, places, fillAll]
    refine W_drawnP [.n, .n, .n, .n, .p, .n, .d, .n, .n, .n, .n, .d, .d, .d, .n, .n, .n, .n, .d, .n, .n, .n, .n, .d, .d, .d, .d] hV (by decide +kernel) ?_
    simp (maxSteps := 4000000) only [go_sem, ↓reduceIte, Nat.reduceAdd, Nat.reduceSub, Nat.reduceMul, Nat.reduceEqDiff, reduceCtorEq, Int.reduceAdd, Int.reduceLT, Int.reduceLE, Int.reduceToNat, Int.reduceNeg, Int.reduceSub, ← List.map_take, ← List.map_drop, ne_eq, Nat.reduceLeDiff, Nat.reduceLT, Nat.zero_le, Nat.le_refl, wrap64, wrapu64, wrapu32, ← Int.natCast_add, ← Int.natCast_mul, cast_succ, wrapu32_nat, shr32, reps_wd, map_set_wd, List.length_set, zs_len, o1, M1, places, fillAll]
    rfl
theorem LXY_len' {D r : Int} (hr : Rt D r) (hD : D ≤ 1000000) {L : Nat} (hL : Per D r L) : (dg (LX D r L)).length ≤ 3300 ∧ (dg (LY D r L)).length ≤ 3300 := by
  have hr2 := (A_small hr hD 0).1
  have hl := H_len hr hr2 hL (L - 1) (by omega)
  have hp := hr.pos
  have hlo := hr.lo
  have hrr : 1 ≤ r * r := Int.mul_le_mul (a := 1) (b := 1) (c := r) (d := r) hp hp (by omega) (by omega)
  unfold LX LY
  generalize (H D r (L - 1)).1.1 = x at *
  generalize (H D r (L - 1)).1.2 = y at *
  have a1 := dg_mul x x
  have a2 := dg_mul y y
  have a3 := dg_mul D (y * y)
  have a4 := dg_add (x * x) (D * (y * y))
  have a5 := dg_mul x y
  have a6 := dg_mul y x
  have a7 := dg_add (x * y) (y * x)
  have lD := dg_small (z := D) (by omega)
  split <;> omega
set_option maxHeartbeats 2000000 in
theorem nth1_pan (D r : Int) (hr : Rt D r) (hD : D ≤ 1000000) (L : Nat) (hL : Per D r L) (m : Nat) (hm : m < 9223372036854775808) (hfit : ¬ (dg (pw D (LX D r L) (LY D r L) m).1).length ≤ 4096) (pd pn : Nat) (h : Heap) (nx : Nat) (hp : pd < nx) (hp2 : pn < nx) (hh : h pd = some ⟨[.int .i64 D], false, 1, false⟩) (hh2 : h pn = some ⟨[.int .i64 (m : Int)], false, 1, false⟩) :
    Calm 48 [.ptr pd 0, .ptr pn 0] (.panic (Thr 4)) h nx := by
  intro HH N hN hH
  have q := (hH pd hp).trans hh
  have q2 := (hH pn hp2).trans hh2
  have c1 := least_spec D r hr hD L hL
  have hpos := LXY_pos hr L
  have hlb := (LXY_len' hr hD hL).1
  have hD1 : 1 ≤ D := by
    have := hr.lo
    have := Int.mul_nonneg (show 0 ≤ r by have := hr.pos; omega) (show 0 ≤ r by have := hr.pos; omega)
    omega
  clear hL hr
  generalize LX D r L = bx at *
  generalize LY D r L = byy at *
  have o1 := of_spec 1 (by decide) (by decide)
  have o0 := of_spec 0 (by decide) (by decide)
  have key : ∃ v h' n', denO E 48 [.ptr pd 0, .ptr pn 0] HH N = some (.panic v, h', n') ∧ v = Thr 4 ∧ N ≤ n' ∧ ∀ i, i < N → h' i = HH i := by
    refine denO_pan E48 rfl ?_
    have y0 : (pd = N) = False := eq_false (by omega)
    have y1 : (pd = N + 1) = False := eq_false (by omega)
    have y2 : (pd = N + 2) = False := eq_false (by omega)
    have y3 : (pn = N) = False := eq_false (by omega)
    have y4 : (pn = N + 1) = False := eq_false (by omega)
    have y5 : (pn = N + 2) = False := eq_false (by omega)
    simp (maxSteps := 4000000) only [go_sem, ↓reduceIte, Nat.reduceAdd, Nat.reduceSub, Nat.reduceMul, Nat.reduceEqDiff, reduceCtorEq, Int.reduceAdd, Int.reduceLT, Int.reduceLE, Int.reduceToNat, Int.reduceNeg, Int.reduceSub, ← List.map_take, ← List.map_drop, ne_eq, Nat.reduceLeDiff, Nat.reduceLT, Nat.zero_le, Nat.le_refl, wrap64, wrapu64, wrapu32, ← Int.natCast_add, ← Int.natCast_mul, cast_succ, wrapu32_nat, shr32, reps_wd, map_set_wd, List.length_set, zs_len, Try.f48, q, q2, places, fillAll]
    obtain ⟨QQ, hQQ⟩ : ∃ QQ : Ex → St → Prop, QQ = fun ex τ => ex = .norm ∧ (∃ g : Nat → AV, τ.sl = [.ptr pd 0, .ptr pn 0, .ptr N 0, .ptr (N + 1) 0, .ptr (N + 2) 0, g 5, g 6, g 7, g 8, g 9, g 10, g 11, g 12, g 13, g 14, g 15, g 16, g 17, g 18, g 19, g 20, g 21, g 22, g 23, g 24, g 25, g 26, g 27, g 28]) ∧ N + 3 ≤ τ.nx ∧ τ.h N = some zrow ∧ τ.h (N + 1) = some (pqrow false 1 false 0) ∧ τ.h (N + 2) = some (pqrow false bx false byy) ∧ ∀ i, i < N → τ.h i = HH i := ⟨_, rfl⟩
    refine W_mono (Q := QQ) ?_ ?_
    · refine W_drawn2 ?_
      simp (maxSteps := 4000000) only [go_sem, ↓reduceIte, Nat.reduceAdd, Nat.reduceSub, Nat.reduceMul, Nat.reduceEqDiff, reduceCtorEq, Int.reduceAdd, Int.reduceLT, Int.reduceLE, Int.reduceToNat, Int.reduceNeg, Int.reduceSub, ← List.map_take, ← List.map_drop, ne_eq, Nat.reduceLeDiff, Nat.reduceLT, Nat.zero_le, Nat.le_refl, wrap64, wrapu64, wrapu32, ← Int.natCast_add, ← Int.natCast_mul, cast_succ, wrapu32_nat, shr32, reps_wd, map_set_wd, List.length_set, zs_len, q, q2, c1, o1, o0, y0, y1, y2, y3, y4, y5, off_ne, ne_off, places, fillAll]
      refine ⟨by exact allW_of [] [0, 1, 3, 0, 11, 0, 0, 127, 255] (by kernel_rfl) (by ((simp only [List.flatMap_cons, List.flatMap_nil, cr, List.append_nil, List.nil_append, List.cons_append]); rfl)) (by ((simp (disch := omega) [sts, stB, allS, stOk, cr, Dep.ok, loadEff, upd_apply, if_neg, T1, T2, T3, T4, T5, T6, T9, T10, T11, T12, T15, T16, T17, T20, T21, T22, T23, T25, T26, T27, T28, T30, T31, T32, T33, T34, T36, T37, T38, T39, T40, T41, T43, T44, T46, T47, T48, T49, T50, T51, T52, T53, T54, T55, T56, T57, T58, T59, T60, T61, T62, T63, T64, T65, T67, T68, T69, T70, T71, T72, T73, T74, T75, T76, T77, T78, T80, T81, T83, T84, T86, T87, T88, T89, T90, T91, T93, T94, T95, T96, T98, T99, T100, T101, T103, T105, T106, T107, T108, T109, T110, T111, T112, T113, T114, T117, T120, T121, T122, T123, T124, T125, T126, q, q2, y0, y1, y2, y3, y4, y5, off_ne, ne_off]) <;> (repeat (any_goals apply And.intro)) <;> (first | omega | rfl | (intro hx; first | omega | rfl)))) (by ((repeat ((with_unfolding_all refine And.intro ?_ ?_); (focus ((with_unfolding_all refine ⟨?_, ?_, ?_⟩) <;> ((intro i hi hj); (simp only [cr, Rec.ids, List.map_cons, List.map_nil, List.mem_cons, List.not_mem_nil, or_false, false_or] at hi hj); (first | done | omega)))))); (with_unfolding_all exact True.intro))), ?_⟩
      rw [hQQ]
      refine ⟨rfl, garb rfl, by dsimp only; omega, ?_, ?_, ?_, ?_⟩
      · simp only [upd_apply, ↓reduceIte, Nat.reduceEqDiff, Nat.add_assoc, off_ne, ne_off]
      · simp only [upd_apply, ↓reduceIte, Nat.reduceEqDiff, Nat.add_assoc, off_ne, ne_off, Nat.add_right_inj]
      · simp only [upd_apply, ↓reduceIte, Nat.reduceEqDiff, Nat.add_assoc, off_ne, ne_off]
      · intro i hi
        (repeat (refine (upd_ne (by omega)).trans ?_))
        rfl
    · rw [hQQ]
      clear hQQ QQ c1 o1 o0
      rintro ex ⟨sl, H', nn⟩ ⟨rfl, ⟨g', rfl⟩, hn, k1, k2, k3, k4⟩
      dsimp only at hn k1 k2 k3 k4
      have k5 := (k4 pd (by omega)).trans q
      have k6 := (k4 pn (by omega)).trans q2
      clear q q2
      generalize hro : N + 1 = ro at *
      generalize hrb : N + 2 = rb at *
      simp (maxSteps := 4000000) only [go_sem, ↓reduceIte, Nat.reduceAdd, Nat.reduceSub, Nat.reduceMul, Nat.reduceEqDiff, reduceCtorEq, Int.reduceAdd, Int.reduceLT, Int.reduceLE, Int.reduceToNat, Int.reduceNeg, Int.reduceSub, ← List.map_take, ← List.map_drop, ne_eq, Nat.reduceLeDiff, Nat.reduceLT, Nat.zero_le, Nat.le_refl, wrap64, wrapu64, wrapu32, ← Int.natCast_add, ← Int.natCast_mul, cast_succ, wrapu32_nat, shr32, reps_wd, map_set_wd, List.length_set, zs_len, k1]
      refine W_loopS (fun k sl h nx => (∃ g : Nat → AV, sl = [.ptr pd 0, .ptr pn 0, .ptr N 0, .ptr ro 0, .ptr rb 0, .int .i64 ((k : Int) - 1), g 6, g 7, g 8, g 9, g 10, g 11, g 12, g 13, g 14, g 15, g 16, g 17, g 18, g 19, g 20, g 21, g 22, g 23, g 24, g 25, g 26, g 27, g 28]) ∧ k ≤ 63 ∧ (dg (pw D bx byy (m / 2 ^ k)).1).length ≤ 4096 ∧ N + 3 ≤ nx ∧
        h N = some zrow ∧ h ro = some (pqrow false (pw D bx byy (m / 2 ^ k)).1 false (pw D bx byy (m / 2 ^ k)).2) ∧ h rb = some (pqrow false bx false byy) ∧ h pd = some ⟨[.int .i64 D], false, 1, false⟩ ∧ h pn = some ⟨[.int .i64 (m : Int)], false, 1, false⟩ ∧ ∀ i, i < N → h i = HH i) 63 ⟨garb rfl, by omega, ?_, hn, k1, ?_, k3, k5, k6, k4⟩ ?_
      · rw [Nat.div_eq_of_lt (show m < 2 ^ 63 from hm), pw_zero]
        have := dg_small (z := 1) (by decide)
        dsimp only
        omega
      · rw [Nat.div_eq_of_lt (show m < 2 ^ 63 from hm), pw_zero]
        exact k2
      clear k1 k2 k3 k4 k5 k6 hn
      rintro k _ h nx ⟨⟨g, rfl⟩, hk, hkl, hn, k1, k2, k3, k5, k6, k4⟩
      have u1 : (N = ro) = False := eq_false (by omega)
      have u2 : (ro = N) = False := eq_false (by omega)
      have u3 : (rb = ro) = False := eq_false (by omega)
      have u4 : (ro = rb) = False := eq_false (by omega)
      have u5 : (pd = ro) = False := eq_false (by omega)
      have u6 : (pn = ro) = False := eq_false (by omega)
      have u7 : (pd = N) = False := eq_false (by omega)
      by_cases hk0 : k = 0
      · subst hk0
        rw [Nat.pow_zero, Nat.div_one] at hkl
        exact absurd hkl hfit
      · obtain ⟨j, rfl⟩ : ∃ j, k = j + 1 := ⟨k - 1, by omega⟩
        have hst := half_step m j
        have hb := bit63 hm (show j < 63 by omega)
        have e1 : ((j + 1 : Nat) : Int) - 1 = (j : Int) := by omega
        have hle : m / 2 ^ j ≤ m := Nat.div_le_self _ _
        have hbd := pw_bounds hD1 hpos.1 hpos.2.1 hpos.2.2
        have hmn := pw_mono hD1 hpos.1 hpos.2.1 hpos.2.2
        have hj0 : ((0 : Int) ≤ (j : Int)) = True := eq_true (by omega)
        have wj : IntKind.i64.wrap ((j : Int) - 1) = (j : Int) - 1 := wrap64 (by omega) (by omega)
        have hjn : ((j : Int) < 0) = False := eq_false (by omega)
        generalize hq : m / 2 ^ (j + 1) = a at *
        have hdb := pw_add D bx byy a a
        have hd1 := congrArg Prod.fst hdb
        have hd2 := congrArg Prod.snd hdb
        dsimp only at hd1 hd2
        by_cases hf1 : ¬ (dg (pw D bx byy (a + a)).1).length ≤ 4096
        · rw [hd1] at hf1
          have t1 := pairTimes_pan D (pw D bx byy a).1 (pw D bx byy a).2 (pw D bx byy a).1 (pw D bx byy a).2 false false false false ⟨hD1, hD⟩ (hbd a).1 (hbd a).2.1 (hbd a).2.2.1 (hbd a).1 (hbd a).2.1 (hbd a).2.2.1 hkl hkl hf1
          generalize (pw D bx byy a).1 = x at *
          generalize (pw D bx byy a).2 = y at *
          clear hbd hmn hdb hd1 hd2 hfit hf1
          simp (maxSteps := 4000000) only [go_sem, ↓reduceIte, Nat.reduceAdd, Nat.reduceSub, Nat.reduceMul, Nat.reduceEqDiff, reduceCtorEq, Int.reduceAdd, Int.reduceLT, Int.reduceLE, Int.reduceToNat, Int.reduceNeg, Int.reduceSub, ← List.map_take, ← List.map_drop, ne_eq, Nat.reduceLeDiff, Nat.reduceLT, Nat.zero_le, Nat.le_refl, wrap64, wrapu64, wrapu32, ← Int.natCast_add, ← Int.natCast_mul, cast_succ, wrapu32_nat, shr32, reps_wd, map_set_wd, List.length_set, zs_len, e1, hj0, hjn, k1, k2, k3, k5, k6, t1, u1, u2, u3, u4, u5, u6, u7, Int.reduceEq, places, fillAll]
          exact ⟨by omega, k4⟩
        replace hf1 := Decidable.not_not.1 hf1
        have t1 := times_in D (pw D bx byy a).1 (pw D bx byy a).2 (pw D bx byy a).1 (pw D bx byy a).2 (pw D bx byy (a + a)).1 false false false false ⟨hD1, hD⟩ (hbd a).1 (hbd a).2.1 (hbd a).2.2.1 (hbd a).1 (hbd a).2.1 (hbd a).2.2.1 (by rw [hd1]; exact Int.le_refl _) hf1
        rw [← hd1, ← hd2] at t1
        clear hd1 hd2
        rcases Nat.mod_two_eq_zero_or_one (m / 2 ^ j) with hbit | hbit
        · rw [hbit] at hb hst
          have hnx : m / 2 ^ j = a + a := by omega
          generalize hX : (pw D bx byy (a + a)).1 = X at *
          generalize hY : (pw D bx byy (a + a)).2 = Y at *
          generalize (pw D bx byy a).1 = x at *
          generalize (pw D bx byy a).2 = y at *
          clear hbd hmn hdb hfit
          simp (maxSteps := 4000000) only [go_sem, ↓reduceIte, Nat.reduceAdd, Nat.reduceSub, Nat.reduceMul, Nat.reduceEqDiff, reduceCtorEq, Int.reduceAdd, Int.reduceLT, Int.reduceLE, Int.reduceToNat, Int.reduceNeg, Int.reduceSub, ← List.map_take, ← List.map_drop, ne_eq, Nat.reduceLeDiff, Nat.reduceLT, Nat.zero_le, Nat.le_refl, wrap64, wrapu64, wrapu32, ← Int.natCast_add, ← Int.natCast_mul, cast_succ, wrapu32_nat, shr32, reps_wd, map_set_wd, List.length_set, zs_len, e1, wj, hj0, hjn, k1, k2, k3, k5, k6, t1, hb, u1, u2, u3, u4, u5, u6, u7, Int.reduceEq, places, fillAll]
          refine ⟨j, by omega, garb rfl, by omega, by rw [hnx, hX]; exact hf1, hn, ?_, fun i hi => ?_⟩
          · rw [hnx, hX, hY]
          · (repeat rw [if_neg (by omega)])
            exact k4 i hi
        · rw [hbit] at hb hst
          have hnx : m / 2 ^ j = a + a + 1 := by omega
          have hsc := pw_succ D bx byy (a + a)
          have hd1 := congrArg Prod.fst hsc
          have hd2 := congrArg Prod.snd hsc
          dsimp only at hd1 hd2
          by_cases hf2 : ¬ (dg (pw D bx byy (a + a + 1)).1).length ≤ 4096
          · rw [hd1] at hf2
            have t2 := pairTimes_pan D (pw D bx byy (a + a)).1 (pw D bx byy (a + a)).2 bx byy false false false false ⟨hD1, hD⟩ (hbd _).1 (hbd _).2.1 (hbd _).2.2.1 hpos.1 hpos.2.1 hpos.2.2 hf1 (by omega) hf2
            generalize (pw D bx byy (a + a)).1 = X at *
            generalize (pw D bx byy (a + a)).2 = Y at *
            generalize (pw D bx byy a).1 = x at *
            generalize (pw D bx byy a).2 = y at *
            clear hbd hmn hdb hd1 hd2 hfit hf1 hf2 hsc
            simp (maxSteps := 4000000) only [go_sem, ↓reduceIte, Nat.reduceAdd, Nat.reduceSub, Nat.reduceMul, Nat.reduceEqDiff, reduceCtorEq, Int.reduceAdd, Int.reduceLT, Int.reduceLE, Int.reduceToNat, Int.reduceNeg, Int.reduceSub, ← List.map_take, ← List.map_drop, ne_eq, Nat.reduceLeDiff, Nat.reduceLT, Nat.zero_le, Nat.le_refl, wrap64, wrapu64, wrapu32, ← Int.natCast_add, ← Int.natCast_mul, cast_succ, wrapu32_nat, shr32, reps_wd, map_set_wd, List.length_set, zs_len, e1, wj, hj0, hjn, k1, k2, k3, k5, k6, t1, t2, hb, u1, u2, u3, u4, u5, u6, u7, Int.reduceEq, places, fillAll]
            refine ⟨by omega, fun i hi => ?_⟩
            (repeat rw [if_neg (by omega)])
            exact k4 i hi
          replace hf2 := Decidable.not_not.1 hf2
          have t2 := times_in D (pw D bx byy (a + a)).1 (pw D bx byy (a + a)).2 bx byy (pw D bx byy (a + a + 1)).1 false false false false ⟨hD1, hD⟩ (hbd _).1 (hbd _).2.1 (hbd _).2.2.1 hpos.1 hpos.2.1 hpos.2.2 (by rw [hd1]; exact Int.le_refl _) hf2
          rw [← hd1, ← hd2] at t2
          clear hd1 hd2
          generalize hX2 : (pw D bx byy (a + a + 1)).1 = X2 at *
          generalize hY2 : (pw D bx byy (a + a + 1)).2 = Y2 at *
          generalize hX : (pw D bx byy (a + a)).1 = X at *
          generalize hY : (pw D bx byy (a + a)).2 = Y at *
          generalize (pw D bx byy a).1 = x at *
          generalize (pw D bx byy a).2 = y at *
          clear hbd hmn hdb hfit hsc
          simp (maxSteps := 4000000) only [go_sem, ↓reduceIte, Nat.reduceAdd, Nat.reduceSub, Nat.reduceMul, Nat.reduceEqDiff, reduceCtorEq, Int.reduceAdd, Int.reduceLT, Int.reduceLE, Int.reduceToNat, Int.reduceNeg, Int.reduceSub, ← List.map_take, ← List.map_drop, ne_eq, Nat.reduceLeDiff, Nat.reduceLT, Nat.zero_le, Nat.le_refl, wrap64, wrapu64, wrapu32, ← Int.natCast_add, ← Int.natCast_mul, cast_succ, wrapu32_nat, shr32, reps_wd, map_set_wd, List.length_set, zs_len, e1, wj, hj0, hjn, k1, k2, k3, k5, k6, t1, t2, hb, u1, u2, u3, u4, u5, u6, u7, Int.reduceEq, places, fillAll]
          refine ⟨j, by omega, garb rfl, by omega, by rw [hnx, hX2]; exact hf2, hn, ?_, fun i hi => ?_⟩
          · rw [hnx, hX2, hY2]
          · (repeat rw [if_neg (by omega)])
            exact k4 i hi
  obtain ⟨v, h', n', h1, rfl, h2⟩ := key
  exact ⟨h', n', h1, h2⟩
theorem Nth_over (D r : Int) (hr : Rt D r) (hD : D ≤ 1000000) (L : Nat) (hL : Per D r L) (m : Nat) (hm : m < 9223372036854775808) (hfit : ¬ (dg (pw D (LX D r L) (LY D r L) m).1).length ≤ 4096) :
    denP E 21 [.int .i64 D, .int .i64 (m : Int)] = some (.ret (RP3 (I true 0) (I true 0) 4)) := by
  refine denP_eq E21 rfl (by simp [AV.pureL, AV.pure, pure_wd]) ?_
  have hf := fits_yes D r hr hD
  have z1 : ((m : Int) < 0) = False := eq_false (by omega)
  have hc := fun (p q : Nat) (H : Heap) (nx : Nat) h1 h2 h3 h4 => nth1_pan D r hr hD L hL m hm hfit p q H nx h1 h2 h3 h4
  simp (maxSteps := 4000000) only [go_sem, ↓reduceIte, Nat.reduceAdd, Nat.reduceSub, Nat.reduceMul, Nat.reduceEqDiff, reduceCtorEq, Int.reduceAdd, Int.reduceLT, Int.reduceLE, Int.reduceToNat, Int.reduceNeg, Int.reduceSub, ← List.map_take, ← List.map_drop, ne_eq, Nat.reduceLeDiff, Nat.reduceLT, Nat.zero_le, Nat.le_refl, wrap64, wrapu64, wrapu32, ← Int.natCast_add, ← Int.natCast_mul, cast_succ, wrapu32_nat, shr32, reps_wd, map_set_wd, List.length_set, zs_len, Try.f21, hf, z1, places, fillAll]
  refine openK_get (tried_pan 48 [] [.ptr 0 0, .ptr 1 0] rfl 4 (by decide) _ 4 (hc 0 1 _ 4 (by decide) (by decide) ?_ ?_)) ?_
  · simp only [upd_apply, ↓reduceIte, Nat.reduceEqDiff, if_pos]
  · simp only [upd_apply, ↓reduceIte, Nat.reduceEqDiff, if_pos]
  intro H' N' k1 k2
  have q0 := k2 0 (by decide)
  have q1 := k2 1 (by decide)
  have q2 := k2 2 (by decide)
  have q3 := k2 3 (by decide)
  simp only [upd_apply, ↓reduceIte, Nat.reduceEqDiff, if_pos] at q0 q1 q2 q3
  clear k2 hc
  simp (maxSteps := 4000000) only [go_sem, ↓reduceIte, Nat.reduceAdd, Nat.reduceSub, Nat.reduceMul, Nat.reduceEqDiff, reduceCtorEq, Int.reduceAdd, Int.reduceLT, Int.reduceLE, Int.reduceToNat, Int.reduceNeg, Int.reduceSub, ← List.map_take, ← List.map_drop, ne_eq, Nat.reduceLeDiff, Nat.reduceLT, Nat.zero_le, Nat.le_refl, wrap64, wrapu64, wrapu32, ← Int.natCast_add, ← Int.natCast_mul, cast_succ, wrapu32_nat, shr32, reps_wd, map_set_wd, List.length_set, zs_len, q0, q1, q2, q3]
end Go.Proofs.Ytiglncbaomoceaa

/- The powers of a unit grow. (Own work of this repo.) -/
namespace Pel
theorem pw_grow {D x y : Int} (hD : 1 ≤ D) (hx : 2 ≤ x) (hy : 1 ≤ y) (hyx : y ≤ x) (n : Nat) : 2 * (pw D x y n).1 ≤ (pw D x y (n + 1)).1 ∧ (pw D x y n).2 < (pw D x y (n + 1)).2 := by
  obtain ⟨h1, h2, h3, _⟩ := pw_bounds hD (show 1 ≤ x by omega) (show 0 ≤ y by omega) hyx n
  rw [pw_succ]
  dsimp only
  generalize (pw D x y n).1 = a at *
  generalize (pw D x y n).2 = b at *
  have e1 : a * 2 ≤ a * x := Int.mul_le_mul_of_nonneg_left hx (by omega)
  have e2 : 0 ≤ D * (b * y) := Int.mul_nonneg (by omega) (Int.mul_nonneg h2 (by omega))
  have e3 : a * 1 ≤ a * y := Int.mul_le_mul_of_nonneg_left hy (by omega)
  have e4 : b * 2 ≤ b * x := Int.mul_le_mul_of_nonneg_left hx h2
  omega
theorem pw_two {D x y : Int} (hD : 1 ≤ D) (hx : 2 ≤ x) (hy : 1 ≤ y) (hyx : y ≤ x) : ∀ n, ((2 ^ n : Nat) : Int) ≤ (pw D x y n).1
  | 0 => by rw [pw_zero]; simp
  | n + 1 => by
    have h1 := pw_two hD hx hy hyx n
    have h2 := (pw_grow hD hx hy hyx n).1
    rw [Nat.pow_succ]
    omega
theorem pw_nat {D x y : Int} (hD : 1 ≤ D) (hx : 2 ≤ x) (hy : 1 ≤ y) (hyx : y ≤ x) : ∀ n : Nat, (n : Int) ≤ (pw D x y n).2
  | 0 => by rw [pw_zero]; simp
  | n + 1 => by
    have h1 := pw_nat hD hx hy hyx n
    have h2 := (pw_grow hD hx hy hyx n).2
    omega
theorem pw_lt {D x y : Int} (hD : 1 ≤ D) (hx : 2 ≤ x) (hy : 1 ≤ y) (hyx : y ≤ x) {m n : Nat} (h : m < n) : (pw D x y m).1 < (pw D x y n).1 ∧ (pw D x y m).2 < (pw D x y n).2 := by
  obtain ⟨k, rfl⟩ : ∃ k, n = m + 1 + k := ⟨n - m - 1, by omega⟩
  have h1 := pw_grow hD hx hy hyx m
  have h0 := pw_bounds hD (show 1 ≤ x by omega) (show 0 ≤ y by omega) hyx m
  induction k with
  | zero => rw [Nat.add_zero]; omega
  | succ k ih =>
    have ih := ih (by omega)
    have h2 := pw_grow hD hx hy hyx (m + 1 + k)
    have h3 := pw_bounds hD (show 1 ≤ x by omega) (show 0 ≤ y by omega) hyx (m + 1 + k)
    rw [← Nat.add_assoc]
    omega
/-- Where the search ends. -/
theorem stop_ex {D x y : Int} (hD : 1 ≤ D) (hx : 2 ≤ x) (hy : 1 ≤ y) (hyx : y ≤ x) (u v : Int) : ∃ N, (∀ k, k < N → (pw D x y k).2 ≤ v ∧ pw D x y k ≠ (u, v)) ∧ (v < (pw D x y N).2 ∨ pw D x y N = (u, v)) := by
  have hex : ∃ n, v < (pw D x y n).2 ∨ pw D x y n = (u, v) := ⟨(v + 1).toNat, .inl (by have := pw_nat hD hx hy hyx (v + 1).toNat; omega)⟩
  obtain ⟨N, h1, h2⟩ := least_nat hex
  exact ⟨N, fun k hk => ⟨by have := h2 k hk; simp only [not_or] at this; omega, fun h => h2 k hk (.inr h)⟩, h1⟩
end Pel

/- Walks: the index of a solution. (Own work of this repo.) -/
namespace Go.Proofs.Ytiglncbaomoceaa
open Vm
open Pel hiding allS
set_option maxRecDepth 10000

theorem cmpI_le (a b : Int) : (cmpI a b ≤ 0) = (a ≤ b) := by
  unfold cmpI
  refine propext ?_
  (repeat' split) <;> omega
theorem cmpI_z (a b : Int) : (cmpI a b = 0) = (a = b) := by
  unfold cmpI
  refine propext ?_
  (repeat' split) <;> omega
theorem two_len {n k : Nat} {z : Int} (h : ((2 ^ n : Nat) : Int) ≤ z) (hz : (dg z).length ≤ k) : n < 32 * k := by
  have h1 := dg_len.1 hz
  rw [show BB = 2 ^ 32 from rfl, ← Nat.pow_mul] at h1
  have h2 : 2 ^ n < 2 ^ (32 * k) := by omega
  exact (Nat.pow_lt_pow_iff_right (by decide)).1 h2
theorem LXY_norm' {D r : Int} (hr : Rt D r) {L : Nat} (hL : Per D r L) : LX D r L * LX D r L - D * (LY D r L * LY D r L) = 1 := by
  have h := unit_norm hr hL
  have hs := sgn_cases L
  unfold LX LY
  generalize (H D r (L - 1)).1.1 = x at *
  generalize (H D r (L - 1)).1.2 = y at *
  by_cases ho : L % 2 = 1
  · rw [if_pos ho, if_pos ho]
    have h1 : x * x - D * (y * y) = -1 := by
      rcases hs with ⟨h1, h2⟩ | ⟨h1, h2⟩
      · omega
      · rw [h, h2]
    have e : (x * x + D * (y * y)) * (x * x + D * (y * y)) - D * ((x * y + y * x) * (x * y + y * x)) = (x * x - D * (y * y)) * (x * x - D * (y * y)) := by grind
    rw [e, h1]
    rfl
  · rw [if_neg ho, if_neg ho, h]
    rcases hs with ⟨h1, h2⟩ | ⟨h1, h2⟩
    · exact h2
    · omega
theorem LXY_two {D r : Int} (hr : Rt D r) {L : Nat} (hL : Per D r L) : 2 ≤ LX D r L ∧ 1 ≤ LY D r L := by
  have h := LXY_pos hr L
  have hn := LXY_norm' hr hL
  have hP := H_pos hr (L - 1)
  have hy : 1 ≤ LY D r L := by
    unfold LY
    split
    · have e1 : 1 ≤ (H D r (L - 1)).1.1 * (H D r (L - 1)).1.2 := Int.mul_le_mul (a := 1) (b := 1) hP.1 hP.2.1 (by omega) (by omega)
      have e2 : 1 ≤ (H D r (L - 1)).1.2 * (H D r (L - 1)).1.1 := Int.mul_le_mul (a := 1) (b := 1) hP.2.1 hP.1 (by omega) (by omega)
      omega
    · exact hP.2.1
  refine ⟨?_, hy⟩
  rcases Int.lt_or_le (LX D r L) 2 with g | g
  · have e : LX D r L = 1 := by omega
    rw [e] at hn
    have hD : 1 ≤ D := by
      have := hr.lo
      have := Int.mul_nonneg (show 0 ≤ r by have := hr.pos; omega) (show 0 ≤ r by have := hr.pos; omega)
      omega
    have e1 : 1 ≤ LY D r L * LY D r L := Int.mul_le_mul (a := 1) (b := 1) hy hy (by omega) (by omega)
    have e2 : 1 ≤ D * (LY D r L * LY D r L) := Int.mul_le_mul (a := 1) (b := 1) hD e1 (by omega) (by omega)
    omega
  · exact g
abbrev orow (n : Int) : Blk := ⟨[.int .i64 n], false, 1, false⟩
abbrev drw (f : Bool) (z : Int) : Blk := ⟨[.bool (ng z), .lst f ((dg z).map wd)], true, 2, false⟩
set_option maxHeartbeats 2000000 in
theorem index1_ret (D r : Int) (hr : Rt D r) (hD : D ≤ 1000000) (L : Nat) (hL : Per D r L) (x y : Int) (fx fy : Bool) (lx : (dg x).length ≤ 4096) (ly : (dg y).length ≤ 4096) (N : Nat) (hfit : (dg (pw D (LX D r L) (LY D r L) N).1).length ≤ 4096)
    (hbef : ∀ k, k < N → (pw D (LX D r L) (LY D r L) k).2 ≤ y ∧ pw D (LX D r L) (LY D r L) k ≠ (x, y)) (hend : y < (pw D (LX D r L) (LY D r L) N).2 ∨ pw D (LX D r L) (LY D r L) N = (x, y))
    (pd py px po : Nat) (h : Heap) (nx : Nat) (ld : pd < nx) (lpy : py < nx) (lpx : px < nx) (lo : po < nx) (n1 : po ≠ pd) (n2 : po ≠ py) (n3 : po ≠ px) (hd : h pd = some ⟨[.int .i64 D], false, 1, false⟩) (hy : h py = some (drw fy y)) (hx : h px = some (drw fx x)) (ho : h po = some (orow (-1))) :
    ∃ h' n', denO E 54 [.ptr pd 0, .ptr py 0, .ptr px 0, .ptr po 0] h nx = some (.ret (.tup []), h', n') ∧ nx ≤ n' ∧ h' po = some (orow (if pw D (LX D r L) (LY D r L) N = (x, y) then (N : Int) else -1)) ∧ ∀ i, i ≠ po → i < nx → h' i = h i := by
  have c1 := least_spec D r hr hD L hL
  have hpos := LXY_pos hr L
  have htwo := LXY_two hr hL
  have hlb := (LXY_len' hr hD hL).1
  have hD1 : 1 ≤ D := by
    have := hr.lo
    have := Int.mul_nonneg (show 0 ≤ r by have := hr.pos; omega) (show 0 ≤ r by have := hr.pos; omega)
    omega
  clear hL hr
  generalize LX D r L = bx at *
  generalize LY D r L = byy at *
  have hbd := pw_bounds hD1 hpos.1 hpos.2.1 hpos.2.2
  have hmn := pw_mono hD1 hpos.1 hpos.2.1 hpos.2.2
  have hle : ∀ k, k ≤ N → (dg (pw D bx byy k).1).length ≤ 4096 ∧ (dg (pw D bx byy k).2).length ≤ 4096 := fun k hk => by
    have h1 := hmn k (N - k)
    rw [show k + (N - k) = N by omega] at h1
    have h2 := hbd k
    exact ⟨Nat.le_trans (dg_mono (by omega)) hfit, Nat.le_trans (dg_mono (by omega)) hfit⟩
  have hN := two_len (pw_two hD1 htwo.1 htwo.2 hpos.2.2 N) hfit
  have o1 := of_spec 1 (by decide) (by decide)
  have o0 := of_spec 0 (by decide) (by decide)
  have key : ∃ v h' n', denO E 54 [.ptr pd 0, .ptr py 0, .ptr px 0, .ptr po 0] h nx = some (.ret v, h', n') ∧ v = .tup [] ∧ nx ≤ n' ∧ h' po = some (orow (if pw D bx byy N = (x, y) then (N : Int) else -1)) ∧ ∀ i, i ≠ po → i < nx → h' i = h i := by
    refine denO_intro E54 rfl ?_
    have ipdnx0 : (pd = nx) = False := eq_false (by omega); have jpdnx0 : (nx = pd) = False := eq_false (by omega); have ipdnx1 : (pd = nx + 1) = False := eq_false (by omega); have jpdnx1 : (nx + 1 = pd) = False := eq_false (by omega); have ipdnx2 : (pd = nx + 2) = False := eq_false (by omega); have jpdnx2 : (nx + 2 = pd) = False := eq_false (by omega)
    have ipynx0 : (py = nx) = False := eq_false (by omega); have jpynx0 : (nx = py) = False := eq_false (by omega); have ipynx1 : (py = nx + 1) = False := eq_false (by omega); have jpynx1 : (nx + 1 = py) = False := eq_false (by omega); have ipynx2 : (py = nx + 2) = False := eq_false (by omega); have jpynx2 : (nx + 2 = py) = False := eq_false (by omega)
    have ipxnx0 : (px = nx) = False := eq_false (by omega); have jpxnx0 : (nx = px) = False := eq_false (by omega); have ipxnx1 : (px = nx + 1) = False := eq_false (by omega); have jpxnx1 : (nx + 1 = px) = False := eq_false (by omega); have ipxnx2 : (px = nx + 2) = False := eq_false (by omega); have jpxnx2 : (nx + 2 = px) = False := eq_false (by omega)
    have iponx0 : (po = nx) = False := eq_false (by omega); have jponx0 : (nx = po) = False := eq_false (by omega); have iponx1 : (po = nx + 1) = False := eq_false (by omega); have jponx1 : (nx + 1 = po) = False := eq_false (by omega); have iponx2 : (po = nx + 2) = False := eq_false (by omega); have jponx2 : (nx + 2 = po) = False := eq_false (by omega)
    simp (maxSteps := 4000000) only [go_sem, ↓reduceIte, Nat.reduceAdd, Nat.reduceSub, Nat.reduceMul, Nat.reduceEqDiff, reduceCtorEq, Int.reduceAdd, Int.reduceLT, Int.reduceLE, Int.reduceToNat, Int.reduceNeg, Int.reduceSub, ← List.map_take, ← List.map_drop, ne_eq, Nat.reduceLeDiff, Nat.reduceLT, Nat.zero_le, Nat.le_refl, wrap64, wrapu64, wrapu32, ← Int.natCast_add, ← Int.natCast_mul, cast_succ, wrapu32_nat, shr32, reps_wd, map_set_wd, List.length_set, zs_len, Try.f54, hd, places, fillAll]
    obtain ⟨QQ, hQQ⟩ : ∃ QQ : Ex → St → Prop, QQ = fun ex τ => ex = .norm ∧ (∃ g : Nat → AV, τ.sl = [.ptr pd 0, .ptr py 0, .ptr px 0, .ptr po 0, .ptr nx 0, .ptr (nx + 1) 0, g 6, g 7, g 8, g 9, g 10, g 11, g 12, g 13, g 14, g 15, g 16, g 17, g 18, g 19, g 20, g 21, g 22, g 23, g 24, g 25, g 26, g 27, g 28, g 29, g 30, g 31, g 32, g 33, g 34, g 35]) ∧ nx + 2 ≤ τ.nx ∧ τ.h nx = some (pqrow false 1 false 0) ∧ τ.h (nx + 1) = some (pqrow false bx false byy) ∧ ∀ i, i < nx → τ.h i = h i := ⟨_, rfl⟩
    refine W_mono (Q := QQ) ?_ ?_
    · refine W_drawn2 ?_
      simp (maxSteps := 4000000) only [go_sem, ↓reduceIte, Nat.reduceAdd, Nat.reduceSub, Nat.reduceMul, Nat.reduceEqDiff, reduceCtorEq, Int.reduceAdd, Int.reduceLT, Int.reduceLE, Int.reduceToNat, Int.reduceNeg, Int.reduceSub, ← List.map_take, ← List.map_drop, ne_eq, Nat.reduceLeDiff, Nat.reduceLT, Nat.zero_le, Nat.le_refl, wrap64, wrapu64, wrapu32, ← Int.natCast_add, ← Int.natCast_mul, cast_succ, wrapu32_nat, shr32, reps_wd, map_set_wd, List.length_set, zs_len, hd, c1, o1, o0, Nat.add_assoc, off_ne, ne_off, ipdnx0, jpdnx0, ipdnx1, jpdnx1, ipdnx2, jpdnx2, places, fillAll]
      refine ⟨by exact allW_of [] [0, 1, 3, 0, 11, 0, 0, 127, 255] (by kernel_rfl) (by ((simp only [List.flatMap_cons, List.flatMap_nil, cr, List.append_nil, List.nil_append, List.cons_append]); rfl)) (by ((simp (disch := omega) [sts, stB, allS, stOk, cr, Dep.ok, loadEff, upd_apply, if_neg, T1, T2, T3, T4, T5, T6, T9, T10, T11, T12, T15, T16, T17, T20, T21, T22, T23, T25, T26, T27, T28, T30, T31, T32, T33, T34, T36, T37, T38, T39, T40, T41, T43, T44, T46, T47, T48, T49, T50, T51, T52, T53, T54, T55, T56, T57, T58, T59, T60, T61, T62, T63, T64, T65, T67, T68, T69, T70, T71, T72, T73, T74, T75, T76, T77, T78, T80, T81, T83, T84, T86, T87, T88, T89, T90, T91, T93, T94, T95, T96, T98, T99, T100, T101, T103, T105, T106, T107, T108, T109, T110, T111, T112, T113, T114, T117, T120, T121, T122, T123, T124, T125, T126, hd, Nat.add_assoc, Nat.reduceAdd, off_ne, ne_off, ipdnx0, jpdnx0, ipdnx1, jpdnx1, ipdnx2, jpdnx2, off_ne, ne_off]) <;> (repeat (any_goals apply And.intro)) <;> (first | omega | rfl | (intro hx; first | omega | rfl)))) (by ((repeat ((with_unfolding_all refine And.intro ?_ ?_); (focus ((with_unfolding_all refine ⟨?_, ?_, ?_⟩) <;> ((intro i hi hj); (simp only [cr, Rec.ids, List.map_cons, List.map_nil, List.mem_cons, List.not_mem_nil, or_false, false_or] at hi hj); (first | done | omega)))))); (with_unfolding_all exact True.intro))), ?_⟩
      rw [hQQ]
      refine ⟨rfl, garb rfl, by dsimp only; omega, ?_, ?_, ?_⟩
      · simp only [upd_apply, ↓reduceIte, Nat.reduceEqDiff, Nat.add_assoc, off_ne, ne_off, Nat.add_right_inj]
      · simp only [upd_apply, ↓reduceIte, Nat.reduceEqDiff, Nat.add_assoc, off_ne, ne_off, Nat.add_right_inj]
      · intro i hi
        (repeat (refine (upd_ne (by omega)).trans ?_))
        rfl
    · rw [hQQ]
      clear hQQ QQ c1 o1 o0
      rintro ex ⟨sl, H', nn⟩ ⟨rfl, ⟨g', rfl⟩, hn, k1, k2, k4⟩
      dsimp only at hn k1 k2 k4
      have k5 := (k4 pd (by omega)).trans hd
      have k6 := (k4 py (by omega)).trans hy
      have k7 := (k4 px (by omega)).trans hx
      have k8 := (k4 po (by omega)).trans ho
      clear hd hy hx ho
      generalize hrb : nx + 1 = rb at *
      simp (maxSteps := 4000000) only [go_sem, ↓reduceIte, Nat.reduceAdd, Nat.reduceSub, Nat.reduceMul, Nat.reduceEqDiff, reduceCtorEq, Int.reduceAdd, Int.reduceLT, Int.reduceLE, Int.reduceToNat, Int.reduceNeg, Int.reduceSub, ← List.map_take, ← List.map_drop, ne_eq, Nat.reduceLeDiff, Nat.reduceLT, Nat.zero_le, Nat.le_refl, wrap64, wrapu64, wrapu32, ← Int.natCast_add, ← Int.natCast_mul, cast_succ, wrapu32_nat, shr32, reps_wd, map_set_wd, List.length_set, zs_len, k1]
      refine W_loopS (fun k sl h' m => ∃ n : Nat, (∃ g : Nat → AV, sl = [.ptr pd 0, .ptr py 0, .ptr px 0, .ptr po 0, .ptr nx 0, .ptr rb 0, .int .i64 (n : Int), g 7, g 8, g 9, g 10, g 11, g 12, g 13, g 14, g 15, g 16, g 17, g 18, g 19, g 20, g 21, g 22, g 23, g 24, g 25, g 26, g 27, g 28, g 29, g 30, g 31, g 32, g 33, g 34, g 35]) ∧ nx + 2 ≤ m ∧ n + k = N ∧
        h' nx = some (pqrow false (pw D bx byy n).1 false (pw D bx byy n).2) ∧ h' rb = some (pqrow false bx false byy) ∧ h' pd = some ⟨[.int .i64 D], false, 1, false⟩ ∧ h' py = some (drw fy y) ∧ h' px = some (drw fx x) ∧ h' po = some (orow (-1)) ∧ ∀ i, i < nx → h' i = h i) N ⟨0, garb rfl, hn, by omega, k1, k2, k5, k6, k7, k8, k4⟩ ?_
      clear k1 k2 k4 k5 k6 k7 k8 hn
      rintro k _ h' m ⟨n, ⟨g, rfl⟩, hn, hk, k1, k2, k5, k6, k7, k8, k4⟩
      have u1 : (nx = rb) = False := eq_false (by omega)
      have u2 : (rb = nx) = False := eq_false (by omega)
      have u3 : (pd = nx) = False := eq_false (by omega)
      have u4 : (py = nx) = False := eq_false (by omega)
      have u5 : (px = nx) = False := eq_false (by omega)
      have u6 : (po = nx) = False := eq_false (by omega)
      have u7 : (nx = po) = False := eq_false (by omega)
      have wn : IntKind.i64.wrap ((n + 1 : Nat) : Int) = ((n + 1 : Nat) : Int) := wrap64 (by omega) (by omega)
      have l1 := hle n (by omega)
      have C1 := exCmp_ret false fy (pw D bx byy n).2 y l1.2 ly
      have C2 := exCmp_ret false fx (pw D bx byy n).1 x l1.1 lx
      have z1 := cmpI_le (pw D bx byy n).2 y
      have z2 := cmpI_z (pw D bx byy n).2 y
      have z3 := cmpI_z (pw D bx byy n).1 x
      simp only [drw] at k6 k7
      by_cases hk0 : k = 0
      · obtain rfl : n = N := by omega
        rcases hend with hend | hend
        · have q1 : (cmpI (pw D bx byy n).2 y ≤ 0) = False := by rw [z1]; exact eq_false (by omega)
          have hneq : ¬ pw D bx byy n = (x, y) := fun h => by rw [h] at hend; exact absurd hend (Int.lt_irrefl _)
          generalize cmpI (pw D bx byy n).2 y = cb at *
          rw [if_neg hneq]
          clear hbd hmn hle hfit z1 z2 z3 hN hbef hneq
          generalize (pw D bx byy n).1 = X at *
          generalize (pw D bx byy n).2 = Y at *
          simp (maxSteps := 4000000) only [go_sem, ↓reduceIte, Nat.reduceAdd, Nat.reduceSub, Nat.reduceMul, Nat.reduceEqDiff, reduceCtorEq, Int.reduceAdd, Int.reduceLT, Int.reduceLE, Int.reduceToNat, Int.reduceNeg, Int.reduceSub, ← List.map_take, ← List.map_drop, ne_eq, Nat.reduceLeDiff, Nat.reduceLT, Nat.zero_le, Nat.le_refl, wrap64, wrapu64, wrapu32, ← Int.natCast_add, ← Int.natCast_mul, cast_succ, wrapu32_nat, shr32, reps_wd, map_set_wd, List.length_set, zs_len, C1, q1, k1, k2, k5, k6, k7, k8, u1, u2, u3, u4, u5, u6, u7, Int.reduceEq, places, fillAll]
          exact ⟨by omega, fun i hi1 hi2 => k4 i hi2⟩
        · have a1 : (pw D bx byy n).1 = x := by rw [hend]
          have a2 : (pw D bx byy n).2 = y := by rw [hend]
          have q1 : (cmpI y y ≤ 0) = True := by rw [cmpI_le]; exact eq_true (Int.le_refl _)
          have q2 : (cmpI y y = 0) = True := by rw [cmpI_z]; exact eq_true rfl
          have q3 : (cmpI x x = 0) = True := by rw [cmpI_z]; exact eq_true rfl
          rw [if_pos hend]
          rw [a1, a2] at k1
          rw [a2] at C1
          rw [a1] at C2
          clear hbd hmn hle hfit z1 z2 z3 hN hbef hend a1 a2 l1
          generalize cmpI y y = cb at *
          generalize cmpI x x = ca at *
          simp (maxSteps := 4000000) only [go_sem, ↓reduceIte, Nat.reduceAdd, Nat.reduceSub, Nat.reduceMul, Nat.reduceEqDiff, reduceCtorEq, Int.reduceAdd, Int.reduceLT, Int.reduceLE, Int.reduceToNat, Int.reduceNeg, Int.reduceSub, ← List.map_take, ← List.map_drop, ne_eq, Nat.reduceLeDiff, Nat.reduceLT, Nat.zero_le, Nat.le_refl, wrap64, wrapu64, wrapu32, ← Int.natCast_add, ← Int.natCast_mul, cast_succ, wrapu32_nat, shr32, reps_wd, map_set_wd, List.length_set, zs_len, C1, C2, q1, q2, q3, k1, k2, k5, k6, k7, k8, u1, u2, u3, u4, u5, u6, u7, Int.reduceEq, places, fillAll]
          refine ⟨by omega, fun i hi1 hi2 => ?_⟩
          rw [if_neg hi1]
          exact k4 i hi2
      · have hne : ¬ ((pw D bx byy n).1 = x ∧ (pw D bx byy n).2 = y) := fun h => (hbef n (by omega)).2 (Prod.ext h.1 h.2)
        have q1 : (cmpI (pw D bx byy n).2 y ≤ 0) = True := by rw [z1]; exact eq_true (hbef n (by omega)).1
        have hsc := pw_succ D bx byy n
        have hd1 := congrArg Prod.fst hsc
        have hd2 := congrArg Prod.snd hsc
        dsimp only at hd1 hd2
        have t1 := times_in D (pw D bx byy n).1 (pw D bx byy n).2 bx byy (pw D bx byy (n + 1)).1 false false false false ⟨hD1, hD⟩ (hbd _).1 (hbd _).2.1 (hbd _).2.2.1 hpos.1 hpos.2.1 hpos.2.2 (by rw [hd1]; exact Int.le_refl _) (hle (n + 1) (by omega)).1
        rw [← hd1, ← hd2] at t1
        clear hd1 hd2 hsc
        generalize hX2 : (pw D bx byy (n + 1)).1 = X2 at *
        generalize hY2 : (pw D bx byy (n + 1)).2 = Y2 at *
        by_cases ha : (pw D bx byy n).1 = x
        · have q2 : (cmpI (pw D bx byy n).2 y = 0) = False := by rw [z2]; exact eq_false fun h => hne ⟨ha, h⟩
          have q3 : (cmpI (pw D bx byy n).1 x = 0) = True := by rw [z3]; exact eq_true ha
          generalize cmpI (pw D bx byy n).1 x = ca at *
          generalize cmpI (pw D bx byy n).2 y = cb at *
          generalize (pw D bx byy n).1 = X at *
          generalize (pw D bx byy n).2 = Y at *
          clear hbd hmn hle hfit l1 z1 z2 z3 hne hN
          simp (maxSteps := 4000000) only [go_sem, ↓reduceIte, Nat.reduceAdd, Nat.reduceSub, Nat.reduceMul, Nat.reduceEqDiff, reduceCtorEq, Int.reduceAdd, Int.reduceLT, Int.reduceLE, Int.reduceToNat, Int.reduceNeg, Int.reduceSub, ← List.map_take, ← List.map_drop, ne_eq, Nat.reduceLeDiff, Nat.reduceLT, Nat.zero_le, Nat.le_refl, wrap64, wrapu64, wrapu32, ← Int.natCast_add, ← Int.natCast_mul, cast_succ, wrapu32_nat, shr32, reps_wd, map_set_wd, List.length_set, zs_len, C1, C2, q1, q2, q3, t1, k1, k2, k5, k6, k7, k8, u1, u2, u3, u4, u5, u6, u7, wn, Int.reduceEq, places, fillAll]
          refine ⟨k - 1, by omega, n + 1, garb rfl, hn, by omega, ?_, fun i hi => ?_⟩
          · rw [hX2, hY2]
          · (repeat rw [if_neg (by omega)])
            exact k4 i hi
        · have q3 : (cmpI (pw D bx byy n).1 x = 0) = False := by rw [z3]; exact eq_false ha
          generalize cmpI (pw D bx byy n).1 x = ca at *
          generalize cmpI (pw D bx byy n).2 y = cb at *
          generalize (pw D bx byy n).1 = X at *
          generalize (pw D bx byy n).2 = Y at *
          clear hbd hmn hle hfit l1 z1 z2 z3 hne hN ha
          simp (maxSteps := 4000000) only [go_sem, ↓reduceIte, Nat.reduceAdd, Nat.reduceSub, Nat.reduceMul, Nat.reduceEqDiff, reduceCtorEq, Int.reduceAdd, Int.reduceLT, Int.reduceLE, Int.reduceToNat, Int.reduceNeg, Int.reduceSub, ← List.map_take, ← List.map_drop, ne_eq, Nat.reduceLeDiff, Nat.reduceLT, Nat.zero_le, Nat.le_refl, wrap64, wrapu64, wrapu32, ← Int.natCast_add, ← Int.natCast_mul, cast_succ, wrapu32_nat, shr32, reps_wd, map_set_wd, List.length_set, zs_len, C1, C2, q1, q3, t1, k1, k2, k5, k6, k7, k8, u1, u2, u3, u4, u5, u6, u7, wn, Int.reduceEq, places, fillAll]
          refine ⟨k - 1, by omega, n + 1, garb rfl, hn, by omega, ?_, fun i hi => ?_⟩
          · rw [hX2, hY2]
          · (repeat rw [if_neg (by omega)])
            exact k4 i hi

  obtain ⟨v, h', n', h1, rfl, h2⟩ := key
  exact ⟨h', n', h1, h2⟩
set_option maxHeartbeats 2000000 in
theorem index1_pan (D r : Int) (hr : Rt D r) (hD : D ≤ 1000000) (L : Nat) (hL : Per D r L) (x y : Int) (fx fy : Bool) (lx : (dg x).length ≤ 4096) (ly : (dg y).length ≤ 4096) (N : Nat) (hfit : (dg (pw D (LX D r L) (LY D r L) N).1).length ≤ 4096)
    (hbef : ∀ k, k ≤ N → (pw D (LX D r L) (LY D r L) k).2 ≤ y ∧ pw D (LX D r L) (LY D r L) k ≠ (x, y)) (hover : ¬ (dg (pw D (LX D r L) (LY D r L) (N + 1)).1).length ≤ 4096)
    (pd py px po : Nat) (h : Heap) (nx : Nat) (ld : pd < nx) (lpy : py < nx) (lpx : px < nx) (lo : po < nx) (n1 : po ≠ pd) (n2 : po ≠ py) (n3 : po ≠ px) (hd : h pd = some ⟨[.int .i64 D], false, 1, false⟩) (hy : h py = some (drw fy y)) (hx : h px = some (drw fx x)) (ho : h po = some (orow (-1))) :
    ∃ h' n', denO E 54 [.ptr pd 0, .ptr py 0, .ptr px 0, .ptr po 0] h nx = some (.panic (Thr 4), h', n') ∧ nx ≤ n' ∧ h' po = some (orow (-1)) ∧ ∀ i, i ≠ po → i < nx → h' i = h i := by
  have c1 := least_spec D r hr hD L hL
  have hpos := LXY_pos hr L
  have htwo := LXY_two hr hL
  have hlb := (LXY_len' hr hD hL).1
  have hD1 : 1 ≤ D := by
    have := hr.lo
    have := Int.mul_nonneg (show 0 ≤ r by have := hr.pos; omega) (show 0 ≤ r by have := hr.pos; omega)
    omega
  clear hL hr
  generalize LX D r L = bx at *
  generalize LY D r L = byy at *
  have hbd := pw_bounds hD1 hpos.1 hpos.2.1 hpos.2.2
  have hmn := pw_mono hD1 hpos.1 hpos.2.1 hpos.2.2
  have hle : ∀ k, k ≤ N → (dg (pw D bx byy k).1).length ≤ 4096 ∧ (dg (pw D bx byy k).2).length ≤ 4096 := fun k hk => by
    have h1 := hmn k (N - k)
    rw [show k + (N - k) = N by omega] at h1
    have h2 := hbd k
    exact ⟨Nat.le_trans (dg_mono (by omega)) hfit, Nat.le_trans (dg_mono (by omega)) hfit⟩
  have hN := two_len (pw_two hD1 htwo.1 htwo.2 hpos.2.2 N) hfit
  have o1 := of_spec 1 (by decide) (by decide)
  have o0 := of_spec 0 (by decide) (by decide)
  have key : ∃ v h' n', denO E 54 [.ptr pd 0, .ptr py 0, .ptr px 0, .ptr po 0] h nx = some (.panic v, h', n') ∧ v = Thr 4 ∧ nx ≤ n' ∧ h' po = some (orow (-1)) ∧ ∀ i, i ≠ po → i < nx → h' i = h i := by
    refine denO_pan E54 rfl ?_
    have ipdnx0 : (pd = nx) = False := eq_false (by omega); have jpdnx0 : (nx = pd) = False := eq_false (by omega); have ipdnx1 : (pd = nx + 1) = False := eq_false (by omega); have jpdnx1 : (nx + 1 = pd) = False := eq_false (by omega); have ipdnx2 : (pd = nx + 2) = False := eq_false (by omega); have jpdnx2 : (nx + 2 = pd) = False := eq_false (by omega)
    have ipynx0 : (py = nx) = False := eq_false (by omega); have jpynx0 : (nx = py) = False := eq_false (by omega); have ipynx1 : (py = nx + 1) = False := eq_false (by omega); have jpynx1 : (nx + 1 = py) = False := eq_false (by omega); have ipynx2 : (py = nx + 2) = False := eq_false (by omega); have jpynx2 : (nx + 2 = py) = False := eq_false (by omega)
    have ipxnx0 : (px = nx) = False := eq_false (by omega); have jpxnx0 : (nx = px) = False := eq_false (by omega); have ipxnx1 : (px = nx + 1) = False := eq_false (by omega); have jpxnx1 : (nx + 1 = px) = False := eq_false (by omega); have ipxnx2 : (px = nx + 2) = False := eq_false (by omega); have jpxnx2 : (nx + 2 = px) = False := eq_false (by omega)
    have iponx0 : (po = nx) = False := eq_false (by omega); have jponx0 : (nx = po) = False := eq_false (by omega); have iponx1 : (po = nx + 1) = False := eq_false (by omega); have jponx1 : (nx + 1 = po) = False := eq_false (by omega); have iponx2 : (po = nx + 2) = False := eq_false (by omega); have jponx2 : (nx + 2 = po) = False := eq_false (by omega)
    simp (maxSteps := 4000000) only [go_sem, ↓reduceIte, Nat.reduceAdd, Nat.reduceSub, Nat.reduceMul, Nat.reduceEqDiff, reduceCtorEq, Int.reduceAdd, Int.reduceLT, Int.reduceLE, Int.reduceToNat, Int.reduceNeg, Int.reduceSub, ← List.map_take, ← List.map_drop, ne_eq, Nat.reduceLeDiff, Nat.reduceLT, Nat.zero_le, Nat.le_refl, wrap64, wrapu64, wrapu32, ← Int.natCast_add, ← Int.natCast_mul, cast_succ, wrapu32_nat, shr32, reps_wd, map_set_wd, List.length_set, zs_len, Try.f54, hd, places, fillAll]
    obtain ⟨QQ, hQQ⟩ : ∃ QQ : Ex → St → Prop, QQ = fun ex τ => ex = .norm ∧ (∃ g : Nat → AV, τ.sl = [.ptr pd 0, .ptr py 0, .ptr px 0, .ptr po 0, .ptr nx 0, .ptr (nx + 1) 0, g 6, g 7, g 8, g 9, g 10, g 11, g 12, g 13, g 14, g 15, g 16, g 17, g 18, g 19, g 20, g 21, g 22, g 23, g 24, g 25, g 26, g 27, g 28, g 29, g 30, g 31, g 32, g 33, g 34, g 35]) ∧ nx + 2 ≤ τ.nx ∧ τ.h nx = some (pqrow false 1 false 0) ∧ τ.h (nx + 1) = some (pqrow false bx false byy) ∧ ∀ i, i < nx → τ.h i = h i := ⟨_, rfl⟩
    refine W_mono (Q := QQ) ?_ ?_
    · refine W_drawn2 ?_
      simp (maxSteps := 4000000) only [go_sem, ↓reduceIte, Nat.reduceAdd, Nat.reduceSub, Nat.reduceMul, Nat.reduceEqDiff, reduceCtorEq, Int.reduceAdd, Int.reduceLT, Int.reduceLE, Int.reduceToNat, Int.reduceNeg, Int.reduceSub, ← List.map_take, ← List.map_drop, ne_eq, Nat.reduceLeDiff, Nat.reduceLT, Nat.zero_le, Nat.le_refl, wrap64, wrapu64, wrapu32, ← Int.natCast_add, ← Int.natCast_mul, cast_succ, wrapu32_nat, shr32, reps_wd, map_set_wd, List.length_set, zs_len, hd, c1, o1, o0, Nat.add_assoc, off_ne, ne_off, ipdnx0, jpdnx0, ipdnx1, jpdnx1, ipdnx2, jpdnx2, places, fillAll]
      refine ⟨by exact allW_of [] [0, 1, 3, 0, 11, 0, 0, 127, 255] (by kernel_rfl) (by ((simp only [List.flatMap_cons, List.flatMap_nil, cr, List.append_nil, List.nil_append, List.cons_append]); rfl)) (by ((simp (disch := omega) [sts, stB, allS, stOk, cr, Dep.ok, loadEff, upd_apply, if_neg, T1, T2, T3, T4, T5, T6, T9, T10, T11, T12, T15, T16, T17, T20, T21, T22, T23, T25, T26, T27, T28, T30, T31, T32, T33, T34, T36, T37, T38, T39, T40, T41, T43, T44, T46, T47, T48, T49, T50, T51, T52, T53, T54, T55, T56, T57, T58, T59, T60, T61, T62, T63, T64, T65, T67, T68, T69, T70, T71, T72, T73, T74, T75, T76, T77, T78, T80, T81, T83, T84, T86, T87, T88, T89, T90, T91, T93, T94, T95, T96, T98, T99, T100, T101, T103, T105, T106, T107, T108, T109, T110, T111, T112, T113, T114, T117, T120, T121, T122, T123, T124, T125, T126, hd, Nat.add_assoc, Nat.reduceAdd, off_ne, ne_off, ipdnx0, jpdnx0, ipdnx1, jpdnx1, ipdnx2, jpdnx2, off_ne, ne_off]) <;> (repeat (any_goals apply And.intro)) <;> (first | omega | rfl | (intro hx; first | omega | rfl)))) (by ((repeat ((with_unfolding_all refine And.intro ?_ ?_); (focus ((with_unfolding_all refine ⟨?_, ?_, ?_⟩) <;> ((intro i hi hj); (simp only [cr, Rec.ids, List.map_cons, List.map_nil, List.mem_cons, List.not_mem_nil, or_false, false_or] at hi hj); (first | done | omega)))))); (with_unfolding_all exact True.intro))), ?_⟩
      rw [hQQ]
      refine ⟨rfl, garb rfl, by dsimp only; omega, ?_, ?_, ?_⟩
      · simp only [upd_apply, ↓reduceIte, Nat.reduceEqDiff, Nat.add_assoc, off_ne, ne_off, Nat.add_right_inj]
      · simp only [upd_apply, ↓reduceIte, Nat.reduceEqDiff, Nat.add_assoc, off_ne, ne_off, Nat.add_right_inj]
      · intro i hi
        (repeat (refine (upd_ne (by omega)).trans ?_))
        rfl
    · rw [hQQ]
      clear hQQ QQ c1 o1 o0
      rintro ex ⟨sl, H', nn⟩ ⟨rfl, ⟨g', rfl⟩, hn, k1, k2, k4⟩
      dsimp only at hn k1 k2 k4
      have k5 := (k4 pd (by omega)).trans hd
      have k6 := (k4 py (by omega)).trans hy
      have k7 := (k4 px (by omega)).trans hx
      have k8 := (k4 po (by omega)).trans ho
      clear hd hy hx ho
      generalize hrb : nx + 1 = rb at *
      simp (maxSteps := 4000000) only [go_sem, ↓reduceIte, Nat.reduceAdd, Nat.reduceSub, Nat.reduceMul, Nat.reduceEqDiff, reduceCtorEq, Int.reduceAdd, Int.reduceLT, Int.reduceLE, Int.reduceToNat, Int.reduceNeg, Int.reduceSub, ← List.map_take, ← List.map_drop, ne_eq, Nat.reduceLeDiff, Nat.reduceLT, Nat.zero_le, Nat.le_refl, wrap64, wrapu64, wrapu32, ← Int.natCast_add, ← Int.natCast_mul, cast_succ, wrapu32_nat, shr32, reps_wd, map_set_wd, List.length_set, zs_len, k1]
      refine W_loopS (fun k sl h' m => ∃ n : Nat, (∃ g : Nat → AV, sl = [.ptr pd 0, .ptr py 0, .ptr px 0, .ptr po 0, .ptr nx 0, .ptr rb 0, .int .i64 (n : Int), g 7, g 8, g 9, g 10, g 11, g 12, g 13, g 14, g 15, g 16, g 17, g 18, g 19, g 20, g 21, g 22, g 23, g 24, g 25, g 26, g 27, g 28, g 29, g 30, g 31, g 32, g 33, g 34, g 35]) ∧ nx + 2 ≤ m ∧ n + k = N ∧
        h' nx = some (pqrow false (pw D bx byy n).1 false (pw D bx byy n).2) ∧ h' rb = some (pqrow false bx false byy) ∧ h' pd = some ⟨[.int .i64 D], false, 1, false⟩ ∧ h' py = some (drw fy y) ∧ h' px = some (drw fx x) ∧ h' po = some (orow (-1)) ∧ ∀ i, i < nx → h' i = h i) N ⟨0, garb rfl, hn, by omega, k1, k2, k5, k6, k7, k8, k4⟩ ?_
      clear k1 k2 k4 k5 k6 k7 k8 hn
      rintro k _ h' m ⟨n, ⟨g, rfl⟩, hn, hk, k1, k2, k5, k6, k7, k8, k4⟩
      have u1 : (nx = rb) = False := eq_false (by omega)
      have u2 : (rb = nx) = False := eq_false (by omega)
      have u3 : (pd = nx) = False := eq_false (by omega)
      have u4 : (py = nx) = False := eq_false (by omega)
      have u5 : (px = nx) = False := eq_false (by omega)
      have u6 : (po = nx) = False := eq_false (by omega)
      have u7 : (nx = po) = False := eq_false (by omega)
      have wn : IntKind.i64.wrap ((n + 1 : Nat) : Int) = ((n + 1 : Nat) : Int) := wrap64 (by omega) (by omega)
      have l1 := hle n (by omega)
      have C1 := exCmp_ret false fy (pw D bx byy n).2 y l1.2 ly
      have C2 := exCmp_ret false fx (pw D bx byy n).1 x l1.1 lx
      have z1 := cmpI_le (pw D bx byy n).2 y
      have z2 := cmpI_z (pw D bx byy n).2 y
      have z3 := cmpI_z (pw D bx byy n).1 x
      simp only [drw] at k6 k7
      by_cases hk0 : k = 0
      · obtain rfl : n = N := by omega
        have hne : ¬ ((pw D bx byy n).1 = x ∧ (pw D bx byy n).2 = y) := fun h => (hbef n (Nat.le_refl _)).2 (Prod.ext h.1 h.2)
        have q1 : (cmpI (pw D bx byy n).2 y ≤ 0) = True := by rw [z1]; exact eq_true (hbef n (Nat.le_refl _)).1
        have hsc := pw_succ D bx byy n
        have hd1 := congrArg Prod.fst hsc
        dsimp only at hd1
        rw [hd1] at hover
        have t1 := pairTimes_pan D (pw D bx byy n).1 (pw D bx byy n).2 bx byy false false false false ⟨hD1, hD⟩ (hbd _).1 (hbd _).2.1 (hbd _).2.2.1 hpos.1 hpos.2.1 hpos.2.2 l1.1 (by omega) hover
        clear hd1 hsc hover
        generalize hX2 : (pw D bx byy (n + 1)).1 = X2 at *
        generalize hY2 : (pw D bx byy (n + 1)).2 = Y2 at *
        by_cases ha : (pw D bx byy n).1 = x
        · have q2 : (cmpI (pw D bx byy n).2 y = 0) = False := by rw [z2]; exact eq_false fun h => hne ⟨ha, h⟩
          have q3 : (cmpI (pw D bx byy n).1 x = 0) = True := by rw [z3]; exact eq_true ha
          generalize cmpI (pw D bx byy n).1 x = ca at *
          generalize cmpI (pw D bx byy n).2 y = cb at *
          generalize (pw D bx byy n).1 = X at *
          generalize (pw D bx byy n).2 = Y at *
          clear hbd hmn hle hfit l1 z1 z2 z3 hne hN
          simp (maxSteps := 4000000) only [go_sem, ↓reduceIte, Nat.reduceAdd, Nat.reduceSub, Nat.reduceMul, Nat.reduceEqDiff, reduceCtorEq, Int.reduceAdd, Int.reduceLT, Int.reduceLE, Int.reduceToNat, Int.reduceNeg, Int.reduceSub, ← List.map_take, ← List.map_drop, ne_eq, Nat.reduceLeDiff, Nat.reduceLT, Nat.zero_le, Nat.le_refl, wrap64, wrapu64, wrapu32, ← Int.natCast_add, ← Int.natCast_mul, cast_succ, wrapu32_nat, shr32, reps_wd, map_set_wd, List.length_set, zs_len, C1, C2, q1, q2, q3, t1, k1, k2, k5, k6, k7, k8, u1, u2, u3, u4, u5, u6, u7, wn, Int.reduceEq, places, fillAll]
          exact ⟨by omega, fun i hi1 hi2 => k4 i hi2⟩
        · have q3 : (cmpI (pw D bx byy n).1 x = 0) = False := by rw [z3]; exact eq_false ha
          generalize cmpI (pw D bx byy n).1 x = ca at *
          generalize cmpI (pw D bx byy n).2 y = cb at *
          generalize (pw D bx byy n).1 = X at *
          generalize (pw D bx byy n).2 = Y at *
          clear hbd hmn hle hfit l1 z1 z2 z3 hne hN ha
          simp (maxSteps := 4000000) only [go_sem, ↓reduceIte, Nat.reduceAdd, Nat.reduceSub, Nat.reduceMul, Nat.reduceEqDiff, reduceCtorEq, Int.reduceAdd, Int.reduceLT, Int.reduceLE, Int.reduceToNat, Int.reduceNeg, Int.reduceSub, ← List.map_take, ← List.map_drop, ne_eq, Nat.reduceLeDiff, Nat.reduceLT, Nat.zero_le, Nat.le_refl, wrap64, wrapu64, wrapu32, ← Int.natCast_add, ← Int.natCast_mul, cast_succ, wrapu32_nat, shr32, reps_wd, map_set_wd, List.length_set, zs_len, C1, C2, q1, q3, t1, k1, k2, k5, k6, k7, k8, u1, u2, u3, u4, u5, u6, u7, wn, Int.reduceEq, places, fillAll]
          exact ⟨by omega, fun i hi1 hi2 => k4 i hi2⟩
      · have hne : ¬ ((pw D bx byy n).1 = x ∧ (pw D bx byy n).2 = y) := fun h => (hbef n (by omega)).2 (Prod.ext h.1 h.2)
        have q1 : (cmpI (pw D bx byy n).2 y ≤ 0) = True := by rw [z1]; exact eq_true (hbef n (by omega)).1
        have hsc := pw_succ D bx byy n
        have hd1 := congrArg Prod.fst hsc
        have hd2 := congrArg Prod.snd hsc
        dsimp only at hd1 hd2
        have t1 := times_in D (pw D bx byy n).1 (pw D bx byy n).2 bx byy (pw D bx byy (n + 1)).1 false false false false ⟨hD1, hD⟩ (hbd _).1 (hbd _).2.1 (hbd _).2.2.1 hpos.1 hpos.2.1 hpos.2.2 (by rw [hd1]; exact Int.le_refl _) (hle (n + 1) (by omega)).1
        rw [← hd1, ← hd2] at t1
        clear hd1 hd2 hsc
        generalize hX2 : (pw D bx byy (n + 1)).1 = X2 at *
        generalize hY2 : (pw D bx byy (n + 1)).2 = Y2 at *
        by_cases ha : (pw D bx byy n).1 = x
        · have q2 : (cmpI (pw D bx byy n).2 y = 0) = False := by rw [z2]; exact eq_false fun h => hne ⟨ha, h⟩
          have q3 : (cmpI (pw D bx byy n).1 x = 0) = True := by rw [z3]; exact eq_true ha
          generalize cmpI (pw D bx byy n).1 x = ca at *
          generalize cmpI (pw D bx byy n).2 y = cb at *
          generalize (pw D bx byy n).1 = X at *
          generalize (pw D bx byy n).2 = Y at *
          clear hbd hmn hle hfit l1 z1 z2 z3 hne hN
          simp (maxSteps := 4000000) only [go_sem, ↓reduceIte, Nat.reduceAdd, Nat.reduceSub, Nat.reduceMul, Nat.reduceEqDiff, reduceCtorEq, Int.reduceAdd, Int.reduceLT, Int.reduceLE, Int.reduceToNat, Int.reduceNeg, Int.reduceSub, ← List.map_take, ← List.map_drop, ne_eq, Nat.reduceLeDiff, Nat.reduceLT, Nat.zero_le, Nat.le_refl, wrap64, wrapu64, wrapu32, ← Int.natCast_add, ← Int.natCast_mul, cast_succ, wrapu32_nat, shr32, reps_wd, map_set_wd, List.length_set, zs_len, C1, C2, q1, q2, q3, t1, k1, k2, k5, k6, k7, k8, u1, u2, u3, u4, u5, u6, u7, wn, Int.reduceEq, places, fillAll]
          refine ⟨k - 1, by omega, n + 1, garb rfl, hn, by omega, ?_, fun i hi => ?_⟩
          · rw [hX2, hY2]
          · (repeat rw [if_neg (by omega)])
            exact k4 i hi
        · have q3 : (cmpI (pw D bx byy n).1 x = 0) = False := by rw [z3]; exact eq_false ha
          generalize cmpI (pw D bx byy n).1 x = ca at *
          generalize cmpI (pw D bx byy n).2 y = cb at *
          generalize (pw D bx byy n).1 = X at *
          generalize (pw D bx byy n).2 = Y at *
          clear hbd hmn hle hfit l1 z1 z2 z3 hne hN ha
          simp (maxSteps := 4000000) only [go_sem, ↓reduceIte, Nat.reduceAdd, Nat.reduceSub, Nat.reduceMul, Nat.reduceEqDiff, reduceCtorEq, Int.reduceAdd, Int.reduceLT, Int.reduceLE, Int.reduceToNat, Int.reduceNeg, Int.reduceSub, ← List.map_take, ← List.map_drop, ne_eq, Nat.reduceLeDiff, Nat.reduceLT, Nat.zero_le, Nat.le_refl, wrap64, wrapu64, wrapu32, ← Int.natCast_add, ← Int.natCast_mul, cast_succ, wrapu32_nat, shr32, reps_wd, map_set_wd, List.length_set, zs_len, C1, C2, q1, q3, t1, k1, k2, k5, k6, k7, k8, u1, u2, u3, u4, u5, u6, u7, wn, Int.reduceEq, places, fillAll]
          refine ⟨k - 1, by omega, n + 1, garb rfl, hn, by omega, ?_, fun i hi => ?_⟩
          · rw [hX2, hY2]
          · (repeat rw [if_neg (by omega)])
            exact k4 i hi

  obtain ⟨v, h', n', h1, rfl, h2⟩ := key
  exact ⟨h', n', h1, h2⟩
end Go.Proofs.Ytiglncbaomoceaa

/- Every unit is a power of the first one. (Own work of this repo.) -/
namespace Pel
variable {D r : Int}
theorem abs_sq {z w : Int} (h1 : z ≤ w) (h2 : -w ≤ z) : z * z ≤ w * w := by
  have h := Int.mul_nonneg (show 0 ≤ w - z by omega) (show 0 ≤ w + z by omega)
  have e : (w - z) * (w + z) = w * w - z * z := by grind
  omega
theorem rt_D (hr : Rt D r) : 2 ≤ D := by
  have := hr.lo
  have := Int.mul_le_mul_of_nonneg_left hr.pos (show 0 ≤ r by have := hr.pos; omega)
  have := hr.pos
  omega
/-- A step of Euclid on the coordinates of a small value. -/
theorem coord_ge (hr : Rt D r) (n : Nat) {u v : Int} (hu : 1 ≤ u) (hv : 1 ≤ v) (hg : -1 ≤ (P D r (n + 1)).2 * (u * u) - 2 * ((P D r (n + 1)).1 * (u * v)) - (P D r n).2 * (v * v)) : A D r (n + 1) * v ≤ u := by
  refine Int.not_lt.1 fun hlt => ?_
  have hs := stg hr n
  have hq := q_mul hr n
  have ⟨ha, _⟩ := fl_spec (x := r + (P D r (n + 1)).1) hs.q0
  have haA : (r + (P D r (n + 1)).1) / (P D r (n + 1)).2 = A D r (n + 1) := rfl
  rw [haA] at ha
  have hq0 := hs.q0
  have hpr := hs.pr
  have hp0 := hs.p0
  have hr1 := hr.pos
  have hlo := hr.lo
  generalize A D r (n + 1) = a at *
  generalize (P D r (n + 1)).1 = p at *
  generalize (P D r (n + 1)).2 = q' at *
  generalize (P D r n).2 = q at *
  clear hs haA
  -- the bounds of z
  have b1 : q' * u ≤ q' * (a * v - 1) := Int.mul_le_mul_of_nonneg_left (by omega) (by omega)
  have b2 : q' * a * v ≤ (r + p) * v := Int.mul_le_mul_of_nonneg_right ha (by omega)
  have b3 : q' * 1 ≤ q' * u := Int.mul_le_mul_of_nonneg_left hu (by omega)
  have b4 : p * v ≤ r * v := Int.mul_le_mul_of_nonneg_right hpr (by omega)
  have e1 : q' * (a * v - 1) = q' * a * v - q' := by grind
  have e2 : (r + p) * v = r * v + p * v := by grind
  have hz := abs_sq (z := q' * u - p * v) (w := r * v - q') (by omega) (by omega)
  have hqr : q' ≤ r * v := by omega
  have b5 : q' * q' ≤ q' * (r * v) := Int.mul_le_mul_of_nonneg_left hqr (by omega)
  have e3 : (r * v - q') * (r * v - q') = r * r * (v * v) - 2 * (q' * (r * v)) + q' * q' := by grind
  have b6 : (r * r + 1) * (v * v) ≤ D * (v * v) := Int.mul_le_mul_of_nonneg_right (by omega) (Int.mul_nonneg (by omega) (by omega))
  have e4 : (r * r + 1) * (v * v) = r * r * (v * v) + v * v := by grind
  have b7 : q' * 1 ≤ q' * (r * v) := Int.mul_le_mul_of_nonneg_left (by omega) (by omega)
  have b8 : 1 * 1 ≤ v * v := Int.mul_le_mul hv hv (by omega) (by omega)
  have b9 : q' * (-1) ≤ q' * (q' * (u * u) - 2 * (p * (u * v)) - q * (v * v)) := Int.mul_le_mul_of_nonneg_left hg (by omega)
  have e5 : q' * (q' * (u * u) - 2 * (p * (u * v)) - q * (v * v)) = (q' * u - p * v) * (q' * u - p * v) - D * (v * v) := by
    have : D = q * q' + p * p := by omega
    rw [this]; grind
  omega
theorem one_of_mul {u w : Int} (hu : 1 ≤ u) (h : u * w = 1) : u = 1 ∧ w = 1 := by
  have hw : 1 ≤ w := by
    refine Int.not_lt.1 fun g => ?_
    have := Int.mul_nonneg (show 0 ≤ u by omega) (show 0 ≤ -w by omega)
    rw [Int.mul_neg] at this
    omega
  have h1 := Int.mul_le_mul_of_nonneg_left hw (show 0 ≤ u by omega)
  have h2 := Int.mul_le_mul_of_nonneg_right hu (show 0 ≤ w by omega)
  omega
/-- What has norm 1 or -1 is a convergent. -/
theorem conv_from (hr : Rt D r) {x y e : Int} (he : e = 1 ∨ e = -1) (hxy : x * x - D * (y * y) = e) : ∀ (m n : Nat) (u v : Int), u + v ≤ m → 1 ≤ u → 0 ≤ v → u * (H D r n).1.1 + v * (H D r n).2.1 = x → u * (H D r n).1.2 + v * (H D r n).2.2 = y →
    ∃ j, (H D r j).1 = (x, y) ∧ (P D r (j + 1)).2 = 1 ∧ sgn (j + 1) = e
  | 0, n, u, v, hm, hu, hv, hx, hy => by omega
  | m + 1, n, u, v, hm, hu, hv, hx, hy => by
    obtain ⟨n1, n2, n3⟩ := norms hr n
    have hs := stg hr n
    have hsg : sgn (n + 1) = - sgn n := rfl
    have hf : sgn (n + 1) * ((P D r (n + 1)).2 * (u * u) - 2 * ((P D r (n + 1)).1 * (u * v)) - (P D r n).2 * (v * v)) = e := by
      rw [← hxy, ← hx, ← hy, hsg]
      rw [hsg] at n1
      generalize sgn n = s at *
      generalize (H D r n).1.1 = h at *
      generalize (H D r n).1.2 = k at *
      generalize (H D r n).2.1 = h' at *
      generalize (H D r n).2.2 = k' at *
      generalize (P D r (n + 1)).1 = p at *
      generalize (P D r (n + 1)).2 = q' at *
      generalize (P D r n).2 = q at *
      have e1 : (u * h + v * h') * (u * h + v * h') - D * ((u * k + v * k') * (u * k + v * k')) = (u * u) * (h * h - D * (k * k)) + 2 * (u * v) * (h * h' - D * (k * k')) + (v * v) * (h' * h' - D * (k' * k')) := by grind
      rw [e1, n1, n2, n3]
      grind
    have hgl : -1 ≤ (P D r (n + 1)).2 * (u * u) - 2 * ((P D r (n + 1)).1 * (u * v)) - (P D r n).2 * (v * v) := by
      generalize (P D r (n + 1)).2 * (u * u) - 2 * ((P D r (n + 1)).1 * (u * v)) - (P D r n).2 * (v * v) = g at *
      rcases sgn_cases (n + 1) with ⟨_, h⟩ | ⟨_, h⟩ <;> rw [h] at hf <;> omega
    rcases Int.lt_or_le 0 v with hv1 | hv1
    · have hge := coord_ge hr n hu (by omega) hgl
      have ha := A_pos hr (n + 1)
      have hav : 1 * v ≤ A D r (n + 1) * v := Int.mul_le_mul_of_nonneg_right ha hv
      refine conv_from hr he hxy m (n + 1) v (u - A D r (n + 1) * v) (by omega) (by omega) (by omega) ?_ ?_
      · rw [H_succ, ← hx]; dsimp only; grind
      · rw [H_succ, ← hy]; dsimp only; grind
    · have hv0 : v = 0 := by omega
      subst hv0
      have h1 : (u * (u * (P D r (n + 1)).2)) = 1 := by
        have hp : 0 ≤ u * (u * (P D r (n + 1)).2) := Int.mul_nonneg (by omega) (Int.mul_nonneg (by omega) (by have := hs.q0; omega))
        have e1 : (P D r (n + 1)).2 * (u * u) - 2 * ((P D r (n + 1)).1 * (u * 0)) - (P D r n).2 * (0 * 0) = u * (u * (P D r (n + 1)).2) := by grind
        rw [e1] at hf
        generalize u * (u * (P D r (n + 1)).2) = g at *
        rcases sgn_cases (n + 1) with ⟨_, h⟩ | ⟨_, h⟩ <;> rw [h] at hf <;> omega
      obtain ⟨g1, g2⟩ := one_of_mul hu h1
      subst g1
      rw [Int.one_mul] at g2
      refine ⟨n, Prod.ext ?_ ?_, g2, ?_⟩
      · rw [← hx]; dsimp only; omega
      · rw [← hy]; dsimp only; omega
      · rw [g2] at hf; omega
theorem conv_of (hr : Rt D r) {x y e : Int} (he : e = 1 ∨ e = -1) (hxy : x * x - D * (y * y) = e) (hx : 0 ≤ x) (hy : 1 ≤ y) : ∃ j, (H D r j).1 = (x, y) ∧ (P D r (j + 1)).2 = 1 ∧ sgn (j + 1) = e := by
  have hlo := hr.lo
  have hr1 := hr.pos
  have hge : r * y ≤ x := by
    refine Int.not_lt.1 fun g => ?_
    have h1 := sq_le (a := x + 1) (b := r * y) (by omega) (by omega)
    have h2 : (r * r + 1) * (y * y) ≤ D * (y * y) := Int.mul_le_mul_of_nonneg_right (by omega) (Int.mul_nonneg (by omega) (by omega))
    have h3 : 1 * 1 ≤ y * y := Int.mul_le_mul hy hy (by omega) (by omega)
    have e1 : (x + 1) * (x + 1) = x * x + 2 * x + 1 := by grind
    have e2 : r * y * (r * y) = r * r * (y * y) := by grind
    have e3 : (r * r + 1) * (y * y) = r * r * (y * y) + y * y := by grind
    omega
  refine conv_from hr he hxy (y + (x - r * y)).toNat 0 y (x - r * y) (by omega) hy (by omega) ?_ ?_
  · show y * r + (x - r * y) * 1 = x; grind
  · show y * 1 + (x - r * y) * 0 = y; grind
theorem H_mono (hr : Rt D r) (m : Nat) : ∀ k, (H D r m).1.1 ≤ (H D r (m + k)).1.1 ∧ (H D r m).1.2 ≤ (H D r (m + k)).1.2
  | 0 => ⟨Int.le_refl _, Int.le_refl _⟩
  | k + 1 => by
    have h1 := H_mono hr m k
    have h2 := H_pos hr (m + k + 1)
    have e : (H D r (m + k + 1)).2 = (H D r (m + k)).1 := rfl
    rw [e] at h2
    rw [← Nat.add_assoc]
    omega
/-- No unit is less than the first one. -/
theorem unit_least (hr : Rt D r) {L : Nat} (hL : Per D r L) {x y e : Int} (he : e = 1 ∨ e = -1) (hxy : x * x - D * (y * y) = e) (hx : 0 ≤ x) (hy : 1 ≤ y) : (H D r (L - 1)).1.1 ≤ x ∧ (H D r (L - 1)).1.2 ≤ y := by
  obtain ⟨j, h1, h2, h3⟩ := conv_of hr he hxy hx hy
  have hj : L ≤ j + 1 := by
    refine Nat.not_lt.1 fun g => ?_
    exact hL.2.2 (j + 1) (by omega) g h2
  have hm := H_mono hr (L - 1) (j - (L - 1))
  rw [show L - 1 + (j - (L - 1)) = j by have := hL.1; omega, h1] at hm
  exact hm
/-- Every unit is a power of the first one. -/
theorem unit_pow (hr : Rt D r) {L : Nat} (hL : Per D r L) : ∀ (m : Nat) (x y e : Int), (e = 1 ∨ e = -1) → x * x - D * (y * y) = e → 1 ≤ x → 0 ≤ y → y ≤ m → ∃ n, pw D (H D r (L - 1)).1.1 (H D r (L - 1)).1.2 n = (x, y) := by
  intro m
  have hU := unit_norm hr hL
  have hp := H_pos hr (L - 1)
  have hD := rt_D hr
  have hs : sgn L = 1 ∨ sgn L = -1 := by rcases sgn_cases L with ⟨_, h⟩ | ⟨_, h⟩ <;> simp [h]
  have zero : ∀ x e : Int, (e = 1 ∨ e = -1) → x * x - D * (0 * 0) = e → 1 ≤ x → ∃ n, pw D (H D r (L - 1)).1.1 (H D r (L - 1)).1.2 n = (x, 0) := fun x e he hxy hx => by
    refine ⟨0, ?_⟩
    rw [pw_zero]
    have h1 : 1 * x ≤ x * x := Int.mul_le_mul_of_nonneg_right hx (by omega)
    have h2 : D * (0 * 0) = 0 := by rw [Int.zero_mul, Int.mul_zero]
    have : x = 1 := by omega
    rw [this]
  induction m with
  | zero =>
    intro x y e he hxy hx hy hm
    obtain rfl : y = 0 := by omega
    exact zero x e he hxy hx
  | succ m ih =>
    intro x y e he hxy hx hy hm
    rcases Int.lt_or_le 0 y with hy1 | hy1
    · obtain ⟨l1, l2⟩ := unit_least hr hL he hxy (by omega) hy1
      have hX := hp.1
      have hY := hp.2.1
      have nx : ∀ n, pw D (H D r (L - 1)).1.1 (H D r (L - 1)).1.2 (n + 1) = _ := fun n => pw_succ _ _ _ n
      generalize (H D r (L - 1)).1.1 = X at *
      generalize (H D r (L - 1)).1.2 = Y at *
      generalize sgn L = s at *
      clear hp zero
      have hss : s * s = 1 := by rcases hs with h | h <;> rw [h] <;> rfl
      -- the quotient
      have f1 : (s * (x * X - D * (y * Y))) * X + D * ((s * (y * X - x * Y)) * Y) = x := by
        have : (s * (x * X - D * (y * Y))) * X + D * ((s * (y * X - x * Y)) * Y) = s * x * (X * X - D * (Y * Y)) := by grind
        rw [this, hU]
        have : s * x * s = s * s * x := by grind
        rw [this, hss, Int.one_mul]
      have f2 : (s * (x * X - D * (y * Y))) * Y + (s * (y * X - x * Y)) * X = y := by
        have : (s * (x * X - D * (y * Y))) * Y + (s * (y * X - x * Y)) * X = s * y * (X * X - D * (Y * Y)) := by grind
        rw [this, hU]
        have : s * y * s = s * s * y := by grind
        rw [this, hss, Int.one_mul]
      have f3 : (s * (x * X - D * (y * Y))) * (s * (x * X - D * (y * Y))) - D * ((s * (y * X - x * Y)) * (s * (y * X - x * Y))) = e * s := by
        have : (s * (x * X - D * (y * Y))) * (s * (x * X - D * (y * Y))) - D * ((s * (y * X - x * Y)) * (s * (y * X - x * Y))) = s * s * ((x * x - D * (y * y)) * (X * X - D * (Y * Y))) := by grind
        rw [this, hU, hss, hxy, Int.one_mul]
      have f4 : (s * (y * X - x * Y)) * (y * X + x * Y) = y * y - s * e * (Y * Y) := by
        have : (s * (y * X - x * Y)) * (y * X + x * Y) = s * (y * y * (X * X - D * (Y * Y)) - Y * Y * (x * x - D * (y * y))) := by grind
        rw [this, hU, hxy]
        have : s * (y * y * s - Y * Y * e) = s * s * (y * y) - s * e * (Y * Y) := by grind
        rw [this, hss, Int.one_mul]
      have f5 : (s * (x * X - D * (y * Y))) * (x * X + D * (y * Y)) = D * (y * y) + s * e * (D * (Y * Y)) + e := by
        have : (s * (x * X - D * (y * Y))) * (x * X + D * (y * Y)) = s * (((x * x - D * (y * y)) + D * (y * y)) * ((X * X - D * (Y * Y)) + D * (Y * Y)) - D * (y * y) * (D * (Y * Y))) := by grind
        rw [this, hU, hxy]
        have : s * ((e + D * (y * y)) * (s + D * (Y * Y)) - D * (y * y) * (D * (Y * Y))) = s * s * (D * (y * y) + e) + s * e * (D * (Y * Y)) := by grind
        rw [this, hss]
        omega
      have hes : e * s = 1 ∨ e * s = -1 := by rcases he with h | h <;> rcases hs with h' | h' <;> rw [h, h'] <;> simp
      have hse : s * e = 1 ∨ s * e = -1 := by rw [Int.mul_comm]; exact hes
      have hyy : Y * Y ≤ y * y := sq_le (by omega) l2
      have hYY : 1 * 1 ≤ Y * Y := Int.mul_le_mul hY hY (by omega) (by omega)
      have hDy : D * (Y * Y) ≤ D * (y * y) := Int.mul_le_mul_of_nonneg_left hyy (by omega)
      have hDY : 2 * 1 ≤ D * (Y * Y) := Int.mul_le_mul hD (by omega) (by omega) (by omega)
      have p1 : 1 * 1 ≤ y * X := Int.mul_le_mul hy1 hX (by omega) (by omega)
      have p2 : 1 * 1 ≤ x * Y := Int.mul_le_mul hx hY (by omega) (by omega)
      have p3 : 1 * 1 ≤ x * X := Int.mul_le_mul hx hX (by omega) (by omega)
      have p4 : 1 * 1 ≤ y * Y := Int.mul_le_mul hy1 hY (by omega) (by omega)
      have p5 : 2 * 1 ≤ D * (y * Y) := Int.mul_le_mul hD (by omega) (by omega) (by omega)
      generalize s * (x * X - D * (y * Y)) = x' at *
      generalize s * (y * X - x * Y) = y' at *
      generalize e * s = es at *
      generalize s * e = se at *
      have hy' : 0 ≤ y' := by
        refine Int.not_lt.1 fun g => ?_
        have h1 := Int.mul_le_mul_of_nonneg_right (show y' ≤ -1 by omega) (show 0 ≤ y * X + x * Y by omega)
        rw [f4] at h1
        rcases hse with h | h <;> rw [h] at h1 <;> omega
      have hx0 : 0 ≤ x' := by
        refine Int.not_lt.1 fun g => ?_
        have h1 := Int.mul_le_mul_of_nonneg_right (show x' ≤ -1 by omega) (show 0 ≤ x * X + D * (y * Y) by omega)
        rw [f5] at h1
        rcases hse with h | h <;> rw [h] at h1 <;> omega
      have hx' : 1 ≤ x' := by
        refine Int.not_lt.1 fun g => ?_
        have h0 : x' = 0 := by omega
        rw [h0] at f3
        have : (D * (y' * y')) = 1 ∨ D * (y' * y') = -1 := by omega
        have hn : 0 ≤ y' * y' := Int.mul_nonneg hy' hy'
        rcases Int.lt_or_le 0 (y' * y') with h | h
        · have := Int.mul_le_mul hD (show 1 ≤ y' * y' by omega) (by omega) (by omega)
          omega
        · have h : y' * y' = 0 := by omega
          rw [h] at this
          omega
      have hlt : y' < y := by
        have h1 : y' * 1 ≤ y' * X := Int.mul_le_mul_of_nonneg_left hX hy'
        have h2 : 1 * 1 ≤ x' * Y := Int.mul_le_mul hx' hY (by omega) (by omega)
        omega
      obtain ⟨n, hn⟩ := ih x' y' es hes f3 hx' hy' (by omega)
      refine ⟨n + 1, ?_⟩
      rw [nx, hn]
      exact Prod.ext f1 f2
    · obtain rfl : y = 0 := by omega
      exact zero x e he hxy hx
/-- Powers of powers. -/
theorem pw_mul (D x y : Int) (m : Nat) : ∀ n, pw D (pw D x y m).1 (pw D x y m).2 n = pw D x y (m * n)
  | 0 => rfl
  | n + 1 => by
    rw [Nat.mul_succ, pw_succ D (pw D x y m).1 (pw D x y m).2 n, pw_mul D x y m n, pw_add D x y (m * n) m]
theorem pw_one (D x y : Int) : pw D x y 1 = (x, y) := by
  rw [show 1 = 0 + 1 from rfl, pw_succ, pw_zero]
  refine Prod.ext ?_ ?_ <;> dsimp only <;> grind
theorem pw_sgn {D x y : Int} (h : x * x - D * (y * y) = -1) : ∀ n, (pw D x y n).1 * (pw D x y n).1 - D * ((pw D x y n).2 * (pw D x y n).2) = sgn n
  | 0 => by rw [pw_zero]; show 1 * 1 - D * (0 * 0) = 1; simp
  | n + 1 => by
    have ih := pw_sgn h n
    rw [pw_succ]
    dsimp only
    generalize (pw D x y n).1 = a at *
    generalize (pw D x y n).2 = b at *
    have e : (a * x + D * (b * y)) * (a * x + D * (b * y)) - D * ((a * y + b * x) * (a * y + b * x)) = (a * a - D * (b * b)) * (x * x - D * (y * y)) := by grind
    rw [e, ih, h]
    show sgn n * -1 = - sgn n
    omega
theorem pw_one' {D x y : Int} (h : x * x - D * (y * y) = 1) : ∀ n, (pw D x y n).1 * (pw D x y n).1 - D * ((pw D x y n).2 * (pw D x y n).2) = 1
  | 0 => by rw [pw_zero]; simp
  | n + 1 => by
    have ih := pw_one' h n
    rw [pw_succ]
    dsimp only
    generalize (pw D x y n).1 = a at *
    generalize (pw D x y n).2 = b at *
    have e : (a * x + D * (b * y)) * (a * x + D * (b * y)) - D * ((a * y + b * x) * (a * y + b * x)) = (a * a - D * (b * b)) * (x * x - D * (y * y)) := by grind
    rw [e, ih, h]
    rfl
end Pel

/- Walks: the reference's Nth. (Own work of this repo.) -/
namespace Go.Proofs.Ytiglncbaomoceaa
open Vm
open Pel hiding allS
set_option maxRecDepth 10000

theorem pw_top {D X Y : Int} (hD : 1 ≤ D ∧ D ≤ 1000000) (hX : 1 ≤ X) (hY : 0 ≤ Y) (hYX : Y ≤ X) {b : Nat} (hb : X ≤ ((2 ^ b : Nat) : Int)) : ∀ n, (pw D X Y n).1 ≤ ((2 ^ ((b + 20) * n) : Nat) : Int)
  | 0 => by rw [pw_zero]; simp
  | n + 1 => by
    have ih := pw_top hD hX hY hYX hb n
    obtain ⟨h1, h2, h3, _⟩ := pw_bounds hD.1 hX hY hYX n
    rw [pw_succ]; dsimp only
    have e : (b + 20) * (n + 1) = (b + 20) * n + (b + 20) := by rw [Nat.mul_succ]
    rw [e, Nat.pow_add, Nat.pow_add 2 b 20, show 2 ^ 20 = 1048576 from rfl]
    generalize (pw D X Y n).1 = u at *
    generalize (pw D X Y n).2 = v at *
    generalize 2 ^ ((b + 20) * n) = p at *
    generalize 2 ^ b = q at *
    have a1 : v * Y ≤ u * X := Int.mul_le_mul h3 hYX hY (by omega)
    have a2 : D * (v * Y) ≤ 1000000 * (u * X) := Int.mul_le_mul hD.2 a1 (Int.mul_nonneg h2 hY) (by omega)
    have a3 : u * X ≤ p * q := Int.mul_le_mul ih hb (by omega) (by omega)
    have a4 : ((p * (q * 1048576) : Nat) : Int) = 1048576 * ((p : Int) * q) := by
      rw [Int.natCast_mul, Int.natCast_mul, Int.mul_comm 1048576, Int.mul_assoc]; rfl
    rw [a4]
    have a5 : 0 ≤ (p : Int) * q := Int.le_trans (Int.mul_nonneg (by omega) (by omega)) a3
    omega
/-- The lengths below the reference's bound. -/
theorem pw_len {D X Y : Int} (hD : 1 ≤ D ∧ D ≤ 1000000) (hX : 2 ≤ X) (hY : 0 ≤ Y) (hYX : Y ≤ X) {B n : Nat} (hB : bl X.natAbs = B + 1) (hB1 : 1 ≤ B) (hn : n ≤ 135168 / B) (k : Nat) (hk : k ≤ n) : (dg (pw D X Y k).1).length ≤ 100000 ∧ (dg (pw D X Y k).2).length ≤ 100000 := by
  have h0 := bl_lt X.natAbs
  rw [hB] at h0
  have h1 := pw_top hD (by omega) hY hYX (b := B + 1) (by omega) k
  obtain ⟨p1, p2, p3, _⟩ := pw_bounds hD.1 (show 1 ≤ X by omega) hY hYX k
  have h2 := (Nat.le_div_iff_mul_le (by omega)).1 hn
  have h3 : n * 1 ≤ n * B := Nat.mul_le_mul_left n hB1
  have h4 : (B + 1 + 20) * k ≤ (B + 1 + 20) * n := Nat.mul_le_mul_left _ hk
  have h5 : (B + 1 + 20) * n = n * B + 21 * n := by rw [Nat.add_assoc, Nat.add_mul, Nat.mul_comm B n]
  have h6 : 2 ^ ((B + 1 + 20) * k) < 2 ^ ((B + 1 + 20) * k + 1) := Nat.pow_lt_pow_right (by decide) (by omega)
  have h7 : (dg (pw D X Y k).1).length ≤ 100000 := by
    refine len_pow (b := (B + 1 + 20) * k + 1) (by omega) (by omega)
  exact ⟨h7, Nat.le_trans (dg_mono (by omega)) h7⟩
theorem bl_words {z : Int} {k : Nat} (h : (dg z).length ≤ k) : bl z.natAbs ≤ 32 * k := bl_le.2 (by rw [Nat.pow_mul]; exact dg_len.1 h)
set_option maxHeartbeats 2000000 in
theorem rNth_yes (D r : Int) (hr : Rt D r) (hD : D ≤ 1000000) (L : Nat) (hL : Per D r L) (n B : Nat) (hn63 : n < 9223372036854775808) (hB : bl (LX D r L).natAbs = B + 1) (hB1 : 1 ≤ B) (hn : n ≤ 135168 / B) :
    denP E 23 [.int .i64 D, .int .i64 (n : Int)] = some (.ret (.tup [RM (pw D (LX D r L) (LY D r L) n).1, RM (pw D (LX D r L) (LY D r L) n).2, .bool true])) := by
  refine denP_eq E23 rfl (by simp [AV.pureL, AV.pure, pure_wd]) ?_
  have hD1 : 1 ≤ D := by have := rt_D hr; omega
  have htwo := LXY_two hr hL
  have hpos := LXY_pos hr L
  have o1 := rLeast D r hr hD L hL
  have hl := LXY_len' hr hD hL
  have hbw := bl_words hl.1
  have o2 := rBits_spec (decide (LX D r L = 0)) (LX D r L) (by omega)
  have o3 := rOf_spec 1 (by decide) (by decide)
  have o4 := rOf_spec 0 (by decide) (by decide)
  have hln := pw_len (n := n) ⟨hD1, hD⟩ htwo.1 hpos.2.1 hpos.2.2 hB hB1 hn
  rw [hB] at o2
  generalize LX D r L = X at *
  generalize LY D r L = Y at *
  rw [RM] at o3 o4
  simp only [RM] at o1 ⊢
  have w1 : IntKind.i64.wrap (((B + 1 : Nat) : Int) - 1) = (B : Int) := by rw [wrap64 (by have := Nat.div_le_self 135168 B; omega) (by omega)]; omega
  have w2 : (135168 : Int).tdiv (B : Int) = ((135168 / B : Nat) : Int) := rfl
  have w3 : IntKind.i64.wrap ((135168 / B : Nat) : Int) = ((135168 / B : Nat) : Int) := wrap64 (by omega) (by have := Nat.div_le_self 135168 B; omega)
  have z1 : (((135168 / B : Nat) : Int) < (n : Int)) = False := eq_false (by omega)
  have z2 : ((B : Int) = 0) = False := eq_false (by omega)
  generalize 135168 / B = T at *
  simp (maxSteps := 4000000) only [go_sem, ↓reduceIte, Nat.reduceAdd, Nat.reduceSub, Nat.reduceMul, Nat.reduceEqDiff, reduceCtorEq, Int.reduceAdd, Int.reduceLT, Int.reduceLE, Int.reduceToNat, Int.reduceNeg, Int.reduceSub, ← List.map_take, ← List.map_drop, ne_eq, Nat.reduceLeDiff, Nat.reduceLT, Nat.zero_le, Nat.le_refl, wrap64, wrapu64, wrapu32, ← Int.natCast_add, ← Int.natCast_mul, cast_succ, wrapu32_nat, shr32, reps_wd, map_set_wd, List.length_set, zs_len, Try.f23, o1, o2, o3, o4, w1, w2, w3, z1, z2, places, fillAll]
  refine W_loopS (fun k sl h nn => ∃ a c : Nat, (∃ g : Nat → AV, sl = [.int .i64 D, .int .i64 (k : Int), g 2, g 3, .ptr 0 0, .ptr 1 0, g 6, .ptr 2 0, .ptr 3 0, .ptr 4 0, .ptr 5 0, g 11, g 12, g 13, g 14, g 15, g 16, g 17, g 18, g 19, g 20, g 21, g 22, g 23, g 24, g 25, g 26, g 27, g 28, g 29, g 30, g 31, g 32, g 33, g 34, g 35, g 36, g 37, g 38, g 39, g 40, g 41, g 42, g 43, g 44, g 45, g 46, g 47, g 48, g 49, g 50, g 51, g 52, g 53, g 54]) ∧ (h 0 = some ⟨[.bool false, .lst true []], true, 2, false⟩ ∧ h 1 = some ⟨[.bool false, .lst true []], true, 2, false⟩ ∧ h 2 = some (zz (pw D X Y c).1) ∧ h 3 = some (zz (pw D X Y c).2) ∧ h 4 = some (zz (pw D X Y a).1) ∧ h 5 = some (zz (pw D X Y a).2)) ∧ 6 ≤ nn ∧ a + c * k = n ∧ k ≤ n) n ⟨0, 1, garb rfl, ?_, Nat.le_refl _, by omega, Nat.le_refl _⟩ ?_
  · rw [pw_one, pw_zero]
    refine ⟨?_, ?_, ?_, ?_, ?_, ?_⟩ <;> simp only [upd_apply, ↓reduceIte, Nat.reduceEqDiff, if_pos] <;> rfl
  clear o1 o2 o3 o4 w1 w2 w3 z1 z2
  rintro k _ h nn ⟨a, c, ⟨g, rfl⟩, ⟨e0, e1, e2, e3, e4, e5⟩, hnn, hk, hkn⟩
  have m1 : (k : Int).tmod 2 = ((k % 2 : Nat) : Int) := by rw [Int.tmod_eq_emod_of_nonneg (by omega)]; rfl
  have m2 : (k : Int).tdiv 2 = ((k / 2 : Nat) : Int) := by rw [Int.tdiv_eq_ediv_of_nonneg (by omega)]; rfl
  by_cases h0 : k = 0
  · subst h0
    obtain rfl : a = n := by omega
    have z0 : ((0 : Int) < ((0 : Nat) : Int)) = False := eq_false (by decide)
    simp only [zz] at e4 e5
    generalize (pw D X Y a).1 = u at *
    generalize (pw D X Y a).2 = v at *
    simp (maxSteps := 4000000) only [go_sem, ↓reduceIte, Nat.reduceAdd, Nat.reduceSub, Nat.reduceMul, Nat.reduceEqDiff, reduceCtorEq, Int.reduceAdd, Int.reduceLT, Int.reduceLE, Int.reduceToNat, Int.reduceNeg, Int.reduceSub, ← List.map_take, ← List.map_drop, ne_eq, Nat.reduceLeDiff, Nat.reduceLT, Nat.zero_le, Nat.le_refl, wrap64, wrapu64, wrapu32, ← Int.natCast_add, ← Int.natCast_mul, cast_succ, wrapu32_nat, shr32, reps_wd, map_set_wd, List.length_set, zs_len, z0, Int.lt_irrefl]
    refine W_drawn ?_
    simp (maxSteps := 4000000) only [go_sem, ↓reduceIte, Nat.reduceAdd, Nat.reduceSub, Nat.reduceMul, Nat.reduceEqDiff, reduceCtorEq, Int.reduceAdd, Int.reduceLT, Int.reduceLE, Int.reduceToNat, Int.reduceNeg, Int.reduceSub, ← List.map_take, ← List.map_drop, ne_eq, Nat.reduceLeDiff, Nat.reduceLT, Nat.zero_le, Nat.le_refl, wrap64, wrapu64, wrapu32, ← Int.natCast_add, ← Int.natCast_mul, cast_succ, wrapu32_nat, shr32, reps_wd, map_set_wd, List.length_set, zs_len, e0, e1, e4, e5]
    refine okR_pairs ?_; (repeat ((with_unfolding_all refine And.intro ?_ ?_); (focus (rw [free_mk] <;> (try simp) <;> (try omega))))); (with_unfolding_all exact True.intro)
  · have hc : c ≤ n := by
      have : c * 1 ≤ c * k := Nat.mul_le_mul_left c (by omega)
      omega
    have z0 : ((0 : Int) < (k : Int)) = True := eq_true (by omega)
    have w1 : IntKind.i64.wrap ((k % 2 : Nat) : Int) = ((k % 2 : Nat) : Int) := wrap64 (by omega) (by omega)
    have w2 : IntKind.i64.wrap ((k / 2 : Nat) : Int) = ((k / 2 : Nat) : Int) := wrap64 (by omega) (by omega)
    have la := hln a (by omega)
    have lc := hln c hc
    have hD0 : 0 ≤ D ∧ D ≤ 1000000 := ⟨by omega, hD⟩
    have P1 := rProduct D (pw D X Y a).1 (pw D X Y a).2 (pw D X Y c).1 (pw D X Y c).2 (decide ((pw D X Y a).1 = 0)) (decide ((pw D X Y a).2 = 0)) (decide ((pw D X Y c).1 = 0)) (decide ((pw D X Y c).2 = 0)) hD0 (by omega) (by omega) (by omega) (by omega)
    have P2 := rProduct D (pw D X Y c).1 (pw D X Y c).2 (pw D X Y c).1 (pw D X Y c).2 (decide ((pw D X Y c).1 = 0)) (decide ((pw D X Y c).2 = 0)) (decide ((pw D X Y c).1 = 0)) (decide ((pw D X Y c).2 = 0)) hD0 (by omega) (by omega) (by omega) (by omega)
    have q1 := congrArg Prod.fst (pw_add D X Y a c)
    have q2 := congrArg Prod.snd (pw_add D X Y a c)
    have q3 := congrArg Prod.fst (pw_add D X Y c c)
    have q4 := congrArg Prod.snd (pw_add D X Y c c)
    dsimp only at q1 q2 q3 q4
    rw [← q1, ← q2] at P1
    rw [← q3, ← q4] at P2
    have hfin : ∀ (a' c' : Nat), a' + c' * (k / 2) = n → ∀ (h : Heap) (m : Nat) (sl : List AV), (∃ g : Nat → AV, sl = [.int .i64 D, .int .i64 ((k / 2 : Nat) : Int), g 2, g 3, .ptr 0 0, .ptr 1 0, g 6, .ptr 2 0, .ptr 3 0, .ptr 4 0, .ptr 5 0, g 11, g 12, g 13, g 14, g 15, g 16, g 17, g 18, g 19, g 20, g 21, g 22, g 23, g 24, g 25, g 26, g 27, g 28, g 29, g 30, g 31, g 32, g 33, g 34, g 35, g 36, g 37, g 38, g 39, g 40, g 41, g 42, g 43, g 44, g 45, g 46, g 47, g 48, g 49, g 50, g 51, g 52, g 53, g 54]) → h 0 = some ⟨[.bool false, .lst true []], true, 2, false⟩ → h 1 = some ⟨[.bool false, .lst true []], true, 2, false⟩ →
        h 2 = some (zz (pw D X Y c').1) → h 3 = some (zz (pw D X Y c').2) → h 4 = some (zz (pw D X Y a').1) → h 5 = some (zz (pw D X Y a').2) → 6 ≤ m → ∃ k', k' < k ∧ ∃ a c : Nat, (∃ g : Nat → AV, sl = [.int .i64 D, .int .i64 (k' : Int), g 2, g 3, .ptr 0 0, .ptr 1 0, g 6, .ptr 2 0, .ptr 3 0, .ptr 4 0, .ptr 5 0, g 11, g 12, g 13, g 14, g 15, g 16, g 17, g 18, g 19, g 20, g 21, g 22, g 23, g 24, g 25, g 26, g 27, g 28, g 29, g 30, g 31, g 32, g 33, g 34, g 35, g 36, g 37, g 38, g 39, g 40, g 41, g 42, g 43, g 44, g 45, g 46, g 47, g 48, g 49, g 50, g 51, g 52, g 53, g 54]) ∧ (h 0 = some ⟨[.bool false, .lst true []], true, 2, false⟩ ∧ h 1 = some ⟨[.bool false, .lst true []], true, 2, false⟩ ∧ h 2 = some (zz (pw D X Y c).1) ∧ h 3 = some (zz (pw D X Y c).2) ∧ h 4 = some (zz (pw D X Y a).1) ∧ h 5 = some (zz (pw D X Y a).2)) ∧ 6 ≤ m ∧ a + c * k' = n ∧ k' ≤ n := fun a' c' hac h m sl a0 a1 a2 a3 a4 a5 a6 a7 =>
      ⟨k / 2, by omega, a', c', a0, ⟨a1, a2, a3, a4, a5, a6⟩, a7, hac, by omega⟩
    generalize hIQ : (fun (k : Nat) (σ : St) => ∃ a c : Nat, (∃ g : Nat → AV, σ.sl = [.int .i64 D, .int .i64 (k : Int), g 2, g 3, .ptr 0 0, .ptr 1 0, g 6, .ptr 2 0, .ptr 3 0, .ptr 4 0, .ptr 5 0, g 11, g 12, g 13, g 14, g 15, g 16, g 17, g 18, g 19, g 20, g 21, g 22, g 23, g 24, g 25, g 26, g 27, g 28, g 29, g 30, g 31, g 32, g 33, g 34, g 35, g 36, g 37, g 38, g 39, g 40, g 41, g 42, g 43, g 44, g 45, g 46, g 47, g 48, g 49, g 50, g 51, g 52, g 53, g 54]) ∧ (σ.h 0 = some ⟨[.bool false, .lst true []], true, 2, false⟩ ∧ σ.h 1 = some ⟨[.bool false, .lst true []], true, 2, false⟩ ∧ σ.h 2 = some (zz (pw D X Y c).1) ∧ σ.h 3 = some (zz (pw D X Y c).2) ∧ σ.h 4 = some (zz (pw D X Y a).1) ∧ σ.h 5 = some (zz (pw D X Y a).2)) ∧ 6 ≤ σ.nx ∧ a + c * k = n ∧ k ≤ n) = IQ
    have hodd : k % 2 = 1 → c * k = c + (c + c) * (k / 2) := fun h => by
      have h2 : k = 1 + 2 * (k / 2) := by omega
      have h3 : c * (1 + 2 * (k / 2)) = c + (c + c) * (k / 2) := by rw [Nat.mul_add, Nat.mul_one, ← Nat.mul_assoc, Nat.mul_comm c 2, Nat.two_mul]
      rw [← h2] at h3; exact h3
    have heven : k % 2 = 0 → c * k = (c + c) * (k / 2) := fun h => by
      have h2 : k = 2 * (k / 2) := by omega
      have h3 : c * (2 * (k / 2)) = (c + c) * (k / 2) := by rw [← Nat.mul_assoc, Nat.mul_comm c 2, Nat.two_mul]
      rw [← h2] at h3; exact h3
    simp only [RM] at P1 P2
    rcases Nat.lt_or_ge 1 k with h1 | h1
    · have z1 : ((1 : Int) < (k : Int)) = True := eq_true (by omega)
      rcases Nat.mod_two_eq_zero_or_one k with h2 | h2
      · have z2 : (((k % 2 : Nat) : Int) = 1) = False := eq_false (by omega)
        have hf := hfin a (c + c) (by have := heven h2; omega)
        clear hfin hodd heven q1 q2 q3 q4 hln hbw htwo hpos hl la lc
        generalize (pw D X Y (c + c)).1 = xn at *
        generalize (pw D X Y (c + c)).2 = yn at *
        simp (maxSteps := 4000000) only [go_sem, ↓reduceIte, Nat.reduceAdd, Nat.reduceSub, Nat.reduceMul, Nat.reduceEqDiff, reduceCtorEq, Int.reduceAdd, Int.reduceLT, Int.reduceLE, Int.reduceToNat, Int.reduceNeg, Int.reduceSub, ← List.map_take, ← List.map_drop, ne_eq, Nat.reduceLeDiff, Nat.reduceLT, Nat.zero_le, Nat.le_refl, wrap64, wrapu64, wrapu32, ← Int.natCast_add, ← Int.natCast_mul, cast_succ, wrapu32_nat, shr32, reps_wd, map_set_wd, List.length_set, zs_len, e0, e1, e2, e3, e4, e5, z0, z1, z2, m1, m2, w1, w2, P2, Int.reduceEq, places, fillAll]
        rw [← hIQ]
        refine hf _ _ _ (garb rfl) ?_ ?_ ?_ ?_ ?_ ?_ hnn <;> simp only [upd_apply, ↓reduceIte, Nat.reduceEqDiff, e0, e1, e2, e3, e4, e5, if_pos]
      · have z2 : (((k % 2 : Nat) : Int) = 1) = True := eq_true (by omega)
        have hf := hfin (a + c) (c + c) (by have := hodd h2; omega)
        clear hfin hodd heven q1 q2 q3 q4 hln hbw htwo hpos hl la lc
        generalize (pw D X Y (c + c)).1 = xn at *
        generalize (pw D X Y (c + c)).2 = yn at *
        generalize (pw D X Y (a + c)).1 = un at *
        generalize (pw D X Y (a + c)).2 = vn at *
        simp (maxSteps := 4000000) only [go_sem, ↓reduceIte, Nat.reduceAdd, Nat.reduceSub, Nat.reduceMul, Nat.reduceEqDiff, reduceCtorEq, Int.reduceAdd, Int.reduceLT, Int.reduceLE, Int.reduceToNat, Int.reduceNeg, Int.reduceSub, ← List.map_take, ← List.map_drop, ne_eq, Nat.reduceLeDiff, Nat.reduceLT, Nat.zero_le, Nat.le_refl, wrap64, wrapu64, wrapu32, ← Int.natCast_add, ← Int.natCast_mul, cast_succ, wrapu32_nat, shr32, reps_wd, map_set_wd, List.length_set, zs_len, e0, e1, e2, e3, e4, e5, z0, z1, z2, m1, m2, w1, w2, P1, P2, Int.reduceEq, places, fillAll]
        rw [← hIQ]
        refine hf _ _ _ (garb rfl) ?_ ?_ ?_ ?_ ?_ ?_ hnn <;> simp only [upd_apply, ↓reduceIte, Nat.reduceEqDiff, e0, e1, e2, e3, e4, e5, if_pos]
    · have hk1 : k = 1 := by omega
      have z1 : ((1 : Int) < (k : Int)) = False := eq_false (by omega)
      have z2 : (((k % 2 : Nat) : Int) = 1) = True := eq_true (by omega)
      have hf := hfin (a + c) c (by rw [show k / 2 = 0 by omega, Nat.mul_zero]; rw [hk1, Nat.mul_one] at hk; omega)
      clear hfin hodd heven q1 q2 q3 q4 hln hbw htwo hpos hl la lc
      generalize (pw D X Y (a + c)).1 = un at *
      generalize (pw D X Y (a + c)).2 = vn at *
      simp (maxSteps := 4000000) only [go_sem, ↓reduceIte, Nat.reduceAdd, Nat.reduceSub, Nat.reduceMul, Nat.reduceEqDiff, reduceCtorEq, Int.reduceAdd, Int.reduceLT, Int.reduceLE, Int.reduceToNat, Int.reduceNeg, Int.reduceSub, ← List.map_take, ← List.map_drop, ne_eq, Nat.reduceLeDiff, Nat.reduceLT, Nat.zero_le, Nat.le_refl, wrap64, wrapu64, wrapu32, ← Int.natCast_add, ← Int.natCast_mul, cast_succ, wrapu32_nat, shr32, reps_wd, map_set_wd, List.length_set, zs_len, e0, e1, e2, e3, e4, e5, z0, z1, z2, m1, m2, w1, w2, P1, Int.reduceEq, places, fillAll]
      rw [← hIQ]
      refine hf _ _ _ (garb rfl) ?_ ?_ ?_ ?_ ?_ ?_ hnn <;> simp only [upd_apply, ↓reduceIte, Nat.reduceEqDiff, e0, e1, e2, e3, e4, e5, if_pos]
theorem rNth_no (D r : Int) (hr : Rt D r) (hD : D ≤ 1000000) (L : Nat) (hL : Per D r L) (n B : Nat) (hn63 : n < 9223372036854775808) (hB : bl (LX D r L).natAbs = B + 1) (hB1 : 1 ≤ B) (hn : 135168 / B < n) :
    denP E 23 [.int .i64 D, .int .i64 (n : Int)] = some (.ret (.tup [I true 0, I true 0, .bool false])) := by
  refine denP_eq E23 rfl (by simp [AV.pureL, AV.pure, pure_wd]) ?_
  have o1 := rLeast D r hr hD L hL
  have hl := LXY_len' hr hD hL
  have hbw := bl_words hl.1
  have o2 := rBits_spec (decide (LX D r L = 0)) (LX D r L) (by omega)
  rw [hB] at o2
  generalize LX D r L = X at *
  generalize LY D r L = Y at *
  simp only [RM] at o1 ⊢
  have w1 : IntKind.i64.wrap (((B + 1 : Nat) : Int) - 1) = (B : Int) := by rw [wrap64 (by have := Nat.div_le_self 135168 B; omega) (by omega)]; omega
  have w2 : (135168 : Int).tdiv (B : Int) = ((135168 / B : Nat) : Int) := rfl
  have hT := Nat.div_le_self 135168 B
  have z2 : ((B : Int) = 0) = False := eq_false (by omega)
  generalize 135168 / B = T at *
  have w3 : IntKind.i64.wrap (T : Int) = (T : Int) := wrap64 (by omega) (by omega)
  have z1 : ((T : Int) < (n : Int)) = True := eq_true (by omega)
  simp (maxSteps := 4000000) only [go_sem, ↓reduceIte, Nat.reduceAdd, Nat.reduceSub, Nat.reduceMul, Nat.reduceEqDiff, reduceCtorEq, Int.reduceAdd, Int.reduceLT, Int.reduceLE, Int.reduceToNat, Int.reduceNeg, Int.reduceSub, ← List.map_take, ← List.map_drop, ne_eq, Nat.reduceLeDiff, Nat.reduceLT, Nat.zero_le, Nat.le_refl, wrap64, wrapu64, wrapu32, ← Int.natCast_add, ← Int.natCast_mul, cast_succ, wrapu32_nat, shr32, reps_wd, map_set_wd, List.length_set, zs_len, Try.f23, o1, o2, w1, w2, w3, z1, z2, ng_zero, dg_zero, List.map_nil, places, fillAll]
end Go.Proofs.Ytiglncbaomoceaa

/- Chapter 7: every solution is a power of the least one. (Own work of this repo.) -/
namespace Go.Proofs.Ytiglncbaomoceaa
open Vm
open Pel hiding allS
set_option maxRecDepth 10000

theorem pw_two_eq (D x y : Int) : pw D x y 2 = (x * x + D * (y * y), x * y + y * x) := by
  rw [show 2 = 1 + 1 from rfl, pw_succ, pw_one]
theorem sol_pos {D x y e : Int} (hD : 2 ≤ D) (he : e = 1 ∨ e = -1) (h : x * x - D * (y * y) = e) (hx : 0 ≤ x) (hy : 0 ≤ y) : 1 ≤ x := by
  refine Int.not_lt.1 fun g => ?_
  obtain rfl : x = 0 := by omega
  have hn : 0 ≤ y * y := Int.mul_nonneg hy hy
  rcases Int.lt_or_le 0 (y * y) with g | g
  · have := Int.mul_le_mul hD (show 1 ≤ y * y by omega) (by omega) (by omega)
    omega
  · have g' : y * y = 0 := by omega
    rw [g'] at h
    omega
/-- Every solution is a power of the least one. -/
theorem sol_pw {D r : Int} (hr : Rt D r) {L : Nat} (hL : Per D r L) {x y : Int} (h : x * x - D * (y * y) = 1) (hx : 0 ≤ x) (hy : 0 ≤ y) : ∃ n, pw D (LX D r L) (LY D r L) n = (x, y) := by
  have hx1 := sol_pos (rt_D hr) (.inl rfl) h hx hy
  obtain ⟨m, hm⟩ := unit_pow hr hL y.toNat x y 1 (.inl rfl) h hx1 hy (by omega)
  have hU := unit_norm hr hL
  unfold LX LY
  by_cases ho : L % 2 = 1
  · rw [if_pos ho, if_pos ho]
    have hs : sgn L = -1 := by rcases sgn_cases L with ⟨g, _⟩ | ⟨_, g⟩ <;> omega
    rw [hs] at hU
    have hn := pw_sgn hU m
    rw [hm] at hn
    dsimp only at hn
    have he : m % 2 = 0 := by
      rcases sgn_cases m with ⟨g, _⟩ | ⟨_, g⟩
      · exact g
      · rw [g] at hn; omega
    obtain ⟨j, rfl⟩ : ∃ j, m = 2 * j := ⟨m / 2, by omega⟩
    refine ⟨j, ?_⟩
    rw [← hm, ← pw_mul, pw_two_eq]
  · rw [if_neg ho, if_neg ho]
    exact ⟨m, hm⟩
/-- The least one is the least one. -/
theorem sol_least {D r : Int} (hr : Rt D r) {L : Nat} (hL : Per D r L) {x y : Int} (h : x * x - D * (y * y) = 1) (hx : 0 ≤ x) (hy : 1 ≤ y) : LX D r L ≤ x ∧ LY D r L ≤ y := by
  obtain ⟨n, hn⟩ := sol_pw hr hL h hx (by omega)
  have htwo := LXY_two hr hL
  have hpos := LXY_pos hr L
  have hD := rt_D hr
  have h0 : n ≠ 0 := by rintro rfl; rw [pw_zero] at hn; have := congrArg Prod.snd hn; dsimp only at this; omega
  have q1 : (LX D r L, LY D r L) = pw D (LX D r L) (LY D r L) 1 := (pw_one _ _ _).symm
  rcases Nat.lt_or_ge 1 n with g | g
  · have h1 := pw_lt (D := D) (by omega) htwo.1 htwo.2 hpos.2.2 g
    rw [← q1, hn] at h1
    dsimp only at h1
    omega
  · obtain rfl : n = 1 := by omega
    rw [← q1] at hn
    have h1 := congrArg Prod.fst hn
    have h2 := congrArg Prod.snd hn
    dsimp only at h1 h2
    omega
/-- The other equation. -/
theorem neg_least {D r : Int} (hr : Rt D r) {L : Nat} (hL : Per D r L) {x y : Int} (h : x * x - D * (y * y) = -1) (hx : 0 ≤ x) (hy : 1 ≤ y) : L % 2 = 1 ∧ (H D r (L - 1)).1.2 ≤ y := by
  have h1 := unit_least hr hL (.inr rfl) h hx hy
  refine ⟨?_, h1.2⟩
  have hx1 := sol_pos (rt_D hr) (.inr rfl) h hx (by omega)
  obtain ⟨m, hm⟩ := unit_pow hr hL y.toNat x y (-1) (.inr rfl) h hx1 (by omega) (by omega)
  have hU := unit_norm hr hL
  rcases sgn_cases L with ⟨_, g⟩ | ⟨g, _⟩
  · rw [g] at hU
    have hn := pw_one' hU m
    rw [hm] at hn
    dsimp only at hn
    omega
  · exact g
end Go.Proofs.Ytiglncbaomoceaa

/- Walks: Index. (Own work of this repo.) -/
namespace Go.Proofs.Ytiglncbaomoceaa
open Vm
open Pel hiding allS
set_option maxRecDepth 10000
theorem exValid2 (na nl : Bool) (a : List Nat) (nb ml : Bool) (b : List Nat) (ha : a.length < 2 ^ 60) (hb : b.length < 2 ^ 60) : denP E 51 [.lst false [iv na nl a, iv nb ml b]] = some (.ret (.bool (validW na a && validW nb b))) := by
  refine denP_eq E51 rfl (by simp [AV.pureL, AV.pure, pure_wd, iv]) ?_
  simp (maxSteps := 4000000) (disch := omega) only [go_sem, ↓reduceIte, Nat.reduceAdd, Nat.reduceSub, Nat.reduceMul, Nat.reduceEqDiff, reduceCtorEq, Int.reduceAdd, Int.reduceLT, Int.reduceLE, Int.reduceToNat, Int.reduceNeg, Int.reduceSub, ← List.map_take, ← List.map_drop, wrap64, wrapu64, wrapu32, Try.f51]
  rw [W_unroll]
  cases hva : validW na a with
  | false => simp (maxSteps := 4000000) (disch := omega) only [go_sem, ↓reduceIte, Nat.reduceAdd, Nat.reduceSub, Nat.reduceMul, Nat.reduceEqDiff, reduceCtorEq, Int.reduceAdd, Int.reduceLT, Int.reduceLE, Int.reduceToNat, Int.reduceNeg, Int.reduceSub, ← List.map_take, ← List.map_drop, wrap64, wrapu64, wrapu32, valid24, hva]
  | true =>
    simp (maxSteps := 4000000) (disch := omega) only [go_sem, ↓reduceIte, Nat.reduceAdd, Nat.reduceSub, Nat.reduceMul, Nat.reduceEqDiff, reduceCtorEq, Int.reduceAdd, Int.reduceLT, Int.reduceLE, Int.reduceToNat, Int.reduceNeg, Int.reduceSub, ← List.map_take, ← List.map_drop, wrap64, wrapu64, wrapu32, valid24, hva]
    rw [W_unroll]
    cases hvb : validW nb b with
    | false => simp (maxSteps := 4000000) (disch := omega) only [go_sem, ↓reduceIte, Nat.reduceAdd, Nat.reduceSub, Nat.reduceMul, Nat.reduceEqDiff, reduceCtorEq, Int.reduceAdd, Int.reduceLT, Int.reduceLE, Int.reduceToNat, Int.reduceNeg, Int.reduceSub, ← List.map_take, ← List.map_drop, wrap64, wrapu64, wrapu32, valid24, hvb]
    | true =>
      simp (maxSteps := 4000000) (disch := omega) only [go_sem, ↓reduceIte, Nat.reduceAdd, Nat.reduceSub, Nat.reduceMul, Nat.reduceEqDiff, reduceCtorEq, Int.reduceAdd, Int.reduceLT, Int.reduceLE, Int.reduceToNat, Int.reduceNeg, Int.reduceSub, ← List.map_take, ← List.map_drop, wrap64, wrapu64, wrapu32, valid24, hvb]
      rw [W_unroll]
      simp (maxSteps := 4000000) (disch := omega) only [go_sem, ↓reduceIte, Nat.reduceAdd, Nat.reduceSub, Nat.reduceMul, Nat.reduceEqDiff, reduceCtorEq, Int.reduceAdd, Int.reduceLT, Int.reduceLE, Int.reduceToNat, Int.reduceNeg, Int.reduceSub, ← List.map_take, ← List.map_drop, wrap64, wrapu64, wrapu32]
theorem exNat2 (na nl : Bool) (a : List Nat) (nb ml : Bool) (b : List Nat) : denP E 52 [.lst false [iv na nl a, iv nb ml b]] = some (.ret (.bool (!na && !nb))) := by
  refine denP_eq E52 rfl (by simp [AV.pureL, AV.pure, pure_wd, iv]) ?_
  cases na with
  | true =>
    simp (maxSteps := 4000000) (disch := omega) only [go_sem, ↓reduceIte, Nat.reduceAdd, Nat.reduceSub, Nat.reduceMul, Nat.reduceEqDiff, reduceCtorEq, Int.reduceAdd, Int.reduceLT, Int.reduceLE, Int.reduceToNat, Int.reduceNeg, Int.reduceSub, ← List.map_take, ← List.map_drop, wrap64, wrapu64, wrapu32, Try.f52]
    rw [W_unroll]
    simp (maxSteps := 4000000) (disch := omega) only [go_sem, ↓reduceIte, Nat.reduceAdd, Nat.reduceSub, Nat.reduceMul, Nat.reduceEqDiff, reduceCtorEq, Int.reduceAdd, Int.reduceLT, Int.reduceLE, Int.reduceToNat, Int.reduceNeg, Int.reduceSub, ← List.map_take, ← List.map_drop, wrap64, wrapu64, wrapu32]
  | false =>
    cases nb with
    | true =>
      simp (maxSteps := 4000000) (disch := omega) only [go_sem, ↓reduceIte, Nat.reduceAdd, Nat.reduceSub, Nat.reduceMul, Nat.reduceEqDiff, reduceCtorEq, Int.reduceAdd, Int.reduceLT, Int.reduceLE, Int.reduceToNat, Int.reduceNeg, Int.reduceSub, ← List.map_take, ← List.map_drop, wrap64, wrapu64, wrapu32, Try.f52]
      rw [W_unroll]
      simp (maxSteps := 4000000) (disch := omega) only [go_sem, ↓reduceIte, Nat.reduceAdd, Nat.reduceSub, Nat.reduceMul, Nat.reduceEqDiff, reduceCtorEq, Int.reduceAdd, Int.reduceLT, Int.reduceLE, Int.reduceToNat, Int.reduceNeg, Int.reduceSub, ← List.map_take, ← List.map_drop, wrap64, wrapu64, wrapu32]
      rw [W_unroll]
      simp (maxSteps := 4000000) (disch := omega) only [go_sem, ↓reduceIte, Nat.reduceAdd, Nat.reduceSub, Nat.reduceMul, Nat.reduceEqDiff, reduceCtorEq, Int.reduceAdd, Int.reduceLT, Int.reduceLE, Int.reduceToNat, Int.reduceNeg, Int.reduceSub, ← List.map_take, ← List.map_drop, wrap64, wrapu64, wrapu32]
    | false =>
      simp (maxSteps := 4000000) (disch := omega) only [go_sem, ↓reduceIte, Nat.reduceAdd, Nat.reduceSub, Nat.reduceMul, Nat.reduceEqDiff, reduceCtorEq, Int.reduceAdd, Int.reduceLT, Int.reduceLE, Int.reduceToNat, Int.reduceNeg, Int.reduceSub, ← List.map_take, ← List.map_drop, wrap64, wrapu64, wrapu32, Try.f52]
      rw [W_unroll]
      simp (maxSteps := 4000000) (disch := omega) only [go_sem, ↓reduceIte, Nat.reduceAdd, Nat.reduceSub, Nat.reduceMul, Nat.reduceEqDiff, reduceCtorEq, Int.reduceAdd, Int.reduceLT, Int.reduceLE, Int.reduceToNat, Int.reduceNeg, Int.reduceSub, ← List.map_take, ← List.map_drop, wrap64, wrapu64, wrapu32]
      rw [W_unroll]
      simp (maxSteps := 4000000) (disch := omega) only [go_sem, ↓reduceIte, Nat.reduceAdd, Nat.reduceSub, Nat.reduceMul, Nat.reduceEqDiff, reduceCtorEq, Int.reduceAdd, Int.reduceLT, Int.reduceLE, Int.reduceToNat, Int.reduceNeg, Int.reduceSub, ← List.map_take, ← List.map_drop, wrap64, wrapu64, wrapu32]
      rw [W_unroll]
      simp (maxSteps := 4000000) (disch := omega) only [go_sem, ↓reduceIte, Nat.reduceAdd, Nat.reduceSub, Nat.reduceMul, Nat.reduceEqDiff, reduceCtorEq, Int.reduceAdd, Int.reduceLT, Int.reduceLE, Int.reduceToNat, Int.reduceNeg, Int.reduceSub, ← List.map_take, ← List.map_drop, wrap64, wrapu64, wrapu32]
theorem openK_out {Q : Ex → St → Prop} {σ : St} {all os : List Go.Oper} {dst : Option Nat} {x : Option (Res × Heap × Nat)} (P : Heap → Nat → Prop) (hx : ∃ e H' N', x = some (.ret (.int .i64 e), H', N') ∧ P H' N') (k : ∀ e H' N', P H' N' → Rg E all os ⟨put σ.sl dst (.int .i64 e), H', N'⟩ Q) : openK E all os dst Q σ x := by
  obtain ⟨e, H', N', rfl, h1⟩ := hx
  exact k e H' N' h1
theorem index_try (x y : Int) (fx fy : Bool) (D o : Int) (gx : ng x = false) (gy : ng y = false)
    (hc : ∀ (pd py px po : Nat) (h : Heap) (nx : Nat), pd < nx → py < nx → px < nx → po < nx → po ≠ pd → po ≠ py → po ≠ px → h pd = some ⟨[.int .i64 D], false, 1, false⟩ → h py = some ⟨[.bool false, .lst fy ((dg y).map wd)], true, 2, false⟩ → h px = some ⟨[.bool false, .lst fx ((dg x).map wd)], true, 2, false⟩ → h po = some (orow (-1)) →
      ∃ r h' n', denO E 54 [.ptr pd 0, .ptr py 0, .ptr px 0, .ptr po 0] h nx = some (r, h', n') ∧ (r = .ret (.tup []) ∨ r = .panic (Thr 4)) ∧ nx ≤ n' ∧ h' po = some (orow o) ∧ ∀ i, i ≠ po → i < nx → h' i = h i)
    (h : Heap) (h0 : h 0 = some ⟨[.int .i64 D], false, 1, false⟩) (h1 : h 1 = some ⟨[.bool false, .lst fx ((dg x).map wd)], true, 2, false⟩) (h2 : h 2 = some ⟨[.bool false, .lst fy ((dg y).map wd)], true, 2, false⟩) (h5 : h 5 = some (orow (-1))) :
    ∃ e H' N', denO E 53 [.fn 54 [] [.ptr 0 0, .ptr 2 0, .ptr 1 0, .ptr 5 0]] h 6 = some (.ret (.int .i64 e), H', N') ∧ H' 5 = some (orow o) := by
  obtain ⟨r, h', n', d1, d2, d3, d4, d5⟩ := hc 0 2 1 5 (h.upd 6 (some ⟨[.int .i64 0], false, 1, false⟩)) 7 (by decide) (by decide) (by decide) (by decide) (by decide) (by decide) (by decide) ((upd_ne (by decide)).trans h0) ((upd_ne (by decide)).trans h2) ((upd_ne (by decide)).trans h1) ((upd_ne (by decide)).trans h5)
  have k6 : h' 6 = some ⟨[.int .i64 0], false, 1, false⟩ := (d5 6 (by decide) (by decide)).trans (if_pos rfl)
  rcases d2 with rfl | rfl
  · obtain ⟨H', N', q1, q2, q3⟩ := try_ret 54 [] [.ptr 0 0, .ptr 2 0, .ptr 1 0, .ptr 5 0] rfl _ h h' 6 n' d1 k6 (by omega)
    exact ⟨0, H', N', q1, (q3 5 (by decide) (by omega)).trans d4⟩
  · obtain ⟨H', N', q1, q2, q3⟩ := try_pan 54 [] [.ptr 0 0, .ptr 2 0, .ptr 1 0, .ptr 5 0] rfl 4 h h' 6 n' d1 k6 (by omega)
    exact ⟨4, H', N', q1, (q3 5 (by decide) (by omega)).trans d4⟩
theorem index_walk (D x y : Int) (fx fy : Bool) (hf : denP E 36 [.int .i64 D] = some (.ret (.bool true))) (lx : (dg x).length ≤ 4096) (ly : (dg y).length ≤ 4096) (hx0 : 0 ≤ x) (hy0 : 0 ≤ y) (o : Int) (ho : -1 ≤ o)
    (hc : ∀ (pd py px po : Nat) (h : Heap) (nx : Nat), pd < nx → py < nx → px < nx → po < nx → po ≠ pd → po ≠ py → po ≠ px → h pd = some ⟨[.int .i64 D], false, 1, false⟩ → h py = some (drw fy y) → h px = some (drw fx x) → h po = some (orow (-1)) →
      ∃ r h' n', denO E 54 [.ptr pd 0, .ptr py 0, .ptr px 0, .ptr po 0] h nx = some (r, h', n') ∧ (r = .ret (.tup []) ∨ r = .panic (Thr 4)) ∧ nx ≤ n' ∧ h' po = some (orow o) ∧ ∀ i, i ≠ po → i < nx → h' i = h i) :
    denP E 25 [.int .i64 D, I fx x, I fy y] = some (.ret (.tup [.int .i64 (if o < 0 then 0 else o), .int .i64 (if o < 0 then 6 else 0)])) := by
  refine denP_eq E25 rfl (by simp [AV.pureL, AV.pure, pure_wd]) ?_
  have v1 := exValid2 (ng x) fx (dg x) (ng y) fy (dg y) (by omega) (by omega)
  rw [validW_I, validW_I, decide_eq_true lx, decide_eq_true ly] at v1
  have v2 := exNat2 (ng x) fx (dg x) (ng y) fy (dg y)
  rw [ng_false.2 hx0, ng_false.2 hy0] at v1 v2
  have gx := ng_false.2 hx0
  have gy := ng_false.2 hy0
  simp only [drw, gx, gy] at hc
  simp only [iv, Bool.and_self, Bool.not_false] at v1 v2
  simp (maxSteps := 4000000) only [go_sem, ↓reduceIte, Nat.reduceAdd, Nat.reduceSub, Nat.reduceMul, Nat.reduceEqDiff, reduceCtorEq, Int.reduceAdd, Int.reduceLT, Int.reduceLE, Int.reduceToNat, Int.reduceNeg, Int.reduceSub, ← List.map_take, ← List.map_drop, ne_eq, Nat.reduceLeDiff, Nat.reduceLT, Nat.zero_le, Nat.le_refl, wrap64, wrapu64, wrapu32, ← Int.natCast_add, ← Int.natCast_mul, cast_succ, wrapu32_nat, shr32, reps_wd, map_set_wd, List.length_set, zs_len, Try.f25, hf, v1, v2, gx, gy, places, fillAll, reps, refP, elems]
  refine openK_out (fun H' _ => H' 5 = some (orow o)) (index_try x y fx fy D o gx gy hc _ ?_ ?_ ?_ ?_) ?_
  · simp only [upd_apply, ↓reduceIte, Nat.reduceEqDiff, if_pos]
  · simp only [upd_apply, ↓reduceIte, Nat.reduceEqDiff, if_pos]
  · simp only [upd_apply, ↓reduceIte, Nat.reduceEqDiff, if_pos]
  · simp only [upd_apply, ↓reduceIte, Nat.reduceEqDiff, if_pos]
  intro e H' N' k1
  clear hc v1 v2 hf
  by_cases h : o < 0
  · have z1 : (o < 0) = True := eq_true h
    rw [if_pos h, if_pos h]
    simp (maxSteps := 4000000) only [go_sem, ↓reduceIte, Nat.reduceAdd, Nat.reduceSub, Nat.reduceMul, Nat.reduceEqDiff, reduceCtorEq, Int.reduceAdd, Int.reduceLT, Int.reduceLE, Int.reduceToNat, Int.reduceNeg, Int.reduceSub, ← List.map_take, ← List.map_drop, ne_eq, Nat.reduceLeDiff, Nat.reduceLT, Nat.zero_le, Nat.le_refl, wrap64, wrapu64, wrapu32, ← Int.natCast_add, ← Int.natCast_mul, cast_succ, wrapu32_nat, shr32, reps_wd, map_set_wd, List.length_set, zs_len, k1, z1]
  · have z1 : (o < 0) = False := eq_false h
    rw [if_neg h, if_neg h]
    simp (maxSteps := 4000000) only [go_sem, ↓reduceIte, Nat.reduceAdd, Nat.reduceSub, Nat.reduceMul, Nat.reduceEqDiff, reduceCtorEq, Int.reduceAdd, Int.reduceLT, Int.reduceLE, Int.reduceToNat, Int.reduceNeg, Int.reduceSub, ← List.map_take, ← List.map_drop, ne_eq, Nat.reduceLeDiff, Nat.reduceLT, Nat.zero_le, Nat.le_refl, wrap64, wrapu64, wrapu32, ← Int.natCast_add, ← Int.natCast_mul, cast_succ, wrapu32_nat, shr32, reps_wd, map_set_wd, List.length_set, zs_len, k1, z1]
theorem index_spec (D r : Int) (hr : Rt D r) (hD : D ≤ 1000000) (L : Nat) (hL : Per D r L) (x y : Int) (fx fy : Bool) (lx : (dg x).length ≤ 4096) (ly : (dg y).length ≤ 4096) (hx0 : 0 ≤ x) (hy0 : 0 ≤ y) :
    (∃ n : Nat, pw D (LX D r L) (LY D r L) n = (x, y) ∧ denP E 25 [.int .i64 D, I fx x, I fy y] = some (.ret (.tup [.int .i64 (n : Int), .int .i64 0]))) ∨
    ((∀ n : Nat, pw D (LX D r L) (LY D r L) n ≠ (x, y)) ∧ denP E 25 [.int .i64 D, I fx x, I fy y] = some (.ret (.tup [.int .i64 0, .int .i64 6]))) := by
  have hf := fits_yes D r hr hD
  have hD1 : 1 ≤ D := by
    have := hr.lo
    have := Int.mul_nonneg (show 0 ≤ r by have := hr.pos; omega) (show 0 ≤ r by have := hr.pos; omega)
    omega
  have htwo := LXY_two hr hL
  have hpos := LXY_pos hr L
  have hlt := fun m n (h : m < n) => pw_lt hD1 htwo.1 htwo.2 hpos.2.2 (m := m) (n := n) h
  have hmn := pw_mono hD1 hpos.1 hpos.2.1 hpos.2.2
  have hbd := pw_bounds hD1 hpos.1 hpos.2.1 hpos.2.2
  obtain ⟨N, hbef, hend⟩ := stop_ex hD1 htwo.1 htwo.2 hpos.2.2 x y
  have none : (y < (pw D (LX D r L) (LY D r L) N).2 ∧ pw D (LX D r L) (LY D r L) N ≠ (x, y)) → ∀ n : Nat, pw D (LX D r L) (LY D r L) n ≠ (x, y) := fun h n hn => by
    rcases Nat.lt_trichotomy n N with g | g | g
    · exact (hbef n g).2 hn
    · rw [g] at hn; exact h.2 hn
    · have := (hlt N n g).2
      rw [hn] at this
      exact absurd this (by omega)
  have one : ∀ n : Nat, pw D (LX D r L) (LY D r L) n = (x, y) → pw D (LX D r L) (LY D r L) N = (x, y) := fun n hn => by
    rcases hend with h | h
    · by_cases h2 : pw D (LX D r L) (LY D r L) N = (x, y)
      · exact h2
      · exact absurd hn (none ⟨h, h2⟩ n)
    · exact h
  by_cases hfit : (dg (pw D (LX D r L) (LY D r L) N).1).length ≤ 4096
  · have w := index_walk D x y fx fy hf lx ly hx0 hy0 (if pw D (LX D r L) (LY D r L) N = (x, y) then (N : Int) else -1) (by split <;> omega) (fun pd py px po h nx h1 h2 h3 h4 h5 h6 h7 h8 h9 h10 h11 => by
      obtain ⟨h', n', d1, d2, d3, d4⟩ := index1_ret D r hr hD L hL x y fx fy lx ly N hfit hbef hend pd py px po h nx h1 h2 h3 h4 h5 h6 h7 h8 h9 h10 h11
      exact ⟨_, h', n', d1, .inl rfl, d2, d3, d4⟩)
    by_cases he : pw D (LX D r L) (LY D r L) N = (x, y)
    · rw [if_pos he, if_neg (by omega), if_neg (by omega)] at w
      exact .inl ⟨N, he, w⟩
    · rw [if_neg he] at w
      exact .inr ⟨fun n hn => he (one n hn), w⟩
  · have hex : ∃ k, ¬ (dg (pw D (LX D r L) (LY D r L) k).1).length ≤ 4096 := ⟨N, hfit⟩
    obtain ⟨M, hM, hM2⟩ := least_nat hex
    have hM0 : M ≠ 0 := fun h => by
      subst h
      refine hM ?_
      rw [pw_zero]
      have := dg_small (z := 1) (by decide)
      dsimp only
      omega
    obtain ⟨K, rfl⟩ : ∃ K, M = K + 1 := ⟨M - 1, by omega⟩
    have hKN : K + 1 ≤ N := by
      refine Classical.byContradiction fun h => ?_
      exact hM2 N (by omega) hfit
    have w := index_walk D x y fx fy hf lx ly hx0 hy0 (-1) (by omega) (fun pd py px po h nx h1 h2 h3 h4 h5 h6 h7 h8 h9 h10 h11 => by
      obtain ⟨h', n', d1, d2, d3, d4⟩ := index1_pan D r hr hD L hL x y fx fy lx ly K (Decidable.not_not.1 (hM2 K (by omega))) (fun k hk => hbef k (by omega)) hM pd py px po h nx h1 h2 h3 h4 h5 h6 h7 h8 h9 h10 h11
      exact ⟨_, h', n', d1, .inr rfl, d2, d3, d4⟩)
    refine .inr ⟨fun n hn => ?_, w⟩
    have := one n hn
    rw [this] at hfit
    exact hfit lx
end Go.Proofs.Ytiglncbaomoceaa

/- Walks: chapter 7 is awake. (Own work of this repo.) -/
namespace Go.Proofs.Ytiglncbaomoceaa
open Vm
open Pel hiding allS
set_option maxRecDepth 10000

theorem rt7 : Rt 7 2 := ⟨by decide, by decide, by decide⟩
theorem rt13 : Rt 13 3 := ⟨by decide, by decide, by decide⟩
theorem rt61 : Rt 61 7 := ⟨by decide, by decide, by decide⟩
theorem per7 : Per 7 2 4 := ⟨by decide, by decide +kernel, fun n h1 h2 => (by decide +kernel : ∀ n, n < 4 → 1 ≤ n → (P 7 2 n).2 ≠ 1) n h2 h1⟩
theorem per13 : Per 13 3 5 := ⟨by decide, by decide +kernel, fun n h1 h2 => (by decide +kernel : ∀ n, n < 5 → 1 ≤ n → (P 13 3 n).2 ≠ 1) n h2 h1⟩
theorem per61 : Per 61 7 11 := ⟨by decide, by decide +kernel, fun n h1 h2 => (by decide +kernel : ∀ n, n < 11 → 1 ≤ n → (P 61 7 n).2 ≠ 1) n h2 h1⟩
theorem no_spec (fx fy : Bool) (x y e w : Int) : denP E 13 [I fx x, I fy y, .int .i64 e, .int .i64 w] = some (.ret (.bool (decide (e = w) && decide (x = 0) && decide (y = 0)))) := by
  refine denP_eq E13 rfl (by simp [AV.pureL, AV.pure, pure_wd]) ?_
  have z1 := rZero_spec fx x
  have z2 := rZero_spec fy y
  by_cases h : e = w
  · by_cases hx : x = 0
    · rw [decide_eq_true hx] at z1
      rw [decide_eq_true h, decide_eq_true hx]
      simp (maxSteps := 4000000) only [go_sem, ↓reduceIte, Nat.reduceAdd, Nat.reduceSub, Nat.reduceMul, Nat.reduceEqDiff, reduceCtorEq, Int.reduceAdd, Int.reduceLT, Int.reduceLE, Int.reduceToNat, Int.reduceNeg, Int.reduceSub, ← List.map_take, ← List.map_drop, ne_eq, Nat.reduceLeDiff, Nat.reduceLT, Nat.zero_le, Nat.le_refl, wrap64, wrapu64, wrapu32, ← Int.natCast_add, ← Int.natCast_mul, cast_succ, wrapu32_nat, shr32, reps_wd, map_set_wd, List.length_set, zs_len, Try.f13, h, z1, z2, places, fillAll]
    · rw [decide_eq_false hx] at z1
      rw [decide_eq_true h, decide_eq_false hx]
      simp (maxSteps := 4000000) only [go_sem, ↓reduceIte, Nat.reduceAdd, Nat.reduceSub, Nat.reduceMul, Nat.reduceEqDiff, reduceCtorEq, Int.reduceAdd, Int.reduceLT, Int.reduceLE, Int.reduceToNat, Int.reduceNeg, Int.reduceSub, ← List.map_take, ← List.map_drop, ne_eq, Nat.reduceLeDiff, Nat.reduceLT, Nat.zero_le, Nat.le_refl, wrap64, wrapu64, wrapu32, ← Int.natCast_add, ← Int.natCast_mul, cast_succ, wrapu32_nat, shr32, reps_wd, map_set_wd, List.length_set, zs_len, Try.f13, h, z1, z2, places, fillAll]
      try rfl
  · rw [decide_eq_false h]
    simp (maxSteps := 4000000) only [go_sem, ↓reduceIte, Nat.reduceAdd, Nat.reduceSub, Nat.reduceMul, Nat.reduceEqDiff, reduceCtorEq, Int.reduceAdd, Int.reduceLT, Int.reduceLE, Int.reduceToNat, Int.reduceNeg, Int.reduceSub, ← List.map_take, ← List.map_drop, ne_eq, Nat.reduceLeDiff, Nat.reduceLT, Nat.zero_le, Nat.le_refl, wrap64, wrapu64, wrapu32, ← Int.natCast_add, ← Int.natCast_mul, cast_succ, wrapu32_nat, shr32, reps_wd, map_set_wd, List.length_set, zs_len, Try.f13, h, z1, z2, places, fillAll]
    try rfl
theorem oz127 : denP E 19 [.int .i64 127] = some (.ret (I false 127)) := by
  have h := rOf_spec 127 (by decide) (by decide)
  rwa [RM, show decide ((127 : Int) = 0) = false from rfl] at h
theorem sz127 : denP E 17 [I false 127, I false 127] = some (.ret (.bool true)) := by
  have l := dg_small (z := 127) (by decide)
  have h := rSame_spec false 127 false 127 (by omega) (by omega)
  rwa [decide_eq_true rfl] at h
theorem oz48 : denP E 19 [.int .i64 48] = some (.ret (I false 48)) := by
  have h := rOf_spec 48 (by decide) (by decide)
  rwa [RM, show decide ((48 : Int) = 0) = false from rfl] at h
theorem sz48 : denP E 17 [I false 48, I false 48] = some (.ret (.bool true)) := by
  have l := dg_small (z := 48) (by decide)
  have h := rSame_spec false 48 false 48 (by omega) (by omega)
  rwa [decide_eq_true rfl] at h
theorem oz18 : denP E 19 [.int .i64 18] = some (.ret (I false 18)) := by
  have h := rOf_spec 18 (by decide) (by decide)
  rwa [RM, show decide ((18 : Int) = 0) = false from rfl] at h
theorem sz18 : denP E 17 [I false 18, I false 18] = some (.ret (.bool true)) := by
  have l := dg_small (z := 18) (by decide)
  have h := rSame_spec false 18 false 18 (by omega) (by omega)
  rwa [decide_eq_true rfl] at h
theorem oz5 : denP E 19 [.int .i64 5] = some (.ret (I false 5)) := by
  have h := rOf_spec 5 (by decide) (by decide)
  rwa [RM, show decide ((5 : Int) = 0) = false from rfl] at h
theorem sz5 : denP E 17 [I false 5, I false 5] = some (.ret (.bool true)) := by
  have l := dg_small (z := 5) (by decide)
  have h := rSame_spec false 5 false 5 (by omega) (by omega)
  rwa [decide_eq_true rfl] at h
theorem oz1766319049 : denP E 19 [.int .i64 1766319049] = some (.ret (I false 1766319049)) := by
  have h := rOf_spec 1766319049 (by decide) (by decide)
  rwa [RM, show decide ((1766319049 : Int) = 0) = false from rfl] at h
theorem sz1766319049 : denP E 17 [I false 1766319049, I false 1766319049] = some (.ret (.bool true)) := by
  have l := dg_small (z := 1766319049) (by decide)
  have h := rSame_spec false 1766319049 false 1766319049 (by omega) (by omega)
  rwa [decide_eq_true rfl] at h
theorem oz226153980 : denP E 19 [.int .i64 226153980] = some (.ret (I false 226153980)) := by
  have h := rOf_spec 226153980 (by decide) (by decide)
  rwa [RM, show decide ((226153980 : Int) = 0) = false from rfl] at h
theorem sz226153980 : denP E 17 [I false 226153980, I false 226153980] = some (.ret (.bool true)) := by
  have l := dg_small (z := 226153980) (by decide)
  have h := rSame_spec false 226153980 false 226153980 (by omega) (by omega)
  rwa [decide_eq_true rfl] at h
theorem awake7 : denP E 14 [] = some (.ret (.bool true)) := by
  refine denP_eq E14 rfl rfl ?_
  have p1 := Period_yes 7 2 rt7 (by decide) 4 per7 (fits_yes 7 2 rt7 (by decide))
  have p2 := Nth_yes 7 2 rt7 (by decide) 4 per7 2 (by decide) (by rw [show (pw 7 (LX 7 2 4) (LY 7 2 4) 2).1 = 127 by decide +kernel]; have := dg_small (z := 127) (by decide); omega)
  have p3 := Minus_odd 13 3 rt13 (by decide) 5 per13 (by decide)
  have p4 := Least_yes 61 7 rt61 (by decide) 11 per61
  rw [show As 7 2 4 = [.int .i64 1, .int .i64 1, .int .i64 1, .int .i64 4] by rfl] at p1
  rw [show (pw 7 (LX 7 2 4) (LY 7 2 4) 2).1 = 127 by decide +kernel, show (pw 7 (LX 7 2 4) (LY 7 2 4) 2).2 = 48 by decide +kernel] at p2
  rw [show (H 13 3 (5 - 1)).1.1 = 18 by decide +kernel, show (H 13 3 (5 - 1)).1.2 = 5 by decide +kernel] at p3
  rw [show LX 61 7 11 = 1766319049 by decide +kernel, show LY 61 7 11 = 226153980 by decide +kernel] at p4
  have o127 := oz127
  have s127 := sz127
  have o48 := oz48
  have s48 := sz48
  have o18 := oz18
  have s18 := sz18
  have o5 := oz5
  have s5 := sz5
  have o1766319049 := oz1766319049
  have s1766319049 := sz1766319049
  have o226153980 := oz226153980
  have s226153980 := sz226153980
  simp only [Int.cast_ofNat_Int] at p2
  simp (maxSteps := 4000000) only [go_sem, ↓reduceIte, Nat.reduceAdd, Nat.reduceSub, Nat.reduceMul, Nat.reduceEqDiff, reduceCtorEq, Int.reduceAdd, Int.reduceLT, Int.reduceLE, Int.reduceToNat, Int.reduceNeg, Int.reduceSub, ← List.map_take, ← List.map_drop, ne_eq, Nat.reduceLeDiff, Nat.reduceLT, Nat.zero_le, Nat.le_refl, wrap64, wrapu64, wrapu32, ← Int.natCast_add, ← Int.natCast_mul, cast_succ, wrapu32_nat, shr32, reps_wd, map_set_wd, List.length_set, zs_len, Try.f14, p1, p2, p3, p4, Int.reduceEq, places, fillAll, reps, refP, elems]
  refine W_drawn ?_
  simp (maxSteps := 4000000) only [go_sem, ↓reduceIte, Nat.reduceAdd, Nat.reduceSub, Nat.reduceMul, Nat.reduceEqDiff, reduceCtorEq, Int.reduceAdd, Int.reduceLT, Int.reduceLE, Int.reduceToNat, Int.reduceNeg, Int.reduceSub, ← List.map_take, ← List.map_drop, ne_eq, Nat.reduceLeDiff, Nat.reduceLT, Nat.zero_le, Nat.le_refl, wrap64, wrapu64, wrapu32, ← Int.natCast_add, ← Int.natCast_mul, cast_succ, wrapu32_nat, shr32, reps_wd, map_set_wd, List.length_set, zs_len, o127, o48, o18, o5, o1766319049, o226153980, s127, s48, s18, s5, s1766319049, s226153980, Int.reduceEq]
  refine okR_pairs ?_; (repeat ((with_unfolding_all refine And.intro ?_ ?_); (focus (rw [free_mk] <;> (try simp) <;> (try omega))))); (with_unfolding_all exact True.intro)
end Go.Proofs.Ytiglncbaomoceaa

/- Walks: whole numbers of eight bytes as arguments. (Own work of this repo.) -/
namespace Go.Proofs.Ytiglncbaomoceaa
open Vm
theorem fit_int8 {m : Nat} {cs : List AV} (h : Fit E (m + 1) 3 cs) : ∃ n : Int, -9223372036854775808 ≤ n ∧ n < 9223372036854775808 ∧ cs = [.int .i64 n] := by
  simp only [Fit, T3, FitD] at h
  obtain ⟨_, i, rfl, hi⟩ := h
  have hi' : -9223372036854775808 ≤ i ∧ i < 9223372036854775808 := by simp [Lit.wf, IntKind.max, IntKind.min, IntKind.bits, IntKind.signed] at hi; omega
  exact ⟨i, hi'.1, hi'.2, rfl⟩
end Go.Proofs.Ytiglncbaomoceaa

/- Walks: what fits, both sides. (Own work of this repo.) -/
namespace Go.Proofs.Ytiglncbaomoceaa
open Vm
open Pel hiding allS
set_option maxRecDepth 10000

/-- Either both say no, or the root is irrational. -/
theorem fits_two (D : Int) : (denP E 36 [.int .i64 D] = some (.ret (.bool false)) ∧ denP E 12 [.int .i64 D] = some (.ret (.bool false))) ∨
    (D ≤ 1000000 ∧ ∃ r L, Rt D r ∧ Per D r L ∧ denP E 36 [.int .i64 D] = some (.ret (.bool true)) ∧ denP E 12 [.int .i64 D] = some (.ret (.bool true))) := by
  by_cases h0 : D < 0
  · exact .inl ⟨pell_fits_neg D h0, rpell_fits_neg D h0⟩
  · obtain ⟨r, h1, h2, h3⟩ := root_ex D (by omega)
    have f1 := pell_fits D r h1 h2 h3
    have f2 := rpell_fits D r h1 h2 h3
    by_cases h : 2 ≤ D ∧ D ≤ 1000000 ∧ r * r ≠ D
    · rw [decide_eq_true h] at f1 f2
      have hr : Rt D r := ⟨by
        rcases Int.lt_or_le r 1 with g | g
        · obtain rfl : r = 0 := by omega
          omega
        · exact g, by omega, h3⟩
      obtain ⟨L, hL⟩ := per_ex hr
      exact .inr ⟨h.2.1, r, L, hr, hL, f1, f2⟩
    · rw [decide_eq_false h] at f1 f2
      exact .inl ⟨f1, f2⟩
end Go.Proofs.Ytiglncbaomoceaa

/- The law PellSteps: what does not fit. (Own work of this repo.) -/
namespace Go.Proofs.Ytiglncbaomoceaa
open Vm
open Pel hiding allS
set_option maxRecDepth 10000

theorem pw_norm {D x y : Int} (h : x * x - D * (y * y) = 1) : ∀ n, (pw D x y n).1 * (pw D x y n).1 - D * ((pw D x y n).2 * (pw D x y n).2) = 1
  | 0 => by rw [pw_zero]; simp
  | n + 1 => by
    have ih := pw_norm h n
    rw [pw_succ]
    dsimp only
    generalize (pw D x y n).1 = a at *
    generalize (pw D x y n).2 = b at *
    have e : (a * x + D * (b * y)) * (a * x + D * (b * y)) - D * ((a * y + b * x) * (a * y + b * x)) = (a * a - D * (b * b)) * (x * x - D * (y * y)) := by grind
    rw [e, ih, h]
    rfl
theorem Nth_any (D r : Int) (hr : Rt D r) (hD : D ≤ 1000000) (L : Nat) (hL : Per D r L) (m : Nat) (hm : m < 9223372036854775808) : ∃ (f : Bool) (x : Int) (g : Bool) (y e : Int), denP E 21 [.int .i64 D, .int .i64 (m : Int)] = some (.ret (RP3 (I f x) (I g y) e)) ∧
    (((dg (pw D (LX D r L) (LY D r L) m).1).length ≤ 4096 ∧ f = false ∧ x = (pw D (LX D r L) (LY D r L) m).1 ∧ g = false ∧ y = (pw D (LX D r L) (LY D r L) m).2 ∧ e = 0) ∨ (¬ (dg (pw D (LX D r L) (LY D r L) m).1).length ≤ 4096 ∧ e = 4)) := by
  by_cases h : (dg (pw D (LX D r L) (LY D r L) m).1).length ≤ 4096
  · exact ⟨_, _, _, _, _, Nth_yes D r hr hD L hL m hm h, .inl ⟨h, rfl, rfl, rfl, rfl, rfl⟩⟩
  · exact ⟨_, _, _, _, _, Nth_over D r hr hD L hL m hm h, .inr ⟨h, rfl⟩⟩
theorem mod13 {n : Nat} (hn : n < 256) : IntKind.i64.wrap ((n : Int)) = (n : Int) ∧ ((n : Int).tmod 13) = ((n % 13 : Nat) : Int) := by
  refine ⟨wrap64 (by omega) (by omega), ?_⟩
  rw [Int.tmod_eq_emod_of_nonneg (by omega)]; rfl
theorem steps_no (D : Int) (m n : Nat) (near : Int) (hm : m < 256) (hn : n < 256) (f2 : denP E 12 [.int .i64 D] = some (.ret (.bool false))) : denP E 6 [.int .i64 D, .int .u8 m, .int .u8 n, .int .i8 near] = some (.ret (.bool true)) := by
  refine denP_eq E6 rfl (by simp [AV.pureL, AV.pure, pure_wd]) ?_
  have a1 := mod13 hm
  have a2 := mod13 hn
  simp (maxSteps := 4000000) only [go_sem, ↓reduceIte, Nat.reduceAdd, Nat.reduceSub, Nat.reduceMul, Nat.reduceEqDiff, reduceCtorEq, Int.reduceAdd, Int.reduceLT, Int.reduceLE, Int.reduceToNat, Int.reduceNeg, Int.reduceSub, ← List.map_take, ← List.map_drop, ne_eq, Nat.reduceLeDiff, Nat.reduceLT, Nat.zero_le, Nat.le_refl, wrap64, wrapu64, wrapu32, ← Int.natCast_add, ← Int.natCast_mul, cast_succ, wrapu32_nat, shr32, reps_wd, map_set_wd, List.length_set, zs_len, Try.f6, a1.1, a1.2, a2.1, a2.2, f2, awake7, Int.reduceEq, places, fillAll]
set_option maxHeartbeats 4000000 in
theorem steps_over (D : Int) (m n : Nat) (near : Int) (hm : m < 256) (hn : n < 256) (f2 : denP E 12 [.int .i64 D] = some (.ret (.bool true)))
    (c1 c2 c3 c4 d1 d2 d3 d4 : Bool) (x1 x2 x3 x4 y1 y2 y3 y4 e1 e2 e3 e4 : Int)
    (p1 : denP E 21 [.int .i64 D, .int .i64 ((m % 13 : Nat) : Int)] = some (.ret (RP3 (I c1 x1) (I d1 y1) e1)))
    (p2 : denP E 21 [.int .i64 D, .int .i64 ((n % 13 : Nat) : Int)] = some (.ret (RP3 (I c2 x2) (I d2 y2) e2)))
    (p3 : denP E 21 [.int .i64 D, .int .i64 ((m % 13 + n % 13 : Nat) : Int)] = some (.ret (RP3 (I c3 x3) (I d3 y3) e3)))
    (p4 : denP E 21 [.int .i64 D, .int .i64 ((m % 13 + 1 : Nat) : Int)] = some (.ret (RP3 (I c4 x4) (I d4 y4) e4)))
    (h1 : e1 = 0 ∨ e1 = 4) (h2 : e2 = 0 ∨ e2 = 4) (h3 : e3 = 0 ∨ e3 = 4) (h4 : e4 = 0 ∨ e4 = 4) (h : ¬ (e1 = 0 ∧ e2 = 0 ∧ e3 = 0 ∧ e4 = 0)) : denP E 6 [.int .i64 D, .int .u8 m, .int .u8 n, .int .i8 near] = some (.ret (.bool true)) := by
  refine denP_eq E6 rfl (by simp [AV.pureL, AV.pure, pure_wd]) ?_
  have a1 := mod13 hm
  have a2 := mod13 hn
  have b1 : IntKind.i64.wrap ((m % 13 + n % 13 : Nat) : Int) = ((m % 13 + n % 13 : Nat) : Int) := wrap64 (by omega) (by omega)
  have b2 : IntKind.i64.wrap ((m % 13 + 1 : Nat) : Int) = ((m % 13 + 1 : Nat) : Int) := wrap64 (by omega) (by omega)
  rcases h1 with rfl | rfl <;> rcases h2 with rfl | rfl <;> rcases h3 with rfl | rfl <;> rcases h4 with rfl | rfl <;> first | exact absurd ⟨rfl, rfl, rfl, rfl⟩ h | (simp (maxSteps := 4000000) only [go_sem, ↓reduceIte, Nat.reduceAdd, Nat.reduceSub, Nat.reduceMul, Nat.reduceEqDiff, reduceCtorEq, Int.reduceAdd, Int.reduceLT, Int.reduceLE, Int.reduceToNat, Int.reduceNeg, Int.reduceSub, ← List.map_take, ← List.map_drop, ne_eq, Nat.reduceLeDiff, Nat.reduceLT, Nat.zero_le, Nat.le_refl, wrap64, wrapu64, wrapu32, ← Int.natCast_add, ← Int.natCast_mul, cast_succ, wrapu32_nat, shr32, reps_wd, map_set_wd, List.length_set, zs_len, Try.f6, a1.1, a1.2, a2.1, a2.2, f2, p1, p2, p3, p4, b1, b2, Int.reduceEq, places, fillAll])
end Go.Proofs.Ytiglncbaomoceaa

/- The law PellNth: its cases. (Own work of this repo.) -/
namespace Go.Proofs.Ytiglncbaomoceaa
open Vm
open Pel hiding allS
set_option maxRecDepth 10000

theorem nth_no (D n : Int) (f1 : denP E 36 [.int .i64 D] = some (.ret (.bool false))) (f2 : denP E 12 [.int .i64 D] = some (.ret (.bool false))) : denP E 4 [.int .i64 D, .int .i64 n] = some (.ret (.bool true)) := by
  refine denP_eq E4 rfl (by simp [AV.pureL, AV.pure, pure_wd]) ?_
  have p1 := Nth_no D n f1
  have p2 := no_spec true true 0 0 2 2
  rw [show (decide ((2 : Int) = 2) && decide ((0 : Int) = 0) && decide ((0 : Int) = 0)) = true by decide] at p2
  simp only [I, RP3, ng_zero, dg_zero, List.map_nil] at p1 p2
  simp (maxSteps := 4000000) only [go_sem, ↓reduceIte, Nat.reduceAdd, Nat.reduceSub, Nat.reduceMul, Nat.reduceEqDiff, reduceCtorEq, Int.reduceAdd, Int.reduceLT, Int.reduceLE, Int.reduceToNat, Int.reduceNeg, Int.reduceSub, ← List.map_take, ← List.map_drop, ne_eq, Nat.reduceLeDiff, Nat.reduceLT, Nat.zero_le, Nat.le_refl, wrap64, wrapu64, wrapu32, ← Int.natCast_add, ← Int.natCast_mul, cast_succ, wrapu32_nat, shr32, reps_wd, map_set_wd, List.length_set, zs_len, Try.f4, p1, p2, f2, awake7, Int.reduceEq, places, fillAll, ng_zero, dg_zero, List.map_nil]
theorem nth_neg (D n : Int) (hn : n < 0) (f1 : denP E 36 [.int .i64 D] = some (.ret (.bool true))) (f2 : denP E 12 [.int .i64 D] = some (.ret (.bool true))) : denP E 4 [.int .i64 D, .int .i64 n] = some (.ret (.bool true)) := by
  refine denP_eq E4 rfl (by simp [AV.pureL, AV.pure, pure_wd]) ?_
  have p1 := Nth_neg D n f1 hn
  have p2 := no_spec true true 0 0 2 2
  have z1 : (n < 0) = True := eq_true hn
  rw [show (decide ((2 : Int) = 2) && decide ((0 : Int) = 0) && decide ((0 : Int) = 0)) = true by decide] at p2
  simp only [I, RP3, ng_zero, dg_zero, List.map_nil] at p1 p2
  simp (maxSteps := 4000000) only [go_sem, ↓reduceIte, Nat.reduceAdd, Nat.reduceSub, Nat.reduceMul, Nat.reduceEqDiff, reduceCtorEq, Int.reduceAdd, Int.reduceLT, Int.reduceLE, Int.reduceToNat, Int.reduceNeg, Int.reduceSub, ← List.map_take, ← List.map_drop, ne_eq, Nat.reduceLeDiff, Nat.reduceLT, Nat.zero_le, Nat.le_refl, wrap64, wrapu64, wrapu32, ← Int.natCast_add, ← Int.natCast_mul, cast_succ, wrapu32_nat, shr32, reps_wd, map_set_wd, List.length_set, zs_len, Try.f4, p1, p2, f2, z1, awake7, Int.reduceEq, places, fillAll, ng_zero, dg_zero, List.map_nil]
/-- Far out: anything that is no other error. -/
theorem nth_far (D : Int) (n B : Nat) (X Y : Int) (hn63 : n < 9223372036854775808) (f2 : denP E 12 [.int .i64 D] = some (.ret (.bool true)))
    (o1 : denP E 16 [.int .i64 D] = some (.ret (.tup [RM X, RM Y]))) (o2 : denP E 22 [RM X] = some (.ret (.int .i64 ((B + 1 : Nat) : Int)))) (hB1 : 1 ≤ B) (hB2 : B ≤ 110000)
    (c d : Bool) (x y e : Int) (p1 : denP E 21 [.int .i64 D, .int .i64 (n : Int)] = some (.ret (RP3 (I c x) (I d y) e))) (he : e = 0 ∨ e = 4) (hby : 96000 < (B + 32) * min n 1000000) (hle : n ≤ 135168 / B) :
    denP E 4 [.int .i64 D, .int .i64 (n : Int)] = some (.ret (.bool true)) := by
  refine denP_eq E4 rfl (by simp [AV.pureL, AV.pure, pure_wd]) ?_
  simp only [RM] at o1 o2
  have z0 : ((n : Int) < 0) = False := eq_false (by omega)
  obtain ⟨mn, hmn⟩ : ∃ mn, mn = min n 1000000 := ⟨_, rfl⟩
  rw [← hmn] at hby
  have hm : (if (1000000 : Int) < (n : Int) then 1000000 else (n : Int)) = (mn : Int) := by split <;> omega
  have w1 : IntKind.i64.wrap (((B + 1 : Nat) : Int) + 31) = ((B + 32 : Nat) : Int) := by rw [wrap64 (by omega) (by omega)]; omega
  have hmx : (B + 32) * mn ≤ (B + 32) * 1000000 := Nat.mul_le_mul_left _ (by omega)
  obtain ⟨PR, hPR⟩ : ∃ PR, PR = (B + 32) * mn := ⟨_, rfl⟩
  have w2 : IntKind.i64.wrap (((B + 32) * mn : Nat) : Int) = (PR : Int) := by rw [hPR]; exact wrap64 (by omega) (by omega)
  have z1 : ((96000 : Int) < (PR : Int)) = True := eq_true (by omega)
  have w3 : IntKind.i64.wrap (((B + 1 : Nat) : Int) - 1) = (B : Int) := by rw [wrap64 (by omega) (by omega)]; omega
  have w4 : (135168 : Int).tdiv (B : Int) = ((135168 / B : Nat) : Int) := rfl
  have hT := Nat.div_le_self 135168 B
  have z2 : ((B : Int) = 0) = False := eq_false (by omega)
  generalize 135168 / B = T at *
  have w5 : IntKind.i64.wrap (T : Int) = (T : Int) := wrap64 (by omega) (by omega)
  have z3 : ((n : Int) ≤ (T : Int)) = True := eq_true (by omega)
  clear hmx hby hmn hle hPR
  rcases he with rfl | rfl
  · simp (maxSteps := 4000000) only [go_sem, ↓reduceIte, Nat.reduceAdd, Nat.reduceSub, Nat.reduceMul, Nat.reduceEqDiff, reduceCtorEq, Int.reduceAdd, Int.reduceLT, Int.reduceLE, Int.reduceToNat, Int.reduceNeg, Int.reduceSub, ← List.map_take, ← List.map_drop, ne_eq, Nat.reduceLeDiff, Nat.reduceLT, Nat.zero_le, Nat.le_refl, wrap64, wrapu64, wrapu32, ← Int.natCast_add, ← Int.natCast_mul, cast_succ, wrapu32_nat, shr32, reps_wd, map_set_wd, List.length_set, zs_len, Try.f4, p1, f2, o1, o2, z0, hm, w1, w2, z1, w3, w4, z2, w5, z3, awake7, Int.reduceEq, places, fillAll, ng_zero, dg_zero, List.map_nil]
  · simp (maxSteps := 4000000) only [go_sem, ↓reduceIte, Nat.reduceAdd, Nat.reduceSub, Nat.reduceMul, Nat.reduceEqDiff, reduceCtorEq, Int.reduceAdd, Int.reduceLT, Int.reduceLE, Int.reduceToNat, Int.reduceNeg, Int.reduceSub, ← List.map_take, ← List.map_drop, ne_eq, Nat.reduceLeDiff, Nat.reduceLT, Nat.zero_le, Nat.le_refl, wrap64, wrapu64, wrapu32, ← Int.natCast_add, ← Int.natCast_mul, cast_succ, wrapu32_nat, shr32, reps_wd, map_set_wd, List.length_set, zs_len, Try.f4, p1, f2, o1, o2, z0, hm, w1, w2, z1, w3, w4, z2, w5, z3, awake7, Int.reduceEq, places, fillAll, ng_zero, dg_zero, List.map_nil]
/-- Beyond every bound. -/
theorem nth_beyond (D : Int) (n B : Nat) (X Y : Int) (hn63 : n < 9223372036854775808) (f2 : denP E 12 [.int .i64 D] = some (.ret (.bool true)))
    (o1 : denP E 16 [.int .i64 D] = some (.ret (.tup [RM X, RM Y]))) (o2 : denP E 22 [RM X] = some (.ret (.int .i64 ((B + 1 : Nat) : Int)))) (hB1 : 1 ≤ B) (hB2 : B ≤ 110000)
    (p1 : denP E 21 [.int .i64 D, .int .i64 (n : Int)] = some (.ret (RP3 (I true 0) (I true 0) 4))) (hle : 135168 / B < n)
    (o3 : denP E 23 [.int .i64 D, .int .i64 (n : Int)] = some (.ret (.tup [I true 0, I true 0, .bool false]))) :
    denP E 4 [.int .i64 D, .int .i64 (n : Int)] = some (.ret (.bool true)) := by
  refine denP_eq E4 rfl (by simp [AV.pureL, AV.pure, pure_wd]) ?_
  simp only [RM] at o1 o2
  have z0 : ((n : Int) < 0) = False := eq_false (by omega)
  obtain ⟨mn, hmn⟩ : ∃ mn, mn = min n 1000000 := ⟨_, rfl⟩
  have hm : (if (1000000 : Int) < (n : Int) then 1000000 else (n : Int)) = (mn : Int) := by split <;> omega
  have w1 : IntKind.i64.wrap (((B + 1 : Nat) : Int) + 31) = ((B + 32 : Nat) : Int) := by rw [wrap64 (by omega) (by omega)]; omega
  have hmx : (B + 32) * mn ≤ (B + 32) * 1000000 := Nat.mul_le_mul_left _ (by omega)
  obtain ⟨PR, hPR⟩ : ∃ PR, PR = (B + 32) * mn := ⟨_, rfl⟩
  have w2 : IntKind.i64.wrap (((B + 32) * mn : Nat) : Int) = (PR : Int) := by rw [hPR]; exact wrap64 (by omega) (by omega)
  have w3 : IntKind.i64.wrap (((B + 1 : Nat) : Int) - 1) = (B : Int) := by rw [wrap64 (by omega) (by omega)]; omega
  have w4 : (135168 : Int).tdiv (B : Int) = ((135168 / B : Nat) : Int) := rfl
  have hT := Nat.div_le_self 135168 B
  have z2 : ((B : Int) = 0) = False := eq_false (by omega)
  generalize 135168 / B = T at *
  have w5 : IntKind.i64.wrap (T : Int) = (T : Int) := wrap64 (by omega) (by omega)
  have z3 : ((n : Int) ≤ (T : Int)) = False := eq_false (by omega)
  have p2 := no_spec true true 0 0 4 4
  rw [show (decide ((4 : Int) = 4) && decide ((0 : Int) = 0) && decide ((0 : Int) = 0)) = true by decide] at p2
  simp only [I, RP3, ng_zero, dg_zero, List.map_nil] at p1 p2 o3
  clear hmn hle hPR hmx
  by_cases hz : 96000 < PR
  · have z1 : ((96000 : Int) < (PR : Int)) = True := eq_true (by omega)
    simp (maxSteps := 4000000) only [go_sem, ↓reduceIte, Nat.reduceAdd, Nat.reduceSub, Nat.reduceMul, Nat.reduceEqDiff, reduceCtorEq, Int.reduceAdd, Int.reduceLT, Int.reduceLE, Int.reduceToNat, Int.reduceNeg, Int.reduceSub, ← List.map_take, ← List.map_drop, ne_eq, Nat.reduceLeDiff, Nat.reduceLT, Nat.zero_le, Nat.le_refl, wrap64, wrapu64, wrapu32, ← Int.natCast_add, ← Int.natCast_mul, cast_succ, wrapu32_nat, shr32, reps_wd, map_set_wd, List.length_set, zs_len, Try.f4, p1, p2, f2, o1, o2, o3, z0, hm, w1, w2, z1, w3, w4, z2, w5, z3, awake7, Int.reduceEq, places, fillAll, ng_zero, dg_zero, List.map_nil]
  · have z1 : ((96000 : Int) < (PR : Int)) = False := eq_false (by omega)
    simp (maxSteps := 4000000) only [go_sem, ↓reduceIte, Nat.reduceAdd, Nat.reduceSub, Nat.reduceMul, Nat.reduceEqDiff, reduceCtorEq, Int.reduceAdd, Int.reduceLT, Int.reduceLE, Int.reduceToNat, Int.reduceNeg, Int.reduceSub, ← List.map_take, ← List.map_drop, ne_eq, Nat.reduceLeDiff, Nat.reduceLT, Nat.zero_le, Nat.le_refl, wrap64, wrapu64, wrapu32, ← Int.natCast_add, ← Int.natCast_mul, cast_succ, wrapu32_nat, shr32, reps_wd, map_set_wd, List.length_set, zs_len, Try.f4, p1, p2, f2, o1, o2, o3, z0, hm, w1, w2, z1, w3, w4, z2, w5, z3, awake7, Int.reduceEq, places, fillAll, ng_zero, dg_zero, List.map_nil]
/-- Within the bounds. -/
theorem nth_within (D : Int) (n B : Nat) (X Y : Int) (hn63 : n < 9223372036854775808) (f2 : denP E 12 [.int .i64 D] = some (.ret (.bool true)))
    (o1 : denP E 16 [.int .i64 D] = some (.ret (.tup [RM X, RM Y]))) (o2 : denP E 22 [RM X] = some (.ret (.int .i64 ((B + 1 : Nat) : Int)))) (hB1 : 1 ≤ B) (hB2 : B ≤ 110000) (u v : Int)
    (p1 : denP E 21 [.int .i64 D, .int .i64 (n : Int)] = some (.ret (RP3 (I false u) (I false v) 0))) (hby : (B + 32) * min n 1000000 ≤ 96000)
    (o3 : denP E 23 [.int .i64 D, .int .i64 (n : Int)] = some (.ret (.tup [RM u, RM v, .bool true]))) (lu : (dg u).length ≤ 4096) (lv : (dg v).length ≤ 4096)
    (hix : denP E 25 [.int .i64 D, I false u, I false v] = some (.ret (.tup [.int .i64 (n : Int), .int .i64 0]))) :
    denP E 4 [.int .i64 D, .int .i64 (n : Int)] = some (.ret (.bool true)) := by
  refine denP_eq E4 rfl (by simp [AV.pureL, AV.pure, pure_wd]) ?_
  have g1 := rFits_spec (decide (u = 0)) u
  have g2 := rFits_spec (decide (v = 0)) v
  rw [decide_eq_true lu] at g1
  rw [decide_eq_true lv] at g2
  have s1 := rSame_spec false u (decide (u = 0)) u (by omega) (by omega)
  have s2 := rSame_spec false v (decide (v = 0)) v (by omega) (by omega)
  rw [decide_eq_true rfl] at s1 s2
  simp only [RM] at o1 o2 o3
  have z0 : ((n : Int) < 0) = False := eq_false (by omega)
  obtain ⟨mn, hmn⟩ : ∃ mn, mn = min n 1000000 := ⟨_, rfl⟩
  rw [← hmn] at hby
  have hm : (if (1000000 : Int) < (n : Int) then 1000000 else (n : Int)) = (mn : Int) := by split <;> omega
  have w1 : IntKind.i64.wrap (((B + 1 : Nat) : Int) + 31) = ((B + 32 : Nat) : Int) := by rw [wrap64 (by omega) (by omega)]; omega
  obtain ⟨PR, hPR⟩ : ∃ PR, PR = (B + 32) * mn := ⟨_, rfl⟩
  have w2 : IntKind.i64.wrap (((B + 32) * mn : Nat) : Int) = (PR : Int) := by rw [hPR]; exact wrap64 (by omega) (by omega)
  have z1 : ((96000 : Int) < (PR : Int)) = False := eq_false (by omega)
  clear hmn hby lv hPR
  by_cases hz : 800 < (dg u).length
  · have z4 : ((800 : Int) < ((dg u).length : Int)) = True := eq_true (by omega)
    simp (maxSteps := 4000000) only [go_sem, ↓reduceIte, Nat.reduceAdd, Nat.reduceSub, Nat.reduceMul, Nat.reduceEqDiff, reduceCtorEq, Int.reduceAdd, Int.reduceLT, Int.reduceLE, Int.reduceToNat, Int.reduceNeg, Int.reduceSub, ← List.map_take, ← List.map_drop, ne_eq, Nat.reduceLeDiff, Nat.reduceLT, Nat.zero_le, Nat.le_refl, wrap64, wrapu64, wrapu32, ← Int.natCast_add, ← Int.natCast_mul, cast_succ, wrapu32_nat, shr32, reps_wd, map_set_wd, List.length_set, zs_len, Try.f4, p1, f2, o1, o2, o3, g1, g2, s1, s2, z0, hm, w1, w2, z1, z4, hix, awake7, Int.reduceEq, places, fillAll, ng_zero, dg_zero, List.map_nil]
  · have z4 : ((800 : Int) < ((dg u).length : Int)) = False := eq_false (by omega)
    simp (maxSteps := 4000000) only [go_sem, ↓reduceIte, Nat.reduceAdd, Nat.reduceSub, Nat.reduceMul, Nat.reduceEqDiff, reduceCtorEq, Int.reduceAdd, Int.reduceLT, Int.reduceLE, Int.reduceToNat, Int.reduceNeg, Int.reduceSub, ← List.map_take, ← List.map_drop, ne_eq, Nat.reduceLeDiff, Nat.reduceLT, Nat.zero_le, Nat.le_refl, wrap64, wrapu64, wrapu32, ← Int.natCast_add, ← Int.natCast_mul, cast_succ, wrapu32_nat, shr32, reps_wd, map_set_wd, List.length_set, zs_len, Try.f4, p1, f2, o1, o2, o3, g1, g2, s1, s2, z0, hm, w1, w2, z1, z4, hix, awake7, Int.reduceEq, places, fillAll, ng_zero, dg_zero, List.map_nil]
end Go.Proofs.Ytiglncbaomoceaa

/- The law PellNth: everything. (Own work of this repo.) -/
namespace Go.Proofs.Ytiglncbaomoceaa
open Vm
open Pel hiding allS
set_option maxRecDepth 10000

theorem pw_ge {D X Y : Int} (hD : 1 ≤ D) (hX : 1 ≤ X) (hY : 0 ≤ Y) (hYX : Y ≤ X) {b : Nat} (hb : ((2 ^ b : Nat) : Int) ≤ X) : ∀ n, ((2 ^ (b * n) : Nat) : Int) ≤ (pw D X Y n).1
  | 0 => by rw [pw_zero]; simp
  | n + 1 => by
    have ih := pw_ge hD hX hY hYX hb n
    obtain ⟨h1, h2, h3, _⟩ := pw_bounds hD hX hY hYX n
    rw [pw_succ]; dsimp only
    rw [Nat.mul_succ, Nat.pow_add, Int.natCast_mul]
    have a1 : ((2 ^ (b * n) : Nat) : Int) * ((2 ^ b : Nat) : Int) ≤ (pw D X Y n).1 * X := Int.mul_le_mul ih hb (Int.natCast_nonneg _) (by omega)
    have a2 : 0 ≤ D * ((pw D X Y n).2 * Y) := Int.mul_nonneg (by omega) (Int.mul_nonneg h2 hY)
    omega
theorem nth_all (D n : Int) (hn2 : n < 9223372036854775808) : denP E 4 [.int .i64 D, .int .i64 n] = some (.ret (.bool true)) := by
  rcases fits_two D with ⟨f1, f2⟩ | ⟨hD, r, L, hr, hL, f1, f2⟩
  · exact nth_no D n f1 f2
  · rcases Int.lt_or_le n 0 with h0 | h0
    · exact nth_neg D n h0 f1 f2
    · obtain ⟨m, rfl⟩ : ∃ m : Nat, n = (m : Int) := ⟨n.toNat, by omega⟩
      have hm : m < 9223372036854775808 := by omega
      have hD2 := rt_D hr
      have htwo := LXY_two hr hL
      have hpos := LXY_pos hr L
      have hl := LXY_len' hr hD hL
      have hbw := bl_words hl.1
      have o1 := rLeast D r hr hD L hL
      have o2 := rBits_spec (decide (LX D r L = 0)) (LX D r L) (by omega)
      have hb2 : ¬ bl (LX D r L).natAbs ≤ 1 := fun h => by have := bl_le.1 h; omega
      obtain ⟨B, hB⟩ : ∃ B, bl (LX D r L).natAbs = B + 1 := ⟨bl (LX D r L).natAbs - 1, by omega⟩
      rw [hB] at o2
      have hB1 : 1 ≤ B := by omega
      by_cases hle : m ≤ 135168 / B
      · by_cases hby : 96000 < (B + 32) * min m 1000000
        · obtain ⟨c, x, d, y, e, p1, h⟩ := Nth_any D r hr hD L hL m hm
          exact nth_far D m B (LX D r L) (LY D r L) hm f2 o1 o2 hB1 (by omega) c d x y e p1 (by rcases h with h | h; exact .inl h.2.2.2.2.2; exact .inr h.2) hby hle
        · have hT := Nat.div_le_self 135168 B
          have hmm : min m 1000000 = m := by omega
          rw [hmm] at hby
          have hlt := bl_lt (LX D r L).natAbs
          rw [hB] at hlt
          have htop := pw_top (D := D) ⟨by omega, hD⟩ (show 1 ≤ LX D r L by omega) hpos.2.1 hpos.2.2 (b := B + 1) (by omega) m
          have hbd := pw_bounds (D := D) (by omega) hpos.1 hpos.2.1 hpos.2.2 m
          have e1 : (B + 1 + 20) * m + 11 * m = (B + 32) * m := by rw [← Nat.add_mul]
          have h6 : 2 ^ ((B + 1 + 20) * m) < 2 ^ ((B + 1 + 20) * m + 1) := Nat.pow_lt_pow_right (by decide) (by omega)
          have lu : (dg (pw D (LX D r L) (LY D r L) m).1).length ≤ 4096 := len_pow (b := (B + 1 + 20) * m + 1) (by omega) (by omega)
          have lv : (dg (pw D (LX D r L) (LY D r L) m).2).length ≤ 4096 := Nat.le_trans (dg_mono (by omega)) lu
          refine nth_within D m B (LX D r L) (LY D r L) hm f2 o1 o2 hB1 (by omega) _ _ (Nth_yes D r hr hD L hL m hm lu) (by rw [hmm]; omega) (rNth_yes D r hr hD L hL m B hm hB hB1 hle) lu lv ?_
          rcases index_spec D r hr hD L hL _ _ false false lu lv (by omega) (by omega) with ⟨j, hj, h⟩ | ⟨h, _⟩
          · have hlt := fun a b (h : a < b) => pw_lt (D := D) (by omega) htwo.1 htwo.2 hpos.2.2 (m := a) (n := b) h
            have q1 := congrArg Prod.fst hj
            dsimp only at q1
            have : j = m := by
              rcases Nat.lt_trichotomy j m with g | g | g
              · have := (hlt _ _ g).1; omega
              · exact g
              · have := (hlt _ _ g).1; omega
            rw [this] at h
            exact h
          · exact absurd rfl (h m)
      · have hover : ¬ (dg (pw D (LX D r L) (LY D r L) m).1).length ≤ 4096 := fun h => by
          have h1 := bl_ge (n := (LX D r L).natAbs) (by omega)
          rw [hB, Nat.add_sub_cancel] at h1
          have h2 := two_len (pw_ge (D := D) (by omega) hpos.1 hpos.2.1 hpos.2.2 (b := B) (by omega) m) h
          have h3 := (Nat.div_lt_iff_lt_mul (show 0 < B by omega)).1 (Nat.not_le.1 hle)
          rw [Nat.mul_comm] at h3
          omega
        exact nth_beyond D m B (LX D r L) (LY D r L) hm f2 o1 o2 hB1 (by omega) (Nth_over D r hr hD L hL m hm hover) (by omega) (rNth_no D r hr hD L hL m B hm hB hB1 (by omega))
end Go.Proofs.Ytiglncbaomoceaa
