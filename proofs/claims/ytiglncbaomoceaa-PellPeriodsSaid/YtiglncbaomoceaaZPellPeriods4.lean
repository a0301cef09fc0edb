/- Part 4 of a proof about this seat: Nth1, Rpl, Awake7, Fit8. (Own work of this repo.) -/
import Derived.Test.YtiglncbaomoceaaZPellPeriods3
set_option linter.unusedVariables false
set_option linter.unusedSimpArgs false
/- Walks: the powers of the least solution. (Own work of this repo.) -/
namespace Go.Proofs.Ytiglncbaomoceaa
open Vm
open Pel hiding allS
set_option maxRecDepth 10000

theorem H_ge {D r : Int} (hr : Rt D r) (n : Nat) : (H D r n).1.2 ≤ (H D r n).1.1 := (H_le hr n).1
theorem LXY_pos {D r : Int} (hr : Rt D r) (L : Nat) : 1 ≤ LX D r L ∧ 0 ≤ LY D r L ∧ LY D r L ≤ LX D r L := by
  have hp := H_pos hr (L - 1)
  have h1 := H_ge hr (L - 1)
  have hD : 1 ≤ D := by
    have := hr.lo
    have := Int.mul_nonneg (show 0 ≤ r by have := hr.pos; omega) (show 0 ≤ r by have := hr.pos; omega)
    omega
  unfold LX LY
  split
  · generalize (H D r (L - 1)).1.1 = x at *
    generalize (H D r (L - 1)).1.2 = y at *
    have e1 : 1 ≤ x * x := Int.mul_le_mul (a := 1) (b := 1) (c := x) (d := x) hp.1 hp.1 (by omega) (by omega)
    have e2 : 0 ≤ y * y := Int.mul_nonneg (by omega) (by omega)
    have e3 : y * y ≤ D * (y * y) := by
      have : 1 * (y * y) ≤ D * (y * y) := Int.mul_le_mul_of_nonneg_right hD e2
      omega
    have e4 : 0 ≤ x * y := Int.mul_nonneg (by omega) (by omega)
    have e5 : 0 ≤ (x - y) * (x - y) := by
      exact Int.mul_nonneg (by omega) (by omega)
    have e6 : (x - y) * (x - y) = x * x - x * y - y * x + y * y := by grind
    have e7 : 0 ≤ y * x := Int.mul_nonneg (by omega) (by omega)
    omega
  · omega
/-- What is needed for a product within bounds. -/
theorem times_in (D x y u v X : Int) (fx fy fu fv : Bool) (hD : 1 ≤ D ∧ D ≤ 1000000) (hx : 1 ≤ x) (hy : 0 ≤ y) (hyx : y ≤ x) (hu : 1 ≤ u) (hv : 0 ≤ v) (hvu : v ≤ u) (hX : x * u + D * (y * v) ≤ X) (lX : (dg X).length ≤ 4096) :
    denP E 50 [pq fx x fy y, pq fu u fv v, .int .i64 D] = some (.ret (pq false (x * u + D * (y * v)) false (x * v + y * u))) := by
  have e0 : 0 ≤ y * v := Int.mul_nonneg hy hv
  have e1 : 0 ≤ D * (y * v) := Int.mul_nonneg (by omega) e0
  have e2 : y * v ≤ D * (y * v) := by
    have : 1 * (y * v) ≤ D * (y * v) := Int.mul_le_mul_of_nonneg_right hD.1 e0
    omega
  have e3 : x * 1 ≤ x * u := Int.mul_le_mul_of_nonneg_left hu (by omega)
  have e4 : 1 * u ≤ x * u := Int.mul_le_mul_of_nonneg_right hx (by omega)
  have e5 : 0 ≤ x * v := Int.mul_nonneg (by omega) hv
  have e6 : 0 ≤ y * u := Int.mul_nonneg hy (by omega)
  have e7 : x * v ≤ x * u := Int.mul_le_mul_of_nonneg_left hvu (by omega)
  have e8 : y * u ≤ x * u := Int.mul_le_mul_of_nonneg_right hyx (by omega)
  have e9 : 0 ≤ (x - y) * (u - v) := Int.mul_nonneg (by omega) (by omega)
  have e10 : (x - y) * (u - v) = x * u - x * v - y * u + y * v := by grind
  have hl : ∀ z, 0 ≤ z → z ≤ X → (dg z).length ≤ 4096 := fun z h1 h2 => Nat.le_trans (dg_mono (by omega)) lX
  exact pairTimes_spec D x y u v fx fy fu fv hD (hl _ (by omega) (by omega)) (hl _ (by omega) (by omega)) (hl _ (by omega) (by omega)) (hl _ (by omega) (by omega)) (hl _ (by omega) (by omega)) (hl _ (by omega) (by omega)) (hl _ (by omega) (by omega)) (hl _ (by omega) (by omega)) (hl _ (by omega) (by omega)) (hl _ (by omega) (by omega)) (hl _ (by omega) (by omega))
set_option maxHeartbeats 2000000 in
theorem nth1_calm (D r : Int) (hr : Rt D r) (hD : D ≤ 1000000) (L : Nat) (hL : Per D r L) (m : Nat) (hm : m < 9223372036854775808) (hfit : (dg (pw D (LX D r L) (LY D r L) m).1).length ≤ 4096) (pd pn : Nat) (h : Heap) (nx : Nat) (hp : pd < nx) (hp2 : pn < nx) (hh : h pd = some ⟨[.int .i64 D], false, 1, false⟩) (hh2 : h pn = some ⟨[.int .i64 (m : Int)], false, 1, false⟩) :
    Calm 48 [.ptr pd 0, .ptr pn 0] (.ret (pq false (pw D (LX D r L) (LY D r L) m).1 false (pw D (LX D r L) (LY D r L) m).2)) h nx := by
  intro HH N hN hH
  have q := (hH pd hp).trans hh
  have q2 := (hH pn hp2).trans hh2
  have c1 := least_spec D r hr hD L hL
  have hpos := LXY_pos hr L
  have hD1 : 1 ≤ D := by
    have := hr.lo
    have := Int.mul_nonneg (show 0 ≤ r by have := hr.pos; omega) (show 0 ≤ r by have := hr.pos; omega)
    omega
  clear hL hr
  generalize LX D r L = bx at *
  generalize LY D r L = byy at *
  have o1 := of_spec 1 (by decide) (by decide)
  have o0 := of_spec 0 (by decide) (by decide)
  have key : ∃ v h' n', denO E 48 [.ptr pd 0, .ptr pn 0] HH N = some (.ret v, h', n') ∧ v = pq false (pw D bx byy m).1 false (pw D bx byy m).2 ∧ N ≤ n' ∧ ∀ i, i < N → h' i = HH i := by
    refine denO_intro E48 rfl ?_
    have y0 : (pd = N) = False := eq_false (by omega)
    have y1 : (pd = N + 1) = False := eq_false (by omega)
    have y2 : (pd = N + 2) = False := eq_false (by omega)
    have y3 : (pn = N) = False := eq_false (by omega)
    have y4 : (pn = N + 1) = False := eq_false (by omega)
    have y5 : (pn = N + 2) = False := eq_false (by omega)
    simp (maxSteps := 4000000) only [go_sem, ↓reduceIte, Nat.reduceAdd, Nat.reduceSub, Nat.reduceMul, Nat.reduceEqDiff, reduceCtorEq, Int.reduceAdd, Int.reduceLT, Int.reduceLE, Int.reduceToNat, Int.reduceNeg, Int.reduceSub, ← List.map_take, ← List.map_drop, ne_eq, Nat.reduceLeDiff, Nat.reduceLT, Nat.zero_le, Nat.le_refl, wrap64, wrapu64, wrapu32, ← Int.natCast_add, ← Int.natCast_mul, cast_succ, wrapu32_nat, shr32, reps_wd, map_set_wd, List.length_set, zs_len, Try.f48, q, q2, places, fillAll]
    obtain ⟨QQ, hQQ⟩ : ∃ QQ : Ex → St → Prop, QQ = fun ex τ => ex = .norm ∧ (∃ g : Nat → AV, τ.sl = [.ptr pd 0, .ptr pn 0, .ptr N 0, .ptr (N + 1) 0, .ptr (N + 2) 0, g 5, g 6, g 7, g 8, g 9, g 10, g 11, g 12, g 13, g 14, g 15, g 16, g 17, g 18, g 19, g 20, g 21, g 22, g 23, g 24, g 25, g 26, g 27, g 28]) ∧ N + 3 ≤ τ.nx ∧ τ.h N = some zrow ∧ τ.h (N + 1) = some (pqrow false 1 false 0) ∧ τ.h (N + 2) = some (pqrow false bx false byy) ∧ ∀ i, i < N → τ.h i = HH i := ⟨_, rfl⟩
    refine W_mono (Q := QQ) ?_ ?_
    · refine W_drawn2 ?_
      simp (maxSteps := 4000000) only [go_sem, ↓reduceIte, Nat.reduceAdd, Nat.reduceSub, Nat.reduceMul, Nat.reduceEqDiff, reduceCtorEq, Int.reduceAdd, Int.reduceLT, Int.reduceLE, Int.reduceToNat, Int.reduceNeg, Int.reduceSub, ← List.map_take, ← List.map_drop, ne_eq, Nat.reduceLeDiff, Nat.reduceLT, Nat.zero_le, Nat.le_refl, wrap64, wrapu64, wrapu32, ← Int.natCast_add, ← Int.natCast_mul, cast_succ, wrapu32_nat, shr32, reps_wd, map_set_wd, List.length_set, zs_len, q, q2, c1, o1, o0, y0, y1, y2, y3, y4, y5, off_ne, ne_off, places, fillAll]
      refine ⟨by exact allW_of [] [0, 1, 3, 0, 11, 0, 0, 127, 255] (by kernel_rfl) (by ((simp only [List.flatMap_cons, List.flatMap_nil, cr, List.append_nil, List.nil_append, List.cons_append]); rfl)) (by ((simp (disch := omega) [sts, stB, allS, stOk, cr, Dep.ok, loadEff, upd_apply, if_neg, T1, T2, T3, T4, T5, T6, T9, T10, T11, T12, T15, T16, T17, T20, T21, T22, T23, T25, T26, T27, T28, T30, T31, T32, T33, T34, T36, T37, T38, T39, T40, T41, T43, T44, T46, T47, T48, T49, T50, T51, T52, T53, T54, T55, T56, T57, T58, T59, T60, T61, T62, T63, T64, T65, T67, T68, T69, T70, T71, T72, T73, T74, T75, T76, T77, T78, T80, T81, T83, T84, T86, T87, T88, T89, T90, T91, T93, T94, T95, T96, T98, T99, T100, T101, T103, T105, T106, T107, T108, T109, T110, T111, T112, T113, T114, T117, T120, T121, T122, T123, T124, T125, T126, q, q2, y0, y1, y2, y3, y4, y5, off_ne, ne_off]) <;> (repeat (any_goals apply And.intro)) <;> (first | omega | rfl | (intro hx; first | omega | rfl)))) (by ((repeat ((with_unfolding_all refine And.intro ?_ ?_); (focus ((with_unfolding_all refine ⟨?_, ?_, ?_⟩) <;> ((intro i hi hj); (simp only [cr, Rec.ids, List.map_cons, List.map_nil, List.mem_cons, List.not_mem_nil, or_false, false_or] at hi hj); (first | done | omega)))))); (with_unfolding_all exact True.intro))), ?_⟩
      rw [hQQ]
      refine ⟨rfl, garb rfl, by dsimp only; omega, ?_, ?_, ?_, ?_⟩
      · simp only [upd_apply, ↓reduceIte, Nat.reduceEqDiff, Nat.add_assoc, off_ne, ne_off]
      · simp only [upd_apply, ↓reduceIte, Nat.reduceEqDiff, Nat.add_assoc, off_ne, ne_off, Nat.add_right_inj]
      · simp only [upd_apply, ↓reduceIte, Nat.reduceEqDiff, Nat.add_assoc, off_ne, ne_off]
      · intro i hi
        (repeat (refine (upd_ne (by omega)).trans ?_))
        rfl
    · rw [hQQ]
      clear hQQ QQ c1 o1 o0
      rintro ex ⟨sl, H', nn⟩ ⟨rfl, ⟨g', rfl⟩, hn, k1, k2, k3, k4⟩
      dsimp only at hn k1 k2 k3 k4
      have k5 := (k4 pd (by omega)).trans q
      have k6 := (k4 pn (by omega)).trans q2
      clear q q2
      generalize hro : N + 1 = ro at *
      generalize hrb : N + 2 = rb at *
      simp (maxSteps := 4000000) only [go_sem, ↓reduceIte, Nat.reduceAdd, Nat.reduceSub, Nat.reduceMul, Nat.reduceEqDiff, reduceCtorEq, Int.reduceAdd, Int.reduceLT, Int.reduceLE, Int.reduceToNat, Int.reduceNeg, Int.reduceSub, ← List.map_take, ← List.map_drop, ne_eq, Nat.reduceLeDiff, Nat.reduceLT, Nat.zero_le, Nat.le_refl, wrap64, wrapu64, wrapu32, ← Int.natCast_add, ← Int.natCast_mul, cast_succ, wrapu32_nat, shr32, reps_wd, map_set_wd, List.length_set, zs_len, k1]
      refine W_loopS (fun k sl h nx => (∃ g : Nat → AV, sl = [.ptr pd 0, .ptr pn 0, .ptr N 0, .ptr ro 0, .ptr rb 0, .int .i64 ((k : Int) - 1), g 6, g 7, g 8, g 9, g 10, g 11, g 12, g 13, g 14, g 15, g 16, g 17, g 18, g 19, g 20, g 21, g 22, g 23, g 24, g 25, g 26, g 27, g 28]) ∧ k ≤ 63 ∧ N + 3 ≤ nx ∧
        h N = some zrow ∧ h ro = some (pqrow false (pw D bx byy (m / 2 ^ k)).1 false (pw D bx byy (m / 2 ^ k)).2) ∧ h rb = some (pqrow false bx false byy) ∧ h pd = some ⟨[.int .i64 D], false, 1, false⟩ ∧ h pn = some ⟨[.int .i64 (m : Int)], false, 1, false⟩ ∧ ∀ i, i < N → h i = HH i) 63 ⟨garb rfl, by omega, hn, k1, ?_, k3, k5, k6, k4⟩ ?_
      · rw [Nat.div_eq_of_lt (show m < 2 ^ 63 from hm), pw_zero]
        exact k2
      clear k1 k2 k3 k4 k5 k6 hn
      rintro k _ h nx ⟨⟨g, rfl⟩, hk, hn, k1, k2, k3, k5, k6, k4⟩
      have u1 : (N = ro) = False := eq_false (by omega)
      have u2 : (ro = N) = False := eq_false (by omega)
      have u3 : (rb = ro) = False := eq_false (by omega)
      have u4 : (ro = rb) = False := eq_false (by omega)
      have u5 : (pd = ro) = False := eq_false (by omega)
      have u6 : (pn = ro) = False := eq_false (by omega)
      have u7 : (pd = N) = False := eq_false (by omega)
      by_cases hk0 : k = 0
      · subst hk0
        rw [Nat.pow_zero, Nat.div_one] at k2
        generalize (pw D bx byy m).1 = X at *
        generalize (pw D bx byy m).2 = Y at *
        simp (maxSteps := 4000000) only [go_sem, ↓reduceIte, Nat.reduceAdd, Nat.reduceSub, Nat.reduceMul, Nat.reduceEqDiff, reduceCtorEq, Int.reduceAdd, Int.reduceLT, Int.reduceLE, Int.reduceToNat, Int.reduceNeg, Int.reduceSub, ← List.map_take, ← List.map_drop, ne_eq, Nat.reduceLeDiff, Nat.reduceLT, Nat.zero_le, Nat.le_refl, wrap64, wrapu64, wrapu32, ← Int.natCast_add, ← Int.natCast_mul, cast_succ, wrapu32_nat, shr32, reps_wd, map_set_wd, List.length_set, zs_len, k1, k2, u1, u2]
        refine ⟨by omega, fun i hi => ?_⟩
        rw [if_neg (by omega)]
        exact k4 i hi
      · obtain ⟨j, rfl⟩ : ∃ j, k = j + 1 := ⟨k - 1, by omega⟩
        have hst := half_step m j
        have hb := bit63 hm (show j < 63 by omega)
        have e1 : ((j + 1 : Nat) : Int) - 1 = (j : Int) := by omega
        have hle : m / 2 ^ j ≤ m := Nat.div_le_self _ _
        have hbd := pw_bounds hD1 hpos.1 hpos.2.1 hpos.2.2
        have hmn := pw_mono hD1 hpos.1 hpos.2.1 hpos.2.2
        have hj0 : ((0 : Int) ≤ (j : Int)) = True := eq_true (by omega)
        have wj : IntKind.i64.wrap ((j : Int) - 1) = (j : Int) - 1 := wrap64 (by omega) (by omega)
        have hjn : ((j : Int) < 0) = False := eq_false (by omega)
        generalize hq : m / 2 ^ (j + 1) = a at *
        have hdb := pw_add D bx byy a a
        have t1 := times_in D (pw D bx byy a).1 (pw D bx byy a).2 (pw D bx byy a).1 (pw D bx byy a).2 (pw D bx byy m).1 false false false false ⟨hD1, hD⟩ (hbd a).1 (hbd a).2.1 (hbd a).2.2.1 (hbd a).1 (hbd a).2.1 (hbd a).2.2.1 (by
          have := hmn (a + a) (m - (a + a))
          rw [show a + a + (m - (a + a)) = m by omega, hdb] at this
          exact this) hfit
        have hd1 := congrArg Prod.fst hdb
        have hd2 := congrArg Prod.snd hdb
        dsimp only at hd1 hd2
        rw [← hd1, ← hd2] at t1
        clear hd1 hd2
        rcases Nat.mod_two_eq_zero_or_one (m / 2 ^ j) with hbit | hbit
        · rw [hbit] at hb hst
          have hnx : m / 2 ^ j = a + a := by omega
          generalize hX : (pw D bx byy (a + a)).1 = X at *
          generalize hY : (pw D bx byy (a + a)).2 = Y at *
          generalize (pw D bx byy a).1 = x at *
          generalize (pw D bx byy a).2 = y at *
          clear hbd hmn hdb hfit
          simp (maxSteps := 4000000) only [go_sem, ↓reduceIte, Nat.reduceAdd, Nat.reduceSub, Nat.reduceMul, Nat.reduceEqDiff, reduceCtorEq, Int.reduceAdd, Int.reduceLT, Int.reduceLE, Int.reduceToNat, Int.reduceNeg, Int.reduceSub, ← List.map_take, ← List.map_drop, ne_eq, Nat.reduceLeDiff, Nat.reduceLT, Nat.zero_le, Nat.le_refl, wrap64, wrapu64, wrapu32, ← Int.natCast_add, ← Int.natCast_mul, cast_succ, wrapu32_nat, shr32, reps_wd, map_set_wd, List.length_set, zs_len, e1, wj, hj0, hjn, k1, k2, k3, k5, k6, t1, hb, u1, u2, u3, u4, u5, u6, u7, Int.reduceEq, places, fillAll]
          refine ⟨j, by omega, garb rfl, by omega, hn, ?_, fun i hi => ?_⟩
          · rw [hnx, hX, hY]
          · (repeat rw [if_neg (by omega)])
            exact k4 i hi
        · rw [hbit] at hb hst
          have hnx : m / 2 ^ j = a + a + 1 := by omega
          have hsc := pw_succ D bx byy (a + a)
          have t2 := times_in D (pw D bx byy (a + a)).1 (pw D bx byy (a + a)).2 bx byy (pw D bx byy m).1 false false false false ⟨hD1, hD⟩ (hbd _).1 (hbd _).2.1 (hbd _).2.2.1 hpos.1 hpos.2.1 hpos.2.2 (by
            have := hmn (a + a + 1) (m - (a + a + 1))
            rw [show a + a + 1 + (m - (a + a + 1)) = m by omega, hsc] at this
            exact this) hfit
          have hd1 := congrArg Prod.fst hsc
          have hd2 := congrArg Prod.snd hsc
          dsimp only at hd1 hd2
          rw [← hd1, ← hd2] at t2
          clear hd1 hd2
          generalize hX2 : (pw D bx byy (a + a + 1)).1 = X2 at *
          generalize hY2 : (pw D bx byy (a + a + 1)).2 = Y2 at *
          generalize hX : (pw D bx byy (a + a)).1 = X at *
          generalize hY : (pw D bx byy (a + a)).2 = Y at *
          generalize (pw D bx byy a).1 = x at *
          generalize (pw D bx byy a).2 = y at *
          clear hbd hmn hdb hfit hsc
          simp (maxSteps := 4000000) only [go_sem, ↓reduceIte, Nat.reduceAdd, Nat.reduceSub, Nat.reduceMul, Nat.reduceEqDiff, reduceCtorEq, Int.reduceAdd, Int.reduceLT, Int.reduceLE, Int.reduceToNat, Int.reduceNeg, Int.reduceSub, ← List.map_take, ← List.map_drop, ne_eq, Nat.reduceLeDiff, Nat.reduceLT, Nat.zero_le, Nat.le_refl, wrap64, wrapu64, wrapu32, ← Int.natCast_add, ← Int.natCast_mul, cast_succ, wrapu32_nat, shr32, reps_wd, map_set_wd, List.length_set, zs_len, e1, wj, hj0, hjn, k1, k2, k3, k5, k6, t1, t2, hb, u1, u2, u3, u4, u5, u6, u7, Int.reduceEq, places, fillAll]
          refine ⟨j, by omega, garb rfl, by omega, hn, ?_, fun i hi => ?_⟩
          · rw [hnx, hX2, hY2]
          · (repeat rw [if_neg (by omega)])
            exact k4 i hi
  obtain ⟨v, h', n', h1, rfl, h2⟩ := key
  exact ⟨h', n', h1, h2⟩
theorem Nth_yes (D r : Int) (hr : Rt D r) (hD : D ≤ 1000000) (L : Nat) (hL : Per D r L) (m : Nat) (hm : m < 9223372036854775808) (hfit : (dg (pw D (LX D r L) (LY D r L) m).1).length ≤ 4096) :
    denP E 21 [.int .i64 D, .int .i64 (m : Int)] = some (.ret (RP3 (I false (pw D (LX D r L) (LY D r L) m).1) (I false (pw D (LX D r L) (LY D r L) m).2) 0)) := by
  refine denP_eq E21 rfl (by simp [AV.pureL, AV.pure, pure_wd]) ?_
  have hf := fits_yes D r hr hD
  have z1 : ((m : Int) < 0) = False := eq_false (by omega)
  have hc := fun (p q : Nat) (H : Heap) (nx : Nat) h1 h2 h3 h4 => nth1_calm D r hr hD L hL m hm hfit p q H nx h1 h2 h3 h4
  generalize (pw D (LX D r L) (LY D r L) m).1 = x at *
  generalize (pw D (LX D r L) (LY D r L) m).2 = y at *
  simp (maxSteps := 4000000) only [go_sem, ↓reduceIte, Nat.reduceAdd, Nat.reduceSub, Nat.reduceMul, Nat.reduceEqDiff, reduceCtorEq, Int.reduceAdd, Int.reduceLT, Int.reduceLE, Int.reduceToNat, Int.reduceNeg, Int.reduceSub, ← List.map_take, ← List.map_drop, ne_eq, Nat.reduceLeDiff, Nat.reduceLT, Nat.zero_le, Nat.le_refl, wrap64, wrapu64, wrapu32, ← Int.natCast_add, ← Int.natCast_mul, cast_succ, wrapu32_nat, shr32, reps_wd, map_set_wd, List.length_set, zs_len, Try.f21, hf, z1, places, fillAll]
  refine openK_get (tried_ret 48 [] [.ptr 0 0, .ptr 1 0] rfl false false x y _ 4 (hc 0 1 _ 4 (by decide) (by decide) ?_ ?_)) ?_
  · simp only [upd_apply, ↓reduceIte, Nat.reduceEqDiff, if_pos]
  · simp only [upd_apply, ↓reduceIte, Nat.reduceEqDiff, if_pos]
  intro H' N' k1 k2
  have q0 := k2 0 (by decide)
  have q1 := k2 1 (by decide)
  have q2 := k2 2 (by decide)
  have q3 := k2 3 (by decide)
  simp only [upd_apply, ↓reduceIte, Nat.reduceEqDiff, if_pos] at q0 q1 q2 q3
  clear k2 hc
  simp (maxSteps := 4000000) only [go_sem, ↓reduceIte, Nat.reduceAdd, Nat.reduceSub, Nat.reduceMul, Nat.reduceEqDiff, reduceCtorEq, Int.reduceAdd, Int.reduceLT, Int.reduceLE, Int.reduceToNat, Int.reduceNeg, Int.reduceSub, ← List.map_take, ← List.map_drop, ne_eq, Nat.reduceLeDiff, Nat.reduceLT, Nat.zero_le, Nat.le_refl, wrap64, wrapu64, wrapu32, ← Int.natCast_add, ← Int.natCast_mul, cast_succ, wrapu32_nat, shr32, reps_wd, map_set_wd, List.length_set, zs_len, q0, q1, q2, q3]
theorem Nth_no (D n : Int) (h : denP E 36 [.int .i64 D] = some (.ret (.bool false))) : denP E 21 [.int .i64 D, .int .i64 n] = some (.ret (RP3 (I true 0) (I true 0) 2)) := by
  refine denP_eq E21 rfl (by simp [AV.pureL, AV.pure, pure_wd]) ?_
  have q0 := ng_zero
  have q1 := dg_zero
  simp (maxSteps := 4000000) only [go_sem, ↓reduceIte, Nat.reduceAdd, Nat.reduceSub, Nat.reduceMul, Nat.reduceEqDiff, reduceCtorEq, Int.reduceAdd, Int.reduceLT, Int.reduceLE, Int.reduceToNat, Int.reduceNeg, Int.reduceSub, ← List.map_take, ← List.map_drop, ne_eq, Nat.reduceLeDiff, Nat.reduceLT, Nat.zero_le, Nat.le_refl, wrap64, wrapu64, wrapu32, ← Int.natCast_add, ← Int.natCast_mul, cast_succ, wrapu32_nat, shr32, reps_wd, map_set_wd, List.length_set, zs_len, Try.f21, h, places, fillAll, ng_zero, dg_zero, List.map_nil]
theorem Nth_neg (D n : Int) (h : denP E 36 [.int .i64 D] = some (.ret (.bool true))) (hn : n < 0) : denP E 21 [.int .i64 D, .int .i64 n] = some (.ret (RP3 (I true 0) (I true 0) 2)) := by
  refine denP_eq E21 rfl (by simp [AV.pureL, AV.pure, pure_wd]) ?_
  have z1 : (n < 0) = True := eq_true hn
  simp (maxSteps := 4000000) only [go_sem, ↓reduceIte, Nat.reduceAdd, Nat.reduceSub, Nat.reduceMul, Nat.reduceEqDiff, reduceCtorEq, Int.reduceAdd, Int.reduceLT, Int.reduceLE, Int.reduceToNat, Int.reduceNeg, Int.reduceSub, ← List.map_take, ← List.map_drop, ne_eq, Nat.reduceLeDiff, Nat.reduceLT, Nat.zero_le, Nat.le_refl, wrap64, wrapu64, wrapu32, ← Int.natCast_add, ← Int.natCast_mul, cast_succ, wrapu32_nat, shr32, reps_wd, map_set_wd, List.length_set, zs_len, Try.f21, h, z1, places, fillAll, ng_zero, dg_zero, List.map_nil]
end Go.Proofs.Ytiglncbaomoceaa

/- Walks: the reference's unit, norm and product. (Own work of this repo.) -/
namespace Go.Proofs.Ytiglncbaomoceaa
open Vm
open Pel hiding allS
set_option maxRecDepth 10000

theorem rNorm (D x y : Int) (fx fy : Bool) (hD : 0 ≤ D ∧ D ≤ 1000000) (lx : (dg x).length ≤ 100000) (ly : (dg y).length ≤ 100000) : denP E 18 [.int .i64 D, I fx x, I fy y] = some (.ret (RM (x * x - D * (y * y)))) := by
  refine denP_eq E18 rfl (by simp [AV.pureL, AV.pure, pure_wd]) ?_
  have o1 := rOf_spec D (by omega) (by omega)
  have lD := dg_small (z := D) (by omega)
  have a1 := dg_mul x x
  have a2 := dg_mul y y
  have a3 := dg_mul D (y * y)
  have M1 := rMul_spec fx x fx x (by omega) (by omega)
  have M2 := rMul_spec fy y fy y (by omega) (by omega)
  have M3 := rMul_spec (decide (D = 0)) D (decide (y * y = 0)) (y * y) (by omega) (by omega)
  have S1 := rSub_spec (decide (x * x = 0)) (x * x) (decide (D * (y * y) = 0)) (D * (y * y)) (by omega) (by omega)
  clear a1 a2 a3 lx ly lD
  rw [RM] at *
  generalize x * x - D * (y * y) = z at *
  generalize decide (z = 0) = fz at *
  generalize D * (y * y) = a3 at *
  generalize decide (a3 = 0) = f3 at *
  generalize y * y = a2 at *
  generalize decide (a2 = 0) = f2 at *
  generalize x * x = a1 at *
  generalize decide (a1 = 0) = f1 at *
  generalize decide (D = 0) = f0 at *
  simp (maxSteps := 4000000) only [go_sem, ↓reduceIte, Nat.reduceAdd, Nat.reduceSub, Nat.reduceMul, Nat.reduceEqDiff, reduceCtorEq, Int.reduceAdd, Int.reduceLT, Int.reduceLE, Int.reduceToNat, Int.reduceNeg, Int.reduceSub, ← List.map_take, ← List.map_drop, ne_eq, Nat.reduceLeDiff, Nat.reduceLT, Nat.zero_le, Nat.le_refl, wrap64, wrapu64, wrapu32, ← Int.natCast_add, ← Int.natCast_mul, cast_succ, wrapu32_nat, shr32, reps_wd, map_set_wd, List.length_set, zs_len, Try.f18, places, fillAll]
  refine W_drawn ?_
  simp (maxSteps := 4000000) only [go_sem, ↓reduceIte, Nat.reduceAdd, Nat.reduceSub, Nat.reduceMul, Nat.reduceEqDiff, reduceCtorEq, Int.reduceAdd, Int.reduceLT, Int.reduceLE, Int.reduceToNat, Int.reduceNeg, Int.reduceSub, ← List.map_take, ← List.map_drop, ne_eq, Nat.reduceLeDiff, Nat.reduceLT, Nat.zero_le, Nat.le_refl, wrap64, wrapu64, wrapu32, ← Int.natCast_add, ← Int.natCast_mul, cast_succ, wrapu32_nat, shr32, reps_wd, map_set_wd, List.length_set, zs_len, o1, M1, M2, M3, S1, places, fillAll]
  refine okR_pairs ?_; (repeat ((with_unfolding_all refine And.intro ?_ ?_); (focus (rw [free_mk] <;> (try simp) <;> (try omega))))); (with_unfolding_all exact True.intro)
set_option maxHeartbeats 1000000 in
theorem rProduct (D x y u v : Int) (fx fy fu fv : Bool) (hD : 0 ≤ D ∧ D ≤ 1000000) (lx : (dg x).length ≤ 1000000) (ly : (dg y).length ≤ 1000000) (lu : (dg u).length ≤ 1000000) (lv : (dg v).length ≤ 1000000) :
    denP E 27 [.int .i64 D, I fx x, I fy y, I fu u, I fv v] = some (.ret (.tup [RM (x * u + D * (y * v)), RM (x * v + y * u)])) := by
  refine denP_eq E27 rfl (by simp [AV.pureL, AV.pure, pure_wd]) ?_
  have o1 := rOf_spec D (by omega) (by omega)
  have lD := dg_small (z := D) (by omega)
  have a1 := dg_mul x u
  have a2 := dg_mul y v
  have a3 := dg_mul D (y * v)
  have a4 := dg_mul x v
  have a5 := dg_mul y u
  have M1 := rMul_spec fx x fu u (by omega) (by omega)
  have M2 := rMul_spec fy y fv v (by omega) (by omega)
  have M3 := rMul_spec (decide (D = 0)) D (decide (y * v = 0)) (y * v) (by omega) (by omega)
  have M4 := rMul_spec fx x fv v (by omega) (by omega)
  have M5 := rMul_spec fy y fu u (by omega) (by omega)
  have S1 := rAdd_spec (decide (x * u = 0)) (x * u) (decide (D * (y * v) = 0)) (D * (y * v)) (by omega) (by omega)
  have S2 := rAdd_spec (decide (x * v = 0)) (x * v) (decide (y * u = 0)) (y * u) (by omega) (by omega)
  clear a1 a2 a3 a4 a5 lx ly lu lv lD
  simp only [RM] at *
  generalize x * u + D * (y * v) = z at *
  generalize x * v + y * u = z2 at *
  generalize decide (z = 0) = fz at *
  generalize decide (z2 = 0) = fz2 at *
  generalize D * (y * v) = a3 at *
  generalize decide (a3 = 0) = f3 at *
  generalize y * v = a2 at *
  generalize decide (a2 = 0) = f2 at *
  generalize x * u = a1 at *
  generalize decide (a1 = 0) = f1 at *
  generalize x * v = a4 at *
  generalize decide (a4 = 0) = f4 at *
  generalize y * u = a5 at *
  generalize decide (a5 = 0) = f5 at *
  generalize decide (D = 0) = f0 at *
  simp (maxSteps := 4000000) only [go_sem, ↓reduceIte, Nat.reduceAdd, Nat.reduceSub, Nat.reduceMul, Nat.reduceEqDiff, reduceCtorEq, Int.reduceAdd, Int.reduceLT, Int.reduceLE, Int.reduceToNat, Int.reduceNeg, Int.reduceSub, ← List.map_take, ← List.map_drop, ne_eq, Nat.reduceLeDiff, Nat.reduceLT, Nat.zero_le, Nat.le_refl, wrap64, wrapu64, wrapu32, ← Int.natCast_add, ← Int.natCast_mul, cast_succ, wrapu32_nat, shr32, reps_wd, map_set_wd, List.length_set, zs_len, Try.f27, places, fillAll]
  refine W_drawn ?_
  simp (maxSteps := 4000000) only [go_sem, ↓reduceIte, Nat.reduceAdd, Nat.reduceSub, Nat.reduceMul, Nat.reduceEqDiff, reduceCtorEq, Int.reduceAdd, Int.reduceLT, Int.reduceLE, Int.reduceToNat, Int.reduceNeg, Int.reduceSub, ← List.map_take, ← List.map_drop, ne_eq, Nat.reduceLeDiff, Nat.reduceLT, Nat.zero_le, Nat.le_refl, wrap64, wrapu64, wrapu32, ← Int.natCast_add, ← Int.natCast_mul, cast_succ, wrapu32_nat, shr32, reps_wd, map_set_wd, List.length_set, zs_len, o1, M1, M2, M3, M4, M5, S1, S2, places, fillAll]
  refine okR_pairs ?_; (repeat ((with_unfolding_all refine And.intro ?_ ?_); (focus (rw [free_mk] <;> (try simp) <;> (try omega))))); (with_unfolding_all exact True.intro)
/-- A row of the reference. -/
abbrev zz (z : Int) : Blk := ⟨[.bool (ng z), .lst (decide (z = 0)) ((dg z).map wd)], true, 2, false⟩
set_option maxHeartbeats 2000000 in
theorem rUnit (D r : Int) (hr : Rt D r) (hD : D ≤ 1000000) (L : Nat) (hL : Per D r L) :
    denP E 20 [.int .i64 D] = some (.ret (.tup [I false (H D r (L - 1)).1.1, I false (H D r (L - 1)).1.2])) := by
  refine denP_eq E20 rfl (by simp [AV.pureL, AV.pure, pure_wd]) ?_
  have hr2 := (A_small hr hD 0).1
  have hp := hr.pos
  have hlen := per_len hr hr2 hL
  have hL1 := hL.1
  have o0 := rPeriod D r hr hD L hL
  have o1 := arithmancyref07_root D r hD (by omega) (by have := hr.lo; omega) hr.hi
  have o2 := rOf_spec r (by omega) (by omega)
  have o3 := rOf_spec 1 (by decide) (by decide)
  have o4 := rOf_spec 0 (by decide) (by decide)
  rw [RM] at o2 o3 o4
  simp (maxSteps := 4000000) only [go_sem, ↓reduceIte, Nat.reduceAdd, Nat.reduceSub, Nat.reduceMul, Nat.reduceEqDiff, reduceCtorEq, Int.reduceAdd, Int.reduceLT, Int.reduceLE, Int.reduceToNat, Int.reduceNeg, Int.reduceSub, ← List.map_take, ← List.map_drop, ne_eq, Nat.reduceLeDiff, Nat.reduceLT, Nat.zero_le, Nat.le_refl, wrap64, wrapu64, wrapu32, ← Int.natCast_add, ← Int.natCast_mul, cast_succ, wrapu32_nat, shr32, reps_wd, map_set_wd, List.length_set, zs_len, Try.f20, o0, o1, o2, o3, o4, places, fillAll]
  refine W_loopS (fun k sl h nn => ∃ i : Nat, (∃ g : Nat → AV, sl = [g 0, g 1, .ptr 0 0, .ptr 1 0, .lst false (As D r L), .ptr 2 0, .ptr 3 0, .ptr 4 0, .ptr 5 0, .int .i64 (i : Int), g 10, g 11, g 12, g 13, g 14, g 15, g 16, g 17, g 18, g 19, g 20, g 21, g 22, g 23, g 24, g 25, g 26, g 27, g 28, g 29, g 30, g 31, g 32, g 33, g 34, g 35, g 36, g 37, g 38, g 39, g 40, g 41, g 42, g 43, g 44]) ∧ (h 0 = some ⟨[.bool false, .lst true []], true, 2, false⟩ ∧ h 1 = some ⟨[.bool false, .lst true []], true, 2, false⟩ ∧ h 2 = some (zz (H D r i).1.1) ∧ h 3 = some (zz (H D r i).1.2) ∧ h 4 = some (zz (H D r i).2.1) ∧ h 5 = some (zz (H D r i).2.2)) ∧ 6 ≤ nn ∧ i + k + 1 = L) (L - 1) ⟨0, garb rfl, ?_, Nat.le_refl _, by omega⟩ ?_
  · refine ⟨?_, ?_, ?_, ?_, ?_, ?_⟩ <;> simp only [upd_apply, ↓reduceIte, Nat.reduceEqDiff, if_pos] <;> rfl
  clear o0 o1 o2 o3 o4
  rintro k _ h nn ⟨i, ⟨g, rfl⟩, ⟨e0, e1, e2, e3, e4, e5⟩, hnn, hk⟩
  have hlA := As_len D r L
  have zi : ((0 : Int) ≤ (i : Int)) = True := eq_true (by omega)
  have w1 : IntKind.i64.wrap ((i + 1 : Nat) : Int) = ((i + 1 : Nat) : Int) := wrap64 (by omega) (by omega)
  have y0 : (nn = 0) = False := eq_false (by omega)
  have x0 : (0 = nn) = False := eq_false (by omega)
  have y1 : (nn = 1) = False := eq_false (by omega)
  have x1 : (1 = nn) = False := eq_false (by omega)
  have y2 : (nn = 2) = False := eq_false (by omega)
  have x2 : (2 = nn) = False := eq_false (by omega)
  have y3 : (nn = 3) = False := eq_false (by omega)
  have x3 : (3 = nn) = False := eq_false (by omega)
  have y4 : (nn = 4) = False := eq_false (by omega)
  have x4 : (4 = nn) = False := eq_false (by omega)
  have y5 : (nn = 5) = False := eq_false (by omega)
  have x5 : (5 = nn) = False := eq_false (by omega)
  by_cases h1 : i + 1 = L
  · have z1 : (((i + 1 : Nat) : Int) < (L : Int)) = False := eq_false (by omega)
    obtain rfl : i = L - 1 := by omega
    have hP := H_pos hr (L - 1)
    have d1 : decide ((H D r (L - 1)).1.1 = 0) = false := decide_eq_false (by omega)
    have d2 : decide ((H D r (L - 1)).1.2 = 0) = false := decide_eq_false (by omega)
    simp only [zz, d1, d2] at e2 e3
    generalize (H D r (L - 1)).1.1 = x at *
    generalize (H D r (L - 1)).1.2 = y at *
    simp (maxSteps := 4000000) only [go_sem, ↓reduceIte, Nat.reduceAdd, Nat.reduceSub, Nat.reduceMul, Nat.reduceEqDiff, reduceCtorEq, Int.reduceAdd, Int.reduceLT, Int.reduceLE, Int.reduceToNat, Int.reduceNeg, Int.reduceSub, ← List.map_take, ← List.map_drop, ne_eq, Nat.reduceLeDiff, Nat.reduceLT, Nat.zero_le, Nat.le_refl, wrap64, wrapu64, wrapu32, ← Int.natCast_add, ← Int.natCast_mul, cast_succ, wrapu32_nat, shr32, reps_wd, map_set_wd, List.length_set, zs_len, hlA, w1, z1]
    refine W_drawn ?_
    simp (maxSteps := 4000000) only [go_sem, ↓reduceIte, Nat.reduceAdd, Nat.reduceSub, Nat.reduceMul, Nat.reduceEqDiff, reduceCtorEq, Int.reduceAdd, Int.reduceLT, Int.reduceLE, Int.reduceToNat, Int.reduceNeg, Int.reduceSub, ← List.map_take, ← List.map_drop, ne_eq, Nat.reduceLeDiff, Nat.reduceLT, Nat.zero_le, Nat.le_refl, wrap64, wrapu64, wrapu32, ← Int.natCast_add, ← Int.natCast_mul, cast_succ, wrapu32_nat, shr32, reps_wd, map_set_wd, List.length_set, zs_len, e0, e1, e2, e3]
    refine okR_pairs ?_; (repeat ((with_unfolding_all refine And.intro ?_ ?_); (focus (rw [free_mk] <;> (try simp) <;> (try omega))))); (with_unfolding_all exact True.intro)
  · have z1 : (((i + 1 : Nat) : Int) < (L : Int)) = True := eq_true (by omega)
    have hg := As_get D r L i (by omega)
    have hA := A_pos hr (i + 1)
    have hA2 := (A_small hr hD (i + 1)).2.2.2.2.2.2.1
    have hP := H_pos hr i
    have l1 := H_len hr hr2 hL i (by omega)
    have l3 : (dg (H D r i).2.1).length ≤ 1630 := Nat.le_trans (dg_mono (by omega)) l1.1
    have l4 : (dg (H D r i).2.2).length ≤ 1630 := Nat.le_trans (dg_mono (by omega)) l1.2
    have o1 := rOf_spec (A D r (i + 1)) (by omega) (by omega)
    have la := dg_small (z := A D r (i + 1)) (by omega)
    simp (maxSteps := 4000000) only [go_sem, ↓reduceIte, Nat.reduceAdd, Nat.reduceSub, Nat.reduceMul, Nat.reduceEqDiff, reduceCtorEq, Int.reduceAdd, Int.reduceLT, Int.reduceLE, Int.reduceToNat, Int.reduceNeg, Int.reduceSub, ← List.map_take, ← List.map_drop, ne_eq, Nat.reduceLeDiff, Nat.reduceLT, Nat.zero_le, Nat.le_refl, wrap64, wrapu64, wrapu32, ← Int.natCast_add, ← Int.natCast_mul, cast_succ, wrapu32_nat, shr32, reps_wd, map_set_wd, List.length_set, zs_len, hlA, zi, w1, z1, hg, o1, e0, e1, e2, e3, e4, e5, y0, x0, y1, x1, y2, x2, y3, x3, y4, x4, y5, x5, places, fillAll]
    have lx := dg_mul (A D r (i + 1)) (H D r i).1.1
    have ly := dg_mul (A D r (i + 1)) (H D r i).1.2
    have M1 := rMul_spec (decide (A D r (i + 1) = 0)) (A D r (i + 1)) (decide ((H D r i).1.1 = 0)) (H D r i).1.1 (by omega) (by omega)
    have M2 := rMul_spec (decide (A D r (i + 1) = 0)) (A D r (i + 1)) (decide ((H D r i).1.2 = 0)) (H D r i).1.2 (by omega) (by omega)
    have S1 := rAdd_spec (decide (A D r (i + 1) * (H D r i).1.1 = 0)) (A D r (i + 1) * (H D r i).1.1) (decide ((H D r i).2.1 = 0)) (H D r i).2.1 (by omega) (by omega)
    have S2 := rAdd_spec (decide (A D r (i + 1) * (H D r i).1.2 = 0)) (A D r (i + 1) * (H D r i).1.2) (decide ((H D r i).2.2 = 0)) (H D r i).2.2 (by omega) (by omega)
    have hfin : ∀ (h : Heap) (m : Nat) (sl : List AV), (∃ g : Nat → AV, sl = [g 0, g 1, .ptr 0 0, .ptr 1 0, .lst false (As D r L), .ptr 2 0, .ptr 3 0, .ptr 4 0, .ptr 5 0, .int .i64 ((i + 1 : Nat) : Int), g 10, g 11, g 12, g 13, g 14, g 15, g 16, g 17, g 18, g 19, g 20, g 21, g 22, g 23, g 24, g 25, g 26, g 27, g 28, g 29, g 30, g 31, g 32, g 33, g 34, g 35, g 36, g 37, g 38, g 39, g 40, g 41, g 42, g 43, g 44]) → h 0 = some ⟨[.bool false, .lst true []], true, 2, false⟩ → h 1 = some ⟨[.bool false, .lst true []], true, 2, false⟩ →
        h 2 = some (zz (A D r (i + 1) * (H D r i).1.1 + (H D r i).2.1)) → h 3 = some (zz (A D r (i + 1) * (H D r i).1.2 + (H D r i).2.2)) → h 4 = some (zz (H D r i).1.1) → h 5 = some (zz (H D r i).1.2) → 6 ≤ m → ∃ k', k' < k ∧ ∃ i : Nat, (∃ g : Nat → AV, sl = [g 0, g 1, .ptr 0 0, .ptr 1 0, .lst false (As D r L), .ptr 2 0, .ptr 3 0, .ptr 4 0, .ptr 5 0, .int .i64 (i : Int), g 10, g 11, g 12, g 13, g 14, g 15, g 16, g 17, g 18, g 19, g 20, g 21, g 22, g 23, g 24, g 25, g 26, g 27, g 28, g 29, g 30, g 31, g 32, g 33, g 34, g 35, g 36, g 37, g 38, g 39, g 40, g 41, g 42, g 43, g 44]) ∧ (h 0 = some ⟨[.bool false, .lst true []], true, 2, false⟩ ∧ h 1 = some ⟨[.bool false, .lst true []], true, 2, false⟩ ∧ h 2 = some (zz (H D r i).1.1) ∧ h 3 = some (zz (H D r i).1.2) ∧ h 4 = some (zz (H D r i).2.1) ∧ h 5 = some (zz (H D r i).2.2)) ∧ 6 ≤ m ∧ i + k' + 1 = L := fun h m sl a0 a1 a2 a3 a4 a5 a6 a7 =>
      ⟨k - 1, by omega, i + 1, a0, ⟨a1, a2, by rw [H_succ]; exact a3, by rw [H_succ]; exact a4, by rw [H_succ]; exact a5, by rw [H_succ]; exact a6⟩, a7, by omega⟩
    generalize hIQ : (fun (k : Nat) (σ : St) => ∃ i : Nat, (∃ g : Nat → AV, σ.sl = [g 0, g 1, .ptr 0 0, .ptr 1 0, .lst false (As D r L), .ptr 2 0, .ptr 3 0, .ptr 4 0, .ptr 5 0, .int .i64 (i : Int), g 10, g 11, g 12, g 13, g 14, g 15, g 16, g 17, g 18, g 19, g 20, g 21, g 22, g 23, g 24, g 25, g 26, g 27, g 28, g 29, g 30, g 31, g 32, g 33, g 34, g 35, g 36, g 37, g 38, g 39, g 40, g 41, g 42, g 43, g 44]) ∧ (σ.h 0 = some ⟨[.bool false, .lst true []], true, 2, false⟩ ∧ σ.h 1 = some ⟨[.bool false, .lst true []], true, 2, false⟩ ∧ σ.h 2 = some (zz (H D r i).1.1) ∧ σ.h 3 = some (zz (H D r i).1.2) ∧ σ.h 4 = some (zz (H D r i).2.1) ∧ σ.h 5 = some (zz (H D r i).2.2)) ∧ 6 ≤ σ.nx ∧ i + k + 1 = L) = IQ
    clear l1 l3 l4 la lx ly o1 hg hlA hA hA2 hP hL hr
    simp only [RM] at M1 M2 S1 S2
    generalize (H D r i).1.1 = x at *
    generalize (H D r i).1.2 = y at *
    generalize (H D r i).2.1 = u at *
    generalize (H D r i).2.2 = v at *
    generalize A D r (i + 1) = a at *
    generalize a * x + u = xn at *
    generalize a * y + v = yn at *
    generalize a * x = ax at *
    generalize a * y = ay at *
    obtain ⟨QQ, hQQ⟩ : ∃ QQ : Ex → St → Prop, QQ = fun ex τ => ex = .norm ∧ (∃ g : Nat → AV, τ.sl = [g 0, g 1, .ptr 0 0, .ptr 1 0, .lst false (As D r L), .ptr 2 0, .ptr 3 0, .ptr 4 0, .ptr 5 0, .int .i64 (i : Int), .ptr nn 0, g 11, g 12, g 13, g 14, g 15, g 16, g 17, g 18, g 19, g 20, g 21, g 22, g 23, g 24, g 25, g 26, g 27, g 28, g 29, g 30, g 31, g 32, g 33, g 34, g 35, g 36, g 37, g 38, g 39, g 40, g 41, g 42, g 43, g 44]) ∧ nn + 1 ≤ τ.nx ∧ τ.h 0 = some ⟨[.bool false, .lst true []], true, 2, false⟩ ∧ τ.h 1 = some ⟨[.bool false, .lst true []], true, 2, false⟩ ∧ τ.h 2 = some (zz xn) ∧ τ.h 3 = some (zz y) ∧ τ.h 4 = some (zz x) ∧ τ.h 5 = some (zz v) ∧ τ.h nn = some (zz a) := ⟨_, rfl⟩
    refine W_mono (Q := QQ) ?_ ?_
    · refine W_drawn2 ?_
      simp (maxSteps := 4000000) only [go_sem, ↓reduceIte, Nat.reduceAdd, Nat.reduceSub, Nat.reduceMul, Nat.reduceEqDiff, reduceCtorEq, Int.reduceAdd, Int.reduceLT, Int.reduceLE, Int.reduceToNat, Int.reduceNeg, Int.reduceSub, ← List.map_take, ← List.map_drop, ne_eq, Nat.reduceLeDiff, Nat.reduceLT, Nat.zero_le, Nat.le_refl, wrap64, wrapu64, wrapu32, ← Int.natCast_add, ← Int.natCast_mul, cast_succ, wrapu32_nat, shr32, reps_wd, map_set_wd, List.length_set, zs_len, e0, e1, e2, e3, e4, e5, M1, S1, y0, x0, y1, x1, y2, x2, y3, x3, y4, x4, y5, x5, places, fillAll]
      refine ⟨by exact allW_of [] [0, 0, 3, 0, 15, 0, 63, 127] (by kernel_rfl) (by ((simp only [List.flatMap_cons, List.flatMap_nil, cr, List.append_nil, List.nil_append, List.cons_append]); rfl)) (by ((simp (disch := omega) [sts, stB, allS, stOk, cr, Dep.ok, loadEff, upd_apply, if_neg, T1, T2, T3, T4, T5, T6, T9, T10, T11, T12, T15, T16, T17, T20, T21, T22, T23, T25, T26, T27, T28, T30, T31, T32, T33, T34, T36, T37, T38, T39, T40, T41, T43, T44, T46, T47, T48, T49, T50, T51, T52, T53, T54, T55, T56, T57, T58, T59, T60, T61, T62, T63, T64, T65, T67, T68, T69, T70, T71, T72, T73, T74, T75, T76, T77, T78, T80, T81, T83, T84, T86, T87, T88, T89, T90, T91, T93, T94, T95, T96, T98, T99, T100, T101, T103, T105, T106, T107, T108, T109, T110, T111, T112, T113, T114, T117, T120, T121, T122, T123, T124, T125, T126, e0, e1, e2, e3, e4, e5, y0, x0, y1, x1, y2, x2, y3, x3, y4, x4, y5, x5]) <;> (repeat (any_goals apply And.intro)) <;> (first | omega | rfl | (intro hx; first | omega | rfl)))) (by ((repeat ((with_unfolding_all refine And.intro ?_ ?_); (focus ((with_unfolding_all refine ⟨?_, ?_, ?_⟩) <;> ((intro i hi hj); (simp only [cr, Rec.ids, List.map_cons, List.map_nil, List.mem_cons, List.not_mem_nil, or_false, false_or] at hi hj); (first | done | omega)))))); (with_unfolding_all exact True.intro))), ?_⟩
      rw [hQQ]
      refine ⟨rfl, garb rfl, by dsimp only; omega, ?_, ?_, ?_, ?_, ?_, ?_, ?_⟩ <;> simp only [upd_apply, ↓reduceIte, Nat.reduceEqDiff, e0, e1, e2, e3, e4, e5, if_pos, y0, x0, y1, x1, y2, x2, y3, x3, y4, x4, y5, x5]
    · rw [hQQ]
      clear hQQ QQ e0 e1 e2 e3 e4 e5 M1 S1
      rintro ex ⟨sl, H', m⟩ ⟨rfl, ⟨g', rfl⟩, hm, e0, e1, e2, e3, e4, e5, e6⟩
      dsimp only at hm e0 e1 e2 e3 e4 e5 e6
      simp (maxSteps := 4000000) only [go_sem, ↓reduceIte, Nat.reduceAdd, Nat.reduceSub, Nat.reduceMul, Nat.reduceEqDiff, reduceCtorEq, Int.reduceAdd, Int.reduceLT, Int.reduceLE, Int.reduceToNat, Int.reduceNeg, Int.reduceSub, ← List.map_take, ← List.map_drop, ne_eq, Nat.reduceLeDiff, Nat.reduceLT, Nat.zero_le, Nat.le_refl, wrap64, wrapu64, wrapu32, ← Int.natCast_add, ← Int.natCast_mul, cast_succ, wrapu32_nat, shr32, reps_wd, map_set_wd, List.length_set, zs_len, e0]
      refine W_drawn2 ?_
      simp (maxSteps := 4000000) only [go_sem, ↓reduceIte, Nat.reduceAdd, Nat.reduceSub, Nat.reduceMul, Nat.reduceEqDiff, reduceCtorEq, Int.reduceAdd, Int.reduceLT, Int.reduceLE, Int.reduceToNat, Int.reduceNeg, Int.reduceSub, ← List.map_take, ← List.map_drop, ne_eq, Nat.reduceLeDiff, Nat.reduceLT, Nat.zero_le, Nat.le_refl, wrap64, wrapu64, wrapu32, ← Int.natCast_add, ← Int.natCast_mul, cast_succ, wrapu32_nat, shr32, reps_wd, map_set_wd, List.length_set, zs_len, e0, e1, e2, e3, e4, e5, e6, M2, S2, y0, x0, y1, x1, y2, x2, y3, x3, y4, x4, y5, x5, places, fillAll]
      refine ⟨by exact allW_of [] [0, 0, 3, 0, 15, 0, 63, 127] (by kernel_rfl) (by ((simp only [List.flatMap_cons, List.flatMap_nil, cr, List.append_nil, List.nil_append, List.cons_append]); rfl)) (by ((simp (disch := omega) [sts, stB, allS, stOk, cr, Dep.ok, loadEff, upd_apply, if_neg, T1, T2, T3, T4, T5, T6, T9, T10, T11, T12, T15, T16, T17, T20, T21, T22, T23, T25, T26, T27, T28, T30, T31, T32, T33, T34, T36, T37, T38, T39, T40, T41, T43, T44, T46, T47, T48, T49, T50, T51, T52, T53, T54, T55, T56, T57, T58, T59, T60, T61, T62, T63, T64, T65, T67, T68, T69, T70, T71, T72, T73, T74, T75, T76, T77, T78, T80, T81, T83, T84, T86, T87, T88, T89, T90, T91, T93, T94, T95, T96, T98, T99, T100, T101, T103, T105, T106, T107, T108, T109, T110, T111, T112, T113, T114, T117, T120, T121, T122, T123, T124, T125, T126, e0, e1, e2, e3, e4, e5, e6, y0, x0, y1, x1, y2, x2, y3, x3, y4, x4, y5, x5]) <;> (repeat (any_goals apply And.intro)) <;> (first | omega | rfl | (intro hx; first | omega | rfl)))) (by ((repeat ((with_unfolding_all refine And.intro ?_ ?_); (focus ((with_unfolding_all refine ⟨?_, ?_, ?_⟩) <;> ((intro i hi hj); (simp only [cr, Rec.ids, List.map_cons, List.map_nil, List.mem_cons, List.not_mem_nil, or_false, false_or] at hi hj); (first | done | omega)))))); (with_unfolding_all exact True.intro))), ?_⟩
      simp (maxSteps := 4000000) only [go_sem, ↓reduceIte, Nat.reduceAdd, Nat.reduceSub, Nat.reduceMul, Nat.reduceEqDiff, reduceCtorEq, Int.reduceAdd, Int.reduceLT, Int.reduceLE, Int.reduceToNat, Int.reduceNeg, Int.reduceSub, ← List.map_take, ← List.map_drop, ne_eq, Nat.reduceLeDiff, Nat.reduceLT, Nat.zero_le, Nat.le_refl, wrap64, wrapu64, wrapu32, ← Int.natCast_add, ← Int.natCast_mul, cast_succ, wrapu32_nat, shr32, reps_wd, map_set_wd, List.length_set, zs_len, e0, e1, e2, e3, e4, e5, e6, w1]
      rw [← hIQ]
      refine hfin _ _ _ (garb rfl) ?_ ?_ ?_ ?_ ?_ ?_ (by dsimp only; omega) <;> simp only [upd_apply, ↓reduceIte, Nat.reduceEqDiff, e0, e1, e2, e3, e4, e5, if_pos]
theorem rLeast (D r : Int) (hr : Rt D r) (hD : D ≤ 1000000) (L : Nat) (hL : Per D r L) :
    denP E 16 [.int .i64 D] = some (.ret (.tup [RM (LX D r L), RM (LY D r L)])) := by
  refine denP_eq E16 rfl (by simp [AV.pureL, AV.pure, pure_wd]) ?_
  have hr2 := (A_small hr hD 0).1
  have hp := hr.pos
  have hlo := hr.lo
  have hrr : 1 ≤ r * r := Int.mul_le_mul (a := 1) (b := 1) (c := r) (d := r) hp hp (by omega) (by omega)
  have hlen := per_len hr hr2 hL
  have hl := H_len hr hr2 hL (L - 1) (by omega)
  have o0 := rPeriod D r hr hD L hL
  have o1 := rUnit D r hr hD L hL
  have hlA := As_len D r L
  have hP := H_pos hr (L - 1)
  have d1 : decide ((H D r (L - 1)).1.1 = 0) = false := decide_eq_false (by omega)
  have d2 : decide ((H D r (L - 1)).1.2 = 0) = false := decide_eq_false (by omega)
  have t1 := rProduct D (H D r (L - 1)).1.1 (H D r (L - 1)).1.2 (H D r (L - 1)).1.1 (H D r (L - 1)).1.2 false false false false (by omega) (by omega) (by omega) (by omega) (by omega)
  have w1 : IntKind.i64.wrap ((L : Int).tmod 2) = (L : Int).tmod 2 := wrap64 (by have := odd_int L; omega) (by have := odd_int L; omega)
  unfold LX LY
  by_cases h : L % 2 = 1
  · rw [if_pos h, if_pos h]
    have z1 : ((L : Int).tmod 2 = 1) = True := eq_true ((odd_int L).1.2 h)
    simp only [RM] at t1 ⊢
    generalize (H D r (L - 1)).1.1 = x at *
    generalize (H D r (L - 1)).1.2 = y at *
    generalize x * x + D * (y * y) = x2 at *
    generalize x * y + y * x = y2 at *
    simp (maxSteps := 4000000) only [go_sem, ↓reduceIte, Nat.reduceAdd, Nat.reduceSub, Nat.reduceMul, Nat.reduceEqDiff, reduceCtorEq, Int.reduceAdd, Int.reduceLT, Int.reduceLE, Int.reduceToNat, Int.reduceNeg, Int.reduceSub, ← List.map_take, ← List.map_drop, ne_eq, Nat.reduceLeDiff, Nat.reduceLT, Nat.zero_le, Nat.le_refl, wrap64, wrapu64, wrapu32, ← Int.natCast_add, ← Int.natCast_mul, cast_succ, wrapu32_nat, shr32, reps_wd, map_set_wd, List.length_set, zs_len, Try.f16, o0, o1, hlA, t1, w1, z1, Int.reduceEq, places, fillAll]
  · rw [if_neg h, if_neg h]
    have z1 : ((L : Int).tmod 2 = 1) = False := eq_false fun h1 => h ((odd_int L).1.1 h1)
    simp only [RM, d1, d2]
    generalize (H D r (L - 1)).1.1 = x at *
    generalize (H D r (L - 1)).1.2 = y at *
    simp (maxSteps := 4000000) only [go_sem, ↓reduceIte, Nat.reduceAdd, Nat.reduceSub, Nat.reduceMul, Nat.reduceEqDiff, reduceCtorEq, Int.reduceAdd, Int.reduceLT, Int.reduceLE, Int.reduceToNat, Int.reduceNeg, Int.reduceSub, ← List.map_take, ← List.map_drop, ne_eq, Nat.reduceLeDiff, Nat.reduceLT, Nat.zero_le, Nat.le_refl, wrap64, wrapu64, wrapu32, ← Int.natCast_add, ← Int.natCast_mul, cast_succ, wrapu32_nat, shr32, reps_wd, map_set_wd, List.length_set, zs_len, Try.f16, o0, o1, hlA, w1, z1, Int.reduceEq, places, fillAll]
    refine W_drawn ?_
    simp (maxSteps := 4000000) only [go_sem, ↓reduceIte, Nat.reduceAdd, Nat.reduceSub, Nat.reduceMul, Nat.reduceEqDiff, reduceCtorEq, Int.reduceAdd, Int.reduceLT, Int.reduceLE, Int.reduceToNat, Int.reduceNeg, Int.reduceSub, ← List.map_take, ← List.map_drop, ne_eq, Nat.reduceLeDiff, Nat.reduceLT, Nat.zero_le, Nat.le_refl, wrap64, wrapu64, wrapu32, ← Int.natCast_add, ← Int.natCast_mul, cast_succ, wrapu32_nat, shr32, reps_wd, map_set_wd, List.length_set, zs_len, places, fillAll]
    refine okR_pairs ?_; (repeat ((with_unfolding_all refine And.intro ?_ ?_); (focus (rw [free_mk] <;> (try simp) <;> (try omega))))); (with_unfolding_all exact True.intro)
end Go.Proofs.Ytiglncbaomoceaa

/- Walks: chapter 7 is awake. (Own work of this repo.) -/
namespace Go.Proofs.Ytiglncbaomoceaa
open Vm
open Pel hiding allS
set_option maxRecDepth 10000

theorem rt7 : Rt 7 2 := ⟨by decide, by decide, by decide⟩
theorem rt13 : Rt 13 3 := ⟨by decide, by decide, by decide⟩
theorem rt61 : Rt 61 7 := ⟨by decide, by decide, by decide⟩
theorem per7 : Per 7 2 4 := ⟨by decide, by decide +kernel, fun n h1 h2 => (by decide +kernel : ∀ n, n < 4 → 1 ≤ n → (P 7 2 n).2 ≠ 1) n h2 h1⟩
theorem per13 : Per 13 3 5 := ⟨by decide, by decide +kernel, fun n h1 h2 => (by decide +kernel : ∀ n, n < 5 → 1 ≤ n → (P 13 3 n).2 ≠ 1) n h2 h1⟩
theorem per61 : Per 61 7 11 := ⟨by decide, by decide +kernel, fun n h1 h2 => (by decide +kernel : ∀ n, n < 11 → 1 ≤ n → (P 61 7 n).2 ≠ 1) n h2 h1⟩
theorem no_spec (fx fy : Bool) (x y e w : Int) : denP E 13 [I fx x, I fy y, .int .i64 e, .int .i64 w] = some (.ret (.bool (decide (e = w) && decide (x = 0) && decide (y = 0)))) := by
  refine denP_eq E13 rfl (by simp [AV.pureL, AV.pure, pure_wd]) ?_
  have z1 := rZero_spec fx x
  have z2 := rZero_spec fy y
  by_cases h : e = w
  · by_cases hx : x = 0
    · rw [decide_eq_true hx] at z1
      rw [decide_eq_true h, decide_eq_true hx]
      simp (maxSteps := 4000000) only [go_sem, ↓reduceIte, Nat.reduceAdd, Nat.reduceSub, Nat.reduceMul, Nat.reduceEqDiff, reduceCtorEq, Int.reduceAdd, Int.reduceLT, Int.reduceLE, Int.reduceToNat, Int.reduceNeg, Int.reduceSub, ← List.map_take, ← List.map_drop, ne_eq, Nat.reduceLeDiff, Nat.reduceLT, Nat.zero_le, Nat.le_refl, wrap64, wrapu64, wrapu32, ← Int.natCast_add, ← Int.natCast_mul, cast_succ, wrapu32_nat, shr32, reps_wd, map_set_wd, List.length_set, zs_len, Try.f13, h, z1, z2, places, fillAll]
    · rw [decide_eq_false hx] at z1
      rw [decide_eq_true h, decide_eq_false hx]
      simp (maxSteps := 4000000) only [go_sem, ↓reduceIte, Nat.reduceAdd, Nat.reduceSub, Nat.reduceMul, Nat.reduceEqDiff, reduceCtorEq, Int.reduceAdd, Int.reduceLT, Int.reduceLE, Int.reduceToNat, Int.reduceNeg, Int.reduceSub, ← List.map_take, ← List.map_drop, ne_eq, Nat.reduceLeDiff, Nat.reduceLT, Nat.zero_le, Nat.le_refl, wrap64, wrapu64, wrapu32, ← Int.natCast_add, ← Int.natCast_mul, cast_succ, wrapu32_nat, shr32, reps_wd, map_set_wd, List.length_set, zs_len, Try.f13, h, z1, z2, places, fillAll]
      try rfl
  · rw [decide_eq_false h]
    simp (maxSteps := 4000000) only [go_sem, ↓reduceIte, Nat.reduceAdd, Nat.reduceSub, Nat.reduceMul, Nat.reduceEqDiff, reduceCtorEq, Int.reduceAdd, Int.reduceLT, Int.reduceLE, Int.reduceToNat, Int.reduceNeg, Int.reduceSub, ← List.map_take, ← List.map_drop, ne_eq, Nat.reduceLeDiff, Nat.reduceLT, Nat.zero_le, Nat.le_refl, wrap64, wrapu64, wrapu32, ← Int.natCast_add, ← Int.natCast_mul, cast_succ, wrapu32_nat, shr32, reps_wd, map_set_wd, List.length_set, zs_len, Try.f13, h, z1, z2, places, fillAll]
    try rfl
theorem oz127 : denP E 19 [.int .i64 127] = some (.ret (I false 127)) := by
  have h := rOf_spec 127 (by decide) (by decide)
  rwa [RM, show decide ((127 : Int) = 0) = false from rfl] at h
theorem sz127 : denP E 17 [I false 127, I false 127] = some (.ret (.bool true)) := by
  have l := dg_small (z := 127) (by decide)
  have h := rSame_spec false 127 false 127 (by omega) (by omega)
  rwa [decide_eq_true rfl] at h
theorem oz48 : denP E 19 [.int .i64 48] = some (.ret (I false 48)) := by
  have h := rOf_spec 48 (by decide) (by decide)
  rwa [RM, show decide ((48 : Int) = 0) = false from rfl] at h
theorem sz48 : denP E 17 [I false 48, I false 48] = some (.ret (.bool true)) := by
  have l := dg_small (z := 48) (by decide)
  have h := rSame_spec false 48 false 48 (by omega) (by omega)
  rwa [decide_eq_true rfl] at h
theorem oz18 : denP E 19 [.int .i64 18] = some (.ret (I false 18)) := by
  have h := rOf_spec 18 (by decide) (by decide)
  rwa [RM, show decide ((18 : Int) = 0) = false from rfl] at h
theorem sz18 : denP E 17 [I false 18, I false 18] = some (.ret (.bool true)) := by
  have l := dg_small (z := 18) (by decide)
  have h := rSame_spec false 18 false 18 (by omega) (by omega)
  rwa [decide_eq_true rfl] at h
theorem oz5 : denP E 19 [.int .i64 5] = some (.ret (I false 5)) := by
  have h := rOf_spec 5 (by decide) (by decide)
  rwa [RM, show decide ((5 : Int) = 0) = false from rfl] at h
theorem sz5 : denP E 17 [I false 5, I false 5] = some (.ret (.bool true)) := by
  have l := dg_small (z := 5) (by decide)
  have h := rSame_spec false 5 false 5 (by omega) (by omega)
  rwa [decide_eq_true rfl] at h
theorem oz1766319049 : denP E 19 [.int .i64 1766319049] = some (.ret (I false 1766319049)) := by
  have h := rOf_spec 1766319049 (by decide) (by decide)
  rwa [RM, show decide ((1766319049 : Int) = 0) = false from rfl] at h
theorem sz1766319049 : denP E 17 [I false 1766319049, I false 1766319049] = some (.ret (.bool true)) := by
  have l := dg_small (z := 1766319049) (by decide)
  have h := rSame_spec false 1766319049 false 1766319049 (by omega) (by omega)
  rwa [decide_eq_true rfl] at h
theorem oz226153980 : denP E 19 [.int .i64 226153980] = some (.ret (I false 226153980)) := by
  have h := rOf_spec 226153980 (by decide) (by decide)
  rwa [RM, show decide ((226153980 : Int) = 0) = false from rfl] at h
theorem sz226153980 : denP E 17 [I false 226153980, I false 226153980] = some (.ret (.bool true)) := by
  have l := dg_small (z := 226153980) (by decide)
  have h := rSame_spec false 226153980 false 226153980 (by omega) (by omega)
  rwa [decide_eq_true rfl] at h
theorem awake7 : denP E 14 [] = some (.ret (.bool true)) := by
  refine denP_eq E14 rfl rfl ?_
  have p1 := Period_yes 7 2 rt7 (by decide) 4 per7 (fits_yes 7 2 rt7 (by decide))
  have p2 := Nth_yes 7 2 rt7 (by decide) 4 per7 2 (by decide) (by rw [show (pw 7 (LX 7 2 4) (LY 7 2 4) 2).1 = 127 by decide +kernel]; have := dg_small (z := 127) (by decide); omega)
  have p3 := Minus_odd 13 3 rt13 (by decide) 5 per13 (by decide)
  have p4 := Least_yes 61 7 rt61 (by decide) 11 per61
  rw [show As 7 2 4 = [.int .i64 1, .int .i64 1, .int .i64 1, .int .i64 4] by rfl] at p1
  rw [show (pw 7 (LX 7 2 4) (LY 7 2 4) 2).1 = 127 by decide +kernel, show (pw 7 (LX 7 2 4) (LY 7 2 4) 2).2 = 48 by decide +kernel] at p2
  rw [show (H 13 3 (5 - 1)).1.1 = 18 by decide +kernel, show (H 13 3 (5 - 1)).1.2 = 5 by decide +kernel] at p3
  rw [show LX 61 7 11 = 1766319049 by decide +kernel, show LY 61 7 11 = 226153980 by decide +kernel] at p4
  have o127 := oz127
  have s127 := sz127
  have o48 := oz48
  have s48 := sz48
  have o18 := oz18
  have s18 := sz18
  have o5 := oz5
  have s5 := sz5
  have o1766319049 := oz1766319049
  have s1766319049 := sz1766319049
  have o226153980 := oz226153980
  have s226153980 := sz226153980
  simp only [Int.cast_ofNat_Int] at p2
  simp (maxSteps := 4000000) only [go_sem, ↓reduceIte, Nat.reduceAdd, Nat.reduceSub, Nat.reduceMul, Nat.reduceEqDiff, reduceCtorEq, Int.reduceAdd, Int.reduceLT, Int.reduceLE, Int.reduceToNat, Int.reduceNeg, Int.reduceSub, ← List.map_take, ← List.map_drop, ne_eq, Nat.reduceLeDiff, Nat.reduceLT, Nat.zero_le, Nat.le_refl, wrap64, wrapu64, wrapu32, ← Int.natCast_add, ← Int.natCast_mul, cast_succ, wrapu32_nat, shr32, reps_wd, map_set_wd, List.length_set, zs_len, Try.f14, p1, p2, p3, p4, Int.reduceEq, places, fillAll, reps, refP, elems]
  refine W_drawn ?_
  simp (maxSteps := 4000000) only [go_sem, ↓reduceIte, Nat.reduceAdd, Nat.reduceSub, Nat.reduceMul, Nat.reduceEqDiff, reduceCtorEq, Int.reduceAdd, Int.reduceLT, Int.reduceLE, Int.reduceToNat, Int.reduceNeg, Int.reduceSub, ← List.map_take, ← List.map_drop, ne_eq, Nat.reduceLeDiff, Nat.reduceLT, Nat.zero_le, Nat.le_refl, wrap64, wrapu64, wrapu32, ← Int.natCast_add, ← Int.natCast_mul, cast_succ, wrapu32_nat, shr32, reps_wd, map_set_wd, List.length_set, zs_len, o127, o48, o18, o5, o1766319049, o226153980, s127, s48, s18, s5, s1766319049, s226153980, Int.reduceEq]
  refine okR_pairs ?_; (repeat ((with_unfolding_all refine And.intro ?_ ?_); (focus (rw [free_mk] <;> (try simp) <;> (try omega))))); (with_unfolding_all exact True.intro)
end Go.Proofs.Ytiglncbaomoceaa

/- Walks: whole numbers of eight bytes as arguments. (Own work of this repo.) -/
namespace Go.Proofs.Ytiglncbaomoceaa
open Vm
theorem fit_int8 {m : Nat} {cs : List AV} (h : Fit E (m + 1) 3 cs) : ∃ n : Int, -9223372036854775808 ≤ n ∧ n < 9223372036854775808 ∧ cs = [.int .i64 n] := by
  simp only [Fit, T3, FitD] at h
  obtain ⟨_, i, rfl, hi⟩ := h
  have hi' : -9223372036854775808 ≤ i ∧ i < 9223372036854775808 := by simp [Lit.wf, IntKind.max, IntKind.min, IntKind.bits, IntKind.signed] at hi; omega
  exact ⟨i, hi'.1, hi'.2, rfl⟩
end Go.Proofs.Ytiglncbaomoceaa
