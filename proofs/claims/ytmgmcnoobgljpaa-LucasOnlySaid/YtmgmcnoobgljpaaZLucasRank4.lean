/- Part 4 of a proof about this seat: Wlk2, Luc1, Luc2, Luk2, Luk3, Luk4, Luc3, Dec, Prs, Stat, Luk5, Rf, Rst1, Rst2, Awake8. (Own work of this repo.) -/
import Derived.Test.YtmgmcnoobgljpaaZLucasRank3
import Derived.Laws.Strings
set_option linter.unusedVariables false
set_option linter.unusedSimpArgs false
/- Walks: an element of both sequences, by doubling. (Own work of this repo.) -/
namespace Go.Proofs.Ytmgmcnoobgljpaa
open Vm
set_option maxRecDepth 10000

/-- Where a walker stands: the error, both numbers. -/
structure WS where
  e : Int
  fx : Bool
  x : Int
  fy : Bool
  y : Int
def dblW (s : WS) : WS :=
  let s1 := mulL (s.e, 1, false) [(false, 2), (s.fx, s.x), (s.fx, s.x)]
  let s3 := mulL (ke s1.1 (s1.2.1 - 1), 1, false) [(false, 2), (s.fx, s.x), (s.fy, s.y)]
  ⟨s3.1, kf s1.1 false (s1.2.1 - 1), kval s1.1 (s1.2.1 - 1), s3.2.2, s3.2.1⟩
def oneW (a : Int) (fa : Bool) (s : WS) : WS :=
  let c := chiW s.e a fa s.x s.fx s.y s.fy
  let p := psiW c.1 a fa s.x s.y s.fy
  ⟨p.1, c.2.2, c.2.1, p.2.2, p.2.1⟩
def stepW (a : Int) (fa : Bool) (s : WS) (bit : Nat) : WS := if bit = 1 then oneW a fa (dblW s) else dblW s
def WS.fits (s : WS) : Prop := (dg s.x).length ≤ 4096 ∧ (dg s.y).length ≤ 4096
abbrev prow (s : WS) : Blk := ⟨[.bool (ng s.x), .lst s.fx ((dg s.x).map wd), .bool (ng s.y), .lst s.fy ((dg s.y).map wd)], true, 4, false⟩
theorem two_len : (dg 2).length ≤ 4096 := by have := dg_small (z := 2) (by decide); omega
theorem dbl_fits (s : WS) : (dblW s).fits := by
  unfold dblW WS.fits
  exact ⟨kval_len _ _, mulL_len [(false, 2), (s.fx, s.x), (s.fy, s.y)] (_, 1, false) one_len⟩
theorem psiW_len (e a : Int) (fa : Bool) (x y : Int) (g : Bool) : (dg (psiW e a fa x y g).2.1).length ≤ 4096 := kval_len _ _
theorem chiW_len (e a : Int) (fa : Bool) (x : Int) (f : Bool) (y : Int) (g : Bool) : (dg (chiW e a fa x f y g).2.1).length ≤ 4096 := kval_len _ _
theorem step_fits (a : Int) (fa : Bool) (s : WS) (b : Nat) : (stepW a fa s b).fits := by
  unfold stepW
  split
  · exact ⟨chiW_len (dblW s).e a fa (dblW s).x (dblW s).fx (dblW s).y (dblW s).fy, psiW_len _ a fa (dblW s).x (dblW s).y (dblW s).fy⟩
  · exact dbl_fits s
set_option maxHeartbeats 8000000 in
theorem at_open (wid : Nat) (a : Int) (fa : Bool) (ha : (dg a).length ≤ 4096) (m : Nat) (hm : m < 9223372036854775808) (h : Heap) (nx : Nat) (hi : wid < nx) (hH : h wid = some (wrow 0 fa a)) (Inv : Nat → WS → Prop) (h0 : Inv 63 ⟨0, false, 1, true, 0⟩)
    (hstep : ∀ k s, k < 63 → Inv (k + 1) s → s.fits → s.e = 0 → Inv k (stepW a fa s (m / 2 ^ k % 2))) :
    ∃ (s : WS) (k : Nat), Inv k s ∧ s.fits ∧ (k = 0 ∨ s.e ≠ 0) ∧ ∃ (h' : Heap) (n' : Nat), denO E 61 [.ptr wid 0, .int .i64 m] h nx = some (.ret (pr s.fx s.x s.fy s.y), h', n') ∧ Kept wid (wrow s.e fa a) h nx h' n' := by
  have key : ∃ v h' n', denO E 61 [.ptr wid 0, .int .i64 m] h nx = some (.ret v, h', n') ∧ ∃ (s : WS) (k : Nat), Inv k s ∧ s.fits ∧ (k = 0 ∨ s.e ≠ 0) ∧ v = pr s.fx s.x s.fy s.y ∧ Kept wid (wrow s.e fa a) h nx h' n' := by
    refine denO_intro E61 rfl ?_
    have o1 := of_spec 1 (by decide) (by decide)
    have o2 := of_spec 2 (by decide) (by decide)
    have w1 := walk1_spec false 1
    have iwidnx0 : (wid = nx) = False := eq_false (by omega); have jwidnx0 : (nx = wid) = False := eq_false (by omega); have iwidnx1 : (wid = nx + 1) = False := eq_false (by omega); have jwidnx1 : (nx + 1 = wid) = False := eq_false (by omega); have iwidnx2 : (wid = nx + 2) = False := eq_false (by omega); have jwidnx2 : (nx + 2 = wid) = False := eq_false (by omega); have iwidnx3 : (wid = nx + 3) = False := eq_false (by omega); have jwidnx3 : (nx + 3 = wid) = False := eq_false (by omega); have iwidnx4 : (wid = nx + 4) = False := eq_false (by omega); have jwidnx4 : (nx + 4 = wid) = False := eq_false (by omega)
    simp (maxSteps := 4000000) only [go_sem, ↓reduceIte, Nat.reduceAdd, Nat.reduceSub, Nat.reduceMul, Nat.reduceEqDiff, reduceCtorEq, Int.reduceAdd, Int.reduceLT, Int.reduceLE, Int.reduceToNat, Int.reduceNeg, Int.reduceSub, ← List.map_take, ← List.map_drop, ne_eq, Nat.reduceLeDiff, Nat.reduceLT, Nat.zero_le, Nat.le_refl, wrap64, wrapu64, wrapu32, ← Int.natCast_add, ← Int.natCast_mul, cast_succ, wrapu32_nat, shr32, reps_wd, map_set_wd, List.length_set, zs_len, Try.f61, hH, Nat.add_assoc, Nat.reduceAdd, off_ne, ne_off, iwidnx0, jwidnx0, iwidnx1, jwidnx1, iwidnx2, jwidnx2, iwidnx3, jwidnx3, iwidnx4, jwidnx4]
    refine W_drawn2 ?_
    simp (maxSteps := 4000000) only [go_sem, ↓reduceIte, Nat.reduceAdd, Nat.reduceSub, Nat.reduceMul, Nat.reduceEqDiff, reduceCtorEq, Int.reduceAdd, Int.reduceLT, Int.reduceLE, Int.reduceToNat, Int.reduceNeg, Int.reduceSub, ← List.map_take, ← List.map_drop, ne_eq, Nat.reduceLeDiff, Nat.reduceLT, Nat.zero_le, Nat.le_refl, wrap64, wrapu64, wrapu32, ← Int.natCast_add, ← Int.natCast_mul, cast_succ, wrapu32_nat, shr32, reps_wd, map_set_wd, List.length_set, zs_len, hH, Nat.add_assoc, Nat.reduceAdd, off_ne, ne_off, iwidnx0, jwidnx0, iwidnx1, jwidnx1, iwidnx2, jwidnx2, iwidnx3, jwidnx3, iwidnx4, jwidnx4, o1, w1, places, fillAll]
    refine ⟨by exact allW_of [(44, 3), (24, 1)] [0, 1, 3, 7, 0, 31, 0, 127, 0, 511] (by kernel_rfl) (by ((simp only [List.flatMap_cons, List.flatMap_nil, cr, List.append_nil, List.nil_append, List.cons_append]); rfl)) (by ((simp (disch := omega) [sts, stB, allS, stOk, cr, Dep.ok, loadEff, upd_apply, if_neg, T1, T2, T3, T4, T5, T6, T7, T8, T9, T10, T11, T12, T13, T14, T15, T16, T17, T18, T19, T20, T21, T22, T23, T24, T25, T26, T27, T29, T30, T31, T33, T34, T35, T37, T38, T39, T40, T42, T43, T44, T45, T46, T47, T48, T50, T51, T53, T55, T56, T57, T58, T59, T60, T61, T62, T63, T64, T65, T66, T67, T68, T69, T70, T71, T72, T73, T74, T75, T76, T77, T78, T79, T80, T81, T82, T83, T84, T85, T86, T87, T88, T89, T90, T92, T94, T95, T96, T97, T98, T99, T100, T101, T102, T104, T105, T106, T107, T108, T109, T111, T112, T113, T115, T116, T117, T118, T119, T120, T121, T122, T123, T124, T125, T126, T127, T128, T129, T130, T131, T132, T133, hH, wrow]) <;> (repeat (any_goals apply And.intro)) <;> (first | omega | rfl | (intro hx; first | omega | rfl)))) (by ((repeat ((with_unfolding_all refine And.intro ?_ ?_); (focus ((with_unfolding_all refine ⟨?_, ?_, ?_⟩) <;> ((intro i hi hj); (simp only [cr, Rec.ids, List.map_cons, List.map_nil, List.mem_cons, List.not_mem_nil, or_false, false_or] at hi hj); (first | done | omega)))))); (with_unfolding_all exact True.intro))), ?_⟩
    obtain ⟨IV, hI⟩ : ∃ IV : Nat → List AV → Heap → Nat → Prop, IV = fun (K : Nat) (sl : List AV) (H : Heap) (N : Nat) => ∃ s : WS, (∃ g : Nat → AV, sl = [.ptr wid 0, .int .i64 m, g 2, g 3, .ptr nx 0, .ptr (nx + 1) 0, .int .i64 ((K : Int) - 1), g 7, g 8, g 9, g 10, g 11, g 12, g 13, g 14, g 15, g 16, g 17, g 18, g 19, g 20, g 21, g 22, g 23, g 24, g 25, g 26, g 27, g 28, g 29, g 30, g 31, g 32, g 33, g 34, g 35, g 36, g 37, g 38, g 39, g 40, g 41, g 42, g 43, g 44, g 45, g 46, g 47, g 48, g 49, g 50, g 51, g 52, g 53, g 54, g 55, g 56, g 57, g 58, g 59, g 60, g 61, g 62, g 63, g 64, g 65, g 66, g 67, g 68, g 69, g 70, g 71, g 72, g 73, g 74, g 75, g 76]) ∧
      Inv K s ∧ s.fits ∧ H wid = some (wrow s.e fa a) ∧ H nx = some ⟨[.bool false, .lst true [], .bool false, .lst true []], true, 4, false⟩ ∧ H (nx + 1) = some (prow s) ∧ nx + 2 ≤ N ∧ K ≤ 63 ∧ ∀ i, i < nx → i ≠ wid → H i = h i := ⟨_, rfl⟩
    refine W_loopS IV 63 ?_ ?_
    · rw [hI]
      refine ⟨⟨0, false, 1, true, 0⟩, by refine garb ?_; rfl, h0, ⟨one_len, by rw [dg_zero]; simp⟩, ?_, ?_, ?_, Nat.le_refl _, Nat.le_refl _, fun i hi1 hi2 => ?_⟩
      · simp only [upd_apply, ↓reduceIte, Nat.reduceEqDiff, hH, Nat.add_assoc, Nat.reduceAdd, off_ne, ne_off, iwidnx0, jwidnx0, iwidnx1, jwidnx1, iwidnx2, jwidnx2, iwidnx3, jwidnx3, iwidnx4, jwidnx4]
      · simp only [upd_apply, ↓reduceIte, Nat.reduceEqDiff, Nat.add_assoc, Nat.reduceAdd, off_ne, ne_off, iwidnx0, jwidnx0, iwidnx1, jwidnx1, iwidnx2, jwidnx2, iwidnx3, jwidnx3, iwidnx4, jwidnx4]
      · simp only [upd_apply, ↓reduceIte, Nat.reduceEqDiff, Nat.add_assoc, Nat.reduceAdd, off_ne, ne_off, iwidnx0, jwidnx0, iwidnx1, jwidnx1, iwidnx2, jwidnx2, iwidnx3, jwidnx3, iwidnx4, jwidnx4]; simp only [prow, dg_zero, ng_zero, List.map_nil]
      · (repeat (refine (upd_ne (by omega)).trans ?_)); rfl
    intro K sl H N hIK
    rw [hI] at hIK
    obtain ⟨s, ⟨g, rfl⟩, i1, i2, f1, f2, f3, hN, hK, fr⟩ := hIK
    obtain ⟨e, fx, x, fy, y⟩ := s
    dsimp only at f1 f3
    have i2' := i2
    obtain ⟨lx, ly⟩ := i2'
    dsimp only at lx ly
    clear hH
    by_cases hK0 : K = 0
    · subst hK0
      simp (maxSteps := 4000000) only [go_sem, ↓reduceIte, Nat.reduceAdd, Nat.reduceSub, Nat.reduceMul, Nat.reduceEqDiff, reduceCtorEq, Int.reduceAdd, Int.reduceLT, Int.reduceLE, Int.reduceToNat, Int.reduceNeg, Int.reduceSub, ← List.map_take, ← List.map_drop, ne_eq, Nat.reduceLeDiff, Nat.reduceLT, Nat.zero_le, Nat.le_refl, wrap64, wrapu64, wrapu32, ← Int.natCast_add, ← Int.natCast_mul, cast_succ, wrapu32_nat, shr32, reps_wd, map_set_wd, List.length_set, zs_len, f1, f2, f3]
      exact ⟨⟨e, fx, x, fy, y⟩, 0, i1, i2, .inl rfl, rfl, (upd_ne (by omega)).trans f1, by omega, fun i hi1 hi2 => (upd_ne (by omega)).trans (fr i hi1 hi2)⟩
    obtain ⟨j, rfl⟩ : ∃ j, K = j + 1 := ⟨K - 1, by omega⟩
    have c1 : ((j + 1 : Nat) : Int) - 1 = (j : Int) := by omega
    by_cases he : e = 0
    · subst he
      have c3 : (0 ≤ (j : Int)) = True := eq_true (by omega)
      have m1 := fun k => chainMul_open wid 4 k 0 [(false, 2), (fx, x), (fx, x)] (by simp [two_len, lx]) (by simp) [.bool (ng a), .lst fa ((dg a).map wd), .fn 82 [] []]
      have l1 := mulL_len [(false, 2), (fx, x), (fx, x)] (0, 1, false) one_len
      have hd : dblW ⟨0, fx, x, fy, y⟩ = (let s1 := mulL (0, 1, false) [(false, 2), (fx, x), (fx, x)]
        let s3 := mulL (ke s1.1 (s1.2.1 - 1), 1, false) [(false, 2), (fx, x), (fy, y)]
        ⟨s3.1, kf s1.1 false (s1.2.1 - 1), kval s1.1 (s1.2.1 - 1), s3.2.2, s3.2.1⟩) := rfl
      generalize mulL (0, 1, false) [(false, 2), (fx, x), (fx, x)] = s1 at *
      obtain ⟨e1, v1, f4⟩ := s1
      dsimp only at *
      have m2 := chainSub_open wid 4 e1 v1 1 f4 false l1 one_len [.bool (ng a), .lst fa ((dg a).map wd), .fn 82 [] []]
      have l2 := kval_len e1 (v1 - 1)
      have w2 := walk1_spec (kf e1 false (v1 - 1)) (kval e1 (v1 - 1))
      generalize kf e1 false (v1 - 1) = f5 at *
      generalize kval e1 (v1 - 1) = x2 at *
      generalize ke e1 (v1 - 1) = e2 at *
      have m3 := fun k => chainMul_open wid 4 k e2 [(false, 2), (fx, x), (fy, y)] (by simp [two_len, lx, ly]) (by simp) [.bool (ng a), .lst fa ((dg a).map wd), .fn 82 [] []]
      have l3 := mulL_len [(false, 2), (fx, x), (fy, y)] (e2, 1, false) one_len
      generalize mulL (e2, 1, false) [(false, 2), (fx, x), (fy, y)] = s3 at *
      obtain ⟨e3, y2, f6⟩ := s3
      dsimp only at *
      have w3 := walk1_spec f6 y2
      have hbit := bit63 hm (show j < 63 by omega)
      have hst := hstep j ⟨0, fx, x, fy, y⟩ (by omega) i1 i2 rfl
      unfold stepW at hst
      rw [hd] at hst
      generalize hp1 : nx + 1 = pid at *
      simp (maxSteps := 4000000) only [go_sem, ↓reduceIte, Nat.reduceAdd, Nat.reduceSub, Nat.reduceMul, Nat.reduceEqDiff, reduceCtorEq, Int.reduceAdd, Int.reduceLT, Int.reduceLE, Int.reduceToNat, Int.reduceNeg, Int.reduceSub, ← List.map_take, ← List.map_drop, ne_eq, Nat.reduceLeDiff, Nat.reduceLT, Nat.zero_le, Nat.le_refl, wrap64, wrapu64, wrapu32, ← Int.natCast_add, ← Int.natCast_mul, cast_succ, wrapu32_nat, shr32, reps_wd, map_set_wd, List.length_set, zs_len, f1, f2, f3, c1, c3]
      obtain ⟨QQ, hQQ⟩ : ∃ QQ : Ex → St → Prop, QQ = fun ex τ => ex = .norm ∧ (∃ g : Nat → AV, τ.sl = [.ptr wid 0, .int .i64 m, g 2, g 3, .ptr nx 0, .ptr pid 0, .int .i64 (j : Int), g 7, g 8, g 9, g 10, g 11, g 12, g 13, g 14, g 15, g 16, g 17, g 18, g 19, g 20, g 21, g 22, g 23, g 24, g 25, g 26, g 27, g 28, g 29, g 30, g 31, g 32, g 33, g 34, g 35, g 36, g 37, g 38, g 39, g 40, g 41, g 42, g 43, g 44, g 45, g 46, g 47, g 48, g 49, g 50, g 51, g 52, g 53, g 54, g 55, g 56, g 57, g 58, g 59, g 60, g 61, g 62, g 63, g 64, g 65, g 66, g 67, g 68, g 69, g 70, g 71, g 72, g 73, g 74, g 75, g 76]) ∧ N ≤ τ.nx ∧ τ.h wid = some (wrow e3 fa a) ∧
        τ.h nx = some ⟨[.bool false, .lst true [], .bool false, .lst true []], true, 4, false⟩ ∧ τ.h pid = some (prow ⟨e3, f5, x2, f6, y2⟩) ∧ ∀ i, i < nx → i ≠ wid → τ.h i = h i := ⟨_, rfl⟩
      have inp : (nx = pid) = False := eq_false (by omega)
      have jnp : (pid = nx) = False := eq_false (by omega)
      have iwidN0 : (wid = N) = False := eq_false (by omega); have jwidN0 : (N = wid) = False := eq_false (by omega); have iwidN1 : (wid = N + 1) = False := eq_false (by omega); have jwidN1 : (N + 1 = wid) = False := eq_false (by omega); have iwidN2 : (wid = N + 2) = False := eq_false (by omega); have jwidN2 : (N + 2 = wid) = False := eq_false (by omega); have iwidN3 : (wid = N + 3) = False := eq_false (by omega); have jwidN3 : (N + 3 = wid) = False := eq_false (by omega); have iwidN4 : (wid = N + 4) = False := eq_false (by omega); have jwidN4 : (N + 4 = wid) = False := eq_false (by omega); have iwidN5 : (wid = N + 5) = False := eq_false (by omega); have jwidN5 : (N + 5 = wid) = False := eq_false (by omega); have iwidN6 : (wid = N + 6) = False := eq_false (by omega); have jwidN6 : (N + 6 = wid) = False := eq_false (by omega)
      have inxN0 : (nx = N) = False := eq_false (by omega); have jnxN0 : (N = nx) = False := eq_false (by omega); have inxN1 : (nx = N + 1) = False := eq_false (by omega); have jnxN1 : (N + 1 = nx) = False := eq_false (by omega); have inxN2 : (nx = N + 2) = False := eq_false (by omega); have jnxN2 : (N + 2 = nx) = False := eq_false (by omega); have inxN3 : (nx = N + 3) = False := eq_false (by omega); have jnxN3 : (N + 3 = nx) = False := eq_false (by omega); have inxN4 : (nx = N + 4) = False := eq_false (by omega); have jnxN4 : (N + 4 = nx) = False := eq_false (by omega); have inxN5 : (nx = N + 5) = False := eq_false (by omega); have jnxN5 : (N + 5 = nx) = False := eq_false (by omega); have inxN6 : (nx = N + 6) = False := eq_false (by omega); have jnxN6 : (N + 6 = nx) = False := eq_false (by omega)
      have ipidN0 : (pid = N) = False := eq_false (by omega); have jpidN0 : (N = pid) = False := eq_false (by omega); have ipidN1 : (pid = N + 1) = False := eq_false (by omega); have jpidN1 : (N + 1 = pid) = False := eq_false (by omega); have ipidN2 : (pid = N + 2) = False := eq_false (by omega); have jpidN2 : (N + 2 = pid) = False := eq_false (by omega); have ipidN3 : (pid = N + 3) = False := eq_false (by omega); have jpidN3 : (N + 3 = pid) = False := eq_false (by omega); have ipidN4 : (pid = N + 4) = False := eq_false (by omega); have jpidN4 : (N + 4 = pid) = False := eq_false (by omega); have ipidN5 : (pid = N + 5) = False := eq_false (by omega); have jpidN5 : (N + 5 = pid) = False := eq_false (by omega); have ipidN6 : (pid = N + 6) = False := eq_false (by omega); have jpidN6 : (N + 6 = pid) = False := eq_false (by omega)
      refine W_mono (Q := QQ) ?_ ?_
      · refine W_drawn2 ?_
        simp (maxSteps := 4000000) only [go_sem, ↓reduceIte, Nat.reduceAdd, Nat.reduceSub, Nat.reduceMul, Nat.reduceEqDiff, reduceCtorEq, Int.reduceAdd, Int.reduceLT, Int.reduceLE, Int.reduceToNat, Int.reduceNeg, Int.reduceSub, ← List.map_take, ← List.map_drop, ne_eq, Nat.reduceLeDiff, Nat.reduceLT, Nat.zero_le, Nat.le_refl, wrap64, wrapu64, wrapu32, ← Int.natCast_add, ← Int.natCast_mul, cast_succ, wrapu32_nat, shr32, reps_wd, map_set_wd, List.length_set, zs_len, f1, f2, f3, o1, o2, Nat.add_assoc, Nat.reduceAdd, off_ne, ne_off, iwidnx0, jwidnx0, iwidnx1, jwidnx1, iwidnx2, jwidnx2, iwidnx3, jwidnx3, iwidnx4, jwidnx4, Nat.add_assoc, Nat.reduceAdd, off_ne, ne_off, iwidN0, jwidN0, iwidN1, jwidN1, iwidN2, jwidN2, iwidN3, jwidN3, iwidN4, jwidN4, iwidN5, jwidN5, iwidN6, jwidN6, Nat.add_assoc, Nat.reduceAdd, off_ne, ne_off, inxN0, jnxN0, inxN1, jnxN1, inxN2, jnxN2, inxN3, jnxN3, inxN4, jnxN4, inxN5, jnxN5, inxN6, jnxN6, Nat.add_assoc, Nat.reduceAdd, off_ne, ne_off, ipidN0, jpidN0, ipidN1, jpidN1, ipidN2, jpidN2, ipidN3, jpidN3, ipidN4, jpidN4, ipidN5, jpidN5, ipidN6, jpidN6, reps, fillAll]
        refine lnK2_kept [wid, N] (wid) rfl rfl (by (simp only [upd_apply, ↓reduceIte, Nat.reduceEqDiff, f1, Nat.add_assoc, Nat.reduceAdd, off_ne, ne_off, iwidN0, jwidN0, iwidN1, jwidN1, iwidN2, jwidN2, iwidN3, jwidN3, iwidN4, jwidN4, iwidN5, jwidN5, iwidN6, jwidN6, reach, AV.surfL, AV.surf, cellsAt, List.map_cons, List.map_nil, List.append_nil, List.nil_append, List.cons_append, List.flatMap_cons, List.flatMap_nil]); try rfl) (by (repeat rw [List.forall_mem_cons]); (refine ⟨?_, ?_⟩ <;> (try omega)); simp; (try omega)) (m1 _ _ _ (by omega) (by omega) (by omega) (by simp (disch := omega) [Heap.only, upd_apply, if_neg, f1]) (by simp (disch := omega) [Heap.only, upd_apply, if_neg, rowI])) (by simp only [AV.pure, AV.pureL, pure_wd]; rfl) (by (simp only [upd_apply, ↓reduceIte, Nat.reduceEqDiff, f1, Nat.add_assoc, Nat.reduceAdd, off_ne, ne_off, iwidN0, jwidN0, iwidN1, jwidN1, iwidN2, jwidN2, iwidN3, jwidN3, iwidN4, jwidN4, iwidN5, jwidN5, iwidN6, jwidN6, List.all_cons, List.all_nil, AV.withinL, AV.within, pure_wd, Option.isSome_some, Bool.true_and, Bool.and_true, Bool.and_self, List.contains_cons, beq_self_eq_true, Bool.or_true, Bool.true_or]); try rfl) ?_
        simp (maxSteps := 4000000) only [go_sem, ↓reduceIte, Nat.reduceAdd, Nat.reduceSub, Nat.reduceMul, Nat.reduceEqDiff, reduceCtorEq, Int.reduceAdd, Int.reduceLT, Int.reduceLE, Int.reduceToNat, Int.reduceNeg, Int.reduceSub, ← List.map_take, ← List.map_drop, ne_eq, Nat.reduceLeDiff, Nat.reduceLT, Nat.zero_le, Nat.le_refl, wrap64, wrapu64, wrapu32, ← Int.natCast_add, ← Int.natCast_mul, cast_succ, wrapu32_nat, shr32, reps_wd, map_set_wd, List.length_set, zs_len, f1, f2, f3, o1, o2, Nat.add_assoc, Nat.reduceAdd, off_ne, ne_off, iwidnx0, jwidnx0, iwidnx1, jwidnx1, iwidnx2, jwidnx2, iwidnx3, jwidnx3, iwidnx4, jwidnx4, Nat.add_assoc, Nat.reduceAdd, off_ne, ne_off, iwidN0, jwidN0, iwidN1, jwidN1, iwidN2, jwidN2, iwidN3, jwidN3, iwidN4, jwidN4, iwidN5, jwidN5, iwidN6, jwidN6, Nat.add_assoc, Nat.reduceAdd, off_ne, ne_off, inxN0, jnxN0, inxN1, jnxN1, inxN2, jnxN2, inxN3, jnxN3, inxN4, jnxN4, inxN5, jnxN5, inxN6, jnxN6, Nat.add_assoc, Nat.reduceAdd, off_ne, ne_off, ipidN0, jpidN0, ipidN1, jpidN1, ipidN2, jpidN2, ipidN3, jpidN3, ipidN4, jpidN4, ipidN5, jpidN5, ipidN6, jpidN6, reps, fillAll]
        refine lnK2_kept [wid] (wid) rfl rfl (by (simp only [upd_apply, ↓reduceIte, Nat.reduceEqDiff, f1, Nat.add_assoc, Nat.reduceAdd, off_ne, ne_off, iwidN0, jwidN0, iwidN1, jwidN1, iwidN2, jwidN2, iwidN3, jwidN3, iwidN4, jwidN4, iwidN5, jwidN5, iwidN6, jwidN6, reach, AV.surfL, AV.surf, cellsAt, List.map_cons, List.map_nil, List.append_nil, List.nil_append, List.cons_append, List.flatMap_cons, List.flatMap_nil]); try rfl) (by (repeat rw [List.forall_mem_cons]); (refine ⟨?_, ?_⟩ <;> (try omega)); simp; (try omega)) (m2 _ _ (by omega) (by simp (disch := omega) [Heap.only, upd_apply, if_neg, f1])) (by simp only [AV.pure, AV.pureL, pure_wd]; rfl) (by (simp only [upd_apply, ↓reduceIte, Nat.reduceEqDiff, f1, Nat.add_assoc, Nat.reduceAdd, off_ne, ne_off, iwidN0, jwidN0, iwidN1, jwidN1, iwidN2, jwidN2, iwidN3, jwidN3, iwidN4, jwidN4, iwidN5, jwidN5, iwidN6, jwidN6, List.all_cons, List.all_nil, AV.withinL, AV.within, pure_wd, Option.isSome_some, Bool.true_and, Bool.and_true, Bool.and_self, List.contains_cons, beq_self_eq_true, Bool.or_true, Bool.true_or]); try rfl) ?_
        simp (maxSteps := 4000000) only [go_sem, ↓reduceIte, Nat.reduceAdd, Nat.reduceSub, Nat.reduceMul, Nat.reduceEqDiff, reduceCtorEq, Int.reduceAdd, Int.reduceLT, Int.reduceLE, Int.reduceToNat, Int.reduceNeg, Int.reduceSub, ← List.map_take, ← List.map_drop, ne_eq, Nat.reduceLeDiff, Nat.reduceLT, Nat.zero_le, Nat.le_refl, wrap64, wrapu64, wrapu32, ← Int.natCast_add, ← Int.natCast_mul, cast_succ, wrapu32_nat, shr32, reps_wd, map_set_wd, List.length_set, zs_len, f1, f2, f3, w2, o2, Nat.add_assoc, Nat.reduceAdd, off_ne, ne_off, iwidnx0, jwidnx0, iwidnx1, jwidnx1, iwidnx2, jwidnx2, iwidnx3, jwidnx3, iwidnx4, jwidnx4, Nat.add_assoc, Nat.reduceAdd, off_ne, ne_off, iwidN0, jwidN0, iwidN1, jwidN1, iwidN2, jwidN2, iwidN3, jwidN3, iwidN4, jwidN4, iwidN5, jwidN5, iwidN6, jwidN6, Nat.add_assoc, Nat.reduceAdd, off_ne, ne_off, inxN0, jnxN0, inxN1, jnxN1, inxN2, jnxN2, inxN3, jnxN3, inxN4, jnxN4, inxN5, jnxN5, inxN6, jnxN6, Nat.add_assoc, Nat.reduceAdd, off_ne, ne_off, ipidN0, jpidN0, ipidN1, jpidN1, ipidN2, jpidN2, ipidN3, jpidN3, ipidN4, jpidN4, ipidN5, jpidN5, ipidN6, jpidN6, reps, fillAll]
        refine lnK2_kept [wid, N + 1] (wid) rfl rfl (by (simp only [upd_apply, ↓reduceIte, Nat.reduceEqDiff, f1, Nat.add_assoc, Nat.reduceAdd, off_ne, ne_off, iwidN0, jwidN0, iwidN1, jwidN1, iwidN2, jwidN2, iwidN3, jwidN3, iwidN4, jwidN4, iwidN5, jwidN5, iwidN6, jwidN6, reach, AV.surfL, AV.surf, cellsAt, List.map_cons, List.map_nil, List.append_nil, List.nil_append, List.cons_append, List.flatMap_cons, List.flatMap_nil]); try rfl) (by (repeat rw [List.forall_mem_cons]); (refine ⟨?_, ?_⟩ <;> (try omega)); simp; (try omega)) (m3 _ _ _ (by omega) (by omega) (by omega) (by simp (disch := omega) [Heap.only, upd_apply, if_neg, f1]) (by simp (disch := omega) [Heap.only, upd_apply, if_neg, rowI])) (by simp only [AV.pure, AV.pureL, pure_wd]; rfl) (by (simp only [upd_apply, ↓reduceIte, Nat.reduceEqDiff, f1, Nat.add_assoc, Nat.reduceAdd, off_ne, ne_off, iwidN0, jwidN0, iwidN1, jwidN1, iwidN2, jwidN2, iwidN3, jwidN3, iwidN4, jwidN4, iwidN5, jwidN5, iwidN6, jwidN6, List.all_cons, List.all_nil, AV.withinL, AV.within, pure_wd, Option.isSome_some, Bool.true_and, Bool.and_true, Bool.and_self, List.contains_cons, beq_self_eq_true, Bool.or_true, Bool.true_or]); try rfl) ?_
        simp (maxSteps := 4000000) only [go_sem, ↓reduceIte, Nat.reduceAdd, Nat.reduceSub, Nat.reduceMul, Nat.reduceEqDiff, reduceCtorEq, Int.reduceAdd, Int.reduceLT, Int.reduceLE, Int.reduceToNat, Int.reduceNeg, Int.reduceSub, ← List.map_take, ← List.map_drop, ne_eq, Nat.reduceLeDiff, Nat.reduceLT, Nat.zero_le, Nat.le_refl, wrap64, wrapu64, wrapu32, ← Int.natCast_add, ← Int.natCast_mul, cast_succ, wrapu32_nat, shr32, reps_wd, map_set_wd, List.length_set, zs_len, f1, f2, f3, w3, Nat.add_assoc, Nat.reduceAdd, off_ne, ne_off, iwidnx0, jwidnx0, iwidnx1, jwidnx1, iwidnx2, jwidnx2, iwidnx3, jwidnx3, iwidnx4, jwidnx4, Nat.add_assoc, Nat.reduceAdd, off_ne, ne_off, iwidN0, jwidN0, iwidN1, jwidN1, iwidN2, jwidN2, iwidN3, jwidN3, iwidN4, jwidN4, iwidN5, jwidN5, iwidN6, jwidN6, Nat.add_assoc, Nat.reduceAdd, off_ne, ne_off, inxN0, jnxN0, inxN1, jnxN1, inxN2, jnxN2, inxN3, jnxN3, inxN4, jnxN4, inxN5, jnxN5, inxN6, jnxN6, Nat.add_assoc, Nat.reduceAdd, off_ne, ne_off, ipidN0, jpidN0, ipidN1, jpidN1, ipidN2, jpidN2, ipidN3, jpidN3, ipidN4, jpidN4, ipidN5, jpidN5, ipidN6, jpidN6, reps, places, fillAll]
        refine ⟨by exact allW_of [(44, 3), (24, 1)] [0, 1, 3, 7, 0, 16, 48, 0, 128, 384, 0, 0, 2048, 0, 8192, 31744, 65408, 130944, 262128, 524287, 0, 1048576, 3145728, 7340032, 0, 16777216, 50331648, 1048575, 0, 268435456, 0, 1073741824, 4161798143, 8574205951, 17179869183, 34359738367, 68719476735] (by kernel_rfl) (by ((simp only [List.flatMap_cons, List.flatMap_nil, cr, List.append_nil, List.nil_append, List.cons_append]); rfl)) (by ((simp (disch := omega) [sts, stB, allS, stOk, cr, Dep.ok, loadEff, upd_apply, if_neg, T1, T2, T3, T4, T5, T6, T7, T8, T9, T10, T11, T12, T13, T14, T15, T16, T17, T18, T19, T20, T21, T22, T23, T24, T25, T26, T27, T29, T30, T31, T33, T34, T35, T37, T38, T39, T40, T42, T43, T44, T45, T46, T47, T48, T50, T51, T53, T55, T56, T57, T58, T59, T60, T61, T62, T63, T64, T65, T66, T67, T68, T69, T70, T71, T72, T73, T74, T75, T76, T77, T78, T79, T80, T81, T82, T83, T84, T85, T86, T87, T88, T89, T90, T92, T94, T95, T96, T97, T98, T99, T100, T101, T102, T104, T105, T106, T107, T108, T109, T111, T112, T113, T115, T116, T117, T118, T119, T120, T121, T122, T123, T124, T125, T126, T127, T128, T129, T130, T131, T132, T133, f1, f2, f3, wrow, prow]) <;> (repeat (any_goals apply And.intro)) <;> (first | omega | rfl | (intro hx; first | omega | rfl)))) (by ((repeat ((with_unfolding_all refine And.intro ?_ ?_); (focus ((with_unfolding_all refine ⟨?_, ?_, ?_⟩) <;> ((intro i hi hj); (simp only [cr, Rec.ids, List.map_cons, List.map_nil, List.mem_cons, List.not_mem_nil, or_false, false_or] at hi hj); (first | done | omega)))))); (with_unfolding_all exact True.intro))), ?_⟩
        rw [hQQ]
        refine ⟨rfl, by refine garb ?_; rfl, by dsimp only; omega, ?_, ?_, ?_, ?_⟩
        · simp only [upd_apply, ↓reduceIte, Nat.reduceEqDiff, Nat.add_assoc, Nat.reduceAdd, off_ne, ne_off, iwidnx0, jwidnx0, iwidnx1, jwidnx1, iwidnx2, jwidnx2, iwidnx3, jwidnx3, iwidnx4, jwidnx4, Nat.add_assoc, Nat.reduceAdd, off_ne, ne_off, iwidN0, jwidN0, iwidN1, jwidN1, iwidN2, jwidN2, iwidN3, jwidN3, iwidN4, jwidN4, iwidN5, jwidN5, iwidN6, jwidN6, Nat.add_assoc, Nat.reduceAdd, off_ne, ne_off, inxN0, jnxN0, inxN1, jnxN1, inxN2, jnxN2, inxN3, jnxN3, inxN4, jnxN4, inxN5, jnxN5, inxN6, jnxN6, Nat.add_assoc, Nat.reduceAdd, off_ne, ne_off, ipidN0, jpidN0, ipidN1, jpidN1, ipidN2, jpidN2, ipidN3, jpidN3, ipidN4, jpidN4, ipidN5, jpidN5, ipidN6, jpidN6]
        · simp only [upd_apply, ↓reduceIte, Nat.reduceEqDiff, f2, inp, Nat.add_assoc, Nat.reduceAdd, off_ne, ne_off, iwidnx0, jwidnx0, iwidnx1, jwidnx1, iwidnx2, jwidnx2, iwidnx3, jwidnx3, iwidnx4, jwidnx4, Nat.add_assoc, Nat.reduceAdd, off_ne, ne_off, iwidN0, jwidN0, iwidN1, jwidN1, iwidN2, jwidN2, iwidN3, jwidN3, iwidN4, jwidN4, iwidN5, jwidN5, iwidN6, jwidN6, Nat.add_assoc, Nat.reduceAdd, off_ne, ne_off, inxN0, jnxN0, inxN1, jnxN1, inxN2, jnxN2, inxN3, jnxN3, inxN4, jnxN4, inxN5, jnxN5, inxN6, jnxN6, Nat.add_assoc, Nat.reduceAdd, off_ne, ne_off, ipidN0, jpidN0, ipidN1, jpidN1, ipidN2, jpidN2, ipidN3, jpidN3, ipidN4, jpidN4, ipidN5, jpidN5, ipidN6, jpidN6]
        · simp only [upd_apply, ↓reduceIte, Nat.reduceEqDiff, Nat.add_assoc, Nat.reduceAdd, off_ne, ne_off, iwidnx0, jwidnx0, iwidnx1, jwidnx1, iwidnx2, jwidnx2, iwidnx3, jwidnx3, iwidnx4, jwidnx4, Nat.add_assoc, Nat.reduceAdd, off_ne, ne_off, iwidN0, jwidN0, iwidN1, jwidN1, iwidN2, jwidN2, iwidN3, jwidN3, iwidN4, jwidN4, iwidN5, jwidN5, iwidN6, jwidN6, Nat.add_assoc, Nat.reduceAdd, off_ne, ne_off, inxN0, jnxN0, inxN1, jnxN1, inxN2, jnxN2, inxN3, jnxN3, inxN4, jnxN4, inxN5, jnxN5, inxN6, jnxN6, Nat.add_assoc, Nat.reduceAdd, off_ne, ne_off, ipidN0, jpidN0, ipidN1, jpidN1, ipidN2, jpidN2, ipidN3, jpidN3, ipidN4, jpidN4, ipidN5, jpidN5, ipidN6, jpidN6]
        · intro i hi1 hi2
          (repeat (refine (upd_ne (by omega)).trans ?_))
          exact fr i hi1 hi2
      · rw [hQQ]
        clear hQQ QQ
        rintro ex ⟨sl, G, n⟩ ⟨rfl, ⟨g', rfl⟩, hn, q1, q2, q3, q5⟩
        dsimp only at hn q1 q2 q3 q5
        clear m1 m2 m3 f1 f2 f3 w2 w3 hd
        have c4 : IntKind.u64.wrap (j : Int) = (j : Int) := wrapu64 (by omega) (by omega)
        have c5 : ((j : Int) < 0) = False := eq_false (by omega)
        have z1 : ((0 : Int) = 1) = False := eq_false (by decide)
        have c6 : IntKind.i64.wrap ((j : Int) - 1) = (j : Int) - 1 := wrap64 (by omega) (by omega)
        rcases Nat.mod_two_eq_zero_or_one (m / 2 ^ j) with hb | hb
        · rw [hb] at hbit hst
          rw [if_neg (by omega)] at hst
          simp (maxSteps := 4000000) only [go_sem, ↓reduceIte, Nat.reduceAdd, Nat.reduceSub, Nat.reduceMul, Nat.reduceEqDiff, reduceCtorEq, Int.reduceAdd, Int.reduceLT, Int.reduceLE, Int.reduceToNat, Int.reduceNeg, Int.reduceSub, ← List.map_take, ← List.map_drop, ne_eq, Nat.reduceLeDiff, Nat.reduceLT, Nat.zero_le, Nat.le_refl, wrap64, wrapu64, wrapu32, ← Int.natCast_add, ← Int.natCast_mul, cast_succ, wrapu32_nat, shr32, reps_wd, map_set_wd, List.length_set, zs_len, q1, q2, q3, hbit, c4, c5, c6, z1]
          rw [hI]
          exact ⟨j, by omega, ⟨e3, f5, x2, f6, y2⟩, by refine garb ?_; rfl, hst, ⟨l2, l3⟩, q1, q2, q3, by omega, by omega, q5⟩
        · rw [hb] at hbit hst
          rw [if_pos rfl] at hst
          simp (maxSteps := 4000000) only [go_sem, ↓reduceIte, Nat.reduceAdd, Nat.reduceSub, Nat.reduceMul, Nat.reduceEqDiff, reduceCtorEq, Int.reduceAdd, Int.reduceLT, Int.reduceLE, Int.reduceToNat, Int.reduceNeg, Int.reduceSub, ← List.map_take, ← List.map_drop, ne_eq, Nat.reduceLeDiff, Nat.reduceLT, Nat.zero_le, Nat.le_refl, wrap64, wrapu64, wrapu32, ← Int.natCast_add, ← Int.natCast_mul, cast_succ, wrapu32_nat, shr32, reps_wd, map_set_wd, List.length_set, zs_len, q1, q2, q3, hbit, c4, c5, c6, z1]
          unfold oneW at hst
          dsimp only at hst
          have r1 := wchi_open wid e3 a x2 y2 fa f5 f6 ha l2 l3
          have k1 := chiW_len e3 a fa x2 f5 y2 f6
          generalize chiW e3 a fa x2 f5 y2 f6 = c at *
          obtain ⟨e4, x3, f7⟩ := c
          dsimp only at *
          have r2 := wpsi_open wid e4 a x2 y2 fa f5 f6 ha l2 l3
          have k2 := psiW_len e4 a fa x2 y2 f6
          generalize psiW e4 a fa x2 y2 f6 = c at *
          obtain ⟨e5, y3, f8⟩ := c
          dsimp only at *
          have iwidn0 : (wid = n) = False := eq_false (by omega); have jwidn0 : (n = wid) = False := eq_false (by omega); have iwidn1 : (wid = n + 1) = False := eq_false (by omega); have jwidn1 : (n + 1 = wid) = False := eq_false (by omega); have iwidn2 : (wid = n + 2) = False := eq_false (by omega); have jwidn2 : (n + 2 = wid) = False := eq_false (by omega); have iwidn3 : (wid = n + 3) = False := eq_false (by omega); have jwidn3 : (n + 3 = wid) = False := eq_false (by omega); have iwidn4 : (wid = n + 4) = False := eq_false (by omega); have jwidn4 : (n + 4 = wid) = False := eq_false (by omega)
          have inxn0 : (nx = n) = False := eq_false (by omega); have jnxn0 : (n = nx) = False := eq_false (by omega); have inxn1 : (nx = n + 1) = False := eq_false (by omega); have jnxn1 : (n + 1 = nx) = False := eq_false (by omega); have inxn2 : (nx = n + 2) = False := eq_false (by omega); have jnxn2 : (n + 2 = nx) = False := eq_false (by omega); have inxn3 : (nx = n + 3) = False := eq_false (by omega); have jnxn3 : (n + 3 = nx) = False := eq_false (by omega); have inxn4 : (nx = n + 4) = False := eq_false (by omega); have jnxn4 : (n + 4 = nx) = False := eq_false (by omega)
          have ipidn0 : (pid = n) = False := eq_false (by omega); have jpidn0 : (n = pid) = False := eq_false (by omega); have ipidn1 : (pid = n + 1) = False := eq_false (by omega); have jpidn1 : (n + 1 = pid) = False := eq_false (by omega); have ipidn2 : (pid = n + 2) = False := eq_false (by omega); have jpidn2 : (n + 2 = pid) = False := eq_false (by omega); have ipidn3 : (pid = n + 3) = False := eq_false (by omega); have jpidn3 : (n + 3 = pid) = False := eq_false (by omega); have ipidn4 : (pid = n + 4) = False := eq_false (by omega); have jpidn4 : (n + 4 = pid) = False := eq_false (by omega)
          refine W_drawn2 ?_
          simp (maxSteps := 4000000) only [go_sem, ↓reduceIte, Nat.reduceAdd, Nat.reduceSub, Nat.reduceMul, Nat.reduceEqDiff, reduceCtorEq, Int.reduceAdd, Int.reduceLT, Int.reduceLE, Int.reduceToNat, Int.reduceNeg, Int.reduceSub, ← List.map_take, ← List.map_drop, ne_eq, Nat.reduceLeDiff, Nat.reduceLT, Nat.zero_le, Nat.le_refl, wrap64, wrapu64, wrapu32, ← Int.natCast_add, ← Int.natCast_mul, cast_succ, wrapu32_nat, shr32, reps_wd, map_set_wd, List.length_set, zs_len, q1, q2, q3, inp, jnp]
          refine lnK2_kept [wid] (wid) rfl rfl (by (simp only [upd_apply, ↓reduceIte, Nat.reduceEqDiff, q1, reach, AV.surfL, AV.surf, cellsAt, List.map_cons, List.map_nil, List.append_nil, List.nil_append, List.cons_append, List.flatMap_cons, List.flatMap_nil]); try rfl) (by (repeat rw [List.forall_mem_cons]); (refine ⟨?_, ?_⟩ <;> (try omega)); simp; (try omega)) (r1 _ _ (by omega) (by simp (disch := omega) [Heap.only, upd_apply, if_neg, q1])) (by simp only [AV.pure, AV.pureL, pure_wd]; rfl) (by (simp only [upd_apply, ↓reduceIte, Nat.reduceEqDiff, q1, List.all_cons, List.all_nil, AV.withinL, AV.within, pure_wd, Option.isSome_some, Bool.true_and, Bool.and_true, Bool.and_self, List.contains_cons, beq_self_eq_true, Bool.or_true, Bool.true_or]); try rfl) ?_
          simp (maxSteps := 4000000) only [go_sem, ↓reduceIte, Nat.reduceAdd, Nat.reduceSub, Nat.reduceMul, Nat.reduceEqDiff, reduceCtorEq, Int.reduceAdd, Int.reduceLT, Int.reduceLE, Int.reduceToNat, Int.reduceNeg, Int.reduceSub, ← List.map_take, ← List.map_drop, ne_eq, Nat.reduceLeDiff, Nat.reduceLT, Nat.zero_le, Nat.le_refl, wrap64, wrapu64, wrapu32, ← Int.natCast_add, ← Int.natCast_mul, cast_succ, wrapu32_nat, shr32, reps_wd, map_set_wd, List.length_set, zs_len, q1, q2, q3, inp, jnp, iwidnx1, jwidnx1, Nat.add_assoc, Nat.reduceAdd, off_ne, ne_off, iwidnx0, jwidnx0]
          refine lnK2_kept [wid] (wid) rfl rfl (by (simp only [upd_apply, ↓reduceIte, Nat.reduceEqDiff, q1, reach, AV.surfL, AV.surf, cellsAt, List.map_cons, List.map_nil, List.append_nil, List.nil_append, List.cons_append, List.flatMap_cons, List.flatMap_nil]); try rfl) (by (repeat rw [List.forall_mem_cons]); (refine ⟨?_, ?_⟩ <;> (try omega)); simp; (try omega)) (r2 _ _ (by omega) (by simp (disch := omega) [Heap.only, upd_apply, if_neg, q1])) (by simp only [AV.pure, AV.pureL, pure_wd]; rfl) (by (simp only [upd_apply, ↓reduceIte, Nat.reduceEqDiff, q1, List.all_cons, List.all_nil, AV.withinL, AV.within, pure_wd, Option.isSome_some, Bool.true_and, Bool.and_true, Bool.and_self, List.contains_cons, beq_self_eq_true, Bool.or_true, Bool.true_or]); try rfl) ?_
          simp (maxSteps := 4000000) only [go_sem, ↓reduceIte, Nat.reduceAdd, Nat.reduceSub, Nat.reduceMul, Nat.reduceEqDiff, reduceCtorEq, Int.reduceAdd, Int.reduceLT, Int.reduceLE, Int.reduceToNat, Int.reduceNeg, Int.reduceSub, ← List.map_take, ← List.map_drop, ne_eq, Nat.reduceLeDiff, Nat.reduceLT, Nat.zero_le, Nat.le_refl, wrap64, wrapu64, wrapu32, ← Int.natCast_add, ← Int.natCast_mul, cast_succ, wrapu32_nat, shr32, reps_wd, map_set_wd, List.length_set, zs_len, q1, q2, q3, inp, jnp, iwidnx1, jwidnx1, Nat.add_assoc, Nat.reduceAdd, off_ne, ne_off, iwidnx0, jwidnx0, places, fillAll]
          refine ⟨by exact allW_of [(44, 3), (24, 1)] [0, 0, 3, 0, 0, 31, 63, 127] (by kernel_rfl) (by ((simp only [List.flatMap_cons, List.flatMap_nil, cr, List.append_nil, List.nil_append, List.cons_append]); rfl)) (by ((simp (disch := omega) [sts, stB, allS, stOk, cr, Dep.ok, loadEff, upd_apply, if_neg, T1, T2, T3, T4, T5, T6, T7, T8, T9, T10, T11, T12, T13, T14, T15, T16, T17, T18, T19, T20, T21, T22, T23, T24, T25, T26, T27, T29, T30, T31, T33, T34, T35, T37, T38, T39, T40, T42, T43, T44, T45, T46, T47, T48, T50, T51, T53, T55, T56, T57, T58, T59, T60, T61, T62, T63, T64, T65, T66, T67, T68, T69, T70, T71, T72, T73, T74, T75, T76, T77, T78, T79, T80, T81, T82, T83, T84, T85, T86, T87, T88, T89, T90, T92, T94, T95, T96, T97, T98, T99, T100, T101, T102, T104, T105, T106, T107, T108, T109, T111, T112, T113, T115, T116, T117, T118, T119, T120, T121, T122, T123, T124, T125, T126, T127, T128, T129, T130, T131, T132, T133, q1, q2, q3, wrow, prow]) <;> (repeat (any_goals apply And.intro)) <;> (first | omega | rfl | (intro hx; first | omega | rfl)))) (by ((repeat ((with_unfolding_all refine And.intro ?_ ?_); (focus ((with_unfolding_all refine ⟨?_, ?_, ?_⟩) <;> ((intro i hi hj); (simp only [cr, Rec.ids, List.map_cons, List.map_nil, List.mem_cons, List.not_mem_nil, or_false, false_or] at hi hj); (first | done | omega)))))); (with_unfolding_all exact True.intro))), ?_⟩
          simp (maxSteps := 4000000) only [go_sem, ↓reduceIte, Nat.reduceAdd, Nat.reduceSub, Nat.reduceMul, Nat.reduceEqDiff, reduceCtorEq, Int.reduceAdd, Int.reduceLT, Int.reduceLE, Int.reduceToNat, Int.reduceNeg, Int.reduceSub, ← List.map_take, ← List.map_drop, ne_eq, Nat.reduceLeDiff, Nat.reduceLT, Nat.zero_le, Nat.le_refl, wrap64, wrapu64, wrapu32, ← Int.natCast_add, ← Int.natCast_mul, cast_succ, wrapu32_nat, shr32, reps_wd, map_set_wd, List.length_set, zs_len, c4, c5, c6]
          rw [hI]
          refine ⟨j, by omega, ⟨e5, f7, x3, f8, y3⟩, by refine garb ?_; rfl, hst, ⟨k1, k2⟩, ?_, ?_, ?_, by omega, by omega, ?_⟩
          · simp only [upd_apply, ↓reduceIte, Nat.reduceEqDiff, iwidnx1, jwidnx1]
          · simp only [upd_apply, ↓reduceIte, Nat.reduceEqDiff, q2, inp, jnp, Nat.add_assoc, Nat.reduceAdd, off_ne, ne_off, iwidnx0, jwidnx0]
          · simp only [upd_apply, ↓reduceIte, Nat.reduceEqDiff, inp]
          · intro i hi1 hi2
            (repeat (refine (upd_ne (by omega)).trans ?_))
            exact q5 i hi1 hi2
    · have c2 : (e = 0) = False := eq_false he
      have c3 : (0 ≤ (j : Int)) = True := eq_true (by omega)
      simp (maxSteps := 4000000) only [go_sem, ↓reduceIte, Nat.reduceAdd, Nat.reduceSub, Nat.reduceMul, Nat.reduceEqDiff, reduceCtorEq, Int.reduceAdd, Int.reduceLT, Int.reduceLE, Int.reduceToNat, Int.reduceNeg, Int.reduceSub, ← List.map_take, ← List.map_drop, ne_eq, Nat.reduceLeDiff, Nat.reduceLT, Nat.zero_le, Nat.le_refl, wrap64, wrapu64, wrapu32, ← Int.natCast_add, ← Int.natCast_mul, cast_succ, wrapu32_nat, shr32, reps_wd, map_set_wd, List.length_set, zs_len, f1, f2, f3, c1, c2, c3]
      exact ⟨⟨e, fx, x, fy, y⟩, j + 1, i1, i2, .inr he, rfl, (upd_ne (by omega)).trans f1, by omega, fun i hi1 hi2 => (upd_ne (by omega)).trans (fr i hi1 hi2)⟩
  obtain ⟨v, h', n', h1, s, k, q1, q2, q3, rfl, h2⟩ := key
  exact ⟨s, k, q1, q2, q3, h', n', h1, h2⟩
end Go.Proofs.Ytmgmcnoobgljpaa

/- Plain facts: the sequences chi and psi. (Own work of this repo.) -/
namespace Luc

/-- Both sequences. -/
def cp (a : Int) : Nat → Int × Int
  | 0 => (1, 0)
  | n + 1 => (a * (cp a n).1 + (a * a - 1) * (cp a n).2, (cp a n).1 + a * (cp a n).2)
def chi (a : Int) (n : Nat) : Int := (cp a n).1
def psi (a : Int) (n : Nat) : Int := (cp a n).2
section
variable {a : Int}
theorem chi_zero : chi a 0 = 1 := rfl
theorem psi_zero : psi a 0 = 0 := rfl
theorem chi_succ (n : Nat) : chi a (n + 1) = a * chi a n + (a * a - 1) * psi a n := rfl
theorem psi_succ (n : Nat) : psi a (n + 1) = chi a n + a * psi a n := rfl
theorem chi_one : chi a 1 = a := by rw [chi_succ, chi_zero, psi_zero]; omega
theorem psi_one : psi a 1 = 1 := by rw [psi_succ, chi_zero, psi_zero]; omega
theorem pell (n : Nat) : chi a n * chi a n - (a * a - 1) * (psi a n * psi a n) = 1 := by
  induction n with
  | zero => rw [chi_zero, psi_zero]; omega
  | succ n ih =>
    rw [chi_succ, psi_succ]
    generalize chi a n = x at *
    generalize psi a n = y at *
    grind
theorem chi_add (m n : Nat) : chi a (m + n) = chi a m * chi a n + (a * a - 1) * (psi a m * psi a n) ∧ psi a (m + n) = psi a m * chi a n + chi a m * psi a n := by
  induction n with
  | zero => rw [Nat.add_zero, chi_zero, psi_zero]; constructor <;> grind
  | succ n ih =>
    rw [← Nat.add_assoc, chi_succ, psi_succ, ih.1, ih.2, chi_succ, psi_succ]
    generalize chi a n = x at *
    generalize psi a n = y at *
    generalize chi a m = u at *
    generalize psi a m = v at *
    constructor <;> grind
theorem psi_rec (n : Nat) : psi a (n + 2) = 2 * a * psi a (n + 1) - psi a n := by
  rw [psi_succ (n + 1), psi_succ n, chi_succ]
  generalize chi a n = x
  generalize psi a n = y
  grind
theorem chi_rec (n : Nat) : chi a (n + 2) = 2 * a * chi a (n + 1) - chi a n := by
  rw [chi_succ (n + 1), psi_succ n, chi_succ]
  generalize chi a n = x
  generalize psi a n = y
  grind
theorem chi_two (n : Nat) : chi a (2 * n) = 2 * (chi a n * chi a n) - 1 := by
  rw [Nat.two_mul, (chi_add n n).1]
  have := pell (a := a) n
  generalize chi a n = x at *
  generalize psi a n = y at *
  grind
theorem psi_two (n : Nat) : psi a (2 * n) = 2 * (chi a n * psi a n) := by
  rw [Nat.two_mul, (chi_add n n).2]
  generalize chi a n = x at *
  generalize psi a n = y at *
  grind

/-! #### sizes -/
theorem nonneg (ha : 1 ≤ a) (n : Nat) : 1 ≤ chi a n ∧ 0 ≤ psi a n := by
  induction n with
  | zero => rw [chi_zero, psi_zero]; omega
  | succ n ih =>
    rw [chi_succ, psi_succ]
    have h1 : 0 ≤ (a * a - 1) * psi a n := Int.mul_nonneg (by have := Int.mul_le_mul ha ha (by omega) (by omega); omega) ih.2
    have h2 : 1 * 1 ≤ a * chi a n := Int.mul_le_mul ha ih.1 (by omega) (by omega)
    have h3 : 0 ≤ a * psi a n := Int.mul_nonneg (by omega) ih.2
    omega
/-- The next one of psi is greater, by a factor at least. -/
theorem psi_lt (ha : 1 ≤ a) (n : Nat) : psi a n < psi a (n + 1) := by
  have h := nonneg ha n
  rw [psi_succ]
  have : 1 * psi a n ≤ a * psi a n := Int.mul_le_mul_of_nonneg_right ha h.2
  omega
theorem psi_mono (ha : 1 ≤ a) {m n : Nat} (h : m ≤ n) : psi a m ≤ psi a n := by
  induction h with
  | refl => exact Int.le_refl _
  | step _ ih => exact Int.le_trans ih (Int.le_of_lt (psi_lt ha _))
theorem psi_strict (ha : 1 ≤ a) {m n : Nat} (h : m < n) : psi a m < psi a n := Int.lt_of_lt_of_le (psi_lt ha m) (psi_mono ha h)
theorem psi_inj (ha : 1 ≤ a) {m n : Nat} (h : psi a m = psi a n) : m = n := by
  rcases Nat.lt_trichotomy m n with h1 | h1 | h1
  · have := psi_strict ha h1; omega
  · exact h1
  · have := psi_strict ha h1; omega
theorem psi_pos (ha : 1 ≤ a) {n : Nat} (h : 0 < n) : 0 < psi a n := by
  have := psi_strict ha h; rwa [psi_zero] at this
theorem n_le_psi (ha : 1 ≤ a) (n : Nat) : (n : Int) ≤ psi a n := by
  induction n with
  | zero => rw [psi_zero]; omega
  | succ n ih => have := psi_lt ha n; omega
theorem psi_lt_chi (ha : 2 ≤ a) (n : Nat) : psi a n < chi a n := by
  have h := nonneg (show 1 ≤ a by omega) n
  have hp := pell (a := a) n
  generalize chi a n = x at *
  generalize psi a n = y at *
  by_cases hc : y < x
  · exact hc
  · have h1 : x * x ≤ y * y := Int.mul_le_mul (by omega) (by omega) (by omega) (by omega)
    have h2 : 3 * (y * y) ≤ (a * a - 1) * (y * y) := Int.mul_le_mul_of_nonneg_right (by have := Int.mul_le_mul ha ha (by omega) (by omega); omega) (Int.mul_nonneg h.2 h.2)
    have h3 : 0 ≤ y * y := Int.mul_nonneg h.2 h.2
    omega
theorem chi_lt (ha : 2 ≤ a) (n : Nat) : chi a n < chi a (n + 1) := by
  have h := nonneg (show 1 ≤ a by omega) n
  rw [chi_succ]
  have h1 : 2 * chi a n ≤ a * chi a n := Int.mul_le_mul_of_nonneg_right ha (by omega)
  have h2 : 0 ≤ (a * a - 1) * psi a n := Int.mul_nonneg (by have := Int.mul_le_mul ha ha (by omega) (by omega); omega) h.2
  omega
theorem chi_mono (ha : 2 ≤ a) {m n : Nat} (h : m ≤ n) : chi a m ≤ chi a n := by
  induction h with
  | refl => exact Int.le_refl _
  | step _ ih => exact Int.le_trans ih (Int.le_of_lt (chi_lt ha _))
theorem chi_strict (ha : 2 ≤ a) {m n : Nat} (h : m < n) : chi a m < chi a n := Int.lt_of_lt_of_le (chi_lt ha m) (chi_mono ha h)
/-- (2a - 1)^n ≤ psi (n + 1) ≤ (2a)^n. -/
theorem psi_growth (ha : 1 ≤ a) (n : Nat) : (2 * a - 1) * psi a (n + 1) ≤ psi a (n + 2) ∧ psi a (n + 2) ≤ 2 * a * psi a (n + 1) := by
  rw [psi_rec]
  have h := nonneg ha n
  have h1 := psi_lt ha n
  have e : (2 * a - 1) * psi a (n + 1) = 2 * a * psi a (n + 1) - psi a (n + 1) := by grind
  omega
theorem psi_low (ha : 1 ≤ a) (n : Nat) : (2 * a - 1) ^ n ≤ psi a (n + 1) := by
  induction n with
  | zero => rw [psi_one]; simp
  | succ n ih =>
    refine Int.le_trans ?_ (psi_growth ha n).1
    rw [Int.pow_succ, Int.mul_comm]
    exact Int.mul_le_mul_of_nonneg_left ih (by omega)
theorem psi_high (ha : 1 ≤ a) (n : Nat) : psi a (n + 1) ≤ (2 * a) ^ n := by
  induction n with
  | zero => rw [psi_one]; simp
  | succ n ih =>
    refine Int.le_trans (psi_growth ha n).2 ?_
    rw [Int.pow_succ, Int.mul_comm ((2 * a) ^ n)]
    exact Int.mul_le_mul_of_nonneg_left ih (by omega)

/-! #### congruences -/
theorem near (b : Int) (n : Nat) : (a - b) ∣ (chi a n - chi b n) ∧ (a - b) ∣ (psi a n - psi b n) := by
  induction n with
  | zero => rw [chi_zero, chi_zero, psi_zero, psi_zero]; exact ⟨⟨0, by simp⟩, ⟨0, by simp⟩⟩
  | succ n ih =>
    obtain ⟨⟨u, hu⟩, ⟨v, hv⟩⟩ := ih
    rw [chi_succ, chi_succ, psi_succ, psi_succ]
    have e1 : chi a n = chi b n + (a - b) * u := by omega
    have e2 : psi a n = psi b n + (a - b) * v := by omega
    rw [e1, e2]
    generalize chi b n = x
    generalize psi b n = y
    exact ⟨⟨x + a * u + (a + b) * y + (a * a - 1) * v, by grind⟩, ⟨u + y + a * v, by grind⟩⟩
theorem psi_mod (n : Nat) : (a - 1) ∣ (psi a n - n) := by
  have h1 := (near (a := a) 1 n).2
  have h2 : psi 1 n = (n : Int) ∧ chi 1 n = 1 := by
    clear h1
    induction n with
    | zero => exact ⟨rfl, rfl⟩
    | succ n ih => rw [psi_succ, chi_succ, ih.1, ih.2]; constructor <;> omega
  rwa [h2.1] at h1
/-- chi(n) - (a - b) psi(n) is the same as b^n modulo 2ab - b b - 1. -/
theorem power_mod (b : Int) (n : Nat) : (2 * (a * b) - b * b - 1) ∣ (chi a n - (a - b) * psi a n - b ^ n) := by
  have key : ∀ n, ∃ u v : Int, chi a n - (a - b) * psi a n - b ^ n = (2 * (a * b) - b * b - 1) * u ∧ chi a (n + 1) - (a - b) * psi a (n + 1) - b ^ (n + 1) = (2 * (a * b) - b * b - 1) * v := by
    intro n
    induction n with
    | zero => exact ⟨0, 0, by rw [chi_zero, psi_zero, Int.pow_zero]; omega, by rw [chi_one, psi_one, Int.pow_succ, Int.pow_zero]; omega⟩
    | succ n ih =>
      obtain ⟨u, v, h1, h2⟩ := ih
      refine ⟨v, 2 * a * v - u + b ^ n, h2, ?_⟩
      rw [chi_rec, psi_rec, Int.pow_succ, Int.pow_succ]
      rw [Int.pow_succ] at h2
      generalize chi a n = x at *
      generalize psi a n = y at *
      generalize chi a (n + 1) = x' at *
      generalize psi a (n + 1) = y' at *
      generalize b ^ n = p at *
      grind
  obtain ⟨u, _, h, _⟩ := key n
  exact ⟨u, h⟩
theorem power_ge (b : Int) (hb : 1 ≤ b) (hab : b ≤ a) (n : Nat) : b ^ n ≤ chi a n - (a - b) * psi a n ∧ b * (chi a n - (a - b) * psi a n) ≤ chi a (n + 1) - (a - b) * psi a (n + 1) := by
  have h2 : ∀ n, b * (chi a n - (a - b) * psi a n) ≤ chi a (n + 1) - (a - b) * psi a (n + 1) := fun n => by
    have h := (nonneg (show 1 ≤ a by omega) n).2
    have e : chi a (n + 1) - (a - b) * psi a (n + 1) = b * (chi a n - (a - b) * psi a n) + (2 * (a * b) - b * b - 1) * psi a n := by
      rw [chi_succ, psi_succ]
      generalize chi a n = x
      generalize psi a n = y
      grind
    rw [e]
    have h3 : 0 ≤ 2 * (a * b) - b * b - 1 := by
      have h4 : b * b ≤ a * b := Int.mul_le_mul_of_nonneg_right hab (by omega)
      have h5 : 1 * 1 ≤ a * b := Int.mul_le_mul (by omega) hb (by omega) (by omega)
      omega
    have := Int.mul_nonneg h3 h
    omega
  refine ⟨?_, h2 n⟩
  induction n with
  | zero => rw [chi_zero, psi_zero, Int.pow_zero]; omega
  | succ n ih =>
    refine Int.le_trans ?_ (h2 n)
    rw [Int.pow_succ, Int.mul_comm]
    exact Int.mul_le_mul_of_nonneg_left ih (by omega)
end
end Luc

/- Plain facts: all solutions; what divides what in the sequences chi and psi. (Own work of this repo.) -/
namespace Luc
section
variable {a : Int}
theorem dd (ha : 2 ≤ a) : 3 ≤ a * a - 1 := by have := Int.mul_le_mul ha ha (by omega) (by omega); omega
theorem sq_lt {x y : Int} (hy : 0 ≤ y) (h : x * x < y * y) : x < y := by
  by_cases hc : x < y
  · exact hc
  · have := Int.mul_le_mul (show y ≤ x by omega) (show y ≤ x by omega) hy (by omega); omega
theorem sq_le {x y : Int} (hx : 0 ≤ x) (hy : 0 ≤ y) (h : x * x ≤ y * y) : x ≤ y := by
  by_cases hc : x ≤ y
  · exact hc
  · have h1 : (y + 1) * (y + 1) ≤ x * x := Int.mul_le_mul (show y + 1 ≤ x by omega) (show y + 1 ≤ x by omega) (by omega) hx
    have h2 : (y + 1) * (y + 1) = y * y + 2 * y + 1 := by grind
    omega
/-- Every solution in natural numbers is one of the pairs. -/
theorem complete (ha : 2 ≤ a) : ∀ (m : Nat) (x y : Int), y.toNat = m → 0 ≤ x → 0 ≤ y → x * x - (a * a - 1) * (y * y) = 1 → ∃ n, x = chi a n ∧ y = psi a n := by
  intro m
  induction m using Nat.strongRecOn with
  | _ m ih =>
    intro x y hm hx hy h
    by_cases hy0 : y = 0
    · subst hy0
      refine ⟨0, ?_, rfl⟩
      rw [chi_zero]
      have h1 : x * x = 1 := by simpa using h
      have h2 := sq_le (y := 1) hx (by omega) (by omega)
      by_cases h3 : x = 0
      · subst h3; omega
      · omega
    · have hd := dd ha
      have hyy : 1 * 1 ≤ y * y := Int.mul_le_mul (by omega) (by omega) (by omega) hy
      -- x is at most a y
      have h1 : x ≤ a * y := sq_le hx (Int.mul_nonneg (by omega) hy) (by
        have e : a * y * (a * y) = (a * a - 1) * (y * y) + y * y := by grind
        omega)
      -- (a - 1) y is less than x
      have h2 : (a - 1) * y < x := sq_lt hx (by
        have e : (a - 1) * y * ((a - 1) * y) = (a * a - 1) * (y * y) - 2 * ((a - 1) * (y * y)) := by grind
        have := Int.mul_nonneg (show 0 ≤ a - 1 by omega) (show 0 ≤ y * y by omega)
        omega)
      -- d y is less than a x
      have h3 : (a * a - 1) * y < a * x := sq_lt (Int.mul_nonneg (by omega) hx) (by
        have e : a * x * (a * x) = a * a * (x * x) := by grind
        have e2 : x * x = 1 + (a * a - 1) * (y * y) := by omega
        have e3 : a * a * (1 + (a * a - 1) * (y * y)) = a * a + (a * a - 1) * y * ((a * a - 1) * y) + (a * a - 1) * (y * y) := by grind
        have e4 : 0 ≤ (a * a - 1) * (y * y) := Int.mul_nonneg (by omega) (by omega)
        rw [e, e2, e3]; omega)
      have e1 : (a - 1) * y = a * y - y := by grind
      obtain ⟨n, hn1, hn2⟩ := ih (a * y - x).toNat (by omega) (a * x - (a * a - 1) * y) (a * y - x) rfl (by omega) (by omega) (by grind)
      refine ⟨n + 1, ?_, ?_⟩
      · rw [chi_succ, ← hn1, ← hn2]; grind
      · rw [psi_succ, ← hn1, ← hn2]; grind
theorem unit_mod (m : Nat) (D : Int) (h : D ∣ psi a m) (k : Int) (hk : D ∣ chi a m * k) : D ∣ k := by
  obtain ⟨u, hu⟩ := h
  obtain ⟨v, hv⟩ := hk
  have hp := pell (a := a) m
  rw [hu] at hp
  refine ⟨chi a m * v - (a * a - 1) * (u * (D * u)) * k, ?_⟩
  generalize chi a m = x at *
  generalize psi a m = y at *
  grind
theorem psi_mul (m k : Nat) : psi a m ∣ psi a (m * k) := by
  induction k with
  | zero => rw [Nat.mul_zero, psi_zero]; exact Int.dvd_zero _
  | succ k ih =>
    rw [Nat.mul_succ, (chi_add (m * k) m).2]
    exact Int.dvd_add (Int.dvd_mul_of_dvd_left ih) (Int.dvd_mul_left _ _)
/-- What divides two elements divides that at the rest of the indices. -/
theorem dvd_rest {D : Int} {m n : Nat} (hm : D ∣ psi a m) (hn : D ∣ psi a n) : D ∣ psi a (n % m) := by
  have h := (chi_add (a := a) (m * (n / m)) (n % m)).2
  rw [Nat.div_add_mod] at h
  have h1 : D ∣ psi a (m * (n / m)) := Int.dvd_trans hm (psi_mul m (n / m))
  rw [h] at hn
  have h2 : D ∣ chi a (m * (n / m)) * psi a (n % m) := (Int.dvd_add_right (Int.dvd_mul_of_dvd_left h1)).1 hn
  exact unit_mod _ D h1 _ h2
theorem psi_dvd (ha : 2 ≤ a) (m n : Nat) : psi a m ∣ psi a n ↔ m ∣ n := by
  constructor
  · intro h
    by_cases hm : m = 0
    · subst hm
      rw [psi_zero, Int.zero_dvd] at h
      have : psi a n = psi a 0 := h
      rw [psi_inj (by omega) this]
      exact Nat.dvd_refl 0
    · have h1 := dvd_rest (Int.dvd_refl (psi a m)) h
      have hlt := Nat.mod_lt n (show 0 < m by omega)
      have h2 := psi_strict (show 1 ≤ a by omega) hlt
      have h3 := (nonneg (show 1 ≤ a by omega) (n % m)).2
      have h4 : psi a (n % m) = 0 := by
        by_cases hc : psi a (n % m) = 0
        · exact hc
        · have := Int.le_of_dvd (by omega) h1; omega
      exact Nat.dvd_of_mod_eq_zero (psi_inj (show 1 ≤ a by omega) (h4.trans psi_zero.symm))
  · rintro ⟨k, rfl⟩
    exact psi_mul m k
theorem dvd_gcd {D : Int} : ∀ (m n : Nat), D ∣ psi a m → D ∣ psi a n → D ∣ psi a (Nat.gcd m n) := by
  intro m
  induction m using Nat.strongRecOn with
  | _ m ih =>
    intro n hm hn
    by_cases h : m = 0
    · subst h; rwa [Nat.gcd_zero_left]
    · rw [Nat.gcd_rec]
      exact ih (n % m) (Nat.mod_lt n (by omega)) m (dvd_rest hm hn) hm
theorem psi_gcd (ha : 2 ≤ a) (m n : Nat) : ((Int.gcd (psi a m) (psi a n) : Nat) : Int) = psi a (Nat.gcd m n) := by
  have h0 := (nonneg (show 1 ≤ a by omega) (Nat.gcd m n)).2
  have h1 : psi a (Nat.gcd m n) ∣ ((Int.gcd (psi a m) (psi a n) : Nat) : Int) := Int.dvd_coe_gcd ((psi_dvd ha _ _).2 (Nat.gcd_dvd_left m n)) ((psi_dvd ha _ _).2 (Nat.gcd_dvd_right m n))
  have h2 : ((Int.gcd (psi a m) (psi a n) : Nat) : Int) ∣ psi a (Nat.gcd m n) := dvd_gcd m n (Int.gcd_dvd_left ..) (Int.gcd_dvd_right ..)
  exact Int.dvd_antisymm (by omega) h0 h2 h1
/-- Elements at multiples, modulo a square. -/
theorem psi_sq (m k : Nat) : (psi a m * psi a m) ∣ (psi a (m * (k + 1)) - ((k + 1 : Nat) : Int) * chi a m ^ k * psi a m) ∧ (psi a m * psi a m) ∣ (chi a (m * (k + 1)) - chi a m ^ (k + 1)) := by
  induction k with
  | zero =>
    rw [Nat.zero_add, Nat.mul_one, Int.pow_zero, Int.pow_succ, Int.pow_zero]
    exact ⟨⟨0, by simp⟩, ⟨0, by simp⟩⟩
  | succ k ih =>
    obtain ⟨⟨u, hu⟩, ⟨v, hv⟩⟩ := ih
    rw [Nat.mul_succ, (chi_add (m * (k + 1)) m).1, (chi_add (m * (k + 1)) m).2]
    have e1 : psi a (m * (k + 1)) = ((k + 1 : Nat) : Int) * chi a m ^ k * psi a m + psi a m * psi a m * u := by omega
    have e2 : chi a (m * (k + 1)) = chi a m ^ (k + 1) + psi a m * psi a m * v := by omega
    rw [e1, e2]
    simp only [Int.pow_succ]
    have e3 : ((k + 1 + 1 : Nat) : Int) = ((k + 1 : Nat) : Int) + 1 := by omega
    rw [e3]
    generalize ((k + 1 : Nat) : Int) = c
    generalize chi a m ^ k = p
    generalize chi a m = x
    generalize psi a m = y
    exact ⟨⟨u * x + v * y, by grind⟩, ⟨v * x + (a * a - 1) * (c * p + y * u), by grind⟩⟩
theorem unit_pow (m : Nat) (D : Int) (h : D ∣ psi a m) (k : Int) : ∀ j : Nat, D ∣ chi a m ^ j * k → D ∣ k
  | 0, hk => by rwa [Int.pow_zero, Int.one_mul] at hk
  | j + 1, hk => by
    rw [Int.pow_succ, Int.mul_comm (chi a m ^ j), Int.mul_assoc] at hk
    exact unit_pow m D h k j (unit_mod m D h _ hk)
theorem psi_sq_dvd (ha : 2 ≤ a) (m n : Nat) (hm : 0 < m) : (psi a m * psi a m) ∣ psi a n ↔ ((m : Int) * psi a m) ∣ (n : Int) := by
  have hp := psi_pos (show 1 ≤ a by omega) hm
  constructor
  · intro h
    obtain ⟨k, rfl⟩ := (psi_dvd ha m n).1 (Int.dvd_trans (Int.dvd_mul_right _ _) h)
    cases k with
    | zero => rw [Nat.mul_zero]; exact Int.dvd_zero _
    | succ k =>
      have h1 := (psi_sq (a := a) m k).1
      have h2 : (psi a m * psi a m) ∣ ((k + 1 : Nat) : Int) * chi a m ^ k * psi a m := by
        have := Int.dvd_sub h h1
        rwa [Int.sub_sub_self] at this
      have h3 : psi a m ∣ chi a m ^ k * ((k + 1 : Nat) : Int) := by
        rw [Int.mul_comm (chi a m ^ k)]
        exact Int.dvd_of_mul_dvd_mul_right (by omega) h2
      have h4 := unit_pow m _ (Int.dvd_refl _) _ k h3
      rw [Int.natCast_mul]
      exact Int.mul_dvd_mul_left _ h4
  · rintro ⟨j, hj⟩
    have hj0 : 0 ≤ j := by
      by_cases hc : 0 ≤ j
      · exact hc
      · have h5 : 0 < (m : Int) * psi a m := Int.mul_pos (by omega) hp
        have := Int.mul_neg_of_pos_of_neg h5 (show j < 0 by omega)
        omega
    obtain ⟨J, rfl⟩ : ∃ J : Nat, j = (J : Int) := ⟨j.toNat, by omega⟩
    obtain ⟨p, hp'⟩ : ∃ p : Nat, psi a m = (p : Int) := ⟨(psi a m).toNat, by omega⟩
    have hn : n = m * (p * J) := by
      rw [hp'] at hj
      have : (n : Int) = ((m * (p * J) : Nat) : Int) := by rw [hj, Int.natCast_mul, Int.natCast_mul, Int.mul_assoc]
      omega
    rw [hn]
    cases hk : p * J with
    | zero => rw [Nat.mul_zero, psi_zero]; exact Int.dvd_zero _
    | succ k =>
      have h1 := (psi_sq (a := a) m k).1
      have h2 : (psi a m * psi a m) ∣ ((k + 1 : Nat) : Int) * chi a m ^ k * psi a m := by
        rw [← hk, Int.natCast_mul, ← hp']
        exact ⟨(J : Int) * chi a m ^ k, by generalize chi a m ^ k = q; generalize psi a m = y; grind⟩
      have := Int.dvd_add h1 h2
      rwa [Int.sub_add_cancel] at this
end
end Luc

/- The sequences' elements by doubling: what a computation that keeps its first error comes to. (Own work of this repo.) -/
namespace Go.Proofs.Ytmgmcnoobgljpaa
open Vm Luc
set_option maxRecDepth 10000

def Bad (a : Int) (m : Nat) : Prop := ¬ (dg (chi a m + 1)).length ≤ 4096
theorem bad_of {a : Int} (ha : 2 ≤ a) {m : Nat} {z : Int} (h0 : 0 ≤ z) (h1 : z ≤ chi a m + 1) (h : ¬ (dg z).length ≤ 4096) : Bad a m := fun h2 => h (Nat.le_trans (dg_mono (by have := (nonneg (a := a) (by omega) m).1; omega)) h2)
theorem dbl_law {a : Int} (ha : 2 ≤ a) {m i : Nat} (h2 : 2 * i ≤ m) (fx : Bool) (x : Int) (fy : Bool) (y : Int) (hx : x = chi a i) (hy : y = psi a i) (lx : (dg x).length ≤ 4096) (ly : (dg y).length ≤ 4096) :
    ((dblW ⟨0, fx, x, fy, y⟩).e = 0 ∧ (dblW ⟨0, fx, x, fy, y⟩).x = chi a (2 * i) ∧ (dblW ⟨0, fx, x, fy, y⟩).y = psi a (2 * i)) ∨ ((dblW ⟨0, fx, x, fy, y⟩).e = 4 ∧ Bad a m) := by
  have c2 := chi_two (a := a) i
  have p2 := psi_two (a := a) i
  have cm := chi_mono ha h2
  have n1 := nonneg (a := a) (by omega) i
  have n2 := psi_lt_chi ha (2 * i)
  have n3 := nonneg (a := a) (by omega) (2 * i)
  rw [← hx] at c2 n1
  rw [← hx, ← hy] at p2
  rw [← hy] at n1
  have e1 : 2 * x * x = chi a (2 * i) + 1 := by rw [c2, Int.mul_assoc]; omega
  have e2 : 2 * x * y = psi a (2 * i) := by rw [p2, Int.mul_assoc]
  have b1 : 2 * x ≤ 2 * x * x := by
    have := Int.mul_le_mul_of_nonneg_left (show 1 ≤ x from n1.1) (show 0 ≤ 2 * x by omega)
    omega
  unfold dblW
  simp only [mulL, Int.one_mul, ke_fit two_len, kval_fit two_len, kf_fit two_len]
  by_cases k1 : (dg (2 * x)).length ≤ 4096
  · simp only [ke_fit k1, kval_fit k1, kf_fit k1]
    by_cases k2 : (dg (2 * x * x)).length ≤ 4096
    · simp only [ke_fit k2, kval_fit k2, kf_fit k2]
      have k3 : (dg (2 * x * x - 1)).length ≤ 4096 := Nat.le_trans (dg_mono (by omega)) k2
      simp only [ke_fit k3, kval_fit k3, kf_fit k3, ke_fit two_len, kval_fit two_len, kf_fit two_len, ke_fit k1, kval_fit k1, kf_fit k1]
      by_cases k4 : (dg (2 * x * y)).length ≤ 4096
      · simp only [ke_fit k4, kval_fit k4, kf_fit k4]
        exact .inl ⟨trivial, by omega, e2⟩
      · right
        rw [ke_no k4]
        exact ⟨rfl, bad_of ha (by omega) (by omega) k4⟩
    · right
      rw [ke_no k2]
      refine ⟨?_, bad_of ha (by omega) (by omega) k2⟩
      simp only [ke_bad (show (4 : Int) ≠ 0 by decide)]
  · right
    rw [ke_no k1]
    refine ⟨?_, bad_of ha (by omega) (by omega) k1⟩
    simp only [ke_bad (show (4 : Int) ≠ 0 by decide)]
/-- One step of both sequences. -/
theorem psi_law {a : Int} (ha : 2 ≤ a) (fa : Bool) (la : (dg a).length ≤ 4096) (i : Nat) (x y : Int) (g : Bool) (hx : x = chi a i) (hy : y = psi a i) : ((psiW 0 a fa x y g).1 = 0 ∧ (psiW 0 a fa x y g).2.1 = psi a (i + 1)) ∨ ((psiW 0 a fa x y g).1 = 4 ∧ ¬ (dg (psi a (i + 1))).length ≤ 4096) := by
  have n1 := nonneg (a := a) (by omega) i
  rw [← hx, ← hy] at n1
  have ps := psi_succ (a := a) i
  rw [← hx, ← hy] at ps
  have b0 : 0 ≤ a * y := Int.mul_nonneg (by omega) n1.2
  unfold psiW addW
  simp only [mulL, Int.one_mul, ke_fit la, kval_fit la, kf_fit la]
  by_cases k1 : (dg (a * y)).length ≤ 4096
  · simp only [ke_fit k1, kval_fit k1, kf_fit k1]
    by_cases k2 : (dg (x + a * y)).length ≤ 4096
    · simp only [ke_fit k2, kval_fit k2, kf_fit k2]
      exact .inl ⟨trivial, ps.symm⟩
    · right
      rw [ke_no k2, ps]
      exact ⟨rfl, k2⟩
  · right
    rw [ke_no k1, ps]
    refine ⟨ke_bad (by decide) _, fun h => k1 (Nat.le_trans (dg_mono (by omega)) h)⟩
theorem chi_law {a : Int} (ha : 2 ≤ a) (fa : Bool) (la : (dg a).length ≤ 4096) (i : Nat) (x y : Int) (f g : Bool) (hx : x = chi a i) (hy : y = psi a i) : ((chiW 0 a fa x f y g).1 = 0 ∧ (chiW 0 a fa x f y g).2.1 = chi a (i + 1)) ∨ ((chiW 0 a fa x f y g).1 = 4 ∧ ¬ (dg (chi a (i + 1))).length ≤ 4096) := by
  have n1 := nonneg (a := a) (by omega) i
  rw [← hx, ← hy] at n1
  have cs := chi_succ (a := a) i
  rw [← hx, ← hy] at cs
  have b0 : 0 ≤ a * y := Int.mul_nonneg (by omega) n1.2
  have b1 : a * y ≤ a * (a * y) := by
    have := Int.mul_le_mul_of_nonneg_right (show 1 ≤ a by omega) b0
    omega
  have b2 : y ≤ a * y := by
    have := Int.mul_le_mul_of_nonneg_right (show 1 ≤ a by omega) n1.2
    omega
  have b3 : 0 < a * x := Int.mul_pos (by omega) (by omega)
  have b4 : x ≤ a * x := by
    have := Int.mul_le_mul_of_nonneg_right (show 1 ≤ a by omega) (show 0 ≤ x by omega)
    omega
  have b5 : y < x := by rw [hx, hy]; exact psi_lt_chi ha i
  have cs2 : chi a (i + 1) = a * x + (a * (a * y) - y) := by
    rw [cs, Int.sub_mul, Int.one_mul, Int.mul_assoc]
  have fail : ∀ z : Int, 0 ≤ z → z ≤ chi a (i + 1) → ¬ (dg z).length ≤ 4096 → ¬ (dg (chi a (i + 1))).length ≤ 4096 := fun z h0 h1 h h2 => h (Nat.le_trans (dg_mono (by omega)) h2)
  unfold chiW upW
  simp only [mulL, Int.one_mul, ke_fit la, kval_fit la, kf_fit la]
  by_cases k1 : (dg (a * y)).length ≤ 4096
  · simp only [ke_fit k1, kval_fit k1, kf_fit k1, ke_fit la, kval_fit la, kf_fit la]
    by_cases k2 : (dg (a * (a * y))).length ≤ 4096
    · simp only [ke_fit k2, kval_fit k2, kf_fit k2]
      have k3 : (dg (a * (a * y) - y)).length ≤ 4096 := Nat.le_trans (dg_mono (by omega)) k2
      simp only [ke_fit k3, kval_fit k3, kf_fit k3, ke_fit la, kval_fit la, kf_fit la]
      by_cases k4 : (dg (a * x)).length ≤ 4096
      · simp only [ke_fit k4, kval_fit k4, kf_fit k4]
        by_cases k5 : (dg (a * x + (a * (a * y) - y))).length ≤ 4096
        · simp only [ke_fit k5, kval_fit k5, kf_fit k5]
          exact .inl ⟨trivial, cs2.symm⟩
        · right
          rw [ke_no k5, cs2]
          exact ⟨rfl, k5⟩
      · right
        rw [ke_no k4]
        exact ⟨ke_bad (by decide) _, fail _ (by omega) (by omega) k4⟩
    · right
      rw [ke_no k2]
      refine ⟨?_, fail _ (by omega) (by omega) k2⟩
      simp only [ke_bad (show (4 : Int) ≠ 0 by decide)]
  · right
    rw [ke_no k1]
    refine ⟨?_, fail _ (by omega) (by omega) k1⟩
    simp only [ke_bad (show (4 : Int) ≠ 0 by decide)]
theorem psiW_bad {e : Int} (he : e ≠ 0) (a : Int) (fa : Bool) (x y : Int) (g : Bool) : (psiW e a fa x y g).1 = e ∧ (psiW e a fa x y g).2.1 = 0 := by
  unfold psiW addW
  simp only [mulL, ke_bad he, kval_bad he]
  exact ⟨trivial, trivial⟩
theorem chiW_bad {e : Int} (he : e ≠ 0) (a : Int) (fa : Bool) (x : Int) (f : Bool) (y : Int) (g : Bool) : (chiW e a fa x f y g).1 = e ∧ (chiW e a fa x f y g).2.1 = 0 := by
  unfold chiW upW
  simp only [mulL, ke_bad he, kval_bad he]
  exact ⟨trivial, trivial⟩
/-- What holds on the way. -/
def InvS (a : Int) (m k : Nat) (s : WS) : Prop := (s.e = 0 ∧ s.x = chi a (m / 2 ^ k) ∧ s.y = psi a (m / 2 ^ k)) ∨ (s.e = 4 ∧ Bad a m)
theorem inv_step {a : Int} (ha : 2 ≤ a) (fa : Bool) (la : (dg a).length ≤ 4096) (m k : Nat) (s : WS) (h : InvS a m (k + 1) s) (hf : s.fits) (he : s.e = 0) : InvS a m k (stepW a fa s (m / 2 ^ k % 2)) := by
  obtain ⟨e, fx, x, fy, y⟩ := s
  dsimp only at he
  subst he
  rcases h with ⟨_, hx, hy⟩ | ⟨h, _⟩
  · dsimp only at hx hy
    have hs := half_step m k
    have hle : m / 2 ^ k ≤ m := Nat.div_le_self _ _
    have hd := dbl_law ha (m := m) (i := m / 2 ^ (k + 1)) (by omega) fx x fy y hx hy hf.1 hf.2
    have hdf := dbl_fits ⟨0, fx, x, fy, y⟩
    unfold stepW
    generalize dblW ⟨0, fx, x, fy, y⟩ = d at *
    obtain ⟨e1, gx, x1, gy, y1⟩ := d
    dsimp only at hd
    rcases Nat.mod_two_eq_zero_or_one (m / 2 ^ k) with hb | hb
    · rw [hb, if_neg (by decide)]
      have : m / 2 ^ k = 2 * (m / 2 ^ (k + 1)) := by omega
      unfold InvS
      rw [this]
      exact hd
    · rw [hb, if_pos rfl]
      have hm : m / 2 ^ k = 2 * (m / 2 ^ (k + 1)) + 1 := by omega
      unfold InvS oneW
      dsimp only
      rcases hd with ⟨rfl, h1, h2⟩ | ⟨rfl, hbad⟩
      · rcases chi_law ha fa la _ x1 y1 gx gy h1 h2 with ⟨c1, c2⟩ | ⟨c1, c2⟩
        · rw [c1]
          rcases psi_law ha fa la _ x1 y1 gy h1 h2 with ⟨p1, p2⟩ | ⟨p1, p2⟩
          · left
            rw [hm]
            exact ⟨p1, c2, p2⟩
          · right
            refine ⟨p1, bad_of ha (z := psi a (2 * (m / 2 ^ (k + 1)) + 1)) (nonneg (by omega) _).2 ?_ p2⟩
            have q1 := psi_lt_chi ha (2 * (m / 2 ^ (k + 1)) + 1)
            have q2 := chi_mono ha (show 2 * (m / 2 ^ (k + 1)) + 1 ≤ m by omega)
            omega
        · right
          rw [c1]
          refine ⟨(psiW_bad (by decide) _ _ _ _ _).1, bad_of ha (z := chi a (2 * (m / 2 ^ (k + 1)) + 1)) (by have := (nonneg (a := a) (by omega) (2 * (m / 2 ^ (k + 1)) + 1)).1; omega) ?_ c2⟩
          have q2 := chi_mono ha (show 2 * (m / 2 ^ (k + 1)) + 1 ≤ m by omega)
          omega
      · right
        rw [(chiW_bad (by decide) _ _ _ _ _ _).1]
        exact ⟨(psiW_bad (by decide) _ _ _ _ _).1, hbad⟩
  · dsimp only at h; omega
end Go.Proofs.Ytmgmcnoobgljpaa

/- Walks: an element of one of the sequences. (Own work of this repo.) -/
namespace Go.Proofs.Ytmgmcnoobgljpaa
open Vm Luc
set_option maxRecDepth 10000

theorem walk_open (a : Int) (fa : Bool) (h : Heap) (nx : Nat) : ∃ (h' : Heap) (n' id : Nat), denO E 68 [I fa a] h nx = some (.ret (.ptr id 0), h', n') ∧ nx ≤ id ∧ id < n' ∧ h' id = some (wrow 0 fa a) ∧ ∀ i, i < nx → h' i = h i := by
  have key : ∃ v h' n', denO E 68 [I fa a] h nx = some (.ret v, h', n') ∧ ∃ id, v = .ptr id 0 ∧ nx ≤ id ∧ id < n' ∧ h' id = some (wrow 0 fa a) ∧ ∀ i, i < nx → h' i = h i := by
    refine denO_intro E68 rfl ?_
    simp (maxSteps := 4000000) only [go_sem, ↓reduceIte, Nat.reduceAdd, Nat.reduceSub, Nat.reduceMul, Nat.reduceEqDiff, reduceCtorEq, Int.reduceAdd, Int.reduceLT, Int.reduceLE, Int.reduceToNat, Int.reduceNeg, Int.reduceSub, ← List.map_take, ← List.map_drop, ne_eq, Nat.reduceLeDiff, Nat.reduceLT, Nat.zero_le, Nat.le_refl, wrap64, wrapu64, wrapu32, ← Int.natCast_add, ← Int.natCast_mul, cast_succ, wrapu32_nat, shr32, reps_wd, map_set_wd, List.length_set, zs_len, Try.f68, places, fillAll]
    refine ⟨nx + 1, rfl, by omega, by omega, ?_, fun i hi => ?_⟩
    · simp only [upd_apply, ↓reduceIte, Nat.reduceEqDiff, Nat.add_assoc]
    · (repeat rw [if_neg (by omega)])
  obtain ⟨v, h', n', h1, id, rfl, h2⟩ := key
  exact ⟨h', n', id, h1, h2⟩
theorem openK_any {Q : Ex → St → Prop} {σ : St} {all os : List Go.Oper} {dst : Option Nat} {x : Option (Res × Heap × Nat)} {v : AV} {h : Heap} {n : Nat} (hx : x = some (.ret v, h, n)) (k : Rg E all os ⟨put σ.sl dst v, h, n⟩ Q) : openK E all os dst Q σ x := by
  subst hx; exact k
set_option maxHeartbeats 2000000 in
theorem element_psi (a : Int) (fa : Bool) (ha : (dg a).length ≤ 4096) (h2 : 2 ≤ a) (n : Nat) (hn : n < 131072) (Inv : Nat → WS → Prop) (h0 : Inv 63 ⟨0, false, 1, true, 0⟩)
    (hstep : ∀ k s, k < 63 → Inv (k + 1) s → s.fits → s.e = 0 → Inv k (stepW a fa s (n / 2 ^ k % 2))) :
    ∃ p : WS × Nat, denP E 43 [I fa a, .int .i64 ((n + 1 : Nat) : Int), .int .i64 0, .fn 44 [] []] = some (.ret ((fun p : WS × Nat => let s := p.1; let r := psiW s.e a fa s.x s.y s.fy; .tup [I r.2.2 r.2.1, .int .i64 r.1]) p)) ∧ (Inv p.2 p.1 ∧ p.1.fits ∧ (p.2 = 0 ∨ p.1.e ≠ 0)) := by
  refine denP_ex E43 rfl (by simp [AV.pureL, AV.pure, pure_wd]) ?_
  have f1 := fits_ok fa a ha true [] (fun _ => rfl) (by simp) (by simp) rfl
  rw [if_neg (by omega)] at f1
  simp only [List.map_nil] at f1
  have z1 : (((n + 1 : Nat) : Int) < 0) = False := eq_false (by omega)
  have z2 : (((n + 1 : Nat) : Int) = 0) = False := eq_false (by omega)
  have z3 : ((131072 : Int) < ((n + 1 : Nat) : Int)) = False := eq_false (by omega)
  have z4 : IntKind.i64.wrap (((n + 1 : Nat) : Int) - 1) = (n : Int) := by rw [wrap64 (by omega) (by omega)]; omega
  simp (maxSteps := 4000000) only [go_sem, ↓reduceIte, Nat.reduceAdd, Nat.reduceSub, Nat.reduceMul, Nat.reduceEqDiff, reduceCtorEq, Int.reduceAdd, Int.reduceLT, Int.reduceLE, Int.reduceToNat, Int.reduceNeg, Int.reduceSub, ← List.map_take, ← List.map_drop, ne_eq, Nat.reduceLeDiff, Nat.reduceLT, Nat.zero_le, Nat.le_refl, wrap64, wrapu64, wrapu32, ← Int.natCast_add, ← Int.natCast_mul, cast_succ, wrapu32_nat, shr32, reps_wd, map_set_wd, List.length_set, zs_len, Try.f43, f1, z1, z2, z3, z4]
  obtain ⟨h1, n1, w, d1, k1, k2, k3, k4⟩ := walk_open a fa ((Heap.empty.upd 0 (some ⟨[.bool (ng a), .lst fa ((dg a).map wd)], true, 2, false⟩)).upd 1 (some ⟨[.bool false, .lst true []], true, 2, false⟩)) 2
  refine openK_any d1 ?_
  have q1 : h1 1 = some ⟨[.bool false, .lst true []], true, 2, false⟩ := k4 1 (by omega)
  clear k4 d1
  obtain ⟨s, k, i1, i2, i3, h3, n3, d3, r1, r2, r3⟩ := at_open w a fa ha n (by omega) h1 n1 k2 k3 Inv h0 hstep
  have q3 : h3 1 = some ⟨[.bool false, .lst true []], true, 2, false⟩ := (r3 1 (by omega) (by omega)).trans q1
  simp (maxSteps := 4000000) only [go_sem, ↓reduceIte, Nat.reduceAdd, Nat.reduceSub, Nat.reduceMul, Nat.reduceEqDiff, reduceCtorEq, Int.reduceAdd, Int.reduceLT, Int.reduceLE, Int.reduceToNat, Int.reduceNeg, Int.reduceSub, ← List.map_take, ← List.map_drop, ne_eq, Nat.reduceLeDiff, Nat.reduceLT, Nat.zero_le, Nat.le_refl, wrap64, wrapu64, wrapu32, ← Int.natCast_add, ← Int.natCast_mul, cast_succ, wrapu32_nat, shr32, reps_wd, map_set_wd, List.length_set, zs_len, k3, q1, z4]
  refine openK_any d3 ?_
  clear d3 r3
  obtain ⟨h5, n5, d5, t1, t2, t3⟩ := wpsi_open w s.e a s.x s.y fa s.fx s.fy ha i2.1 i2.2 h3 n3 (by omega) r1
  have q5 : h5 1 = some ⟨[.bool false, .lst true []], true, 2, false⟩ := (t3 1 (by omega) (by omega)).trans q3
  simp (maxSteps := 4000000) only [go_sem, ↓reduceIte, Nat.reduceAdd, Nat.reduceSub, Nat.reduceMul, Nat.reduceEqDiff, reduceCtorEq, Int.reduceAdd, Int.reduceLT, Int.reduceLE, Int.reduceToNat, Int.reduceNeg, Int.reduceSub, ← List.map_take, ← List.map_drop, ne_eq, Nat.reduceLeDiff, Nat.reduceLT, Nat.zero_le, Nat.le_refl, wrap64, wrapu64, wrapu32, ← Int.natCast_add, ← Int.natCast_mul, cast_succ, wrapu32_nat, shr32, reps_wd, map_set_wd, List.length_set, zs_len, r1, q3]
  refine openK_any d5 ?_
  clear d5 t3 hstep
  generalize hr : psiW s.e a fa s.x s.y s.fy = r at *
  obtain ⟨e', v', f'⟩ := r
  dsimp only at *
  have w1 : (w = 1) = False := eq_false (by omega)
  have w2 : (1 = w) = False := eq_false (by omega)
  have w3 : (w = n5) = False := eq_false (by omega)
  have w4 : (n5 = w) = False := eq_false (by omega)
  have w5 : (1 = n5) = False := eq_false (by omega)
  have w6 : (n5 = 1) = False := eq_false (by omega)
  simp (maxSteps := 4000000) only [go_sem, ↓reduceIte, Nat.reduceAdd, Nat.reduceSub, Nat.reduceMul, Nat.reduceEqDiff, reduceCtorEq, Int.reduceAdd, Int.reduceLT, Int.reduceLE, Int.reduceToNat, Int.reduceNeg, Int.reduceSub, ← List.map_take, ← List.map_drop, ne_eq, Nat.reduceLeDiff, Nat.reduceLT, Nat.zero_le, Nat.le_refl, wrap64, wrapu64, wrapu32, ← Int.natCast_add, ← Int.natCast_mul, cast_succ, wrapu32_nat, shr32, reps_wd, map_set_wd, List.length_set, zs_len, t1, q5, w1, w2, w3, w4, w5, w6]
  refine W_drawn2 ?_
  simp (maxSteps := 4000000) only [go_sem, ↓reduceIte, Nat.reduceAdd, Nat.reduceSub, Nat.reduceMul, Nat.reduceEqDiff, reduceCtorEq, Int.reduceAdd, Int.reduceLT, Int.reduceLE, Int.reduceToNat, Int.reduceNeg, Int.reduceSub, ← List.map_take, ← List.map_drop, ne_eq, Nat.reduceLeDiff, Nat.reduceLT, Nat.zero_le, Nat.le_refl, wrap64, wrapu64, wrapu32, ← Int.natCast_add, ← Int.natCast_mul, cast_succ, wrapu32_nat, shr32, reps_wd, map_set_wd, List.length_set, zs_len, t1, q5, w1, w2, w3, w4, w5, w6]
  refine ⟨by exact allW_of [(27, 0)] [0, 0, 2, 6, 14, 30, 1, 127] (by kernel_rfl) (by ((simp only [List.flatMap_cons, List.flatMap_nil, cr, List.append_nil, List.nil_append, List.cons_append]); rfl)) (by ((simp (disch := omega) [sts, stB, allS, stOk, cr, Dep.ok, loadEff, upd_apply, if_neg, T1, T2, T3, T4, T5, T6, T7, T8, T9, T10, T11, T12, T13, T14, T15, T16, T17, T18, T19, T20, T21, T22, T23, T24, T25, T26, T27, T29, T30, T31, T33, T34, T35, T37, T38, T39, T40, T42, T43, T44, T45, T46, T47, T48, T50, T51, T53, T55, T56, T57, T58, T59, T60, T61, T62, T63, T64, T65, T66, T67, T68, T69, T70, T71, T72, T73, T74, T75, T76, T77, T78, T79, T80, T81, T82, T83, T84, T85, T86, T87, T88, T89, T90, T92, T94, T95, T96, T97, T98, T99, T100, T101, T102, T104, T105, T106, T107, T108, T109, T111, T112, T113, T115, T116, T117, T118, T119, T120, T121, T122, T123, T124, T125, T126, T127, T128, T129, T130, T131, T132, T133, t1, wrow, w1, w2, w3, w4]) <;> (repeat (any_goals apply And.intro)) <;> (first | omega | rfl | (intro hx; first | omega | rfl)))) (by ((repeat ((with_unfolding_all refine And.intro ?_ ?_); (focus ((with_unfolding_all refine ⟨?_, ?_, ?_⟩) <;> ((intro i hi hj); (simp only [cr, Rec.ids, List.map_cons, List.map_nil, List.mem_cons, List.not_mem_nil, or_false, false_or] at hi hj); (first | done | omega)))))); (with_unfolding_all exact True.intro))), ?_⟩
  refine ⟨(s, k), ?_, i1, i2, i3⟩
  rw [hr]
set_option maxHeartbeats 2000000 in
theorem element_chi (a : Int) (fa : Bool) (ha : (dg a).length ≤ 4096) (h2 : 2 ≤ a) (n : Nat) (hn : n < 131072) (Inv : Nat → WS → Prop) (h0 : Inv 63 ⟨0, false, 1, true, 0⟩)
    (hstep : ∀ k s, k < 63 → Inv (k + 1) s → s.fits → s.e = 0 → Inv k (stepW a fa s (n / 2 ^ k % 2))) :
    ∃ p : WS × Nat, denP E 43 [I fa a, .int .i64 ((n + 1 : Nat) : Int), .int .i64 1, .fn 45 [] []] = some (.ret ((fun p : WS × Nat => let s := p.1; let r := chiW s.e a fa s.x s.fx s.y s.fy; .tup [I r.2.2 r.2.1, .int .i64 r.1]) p)) ∧ (Inv p.2 p.1 ∧ p.1.fits ∧ (p.2 = 0 ∨ p.1.e ≠ 0)) := by
  refine denP_ex E43 rfl (by simp [AV.pureL, AV.pure, pure_wd]) ?_
  have f1 := fits_ok fa a ha true [] (fun _ => rfl) (by simp) (by simp) rfl
  rw [if_neg (by omega)] at f1
  simp only [List.map_nil] at f1
  have z1 : (((n + 1 : Nat) : Int) < 0) = False := eq_false (by omega)
  have z2 : (((n + 1 : Nat) : Int) = 0) = False := eq_false (by omega)
  have z3 : ((131072 : Int) < ((n + 1 : Nat) : Int)) = False := eq_false (by omega)
  have z4 : IntKind.i64.wrap (((n + 1 : Nat) : Int) - 1) = (n : Int) := by rw [wrap64 (by omega) (by omega)]; omega
  simp (maxSteps := 4000000) only [go_sem, ↓reduceIte, Nat.reduceAdd, Nat.reduceSub, Nat.reduceMul, Nat.reduceEqDiff, reduceCtorEq, Int.reduceAdd, Int.reduceLT, Int.reduceLE, Int.reduceToNat, Int.reduceNeg, Int.reduceSub, ← List.map_take, ← List.map_drop, ne_eq, Nat.reduceLeDiff, Nat.reduceLT, Nat.zero_le, Nat.le_refl, wrap64, wrapu64, wrapu32, ← Int.natCast_add, ← Int.natCast_mul, cast_succ, wrapu32_nat, shr32, reps_wd, map_set_wd, List.length_set, zs_len, Try.f43, f1, z1, z2, z3, z4]
  obtain ⟨h1, n1, w, d1, k1, k2, k3, k4⟩ := walk_open a fa ((Heap.empty.upd 0 (some ⟨[.bool (ng a), .lst fa ((dg a).map wd)], true, 2, false⟩)).upd 1 (some ⟨[.bool false, .lst true []], true, 2, false⟩)) 2
  refine openK_any d1 ?_
  have q1 : h1 1 = some ⟨[.bool false, .lst true []], true, 2, false⟩ := k4 1 (by omega)
  clear k4 d1
  obtain ⟨s, k, i1, i2, i3, h3, n3, d3, r1, r2, r3⟩ := at_open w a fa ha n (by omega) h1 n1 k2 k3 Inv h0 hstep
  have q3 : h3 1 = some ⟨[.bool false, .lst true []], true, 2, false⟩ := (r3 1 (by omega) (by omega)).trans q1
  simp (maxSteps := 4000000) only [go_sem, ↓reduceIte, Nat.reduceAdd, Nat.reduceSub, Nat.reduceMul, Nat.reduceEqDiff, reduceCtorEq, Int.reduceAdd, Int.reduceLT, Int.reduceLE, Int.reduceToNat, Int.reduceNeg, Int.reduceSub, ← List.map_take, ← List.map_drop, ne_eq, Nat.reduceLeDiff, Nat.reduceLT, Nat.zero_le, Nat.le_refl, wrap64, wrapu64, wrapu32, ← Int.natCast_add, ← Int.natCast_mul, cast_succ, wrapu32_nat, shr32, reps_wd, map_set_wd, List.length_set, zs_len, k3, q1, z4]
  refine openK_any d3 ?_
  clear d3 r3
  obtain ⟨h5, n5, d5, t1, t2, t3⟩ := wchi_open w s.e a s.x s.y fa s.fx s.fy ha i2.1 i2.2 h3 n3 (by omega) r1
  have q5 : h5 1 = some ⟨[.bool false, .lst true []], true, 2, false⟩ := (t3 1 (by omega) (by omega)).trans q3
  simp (maxSteps := 4000000) only [go_sem, ↓reduceIte, Nat.reduceAdd, Nat.reduceSub, Nat.reduceMul, Nat.reduceEqDiff, reduceCtorEq, Int.reduceAdd, Int.reduceLT, Int.reduceLE, Int.reduceToNat, Int.reduceNeg, Int.reduceSub, ← List.map_take, ← List.map_drop, ne_eq, Nat.reduceLeDiff, Nat.reduceLT, Nat.zero_le, Nat.le_refl, wrap64, wrapu64, wrapu32, ← Int.natCast_add, ← Int.natCast_mul, cast_succ, wrapu32_nat, shr32, reps_wd, map_set_wd, List.length_set, zs_len, r1, q3]
  refine openK_any d5 ?_
  clear d5 t3 hstep
  generalize hr : chiW s.e a fa s.x s.fx s.y s.fy = r at *
  obtain ⟨e', v', f'⟩ := r
  dsimp only at *
  have w1 : (w = 1) = False := eq_false (by omega)
  have w2 : (1 = w) = False := eq_false (by omega)
  have w3 : (w = n5) = False := eq_false (by omega)
  have w4 : (n5 = w) = False := eq_false (by omega)
  have w5 : (1 = n5) = False := eq_false (by omega)
  have w6 : (n5 = 1) = False := eq_false (by omega)
  simp (maxSteps := 4000000) only [go_sem, ↓reduceIte, Nat.reduceAdd, Nat.reduceSub, Nat.reduceMul, Nat.reduceEqDiff, reduceCtorEq, Int.reduceAdd, Int.reduceLT, Int.reduceLE, Int.reduceToNat, Int.reduceNeg, Int.reduceSub, ← List.map_take, ← List.map_drop, ne_eq, Nat.reduceLeDiff, Nat.reduceLT, Nat.zero_le, Nat.le_refl, wrap64, wrapu64, wrapu32, ← Int.natCast_add, ← Int.natCast_mul, cast_succ, wrapu32_nat, shr32, reps_wd, map_set_wd, List.length_set, zs_len, t1, q5, w1, w2, w3, w4, w5, w6]
  refine W_drawn2 ?_
  simp (maxSteps := 4000000) only [go_sem, ↓reduceIte, Nat.reduceAdd, Nat.reduceSub, Nat.reduceMul, Nat.reduceEqDiff, reduceCtorEq, Int.reduceAdd, Int.reduceLT, Int.reduceLE, Int.reduceToNat, Int.reduceNeg, Int.reduceSub, ← List.map_take, ← List.map_drop, ne_eq, Nat.reduceLeDiff, Nat.reduceLT, Nat.zero_le, Nat.le_refl, wrap64, wrapu64, wrapu32, ← Int.natCast_add, ← Int.natCast_mul, cast_succ, wrapu32_nat, shr32, reps_wd, map_set_wd, List.length_set, zs_len, t1, q5, w1, w2, w3, w4, w5, w6]
  refine ⟨by exact allW_of [(27, 0)] [0, 0, 2, 6, 14, 30, 1, 127] (by kernel_rfl) (by ((simp only [List.flatMap_cons, List.flatMap_nil, cr, List.append_nil, List.nil_append, List.cons_append]); rfl)) (by ((simp (disch := omega) [sts, stB, allS, stOk, cr, Dep.ok, loadEff, upd_apply, if_neg, T1, T2, T3, T4, T5, T6, T7, T8, T9, T10, T11, T12, T13, T14, T15, T16, T17, T18, T19, T20, T21, T22, T23, T24, T25, T26, T27, T29, T30, T31, T33, T34, T35, T37, T38, T39, T40, T42, T43, T44, T45, T46, T47, T48, T50, T51, T53, T55, T56, T57, T58, T59, T60, T61, T62, T63, T64, T65, T66, T67, T68, T69, T70, T71, T72, T73, T74, T75, T76, T77, T78, T79, T80, T81, T82, T83, T84, T85, T86, T87, T88, T89, T90, T92, T94, T95, T96, T97, T98, T99, T100, T101, T102, T104, T105, T106, T107, T108, T109, T111, T112, T113, T115, T116, T117, T118, T119, T120, T121, T122, T123, T124, T125, T126, T127, T128, T129, T130, T131, T132, T133, t1, wrow, w1, w2, w3, w4]) <;> (repeat (any_goals apply And.intro)) <;> (first | omega | rfl | (intro hx; first | omega | rfl)))) (by ((repeat ((with_unfolding_all refine And.intro ?_ ?_); (focus ((with_unfolding_all refine ⟨?_, ?_, ?_⟩) <;> ((intro i hi hj); (simp only [cr, Rec.ids, List.map_cons, List.map_nil, List.mem_cons, List.not_mem_nil, or_false, false_or] at hi hj); (first | done | omega)))))); (with_unfolding_all exact True.intro))), ?_⟩
  refine ⟨(s, k), ?_, i1, i2, i3⟩
  rw [hr]
end Go.Proofs.Ytmgmcnoobgljpaa

/- Walks: Psi and Chi. (Own work of this repo.) -/
namespace Go.Proofs.Ytmgmcnoobgljpaa
open Vm Luc
set_option maxRecDepth 10000

abbrev EI (e : Int) : AV := .tup [I true 0, .int .i64 e]
theorem element_psi_form (q : Raw) (hq : q.2.2.length < 2 ^ 40) (h : rvl q = false) (n : Int) : denP E 43 [ivr q, .int .i64 n, .int .i64 0, .fn 44 [] []] = some (.ret (EI 1)) := by
  refine denP_eq E43 rfl (by simp [AV.pureL, AV.pure, pure_wd]) ?_
  have f1 := fits_bad q true [] (fun _ => rfl) (by simp) hq (by simp) (by simp [fitW, h])
  simp only [List.map_nil, ivr, iv] at f1
  simp (maxSteps := 4000000) only [go_sem, ↓reduceIte, Nat.reduceAdd, Nat.reduceSub, Nat.reduceMul, Nat.reduceEqDiff, reduceCtorEq, Int.reduceAdd, Int.reduceLT, Int.reduceLE, Int.reduceToNat, Int.reduceNeg, Int.reduceSub, ← List.map_take, ← List.map_drop, ne_eq, Nat.reduceLeDiff, Nat.reduceLT, Nat.zero_le, Nat.le_refl, wrap64, wrapu64, wrapu32, ← Int.natCast_add, ← Int.natCast_mul, cast_succ, wrapu32_nat, shr32, reps_wd, map_set_wd, List.length_set, zs_len, Try.f43, f1, ivr, iv, Int.reduceEq, places, fillAll]
  simp only [EI, I, ng_zero, dg_zero, List.map_nil, iv]
theorem element_psi_arg (a : Int) (fa : Bool) (ha : (dg a).length ≤ 4096) (n : Int) (h : a < 2 ∨ n < 0) : denP E 43 [I fa a, .int .i64 n, .int .i64 0, .fn 44 [] []] = some (.ret (EI 2)) := by
  refine denP_eq E43 rfl (by simp [AV.pureL, AV.pure, pure_wd]) ?_
  have f1 := fits_ok fa a ha true [] (fun _ => rfl) (by simp) (by simp) rfl
  simp only [List.map_nil] at f1
  by_cases h2 : a < 2
  · rw [show (if a < 2 then (2 : Int) else 0) = 2 from if_pos h2] at f1
    simp (maxSteps := 4000000) only [go_sem, ↓reduceIte, Nat.reduceAdd, Nat.reduceSub, Nat.reduceMul, Nat.reduceEqDiff, reduceCtorEq, Int.reduceAdd, Int.reduceLT, Int.reduceLE, Int.reduceToNat, Int.reduceNeg, Int.reduceSub, ← List.map_take, ← List.map_drop, ne_eq, Nat.reduceLeDiff, Nat.reduceLT, Nat.zero_le, Nat.le_refl, wrap64, wrapu64, wrapu32, ← Int.natCast_add, ← Int.natCast_mul, cast_succ, wrapu32_nat, shr32, reps_wd, map_set_wd, List.length_set, zs_len, Try.f43, f1, Int.reduceEq, places, fillAll]
    simp only [EI, I, ng_zero, dg_zero, List.map_nil, iv]
  · rw [show (if a < 2 then (2 : Int) else 0) = 0 from if_neg h2] at f1
    have z1 : (n < 0) = True := eq_true (by omega)
    simp (maxSteps := 4000000) only [go_sem, ↓reduceIte, Nat.reduceAdd, Nat.reduceSub, Nat.reduceMul, Nat.reduceEqDiff, reduceCtorEq, Int.reduceAdd, Int.reduceLT, Int.reduceLE, Int.reduceToNat, Int.reduceNeg, Int.reduceSub, ← List.map_take, ← List.map_drop, ne_eq, Nat.reduceLeDiff, Nat.reduceLT, Nat.zero_le, Nat.le_refl, wrap64, wrapu64, wrapu32, ← Int.natCast_add, ← Int.natCast_mul, cast_succ, wrapu32_nat, shr32, reps_wd, map_set_wd, List.length_set, zs_len, Try.f43, f1, z1, Int.reduceEq, places, fillAll]
    simp only [EI, I, ng_zero, dg_zero, List.map_nil, iv]
theorem element_psi_size (a : Int) (fa : Bool) (ha : (dg a).length ≤ 4096) (h2 : 2 ≤ a) (n : Int) (h : 131072 < n) : denP E 43 [I fa a, .int .i64 n, .int .i64 0, .fn 44 [] []] = some (.ret (EI 4)) := by
  refine denP_eq E43 rfl (by simp [AV.pureL, AV.pure, pure_wd]) ?_
  have f1 := fits_ok fa a ha true [] (fun _ => rfl) (by simp) (by simp) rfl
  rw [show (if a < 2 then (2 : Int) else 0) = 0 from if_neg (by omega)] at f1
  simp only [List.map_nil] at f1
  have z1 : (n < 0) = False := eq_false (by omega)
  have z2 : (n = 0) = False := eq_false (by omega)
  have z3 : (131072 < n) = True := eq_true (by omega)
  simp (maxSteps := 4000000) only [go_sem, ↓reduceIte, Nat.reduceAdd, Nat.reduceSub, Nat.reduceMul, Nat.reduceEqDiff, reduceCtorEq, Int.reduceAdd, Int.reduceLT, Int.reduceLE, Int.reduceToNat, Int.reduceNeg, Int.reduceSub, ← List.map_take, ← List.map_drop, ne_eq, Nat.reduceLeDiff, Nat.reduceLT, Nat.zero_le, Nat.le_refl, wrap64, wrapu64, wrapu32, ← Int.natCast_add, ← Int.natCast_mul, cast_succ, wrapu32_nat, shr32, reps_wd, map_set_wd, List.length_set, zs_len, Try.f43, f1, z1, z2, z3, Int.reduceEq, places, fillAll]
  simp only [EI, I, ng_zero, dg_zero, List.map_nil, iv]
theorem element_psi_zero (a : Int) (fa : Bool) (ha : (dg a).length ≤ 4096) (h2 : 2 ≤ a) : denP E 43 [I fa a, .int .i64 0, .int .i64 0, .fn 44 [] []] = some (.ret (.tup [I false 0, .int .i64 0])) := by
  refine denP_eq E43 rfl (by simp [AV.pureL, AV.pure, pure_wd]) ?_
  have f1 := fits_ok fa a ha true [] (fun _ => rfl) (by simp) (by simp) rfl
  rw [show (if a < 2 then (2 : Int) else 0) = 0 from if_neg (by omega)] at f1
  simp only [List.map_nil] at f1
  have o1 := of_spec 0 (by decide) (by decide)
  have z1 : ((0 : Int) < 0) = False := eq_false (by omega)
  simp (maxSteps := 4000000) only [go_sem, ↓reduceIte, Nat.reduceAdd, Nat.reduceSub, Nat.reduceMul, Nat.reduceEqDiff, reduceCtorEq, Int.reduceAdd, Int.reduceLT, Int.reduceLE, Int.reduceToNat, Int.reduceNeg, Int.reduceSub, ← List.map_take, ← List.map_drop, ne_eq, Nat.reduceLeDiff, Nat.reduceLT, Nat.zero_le, Nat.le_refl, wrap64, wrapu64, wrapu32, ← Int.natCast_add, ← Int.natCast_mul, cast_succ, wrapu32_nat, shr32, reps_wd, map_set_wd, List.length_set, zs_len, Try.f43, Int.reduceEq, f1, z1, o1]
theorem element_chi_form (q : Raw) (hq : q.2.2.length < 2 ^ 40) (h : rvl q = false) (n : Int) : denP E 43 [ivr q, .int .i64 n, .int .i64 1, .fn 45 [] []] = some (.ret (EI 1)) := by
  refine denP_eq E43 rfl (by simp [AV.pureL, AV.pure, pure_wd]) ?_
  have f1 := fits_bad q true [] (fun _ => rfl) (by simp) hq (by simp) (by simp [fitW, h])
  simp only [List.map_nil, ivr, iv] at f1
  simp (maxSteps := 4000000) only [go_sem, ↓reduceIte, Nat.reduceAdd, Nat.reduceSub, Nat.reduceMul, Nat.reduceEqDiff, reduceCtorEq, Int.reduceAdd, Int.reduceLT, Int.reduceLE, Int.reduceToNat, Int.reduceNeg, Int.reduceSub, ← List.map_take, ← List.map_drop, ne_eq, Nat.reduceLeDiff, Nat.reduceLT, Nat.zero_le, Nat.le_refl, wrap64, wrapu64, wrapu32, ← Int.natCast_add, ← Int.natCast_mul, cast_succ, wrapu32_nat, shr32, reps_wd, map_set_wd, List.length_set, zs_len, Try.f43, f1, ivr, iv, Int.reduceEq, places, fillAll]
  simp only [EI, I, ng_zero, dg_zero, List.map_nil, iv]
theorem element_chi_arg (a : Int) (fa : Bool) (ha : (dg a).length ≤ 4096) (n : Int) (h : a < 2 ∨ n < 0) : denP E 43 [I fa a, .int .i64 n, .int .i64 1, .fn 45 [] []] = some (.ret (EI 2)) := by
  refine denP_eq E43 rfl (by simp [AV.pureL, AV.pure, pure_wd]) ?_
  have f1 := fits_ok fa a ha true [] (fun _ => rfl) (by simp) (by simp) rfl
  simp only [List.map_nil] at f1
  by_cases h2 : a < 2
  · rw [show (if a < 2 then (2 : Int) else 0) = 2 from if_pos h2] at f1
    simp (maxSteps := 4000000) only [go_sem, ↓reduceIte, Nat.reduceAdd, Nat.reduceSub, Nat.reduceMul, Nat.reduceEqDiff, reduceCtorEq, Int.reduceAdd, Int.reduceLT, Int.reduceLE, Int.reduceToNat, Int.reduceNeg, Int.reduceSub, ← List.map_take, ← List.map_drop, ne_eq, Nat.reduceLeDiff, Nat.reduceLT, Nat.zero_le, Nat.le_refl, wrap64, wrapu64, wrapu32, ← Int.natCast_add, ← Int.natCast_mul, cast_succ, wrapu32_nat, shr32, reps_wd, map_set_wd, List.length_set, zs_len, Try.f43, f1, Int.reduceEq, places, fillAll]
    simp only [EI, I, ng_zero, dg_zero, List.map_nil, iv]
  · rw [show (if a < 2 then (2 : Int) else 0) = 0 from if_neg h2] at f1
    have z1 : (n < 0) = True := eq_true (by omega)
    simp (maxSteps := 4000000) only [go_sem, ↓reduceIte, Nat.reduceAdd, Nat.reduceSub, Nat.reduceMul, Nat.reduceEqDiff, reduceCtorEq, Int.reduceAdd, Int.reduceLT, Int.reduceLE, Int.reduceToNat, Int.reduceNeg, Int.reduceSub, ← List.map_take, ← List.map_drop, ne_eq, Nat.reduceLeDiff, Nat.reduceLT, Nat.zero_le, Nat.le_refl, wrap64, wrapu64, wrapu32, ← Int.natCast_add, ← Int.natCast_mul, cast_succ, wrapu32_nat, shr32, reps_wd, map_set_wd, List.length_set, zs_len, Try.f43, f1, z1, Int.reduceEq, places, fillAll]
    simp only [EI, I, ng_zero, dg_zero, List.map_nil, iv]
theorem element_chi_size (a : Int) (fa : Bool) (ha : (dg a).length ≤ 4096) (h2 : 2 ≤ a) (n : Int) (h : 131072 < n) : denP E 43 [I fa a, .int .i64 n, .int .i64 1, .fn 45 [] []] = some (.ret (EI 4)) := by
  refine denP_eq E43 rfl (by simp [AV.pureL, AV.pure, pure_wd]) ?_
  have f1 := fits_ok fa a ha true [] (fun _ => rfl) (by simp) (by simp) rfl
  rw [show (if a < 2 then (2 : Int) else 0) = 0 from if_neg (by omega)] at f1
  simp only [List.map_nil] at f1
  have z1 : (n < 0) = False := eq_false (by omega)
  have z2 : (n = 0) = False := eq_false (by omega)
  have z3 : (131072 < n) = True := eq_true (by omega)
  simp (maxSteps := 4000000) only [go_sem, ↓reduceIte, Nat.reduceAdd, Nat.reduceSub, Nat.reduceMul, Nat.reduceEqDiff, reduceCtorEq, Int.reduceAdd, Int.reduceLT, Int.reduceLE, Int.reduceToNat, Int.reduceNeg, Int.reduceSub, ← List.map_take, ← List.map_drop, ne_eq, Nat.reduceLeDiff, Nat.reduceLT, Nat.zero_le, Nat.le_refl, wrap64, wrapu64, wrapu32, ← Int.natCast_add, ← Int.natCast_mul, cast_succ, wrapu32_nat, shr32, reps_wd, map_set_wd, List.length_set, zs_len, Try.f43, f1, z1, z2, z3, Int.reduceEq, places, fillAll]
  simp only [EI, I, ng_zero, dg_zero, List.map_nil, iv]
theorem element_chi_zero (a : Int) (fa : Bool) (ha : (dg a).length ≤ 4096) (h2 : 2 ≤ a) : denP E 43 [I fa a, .int .i64 0, .int .i64 1, .fn 45 [] []] = some (.ret (.tup [I false 1, .int .i64 0])) := by
  refine denP_eq E43 rfl (by simp [AV.pureL, AV.pure, pure_wd]) ?_
  have f1 := fits_ok fa a ha true [] (fun _ => rfl) (by simp) (by simp) rfl
  rw [show (if a < 2 then (2 : Int) else 0) = 0 from if_neg (by omega)] at f1
  simp only [List.map_nil] at f1
  have o1 := of_spec 1 (by decide) (by decide)
  have z1 : ((0 : Int) < 0) = False := eq_false (by omega)
  simp (maxSteps := 4000000) only [go_sem, ↓reduceIte, Nat.reduceAdd, Nat.reduceSub, Nat.reduceMul, Nat.reduceEqDiff, reduceCtorEq, Int.reduceAdd, Int.reduceLT, Int.reduceLE, Int.reduceToNat, Int.reduceNeg, Int.reduceSub, ← List.map_take, ← List.map_drop, ne_eq, Nat.reduceLeDiff, Nat.reduceLT, Nat.zero_le, Nat.le_refl, wrap64, wrapu64, wrapu32, ← Int.natCast_add, ← Int.natCast_mul, cast_succ, wrapu32_nat, shr32, reps_wd, map_set_wd, List.length_set, zs_len, Try.f43, Int.reduceEq, f1, z1, o1]
theorem inv_zero (a : Int) (m : Nat) (hm : m < 9223372036854775808) : InvS a m 63 ⟨0, false, 1, true, 0⟩ := by
  left
  rw [Nat.div_eq_of_lt (show m < 2 ^ 63 from hm)]
  exact ⟨rfl, rfl, rfl⟩
theorem inv_end {a : Int} {m k : Nat} {s : WS} (h : InvS a m k s) (he : k = 0 ∨ s.e ≠ 0) : (s.e = 0 ∧ s.x = chi a m ∧ s.y = psi a m) ∨ (s.e = 4 ∧ Bad a m) := by
  rcases h with ⟨h1, h2, h3⟩ | h
  · rcases he with rfl | he
    · rw [Nat.pow_zero, Nat.div_one] at h2 h3
      exact .inl ⟨h1, h2, h3⟩
    · exact absurd h1 he
  · exact .inr h
theorem bad_one {a : Int} (ha : 2 ≤ a) {m : Nat} (h : Bad a m) : 1 ≤ m := by
  rcases Nat.eq_zero_or_pos m with rfl | h1
  · exact absurd two_len h
  · exact h1
theorem psi_el (a : Int) (fa : Bool) (ha : (dg a).length ≤ 4096) (h2 : 2 ≤ a) (n : Nat) (hn : n ≤ 131072) : ∃ f : Bool, denP E 43 [I fa a, .int .i64 n, .int .i64 0, .fn 44 [] []] = some (.ret (.tup [I f (fit (psi a n)), .int .i64 (er (psi a n))])) := by
  rcases n with _ | m
  · refine ⟨false, ?_⟩
    have := element_psi_zero a fa ha h2
    have z : (dg (0 : Int)).length ≤ 4096 := by rw [dg_zero]; simp
    rw [show psi a 0 = 0 from rfl, fit_of z, er_of z]
    exact this
  · obtain ⟨⟨s, k⟩, h1, h3, h4, h5⟩ := element_psi a fa ha h2 m (by omega) (InvS a m) (inv_zero a m (by omega)) (fun k s _ h hf he => inv_step h2 fa ha m k s h hf he)
    dsimp only at h1 h3 h4 h5
    refine ⟨(psiW s.e a fa s.x s.y s.fy).2.2, ?_⟩
    rw [h1]
    obtain ⟨e, fx, x, fy, y⟩ := s
    rcases inv_end h3 h5 with ⟨e0, hx, hy⟩ | ⟨e4, hb⟩
    · dsimp only at e0 hx hy
      subst e0
      rcases psi_law h2 fa ha m x y fy hx hy with ⟨p1, p2⟩ | ⟨p1, p2⟩
      · have hfit : (dg (psi a (m + 1))).length ≤ 4096 := by rw [← p2]; exact psiW_len _ _ _ _ _ _
        rw [p1, p2, fit_of hfit, er_of hfit]
      · have hv : (psiW 0 a fa x y fy).2.1 = 0 := by
          have : (psiW 0 a fa x y fy).2.1 = if (psiW 0 a fa x y fy).1 = 0 then (x + (mulL (0, 1, false) [(fa, a), (fy, y)]).2.1) else 0 := rfl
          rw [this, p1]; rfl
        rw [p1, hv, fit_no p2, er_no p2]
    · dsimp only at e4
      subst e4
      obtain ⟨p1, p2⟩ := psiW_bad (show (4 : Int) ≠ 0 by decide) a fa x y fy
      have hno : ¬ (dg (psi a (m + 1))).length ≤ 4096 := fun h => hb (Nat.le_trans (dg_mono (by
        have q1 := psi_succ (a := a) m
        have q2 := psi_pos (a := a) (by omega) (bad_one h2 hb)
        have q3 := (nonneg (a := a) (by omega) m).1
        have q4 := Int.mul_pos (show 0 < a by omega) q2
        omega)) h)
      rw [p1, p2, fit_no hno, er_no hno]
theorem chi_el (a : Int) (fa : Bool) (ha : (dg a).length ≤ 4096) (h2 : 2 ≤ a) (n : Nat) (hn : n ≤ 131072) : ∃ f : Bool, denP E 43 [I fa a, .int .i64 n, .int .i64 1, .fn 45 [] []] = some (.ret (.tup [I f (fit (chi a n)), .int .i64 (er (chi a n))])) := by
  rcases n with _ | m
  · refine ⟨false, ?_⟩
    have := element_chi_zero a fa ha h2
    rw [show chi a 0 = 1 from rfl, fit_of one_len, er_of one_len]
    exact this
  · obtain ⟨⟨s, k⟩, h1, h3, h4, h5⟩ := element_chi a fa ha h2 m (by omega) (InvS a m) (inv_zero a m (by omega)) (fun k s _ h hf he => inv_step h2 fa ha m k s h hf he)
    dsimp only at h1 h3 h4 h5
    refine ⟨(chiW s.e a fa s.x s.fx s.y s.fy).2.2, ?_⟩
    rw [h1]
    obtain ⟨e, fx, x, fy, y⟩ := s
    rcases inv_end h3 h5 with ⟨e0, hx, hy⟩ | ⟨e4, hb⟩
    · dsimp only at e0 hx hy
      subst e0
      rcases chi_law h2 fa ha m x y fx fy hx hy with ⟨p1, p2⟩ | ⟨p1, p2⟩
      · have hfit : (dg (chi a (m + 1))).length ≤ 4096 := by rw [← p2]; exact chiW_len _ _ _ _ _ _ _
        rw [p1, p2, fit_of hfit, er_of hfit]
      · have hv : (chiW 0 a fa x fx y fy).2.1 = 0 := by
          have key : ∀ e z : Int, ke e z = 4 → kval e z = 0 := fun e z h => by unfold kval; rw [h]; rfl
          exact key _ _ p1
        rw [p1, hv, fit_no p2, er_no p2]
    · dsimp only at e4
      subst e4
      obtain ⟨p1, p2⟩ := chiW_bad (show (4 : Int) ≠ 0 by decide) a fa x fx y fy
      have hno : ¬ (dg (chi a (m + 1))).length ≤ 4096 := fun h => hb (Nat.le_trans (dg_mono (by
        have q1 := chi_lt h2 m
        have q3 := (nonneg (a := a) (by omega) m).1
        omega)) h)
      rw [p1, p2, fit_no hno, er_no hno]
theorem psi_of (fa : Bool) (a n : Int) (f : Bool) (z e : Int) (h : denP E 43 [I fa a, .int .i64 n, .int .i64 0, .fn 44 [] []] = some (.ret (.tup [I f z, .int .i64 e]))) : denP E 15 [I fa a, .int .i64 n] = some (.ret (.tup [I f z, .int .i64 e])) := by
  refine denP_eq E15 rfl (by simp [AV.pureL, AV.pure, pure_wd]) ?_
  simp (maxSteps := 4000000) only [go_sem, ↓reduceIte, Nat.reduceAdd, Nat.reduceSub, Nat.reduceMul, Nat.reduceEqDiff, reduceCtorEq, Int.reduceAdd, Int.reduceLT, Int.reduceLE, Int.reduceToNat, Int.reduceNeg, Int.reduceSub, ← List.map_take, ← List.map_drop, ne_eq, Nat.reduceLeDiff, Nat.reduceLT, Nat.zero_le, Nat.le_refl, wrap64, wrapu64, wrapu32, ← Int.natCast_add, ← Int.natCast_mul, cast_succ, wrapu32_nat, shr32, reps_wd, map_set_wd, List.length_set, zs_len, Try.f15, h]
theorem psi_ofr (q : Raw) (n : Int) (f : Bool) (z e : Int) (h : denP E 43 [ivr q, .int .i64 n, .int .i64 0, .fn 44 [] []] = some (.ret (.tup [I f z, .int .i64 e]))) : denP E 15 [ivr q, .int .i64 n] = some (.ret (.tup [I f z, .int .i64 e])) := by
  refine denP_eq E15 rfl (by simp [AV.pureL, AV.pure, pure_wd]) ?_
  simp only [ivr, iv] at h ⊢
  simp (maxSteps := 4000000) only [go_sem, ↓reduceIte, Nat.reduceAdd, Nat.reduceSub, Nat.reduceMul, Nat.reduceEqDiff, reduceCtorEq, Int.reduceAdd, Int.reduceLT, Int.reduceLE, Int.reduceToNat, Int.reduceNeg, Int.reduceSub, ← List.map_take, ← List.map_drop, ne_eq, Nat.reduceLeDiff, Nat.reduceLT, Nat.zero_le, Nat.le_refl, wrap64, wrapu64, wrapu32, ← Int.natCast_add, ← Int.natCast_mul, cast_succ, wrapu32_nat, shr32, reps_wd, map_set_wd, List.length_set, zs_len, Try.f15, h]
theorem chi_of (fa : Bool) (a n : Int) (f : Bool) (z e : Int) (h : denP E 43 [I fa a, .int .i64 n, .int .i64 1, .fn 45 [] []] = some (.ret (.tup [I f z, .int .i64 e]))) : denP E 16 [I fa a, .int .i64 n] = some (.ret (.tup [I f z, .int .i64 e])) := by
  refine denP_eq E16 rfl (by simp [AV.pureL, AV.pure, pure_wd]) ?_
  simp (maxSteps := 4000000) only [go_sem, ↓reduceIte, Nat.reduceAdd, Nat.reduceSub, Nat.reduceMul, Nat.reduceEqDiff, reduceCtorEq, Int.reduceAdd, Int.reduceLT, Int.reduceLE, Int.reduceToNat, Int.reduceNeg, Int.reduceSub, ← List.map_take, ← List.map_drop, ne_eq, Nat.reduceLeDiff, Nat.reduceLT, Nat.zero_le, Nat.le_refl, wrap64, wrapu64, wrapu32, ← Int.natCast_add, ← Int.natCast_mul, cast_succ, wrapu32_nat, shr32, reps_wd, map_set_wd, List.length_set, zs_len, Try.f16, h]
theorem chi_ofr (q : Raw) (n : Int) (f : Bool) (z e : Int) (h : denP E 43 [ivr q, .int .i64 n, .int .i64 1, .fn 45 [] []] = some (.ret (.tup [I f z, .int .i64 e]))) : denP E 16 [ivr q, .int .i64 n] = some (.ret (.tup [I f z, .int .i64 e])) := by
  refine denP_eq E16 rfl (by simp [AV.pureL, AV.pure, pure_wd]) ?_
  simp only [ivr, iv] at h ⊢
  simp (maxSteps := 4000000) only [go_sem, ↓reduceIte, Nat.reduceAdd, Nat.reduceSub, Nat.reduceMul, Nat.reduceEqDiff, reduceCtorEq, Int.reduceAdd, Int.reduceLT, Int.reduceLE, Int.reduceToNat, Int.reduceNeg, Int.reduceSub, ← List.map_take, ← List.map_drop, ne_eq, Nat.reduceLeDiff, Nat.reduceLT, Nat.zero_le, Nat.le_refl, wrap64, wrapu64, wrapu32, ← Int.natCast_add, ← Int.natCast_mul, cast_succ, wrapu32_nat, shr32, reps_wd, map_set_wd, List.length_set, zs_len, Try.f16, h]
end Go.Proofs.Ytmgmcnoobgljpaa

/- Plain facts: the sequence psi modulo an element of chi. (Own work of this repo.) -/
namespace Luc
section
variable {a : Int}
theorem half_turn (n i : Nat) : chi a n ∣ (psi a (i + 2 * n) + psi a i) := by
  rw [(chi_add i (2 * n)).2, chi_two, psi_two]
  generalize chi a n = x
  generalize psi a n = y
  generalize chi a i = u
  generalize psi a i = v
  exact ⟨2 * (v * x) + 2 * (u * y), by grind⟩
theorem full_turn (n i q : Nat) : chi a n ∣ (psi a (i + 4 * n * q) - psi a i) := by
  induction q with
  | zero => rw [Nat.mul_zero, Nat.add_zero, Int.sub_self]; exact Int.dvd_zero _
  | succ q ih =>
    have h1 := half_turn (a := a) n (i + 4 * n * q)
    have h2 := half_turn (a := a) n (i + 4 * n * q + 2 * n)
    rw [show i + 4 * n * q + 2 * n + 2 * n = i + 4 * n * (q + 1) by rw [Nat.mul_succ]; omega] at h2
    have h3 := Int.dvd_add (Int.dvd_sub h2 h1) ih
    have e : psi a (i + 4 * n * (q + 1)) + psi a (i + 4 * n * q + 2 * n) - (psi a (i + 4 * n * q + 2 * n) + psi a (i + 4 * n * q)) + (psi a (i + 4 * n * q) - psi a i) = psi a (i + 4 * n * (q + 1)) - psi a i := by omega
    rwa [e] at h3
theorem mirror (n i j : Nat) (h : i + j = 2 * n) : chi a n ∣ (psi a j - psi a i) := by
  have h1 := (chi_add (a := a) i j).1
  have h2 := (chi_add (a := a) i j).2
  rw [h, chi_two] at h1
  rw [h, psi_two] at h2
  have hp := pell (a := a) i
  generalize chi a n = x at *
  generalize psi a n = y at *
  generalize chi a i = u at *
  generalize psi a i = v at *
  generalize chi a j = u' at *
  generalize psi a j = v' at *
  exact ⟨2 * (u * y) - 2 * (v * x), by grind⟩
/-- How an index stands to a turn: its sign, and the index from 0 to n. -/
theorem chi_psi (n : Nat) : chi a (n + 1) = a * psi a (n + 1) - psi a n := by
  rw [chi_succ, psi_succ]
  generalize chi a n = x
  generalize psi a n = y
  grind
theorem two_psi (ha : 2 ≤ a) (n : Nat) : 2 * psi a (n + 1) ≤ psi a (n + 2) + psi a n ∧ (2 * a - 1) * psi a (n + 1) ≤ psi a (n + 2) := by
  refine ⟨?_, (psi_growth (by omega) n).1⟩
  rw [psi_rec]
  have := (nonneg (show 1 ≤ a by omega) (n + 1)).2
  have h2 : 2 * psi a (n + 1) ≤ 2 * a * psi a (n + 1) := Int.mul_le_mul_of_nonneg_right (by omega) this
  omega
/-- Sums of two elements up to n, not both the last one, are less than chi(n). -/
theorem sum_lt (ha : 2 ≤ a) {n s t : Nat} (hn : 2 ≤ n) (hs : s ≤ n) (ht : t < n) : psi a s + psi a t < chi a n := by
  obtain ⟨k, rfl⟩ : ∃ k, n = k + 1 + 1 := ⟨n - 2, by omega⟩
  have h1 := psi_mono (show 1 ≤ a by omega) hs
  have h2 := psi_mono (show 1 ≤ a by omega) (show t ≤ k + 1 by omega)
  have h3 := chi_psi (a := a) (k + 1)
  have h4 := (psi_growth (show 1 ≤ a by omega) k).1
  have h5 := psi_pos (show 1 ≤ a by omega) (show 0 < k + 1 by omega)
  have h6 := psi_pos (show 1 ≤ a by omega) (show 0 < k + 2 by omega)
  have h7 : 2 * psi a (k + 2) ≤ a * psi a (k + 2) := Int.mul_le_mul_of_nonneg_right ha (by omega)
  have h8 : 3 * psi a (k + 1) ≤ (2 * a - 1) * psi a (k + 1) := Int.mul_le_mul_of_nonneg_right (by omega) (by omega)
  show psi a s + psi a t < chi a (k + 2)
  have h9 : psi a s ≤ psi a (k + 2) := h1
  have h10 : chi a (k + 2) = a * psi a (k + 2) - psi a (k + 1) := h3
  omega
theorem small_zero {D z : Int} (h : D ∣ z) (h1 : -D < z) (h2 : z < D) : z = 0 := by
  obtain ⟨k, rfl⟩ := h
  by_cases hk : k = 0
  · rw [hk, Int.mul_zero]
  · exfalso
    rcases Int.lt_trichotomy k 0 with h3 | h3 | h3
    · have : D * k ≤ D * (-1) := Int.mul_le_mul_of_nonneg_left (by omega) (by
        by_cases hD : 0 ≤ D
        · exact hD
        · omega)
      omega
    · exact hk h3
    · have : D * 1 ≤ D * k := Int.mul_le_mul_of_nonneg_left (by omega) (by
        by_cases hD : 0 ≤ D
        · exact hD
        · omega)
      omega
theorem chi_big (ha : 2 ≤ a) {n : Nat} (hn : 2 ≤ n) : 7 ≤ chi a n := by
  have h1 := chi_mono ha hn
  have h2 := chi_two (a := a) 1
  rw [chi_one] at h2
  have h3 := Int.mul_le_mul ha ha (by omega) (show 0 ≤ a by omega)
  have h4 : chi a 2 = chi a (2 * 1) := rfl
  omega
theorem diff_zero (ha : 2 ≤ a) {n s t : Nat} (hn : 2 ≤ n) (hs : s ≤ n) (ht : t ≤ n) (h : chi a n ∣ (psi a s - psi a t)) : s = t := by
  have h1 := nonneg (show 1 ≤ a by omega)
  have h2 := psi_mono (show 1 ≤ a by omega) hs
  have h3 := psi_mono (show 1 ≤ a by omega) ht
  have h4 := psi_lt_chi ha n
  have h5 := (h1 s).2
  have h6 := (h1 t).2
  have := small_zero h (by omega) (by omega)
  exact psi_inj (show 1 ≤ a by omega) (by omega)
theorem sum_zero (ha : 2 ≤ a) {n s t : Nat} (hn : 2 ≤ n) (hs : s ≤ n) (ht : t ≤ n) (h : chi a n ∣ (psi a s + psi a t)) : s = 0 ∧ t = 0 := by
  have h1 := nonneg (show 1 ≤ a by omega)
  have h5 := (h1 s).2
  have h6 := (h1 t).2
  have key : psi a s + psi a t < chi a n → s = 0 ∧ t = 0 := fun hlt => by
    have h0 := small_zero h (by omega) hlt
    exact ⟨psi_inj (show 1 ≤ a by omega) (show psi a s = psi a 0 by rw [psi_zero]; omega), psi_inj (show 1 ≤ a by omega) (show psi a t = psi a 0 by rw [psi_zero]; omega)⟩
  by_cases hs2 : s < n
  · exact key (by rw [Int.add_comm]; exact sum_lt ha hn ht hs2)
  · by_cases ht2 : t < n
    · exact key (sum_lt ha hn hs ht2)
    · exfalso
      obtain rfl : s = n := by omega
      obtain rfl : t = s := by omega
      obtain ⟨k, hk⟩ := h
      have hp := pell (a := a) t
      have h7 : chi a t ∣ 2 := ⟨2 * chi a t - (a * a - 1) * (k * psi a t), by
        generalize chi a t = x at *
        generalize psi a t = y at *
        grind⟩
      have h8 := Int.le_of_dvd (by omega) h7
      have h9 := chi_big ha hn
      omega
/-- An index, in a turn. -/
def sgnI (n r : Nat) : Int := if r ≤ 2 * n then 1 else -1
def idx (n r : Nat) : Nat := if r ≤ n then r else if r ≤ 2 * n then 2 * n - r else if r ≤ 3 * n then r - 2 * n else 4 * n - r
theorem idx_cases (n r : Nat) : (r ≤ n ∧ idx n r = r) ∨ (n < r ∧ r ≤ 2 * n ∧ idx n r = 2 * n - r) ∨ (2 * n < r ∧ r ≤ 3 * n ∧ idx n r = r - 2 * n) ∨ (2 * n < r ∧ 3 * n < r ∧ idx n r = 4 * n - r) := by
  unfold idx
  by_cases h1 : r ≤ n
  · rw [if_pos h1]; omega
  · rw [if_neg h1]
    by_cases h2 : r ≤ 2 * n
    · rw [if_pos h2]; omega
    · rw [if_neg h2]
      by_cases h3 : r ≤ 3 * n
      · rw [if_pos h3]; omega
      · rw [if_neg h3]; omega
theorem sgn_cases (n r : Nat) : (r ≤ 2 * n ∧ sgnI n r = 1) ∨ (2 * n < r ∧ sgnI n r = -1) := by
  unfold sgnI
  by_cases h1 : r ≤ 2 * n
  · rw [if_pos h1]; omega
  · rw [if_neg h1]; omega
theorem idx_le {n r : Nat} (h : r < 4 * n) : idx n r ≤ n := by unfold idx; split <;> (try split) <;> (try split) <;> omega
theorem turn (n r : Nat) (h : r < 4 * n) : chi a n ∣ (psi a r - sgnI n r * psi a (idx n r)) := by
  unfold idx sgnI
  by_cases h1 : r ≤ n
  · rw [if_pos h1, if_pos (by omega), Int.one_mul, Int.sub_self]; exact Int.dvd_zero _
  · rw [if_neg h1]
    by_cases h2 : r ≤ 2 * n
    · rw [if_pos h2, if_pos h2, Int.one_mul]
      exact mirror n (2 * n - r) r (by omega)
    · rw [if_neg h2, if_neg h2]
      have h4 := half_turn (a := a) n (r - 2 * n)
      rw [show r - 2 * n + 2 * n = r by omega] at h4
      by_cases h3 : r ≤ 3 * n
      · rw [if_pos h3]
        have e : psi a r - -1 * psi a (r - 2 * n) = psi a r + psi a (r - 2 * n) := by omega
        rw [e]; exact h4
      · rw [if_neg h3]
        have h5 := mirror (a := a) n (r - 2 * n) (4 * n - r) (by omega)
        have := Int.dvd_add h4 h5
        have e : psi a r + psi a (r - 2 * n) + (psi a (4 * n - r) - psi a (r - 2 * n)) = psi a r - -1 * psi a (4 * n - r) := by omega
        rwa [e] at this
/-- The same modulo chi(n): the same modulo 4n, or turned. -/
theorem steps (ha : 2 ≤ a) {n : Nat} (hn : 2 ≤ n) (i j : Nat) : chi a n ∣ (psi a i - psi a j) ↔ (i % (4 * n) = j % (4 * n) ∨ i % (4 * n) + j % (4 * n) = 2 * n ∨ i % (4 * n) + j % (4 * n) = 6 * n) := by
  have red : ∀ i, chi a n ∣ (psi a i - psi a (i % (4 * n))) := fun i => by
    have h := full_turn (a := a) n (i % (4 * n)) (i / (4 * n))
    rwa [Nat.mod_add_div] at h
  have hi := red i
  have hj := red j
  have hri := Nat.mod_lt i (show 0 < 4 * n by omega)
  have hrj := Nat.mod_lt j (show 0 < 4 * n by omega)
  generalize i % (4 * n) = r at *
  generalize j % (4 * n) = q at *
  have ti := turn (a := a) n r hri
  have tj := turn (a := a) n q hrj
  have li := idx_le hri
  have lj := idx_le hrj
  have key : chi a n ∣ (psi a i - psi a j) ↔ chi a n ∣ (sgnI n r * psi a (idx n r) - sgnI n q * psi a (idx n q)) := by
    have hd := Int.dvd_sub (Int.dvd_add hi ti) (Int.dvd_add hj tj)
    have e : psi a i - psi a r + (psi a r - sgnI n r * psi a (idx n r)) - (psi a j - psi a q + (psi a q - sgnI n q * psi a (idx n q))) = (psi a i - psi a j) - (sgnI n r * psi a (idx n r) - sgnI n q * psi a (idx n q)) := by omega
    rw [e] at hd
    constructor
    · intro h
      have := Int.dvd_sub h hd
      rwa [Int.sub_sub_self] at this
    · intro h
      have := Int.dvd_add hd h
      rwa [Int.sub_add_cancel] at this
  rw [key]
  constructor
  · intro h
    unfold sgnI at h
    by_cases h1 : r ≤ 2 * n <;> by_cases h2 : q ≤ 2 * n
    · rw [if_pos h1, if_pos h2, Int.one_mul, Int.one_mul] at h
      have h3 := diff_zero ha hn li lj h
      clear h hi hj ti tj key red li lj
      rcases idx_cases n r with e1 | e1 | e1 | e1 <;> rcases idx_cases n q with e2 | e2 | e2 | e2 <;> omega
    · rw [if_pos h1, if_neg h2, Int.one_mul] at h
      have h3 := sum_zero ha hn li lj (by rwa [show psi a (idx n r) - -1 * psi a (idx n q) = psi a (idx n r) + psi a (idx n q) by omega] at h)
      clear h hi hj ti tj key red li lj
      rcases idx_cases n r with e1 | e1 | e1 | e1 <;> rcases idx_cases n q with e2 | e2 | e2 | e2 <;> omega
    · rw [if_neg h1, if_pos h2, Int.one_mul] at h
      have h3 := sum_zero ha hn li lj (by
        have := Int.dvd_neg.2 h
        rwa [show -(-1 * psi a (idx n r) - psi a (idx n q)) = psi a (idx n r) + psi a (idx n q) by omega] at this)
      clear h hi hj ti tj key red li lj
      rcases idx_cases n r with e1 | e1 | e1 | e1 <;> rcases idx_cases n q with e2 | e2 | e2 | e2 <;> omega
    · rw [if_neg h1, if_neg h2] at h
      have h3 := diff_zero ha hn li lj (by
        have := Int.dvd_neg.2 h
        rwa [show -(-1 * psi a (idx n r) - -1 * psi a (idx n q)) = psi a (idx n r) - psi a (idx n q) by omega] at this)
      clear h hi hj ti tj key red li lj
      rcases idx_cases n r with e1 | e1 | e1 | e1 <;> rcases idx_cases n q with e2 | e2 | e2 | e2 <;> omega
  · intro h
    have h3 : sgnI n r * psi a (idx n r) = sgnI n q * psi a (idx n q) := by
      rcases h with h | h | h
      · rw [h]
      · have : idx n r = idx n q ∧ (sgnI n r = sgnI n q ∨ idx n q = 0) := by
          clear hi hj ti tj key red li lj
          rcases idx_cases n r with e1 | e1 | e1 | e1 <;> rcases idx_cases n q with e2 | e2 | e2 | e2 <;> rcases sgn_cases n r with e3 | e3 <;> rcases sgn_cases n q with e4 | e4 <;> omega
        rcases this with ⟨h4, h5 | h5⟩
        · rw [h4, h5]
        · rw [h4, h5, psi_zero, Int.mul_zero, Int.mul_zero]
      · have : idx n r = idx n q ∧ (sgnI n r = sgnI n q ∨ idx n q = 0) := by
          clear hi hj ti tj key red li lj
          rcases idx_cases n r with e1 | e1 | e1 | e1 <;> rcases idx_cases n q with e2 | e2 | e2 | e2 <;> rcases sgn_cases n r with e3 | e3 <;> rcases sgn_cases n q with e4 | e4 <;> omega
        rcases this with ⟨h4, h5 | h5⟩
        · rw [h4, h5]
        · rw [h4, h5, psi_zero, Int.mul_zero, Int.mul_zero]
    rw [h3, Int.sub_self]; exact Int.dvd_zero _
end
end Luc

/- Plain facts: decimal digits, and rows of bytes. (Own work of this repo.) -/
namespace Vm
open Go

/-- The decimal digits, the lowest one first. -/
def dd (n : Nat) : List Nat := if h : n = 0 then [] else n % 10 :: dd (n / 10)
termination_by n
decreasing_by omega
theorem dd_zero : dd 0 = [] := by rw [dd]; simp
theorem dd_pos {n : Nat} (h : n ≠ 0) : dd n = n % 10 :: dd (n / 10) := by rw [dd, dif_neg h]
def dv : List Nat → Nat
  | [] => 0
  | d :: ds => d + 10 * dv ds
theorem dv_dd (n : Nat) : dv (dd n) = n := by
  induction n using Nat.strongRecOn with
  | _ n ih =>
    by_cases h : n = 0
    · subst h; rw [dd_zero]; rfl
    · rw [dd_pos h, dv, ih (n / 10) (by omega)]; omega
theorem dd_lt (n : Nat) : ∀ d ∈ dd n, d < 10 := by
  induction n using Nat.strongRecOn with
  | _ n ih =>
    by_cases h : n = 0
    · subst h; rw [dd_zero]; intro d hd; cases hd
    · rw [dd_pos h]
      intro d hd
      rcases List.mem_cons.1 hd with rfl | hd
      · omega
      · exact ih (n / 10) (by omega) d hd
/-- Digits without a zero at the end are their number's. -/
theorem dd_dv : ∀ (l : List Nat), (∀ d ∈ l, d < 10) → (l = [] ∨ l.getLast? ≠ some 0) → dd (dv l) = l
  | [], _, _ => dd_zero
  | d :: ds, h, hl => by
    have hd := h d (by simp)
    have ih := dd_dv ds (fun x hx => h x (by simp [hx])) (by
      cases ds with
      | nil => exact .inl rfl
      | cons e es =>
        right
        have := hl.resolve_left (by simp)
        rwa [List.getLast?_cons_cons] at this)
    have hpos : d + 10 * dv ds ≠ 0 := by
      intro h0
      have h1 : d = 0 := by omega
      have h2 : dv ds = 0 := by omega
      have h3 : ds = [] := by rw [← ih, h2, dd_zero]
      subst h3; subst h1
      exact (hl.resolve_left (by simp)) rfl
    rw [dv, dd_pos hpos]
    have e1 : (d + 10 * dv ds) % 10 = d := by omega
    have e2 : (d + 10 * dv ds) / 10 = dv ds := by omega
    rw [e1, e2, ih]
theorem dd_last (n : Nat) : dd n = [] ∨ (dd n).getLast? ≠ some 0 := by
  induction n using Nat.strongRecOn with
  | _ n ih =>
    by_cases h : n = 0
    · subst h; exact .inl dd_zero
    · right
      rw [dd_pos h]
      rcases ih (n / 10) (by omega) with h1 | h1
      · rw [h1]
        have : n / 10 = 0 := by have := dv_dd (n / 10); rw [h1] at this; exact this.symm
        intro h2
        simp at h2
        omega
      · cases hq : dd (n / 10) with
        | nil => rw [hq] at h1; intro h2; have := dv_dd (n / 10); rw [hq] at this; simp [dv] at this; simp at h2; omega
        | cons e es => rw [hq] at h1; rwa [List.getLast?_cons_cons]
theorem dd_len {n k : Nat} (h : n < 2 ^ (3 * k)) : (dd n).length ≤ k := by
  induction k generalizing n with
  | zero => have : n = 0 := by simpa using h
            subst this; rw [dd_zero]; simp
  | succ k ih =>
    by_cases h0 : n = 0
    · subst h0; rw [dd_zero]; simp
    · rw [dd_pos h0, List.length_cons]
      have : n / 10 < 2 ^ (3 * k) := by
        rw [Nat.mul_succ, Nat.pow_add] at h
        omega
      have := ih this
      omega
theorem dd_nil {n : Nat} : dd n = [] ↔ n = 0 := ⟨fun h => by rw [← dv_dd n, h]; rfl, fun h => by rw [h, dd_zero]⟩

/-! #### rows of bytes -/
def by8 (n : Nat) : AV := .int .u8 n
/-- A string out of numbers of bytes. -/
def bstr (l : List Nat) : ByteArray := ⟨(l.map UInt8.ofNat).toArray⟩
def InB (l : List Nat) : Prop := ∀ x ∈ l, x < 256
theorem bytes_by : ∀ (l : List Nat), bytesOf (l.map by8) = some (l.map UInt8.ofNat)
  | [] => rfl
  | x :: xs => by simp only [List.map_cons, bytesOf, bytes_by xs]; rfl
theorem pure_by (l : List Nat) : AV.pureL (l.map by8) = true := by induction l <;> simp_all [AV.pureL, AV.pure, by8]
theorem mapL_by {n : Nat} {H : Heap} (l : List Nat) : mapL (purify (n + 1) H) (l.map by8) = some (l.map by8, []) := by
  induction l with
  | nil => rfl
  | cons x xs ih => simp only [List.map_cons, mapL, ih, by8, purify_int]; rfl
theorem get_by {l : List Nat} {i : Nat} (h : i < l.length) : (l.map by8)[i]? = some (by8 (l.getD i 0)) := by simp [h]
theorem map_set_by {l : List Nat} {i x : Nat} : (l.map by8).set i (.int .u8 (x : Int)) = (l.set i x).map by8 := by
  rw [show AV.int .u8 (x : Int) = by8 x from rfl, List.map_set]
theorem bstr_size (l : List Nat) : (bstr l).size = l.length := by simp [bstr, ByteArray.size]
theorem bstr_list (l : List Nat) : (bstr l).data.toList = l.map UInt8.ofNat := by simp [bstr]
theorem u8_nat {x : Nat} (h : x < 256) : (UInt8.ofNat x).toNat = x := by rw [UInt8.toNat_ofNat', Nat.mod_eq_of_lt (by omega)]
theorem bstr_get {l : List Nat} {i : Nat} (h : i < l.length) : (bstr l).data.toList[i]? = some (UInt8.ofNat (l.getD i 0)) := by
  rw [bstr_list]; simp [h]
theorem inB_get {l : List Nat} (h : InB l) (i : Nat) : l.getD i 0 < 256 := by
  rw [List.getD_eq_getElem?_getD]
  by_cases hi : i < l.length
  · rw [List.getElem?_eq_getElem hi]; exact h _ (List.getElem_mem hi)
  · rw [List.getElem?_eq_none (by omega)]; decide
theorem bstr_all (s : ByteArray) : ∃ l, s = bstr l ∧ InB l := by
  refine ⟨s.data.toList.map UInt8.toNat, ?_, ?_⟩
  · unfold bstr
    have : (s.data.toList.map UInt8.toNat).map UInt8.ofNat = s.data.toList := by
      rw [List.map_map]
      have : (UInt8.ofNat ∘ UInt8.toNat) = id := by funext x; simp
      rw [this, List.map_id]
    rw [this]
  · intro x hx
    obtain ⟨u, _, rfl⟩ := List.mem_map.1 hx
    exact u.toNat_lt
theorem map_u8_inj : ∀ {a b : List Nat}, InB a → InB b → a.map UInt8.ofNat = b.map UInt8.ofNat → a = b
  | [], [], _, _, _ => rfl
  | [], _ :: _, _, _, h => by simp at h
  | _ :: _, [], _, _, h => by simp at h
  | x :: xs, y :: ys, ha, hb, h => by
    simp only [List.map_cons, List.cons.injEq] at h
    have := congrArg UInt8.toNat h.1
    rw [u8_nat (ha x (by simp)), u8_nat (hb y (by simp))] at this
    rw [this, map_u8_inj (fun z hz => ha z (by simp [hz])) (fun z hz => hb z (by simp [hz])) h.2]
theorem bstr_inj {a b : List Nat} (ha : InB a) (hb : InB b) : bstr a = bstr b ↔ a = b := by
  refine ⟨fun h => ?_, fun h => by rw [h]⟩
  have : (bstr a).data.toList = (bstr b).data.toList := by rw [h]
  rw [bstr_list, bstr_list] at this
  exact map_u8_inj ha hb this
theorem bstr_drop {l : List Nat} {k : Nat} (h : k ≤ l.length) : (bstr l).extract k l.length = bstr (l.drop k) := by
  unfold bstr
  refine ByteArray.ext ?_
  rw [ByteArray.data_extract]
  apply Array.ext'
  simp [List.map_drop, List.take_of_length_le]
theorem bstr_eql {a b : List Nat} (ha : InB a) (hb : InB b) : ((bstr a).toList == (bstr b).toList) = decide (a = b) := by
  rw [ByteArray.toList_eq, ByteArray.toList_eq, bstr_list, bstr_list]
  by_cases h : a = b
  · subst h; simp
  · rw [decide_eq_false h, beq_eq_false_iff_ne]
    exact fun e => h (map_u8_inj ha hb e)
end Vm

/- Plain facts: what texts are numbers. (Own work of this repo.) -/
namespace Vm
open Go

/-- What digits mean, the highest one first. -/
def dval (d : List Nat) : Nat := dv ((d.map (· - 48)).reverse)
theorem dval_nil : dval [] = 0 := rfl
theorem dval_snoc (d : List Nat) (c : Nat) : dval (d ++ [c]) = 10 * dval d + (c - 48) := by
  unfold dval
  rw [List.map_append, List.reverse_append]
  simp only [List.map_cons, List.map_nil, List.reverse_cons, List.reverse_nil, List.nil_append, List.cons_append, dv]
  omega
theorem dval_take {d : List Nat} {i : Nat} (h : i < d.length) : dval (d.take (i + 1)) = 10 * dval (d.take i) + (d.getD i 0 - 48) := by
  rw [List.take_add_one, List.getElem?_eq_getElem h]
  simp only [Option.toList_some]
  rw [dval_snoc, List.getD_eq_getElem?_getD, List.getElem?_eq_getElem h]; rfl
def DecG (d : List Nat) : Prop := ∀ c ∈ d, 48 ≤ c ∧ c ≤ 57
instance (d : List Nat) : Decidable (DecG d) := by unfold DecG; infer_instance
theorem good_get {d : List Nat} (h : DecG d) {i : Nat} (hi : i < d.length) : 48 ≤ d.getD i 0 ∧ d.getD i 0 ≤ 57 := by
  rw [List.getD_eq_getElem?_getD, List.getElem?_eq_getElem hi]; exact h _ (List.getElem_mem hi)
theorem good_of {d : List Nat} (h : ∀ i, i < d.length → 48 ≤ d.getD i 0 ∧ d.getD i 0 ≤ 57) : DecG d := by
  intro c hc
  obtain ⟨i, hi, rfl⟩ := List.getElem_of_mem hc
  have := h i hi
  rwa [List.getD_eq_getElem?_getD, List.getElem?_eq_getElem hi] at this
def pneg (l : List Nat) : Bool := decide (l.getD 0 0 = 45)
def pbody (l : List Nat) : List Nat := if pneg l then l.drop 1 else l
/-- Is it the text of a number? -/
def pOk (l : List Nat) : Bool := decide (l.length ≤ 60000 ∧ pbody l ≠ [] ∧ ¬ ((pbody l).getD 0 0 = 48 ∧ (pneg l = true ∨ 1 < (pbody l).length)) ∧ DecG (pbody l))
def pval (l : List Nat) : Int := sg (pneg l) (dval (pbody l))
/-- The text of a number: its bytes. -/
def txt (z : Int) : List Nat := if z = 0 then [48] else (if z < 0 then [45] else []) ++ ((dd z.natAbs).map (48 + ·)).reverse
theorem map_back {l : List Nat} : (l.map (48 + ·)).map (· - 48) = l := by
  rw [List.map_map]
  have : ((· - 48) ∘ (48 + ·) : Nat → Nat) = id := by funext x; simp
  rw [this, List.map_id]
theorem map_forth {l : List Nat} (h : DecG l) : (l.map (· - 48)).map (48 + ·) = l := by
  rw [List.map_map]
  conv => rhs; rw [← List.map_id l]
  refine List.map_congr_left fun x hx => ?_
  have := h x hx
  simp; omega
theorem dval_dd (n : Nat) : dval ((dd n).map (48 + ·)).reverse = n := by
  unfold dval
  rw [List.map_reverse, List.reverse_reverse, map_back, dv_dd]
theorem good_dd (n : Nat) : DecG ((dd n).map (48 + ·)).reverse := by
  intro c hc
  rw [List.mem_reverse] at hc
  obtain ⟨d, hd, rfl⟩ := List.mem_map.1 hc
  have := dd_lt n d hd
  omega
theorem dd_head {n : Nat} (h : n ≠ 0) : ((dd n).map (48 + ·)).reverse.getD 0 0 ≠ 48 ∧ ((dd n).map (48 + ·)).reverse.getD 0 0 ≠ 45 ∧ 0 < ((dd n).map (48 + ·)).reverse.length := by
  have h1 : dd n ≠ [] := fun e => h (dd_nil.1 e)
  have h2 := (dd_last n).resolve_left h1
  have h3 : 0 < (dd n).length := List.length_pos_iff.2 h1
  have e : ((dd n).map (48 + ·)).reverse.getD 0 0 = 48 + (dd n).getLast h1 := by
    rw [List.getD_eq_getElem?_getD, List.getElem?_reverse (by simpa using h3), List.length_map, List.getElem?_map, List.getLast_eq_getElem h1, show (dd n).length - 1 - 0 = (dd n).length - 1 by omega, List.getElem?_eq_getElem (by omega)]; rfl
  rw [List.getLast?_eq_some_getLast h1] at h2
  refine ⟨?_, ?_, by rw [List.length_reverse, List.length_map]; exact h3⟩
  · rw [e]; intro h4; exact h2 (by congr 1; omega)
  · rw [e]; omega
theorem txt_body (a : Int) (h : a ≠ 0) : pneg (txt a) = decide (a < 0) ∧ pbody (txt a) = ((dd a.natAbs).map (48 + ·)).reverse := by
  obtain ⟨h1, h2, h3⟩ := dd_head (n := a.natAbs) (by omega)
  have e : pneg (txt a) = decide (a < 0) := by
    unfold txt pneg
    rw [if_neg h]
    by_cases h0 : a < 0
    · rw [if_pos h0]; simp [h0]
    · rw [if_neg h0, List.nil_append, decide_eq_false h2, decide_eq_false h0]
  refine ⟨e, ?_⟩
  unfold pbody
  rw [e]
  unfold txt
  rw [if_neg h]
  by_cases h0 : a < 0
  · rw [decide_eq_true h0, if_pos rfl, if_pos h0]; rfl
  · rw [decide_eq_false h0, if_neg h0, List.nil_append]; rfl
theorem pval_txt (a : Int) : pval (txt a) = a := by
  by_cases h : a = 0
  · subst h; rfl
  · obtain ⟨h1, h2⟩ := txt_body a h
    unfold pval
    rw [h1, h2, dval_dd]
    unfold sg
    by_cases h0 : a < 0
    · rw [decide_eq_true h0, if_pos rfl]; omega
    · rw [decide_eq_false h0]; simp only [Bool.false_eq_true, if_false]; omega
theorem pOk_txt (a : Int) (hl : (txt a).length ≤ 60000) : pOk (txt a) = true := by
  by_cases h : a = 0
  · subst h; decide
  · obtain ⟨h1, h2⟩ := txt_body a h
    obtain ⟨h3, h4, h5⟩ := dd_head (n := a.natAbs) (by omega)
    refine decide_eq_true ⟨hl, ?_, ?_, ?_⟩
    · rw [h2]; exact List.length_pos_iff.1 h5
    · rw [h2]; exact fun h => h3 h.1
    · rw [h2]; exact good_dd _
theorem txt_pval {l : List Nat} (h : pOk l = true) : txt (pval l) = l := by
  obtain ⟨h1, h2, h3, h4⟩ := of_decide_eq_true h
  have hl : l = (if pneg l then [45] else []) ++ pbody l := by
    unfold pbody
    cases hn : pneg l with
    | false => rfl
    | true =>
      have := of_decide_eq_true hn
      cases l with
      | nil => simp at this
      | cons x xs => simp at this; subst this; rfl
  have hb : 0 < (pbody l).length := List.length_pos_iff.2 h2
  have hg := good_get h4 hb
  by_cases h0 : (pbody l).getD 0 0 = 48
  · have h5 : pneg l = false ∧ (pbody l).length = 1 := by
      refine ⟨?_, ?_⟩
      · cases hn : pneg l with
        | false => rfl
        | true => exact absurd ⟨h0, .inl hn⟩ h3
      · by_cases h6 : 1 < (pbody l).length
        · exact absurd ⟨h0, .inr h6⟩ h3
        · omega
    have h6 : pbody l = [48] := by
      generalize pbody l = b at *
      match b, h5.2 with
      | [x], _ => simp at h0; rw [h0]
    unfold pval
    rw [h5.1, h6]
    rw [hl, h5.1, h6]; rfl
  · have hdd : dd (dval (pbody l)) = ((pbody l).map (· - 48)).reverse := by
      unfold dval
      refine dd_dv _ ?_ (.inr ?_)
      · intro d hd
        rw [List.mem_reverse] at hd
        obtain ⟨c, hc, rfl⟩ := List.mem_map.1 hd
        have := h4 c hc
        omega
      · rw [List.getLast?_reverse, List.head?_map]
        intro h5
        generalize pbody l = b at *
        cases b with
        | nil => simp at h2
        | cons x xs =>
          simp at h5 h0 hg
          omega
    have hne : dval (pbody l) ≠ 0 := fun e => by
      rw [e, dd_zero] at hdd
      have := congrArg List.length hdd
      simp at this
      exact h2 (List.length_eq_zero_iff.1 this.symm)
    have hna : (pval l).natAbs = dval (pbody l) := by unfold pval sg; split <;> omega
    have hz : pval l ≠ 0 := by omega
    have hneg : (pval l < 0) ↔ pneg l = true := by
      unfold pval sg
      cases pneg l with
      | true => simp; omega
      | false => simp
    unfold txt
    rw [if_neg hz, hna, hdd, List.map_reverse, List.reverse_reverse, map_forth h4]
    conv => rhs; rw [hl]
    congr 1
    by_cases h7 : pneg l = true
    · rw [if_pos (hneg.2 h7), if_pos h7]
    · rw [if_neg (fun h => h7 (hneg.1 h)), if_neg h7]
end Vm

/- The machine over pure values: a statement that leaves its order open, when what is written always stands in order. (Own work of this repo.) -/
namespace Vm
open Go
def orderOne (all : List Oper) (i : Nat) (r : Rec) : Nat → List Rec → Bool
  | _, [] => true
  | j, s :: ss => (r.quiet && s.quiet || befBit all j i) && orderOne all i r (j + 1) ss
def orderOk (all : List Oper) : Nat → List Rec → Bool
  | _, [] => true
  | i, r :: rs => orderOne all i r (i + 1) rs && orderOk all (i + 1) rs
theorem quiet_ids {r : Rec} (h : r.quiet = true) : r.ids = [] := by
  unfold Rec.quiet at h; unfold Rec.ids
  rw [List.isEmpty_iff] at h; rw [h]; rfl
theorem free_quiet {r s : Rec} (h1 : r.quiet = true) (h2 : s.quiet = true) : r.free s = true := by
  unfold Rec.free; rw [quiet_ids h1, quiet_ids h2]; rfl
theorem orderOne_ok {all : List Oper} {i : Nat} {r : Rec} : ∀ (ss : List Rec) (j : Nat), orderOne all i r j ss = true → dynOne all i r j ss = true
  | [], _, _ => rfl
  | s :: ss, j, h => by
    rw [orderOne, Bool.and_eq_true, Bool.or_eq_true, Bool.and_eq_true] at h
    rw [dynOne, Bool.and_eq_true]
    refine ⟨?_, orderOne_ok ss (j + 1) h.2⟩
    rcases h.1 with ⟨h1, h2⟩ | h1
    · rw [free_quiet h1 h2]
    · rw [h1]; split <;> rfl
theorem orderOk_ok {all : List Oper} : ∀ (rs : List Rec) (i : Nat), orderOk all i rs = true → dynOk all i rs = true
  | [], _, _ => rfl
  | r :: rs, i, h => by
    rw [orderOk, Bool.and_eq_true] at h
    rw [dynOk, orderOne_ok rs _ h.1, orderOk_ok rs _ h.2]; rfl
theorem okR_stat {all : List Oper} {rs : List Rec} (h : orderOk all 0 rs = true) : okR all rs = true := by
  unfold okR; rw [orderOk_ok rs 0 h]; split <;> rfl
/-- The pairs that nothing keeps in order. -/
def pairsOne (all : List Oper) (i : Nat) (r : Rec) : Nat → List Rec → List (Rec × Rec)
  | _, [] => []
  | j, s :: ss => (match r.quiet && s.quiet || befBit all j i with | true => pairsOne all i r (j + 1) ss | false => (r, s) :: pairsOne all i r (j + 1) ss)
def pairs (all : List Oper) : Nat → List Rec → List (Rec × Rec)
  | _, [] => []
  | i, r :: rs => pairsOne all i r (i + 1) rs ++ pairs all (i + 1) rs
def allFree : List (Rec × Rec) → Prop
  | [] => True
  | p :: ps => p.1.free p.2 = true ∧ allFree ps
theorem allFree_mem {l : List (Rec × Rec)} (h : allFree l) : ∀ p ∈ l, p.1.free p.2 = true := by
  induction l with
  | nil => intro p hp; cases hp
  | cons x xs ih =>
    intro p hp
    rcases List.mem_cons.1 hp with rfl | hp
    · exact h.1
    · exact ih h.2 p hp
theorem pairsOne_ok {all : List Oper} {i : Nat} {r : Rec} : ∀ (ss : List Rec) (j : Nat), (∀ p ∈ pairsOne all i r j ss, p.1.free p.2 = true) → dynOne all i r j ss = true
  | [], _, _ => rfl
  | s :: ss, j, h => by
    rw [dynOne, Bool.and_eq_true]
    rw [pairsOne] at h
    cases hc : r.quiet && s.quiet || befBit all j i with
    | true =>
      rw [hc] at h
      refine ⟨?_, pairsOne_ok ss (j + 1) h⟩
      rw [Bool.or_eq_true, Bool.and_eq_true] at hc
      rcases hc with ⟨h1, h2⟩ | h1
      · rw [free_quiet h1 h2]
      · rw [h1]; split <;> rfl
    | false =>
      rw [hc] at h
      refine ⟨?_, pairsOne_ok ss (j + 1) fun p hp => h p (List.mem_cons_of_mem _ hp)⟩
      rw [h (r, s) (List.mem_cons_self ..)]
theorem pairs_ok {all : List Oper} : ∀ (rs : List Rec) (i : Nat), (∀ p ∈ pairs all i rs, p.1.free p.2 = true) → dynOk all i rs = true
  | [], _, _ => rfl
  | r :: rs, i, h => by
    rw [dynOk, Bool.and_eq_true]
    exact ⟨pairsOne_ok rs _ fun p hp => h p (List.mem_append.2 (.inl hp)), pairs_ok rs _ fun p hp => h p (List.mem_append.2 (.inr hp))⟩
theorem okR_pairs {all : List Oper} {rs : List Rec} (h : allFree (pairs all 0 rs)) : okR all rs = true := by
  unfold okR; rw [pairs_ok rs 0 (allFree_mem h)]; split <;> rfl
theorem free_mk {a b c d : List Nat} : (mk a b).free (mk c d) = (b.all (fun x => !(c ++ d).contains x) && d.all (fun x => !a.contains x)) := by
  unfold Rec.free; rw [mk_ids, mk_ids]; rfl
end Vm

/- Walks: the law's helpers of chapter 8 and the sequences by their recurrence. (Own work of this repo.) -/
namespace Go.Proofs.Ytmgmcnoobgljpaa
open Vm Luc
set_option maxRecDepth 10000

theorem rRight_spec (fa : Bool) (a : Int) (ha : (dg a).length < 2 ^ 40) : denP E 46 [I fa a] = some (.ret (.bool (decide (2 ≤ a)))) := by
  refine denP_eq E46 rfl (by simp [AV.pureL, AV.pure, pure_wd]) ?_
  have o1 := rOf_spec 2 (by decide) (by decide)
  have o2 := rCmp_spec fa a (decide ((2 : Int) = 0)) 2 ha (by have := two_len; omega)
  have o3 : decide (0 ≤ cmpI a 2) = decide (2 ≤ a) := by unfold cmpI; (repeat' split) <;> simp <;> omega
  simp (maxSteps := 4000000) only [go_sem, ↓reduceIte, Nat.reduceAdd, Nat.reduceSub, Nat.reduceMul, Nat.reduceEqDiff, reduceCtorEq, Int.reduceAdd, Int.reduceLT, Int.reduceLE, Int.reduceToNat, Int.reduceNeg, Int.reduceSub, ← List.map_take, ← List.map_drop, ne_eq, Nat.reduceLeDiff, Nat.reduceLT, Nat.zero_le, Nat.le_refl, wrap64, wrapu64, wrapu32, ← Int.natCast_add, ← Int.natCast_mul, cast_succ, wrapu32_nat, shr32, reps_wd, map_set_wd, List.length_set, zs_len, Try.f46]
  refine W_drawn ?_
  simp (maxSteps := 4000000) only [go_sem, ↓reduceIte, Nat.reduceAdd, Nat.reduceSub, Nat.reduceMul, Nat.reduceEqDiff, reduceCtorEq, Int.reduceAdd, Int.reduceLT, Int.reduceLE, Int.reduceToNat, Int.reduceNeg, Int.reduceSub, ← List.map_take, ← List.map_drop, ne_eq, Nat.reduceLeDiff, Nat.reduceLT, Nat.zero_le, Nat.le_refl, wrap64, wrapu64, wrapu32, ← Int.natCast_add, ← Int.natCast_mul, cast_succ, wrapu32_nat, shr32, reps_wd, map_set_wd, List.length_set, zs_len, o1, o2, o3]
  refine okR_pairs ?_; (repeat ((with_unfolding_all refine And.intro ?_ ?_); (focus (rw [free_mk] <;> (try simp) <;> (try omega))))); (with_unfolding_all exact True.intro)
theorem valid_same (neg : Bool) (l : List Nat) : rvalidW neg l = validW neg l := by
  unfold rvalidW validW
  rcases l with _ | ⟨x, l⟩
  · simp
  · simp
theorem code_bad (q : Raw) (hq : q.2.2.length < 2 ^ 40) (h : rvl q = false) : denP E 17 [ivr q] = some (.ret (.int .i64 1)) := by
  refine denP_eq E17 rfl (by simp [AV.pureL, AV.pure, pure_wd]) ?_
  have h1 := rValid_walk q.1 q.2.1 q.2.2 (by omega)
  rw [valid_same, show validW q.1 q.2.2 = false from h] at h1
  simp only [ivr, iv] at h1 ⊢
  simp (maxSteps := 4000000) only [go_sem, ↓reduceIte, Nat.reduceAdd, Nat.reduceSub, Nat.reduceMul, Nat.reduceEqDiff, reduceCtorEq, Int.reduceAdd, Int.reduceLT, Int.reduceLE, Int.reduceToNat, Int.reduceNeg, Int.reduceSub, ← List.map_take, ← List.map_drop, ne_eq, Nat.reduceLeDiff, Nat.reduceLT, Nat.zero_le, Nat.le_refl, wrap64, wrapu64, wrapu32, ← Int.natCast_add, ← Int.natCast_mul, cast_succ, wrapu32_nat, shr32, reps_wd, map_set_wd, List.length_set, zs_len, Try.f17, h1]
theorem code_ok (fa : Bool) (a : Int) (ha : (dg a).length ≤ 4096) : denP E 17 [I fa a] = some (.ret (.int .i64 (if 2 ≤ a then 0 else 2))) := by
  refine denP_eq E17 rfl (by simp [AV.pureL, AV.pure, pure_wd]) ?_
  have h1 := rValid_spec fa a (by omega)
  rw [decide_eq_true ha] at h1
  have h2 := rRight_spec fa a (by omega)
  by_cases h : 2 ≤ a
  · rw [decide_eq_true h] at h2
    rw [if_pos h]
    simp (maxSteps := 4000000) only [go_sem, ↓reduceIte, Nat.reduceAdd, Nat.reduceSub, Nat.reduceMul, Nat.reduceEqDiff, reduceCtorEq, Int.reduceAdd, Int.reduceLT, Int.reduceLE, Int.reduceToNat, Int.reduceNeg, Int.reduceSub, ← List.map_take, ← List.map_drop, ne_eq, Nat.reduceLeDiff, Nat.reduceLT, Nat.zero_le, Nat.le_refl, wrap64, wrapu64, wrapu32, ← Int.natCast_add, ← Int.natCast_mul, cast_succ, wrapu32_nat, shr32, reps_wd, map_set_wd, List.length_set, zs_len, Try.f17, h1, h2]
  · rw [decide_eq_false h] at h2
    rw [if_neg h]
    simp (maxSteps := 4000000) only [go_sem, ↓reduceIte, Nat.reduceAdd, Nat.reduceSub, Nat.reduceMul, Nat.reduceEqDiff, reduceCtorEq, Int.reduceAdd, Int.reduceLT, Int.reduceLE, Int.reduceToNat, Int.reduceNeg, Int.reduceSub, ← List.map_take, ← List.map_drop, ne_eq, Nat.reduceLeDiff, Nat.reduceLT, Nat.zero_le, Nat.le_refl, wrap64, wrapu64, wrapu32, ← Int.natCast_add, ← Int.natCast_mul, cast_succ, wrapu32_nat, shr32, reps_wd, map_set_wd, List.length_set, zs_len, Try.f17, h1, h2]
theorem number_spec (ma : Bool) (x e : Int) (mb : Bool) (y w : Int) (hx : (dg x).length < 2 ^ 60) (hy : (dg y).length < 2 ^ 60) :
    denP E 18 [I ma x, .int .i64 e, I mb y, .int .i64 w] = some (.ret (.bool (if w ≠ 0 then decide (e = w) && decide (x = 0) else decide (e = 0) && decide (x = y)))) := by
  refine denP_eq E18 rfl (by simp [AV.pureL, AV.pure, pure_wd]) ?_
  have h1 := rZero_spec ma x
  have h2 := rSame_spec ma x mb y hx hy
  by_cases hw : w = 0
  · subst hw
    by_cases he : e = 0
    · have z1 : (e = 0) = True := eq_true he
      simp (maxSteps := 4000000) only [go_sem, ↓reduceIte, Nat.reduceAdd, Nat.reduceSub, Nat.reduceMul, Nat.reduceEqDiff, reduceCtorEq, Int.reduceAdd, Int.reduceLT, Int.reduceLE, Int.reduceToNat, Int.reduceNeg, Int.reduceSub, ← List.map_take, ← List.map_drop, ne_eq, Nat.reduceLeDiff, Nat.reduceLT, Nat.zero_le, Nat.le_refl, wrap64, wrapu64, wrapu32, ← Int.natCast_add, ← Int.natCast_mul, cast_succ, wrapu32_nat, shr32, reps_wd, map_set_wd, List.length_set, zs_len, Try.f18, h1, h2, z1, Int.reduceEq]
    · have z1 : (e = 0) = False := eq_false he
      simp (maxSteps := 4000000) only [go_sem, ↓reduceIte, Nat.reduceAdd, Nat.reduceSub, Nat.reduceMul, Nat.reduceEqDiff, reduceCtorEq, Int.reduceAdd, Int.reduceLT, Int.reduceLE, Int.reduceToNat, Int.reduceNeg, Int.reduceSub, ← List.map_take, ← List.map_drop, ne_eq, Nat.reduceLeDiff, Nat.reduceLT, Nat.zero_le, Nat.le_refl, wrap64, wrapu64, wrapu32, ← Int.natCast_add, ← Int.natCast_mul, cast_succ, wrapu32_nat, shr32, reps_wd, map_set_wd, List.length_set, zs_len, Try.f18, h1, h2, z1, Int.reduceEq]
  · have z0 : (w = 0) = False := eq_false hw
    by_cases he : e = w
    · have z1 : (e = w) = True := eq_true he
      simp (maxSteps := 4000000) only [go_sem, ↓reduceIte, Nat.reduceAdd, Nat.reduceSub, Nat.reduceMul, Nat.reduceEqDiff, reduceCtorEq, Int.reduceAdd, Int.reduceLT, Int.reduceLE, Int.reduceToNat, Int.reduceNeg, Int.reduceSub, ← List.map_take, ← List.map_drop, ne_eq, Nat.reduceLeDiff, Nat.reduceLT, Nat.zero_le, Nat.le_refl, wrap64, wrapu64, wrapu32, ← Int.natCast_add, ← Int.natCast_mul, cast_succ, wrapu32_nat, shr32, reps_wd, map_set_wd, List.length_set, zs_len, Try.f18, h1, h2, z0, z1, Int.reduceEq]
    · have z1 : (e = w) = False := eq_false he
      simp (maxSteps := 4000000) only [go_sem, ↓reduceIte, Nat.reduceAdd, Nat.reduceSub, Nat.reduceMul, Nat.reduceEqDiff, reduceCtorEq, Int.reduceAdd, Int.reduceLT, Int.reduceLE, Int.reduceToNat, Int.reduceNeg, Int.reduceSub, ← List.map_take, ← List.map_drop, ne_eq, Nat.reduceLeDiff, Nat.reduceLT, Nat.zero_le, Nat.le_refl, wrap64, wrapu64, wrapu32, ← Int.natCast_add, ← Int.natCast_mul, cast_succ, wrapu32_nat, shr32, reps_wd, map_set_wd, List.length_set, zs_len, Try.f18, h1, h2, z0, z1, Int.reduceEq]
def shortW (most : Nat) (q : Raw) : Bool := decide (q.2.2.length ≤ most)
theorem short_walk (most : Nat) (L : List Raw) (hL : L.length < 2 ^ 40) (hm : most < 2 ^ 50) : denP E 13 [.int .i64 most, .lst false (L.map ivr)] = some (.ret (.bool (L.all (shortW most)))) := by
  refine denP_eq E13 rfl (by simp [AV.pureL, AV.pure, pure_ivr]) ?_
  simp (maxSteps := 4000000) (disch := omega) only [go_sem, ↓reduceIte, Nat.reduceAdd, Nat.reduceSub, Nat.reduceMul, Nat.reduceEqDiff, reduceCtorEq, Int.reduceAdd, Int.reduceLT, Int.reduceLE, Int.reduceToNat, Int.reduceNeg, Int.reduceSub, ← List.map_take, ← List.map_drop, wrap64, wrapu64, wrapu32, ← Int.natCast_add, ← Int.natCast_mul, cast_succ, wrapu32_nat, shr32, reps_wd, map_set_wd, List.length_set, zs_len, Try.f13]
  refine W_loopS (fun k sl h nx => ∃ i : Nat, (∃ g : Nat → AV, sl = [.int .i64 most, .lst false (L.map ivr), g 2, g 3, g 4, .int .i64 i, g 6, g 7, g 8, g 9, g 10, g 11, g 12, g 13, g 14, g 15, g 16, g 17, g 18, g 19]) ∧ h = Heap.empty ∧ nx = 0 ∧
    i + k = L.length ∧ ∀ j, j < i → shortW most (L.getD j default) = true) L.length ⟨0, garb rfl, rfl, rfl, by omega, by omega⟩ ?_
  rintro k _ _ _ ⟨i, ⟨g, rfl⟩, rfl, rfl, hk, hall⟩
  by_cases hk0 : k = 0
  · have hv : L.all (shortW most) = true := by
      rw [List.all_eq_true]
      intro q hq
      obtain ⟨j, hj, rfl⟩ := List.getElem_of_mem hq
      have := hall j (by omega)
      rwa [List.getD_eq_getElem?_getD, List.getElem?_eq_getElem hj] at this
    simp (maxSteps := 4000000) (disch := omega) only [go_sem, ↓reduceIte, Nat.reduceAdd, Nat.reduceSub, Nat.reduceMul, Nat.reduceEqDiff, reduceCtorEq, Int.reduceAdd, Int.reduceLT, Int.reduceLE, Int.reduceToNat, Int.reduceNeg, Int.reduceSub, ← List.map_take, ← List.map_drop, wrap64, wrapu64, wrapu32, ← Int.natCast_add, ← Int.natCast_mul, cast_succ, wrapu32_nat, shr32, reps_wd, map_set_wd, List.length_set, zs_len, hv]
  · have hg := get_ivr (L := L) (i := i) (by omega)
    have hmem : L.getD i default ∈ L := by
      rw [List.getD_eq_getElem?_getD, List.getElem?_eq_getElem (by omega)]; exact List.getElem_mem _
    have hno : shortW most (L.getD i default) = false → L.all (shortW most) = false := fun h => by
      rw [List.all_eq_false]; exact ⟨_, hmem, by rw [h]; simp⟩
    generalize hq : L.getD i default = q at *
    obtain ⟨neg, nl, l⟩ := q
    dsimp only at hg
    by_cases h2 : l.length ≤ most
    · simp (maxSteps := 4000000) (disch := omega) only [go_sem, ↓reduceIte, Nat.reduceAdd, Nat.reduceSub, Nat.reduceMul, Nat.reduceEqDiff, reduceCtorEq, Int.reduceAdd, Int.reduceLT, Int.reduceLE, Int.reduceToNat, Int.reduceNeg, Int.reduceSub, ← List.map_take, ← List.map_drop, wrap64, wrapu64, wrapu32, ← Int.natCast_add, ← Int.natCast_mul, cast_succ, wrapu32_nat, shr32, reps_wd, map_set_wd, List.length_set, zs_len, hg]
      refine ⟨k - 1, by omega, i + 1, garb rfl, by omega, fun j hj => ?_⟩
      by_cases hji : j = i
      · subst hji; rw [hq]; simp [shortW, h2]
      · exact hall j (by omega)
    · have hv := hno (by simp [shortW, h2])
      simp (maxSteps := 4000000) (disch := omega) only [go_sem, ↓reduceIte, Nat.reduceAdd, Nat.reduceSub, Nat.reduceMul, Nat.reduceEqDiff, reduceCtorEq, Int.reduceAdd, Int.reduceLT, Int.reduceLE, Int.reduceToNat, Int.reduceNeg, Int.reduceSub, ← List.map_take, ← List.map_drop, wrap64, wrapu64, wrapu32, ← Int.natCast_add, ← Int.natCast_mul, cast_succ, wrapu32_nat, shr32, reps_wd, map_set_wd, List.length_set, zs_len, hg, hv]
abbrev crow (f : Bool) (z : Int) : Blk := ⟨[.bool (ng z), .lst f ((dg z).map wd)], true, 2, false⟩
theorem dg_psi {a : Int} (h2 : 2 ≤ a) (ha : (dg a).length ≤ 100) (n : Nat) (h : (dg (psi a n)).length ≤ 8192) : (dg (psi a (n + 1))).length ≤ 8300 ∧ (dg (chi a n)).length ≤ 8300 ∧ (dg (chi a (n + 1))).length ≤ 8500 := by
  have hp : (dg (psi a (n + 1))).length ≤ 8300 := by
    rcases n with _ | n
    · rw [psi_one]; have := dg_small (z := 1) (by decide); omega
    · have g := (psi_growth (a := a) (by omega) n).2
      have h3 := (nonneg (a := a) (by omega) (n + 2)).2
      have h4 := dg_mul (2 * a) (psi a (n + 1))
      have h5 := dg_mul 2 a
      have h6 := dg_small (z := 2) (by decide)
      have h7 := dg_mono (a := psi a (n + 2)) (b := 2 * a * psi a (n + 1)) (by omega)
      rw [show n + 1 + 1 = n + 2 from rfl]
      omega
  have p1 := psi_succ (a := a) n
  have p2 := nonneg (a := a) (by omega) n
  have p3 := Int.mul_nonneg (show 0 ≤ a by omega) p2.2
  have p4 := chi_psi (a := a) n
  have p5 := nonneg (a := a) (by omega) (n + 1)
  have c1 := dg_mono (a := chi a n) (b := psi a (n + 1)) (by omega)
  have c2 := dg_mono (a := chi a (n + 1)) (b := a * psi a (n + 1)) (by omega)
  have c3 := dg_mul a (psi a (n + 1))
  exact ⟨hp, by omega, by omega⟩
theorem dg_psi_le {a : Int} (h2 : 2 ≤ a) {m n : Nat} (h : m ≤ n) : (dg (psi a m)).length ≤ (dg (psi a n)).length := by
  have p1 := psi_mono (a := a) (by omega) h
  have p2 := (nonneg (a := a) (by omega) m).2
  exact dg_mono (by omega)
set_option maxHeartbeats 4000000 in
theorem pair_spec (a : Int) (fa : Bool) (ha : (dg a).length ≤ 100) (h2 : 2 ≤ a) (n : Nat) (hn : n < 2 ^ 40) :
    ∃ p : Bool × Bool, denP E 19 [I fa a, .int .i64 n] = some (.ret ((fun p : Bool × Bool => if (dg (psi a n)).length ≤ 8192 then .tup [I p.1 (chi a n), I p.2 (psi a n), .bool true] else .tup [I true 0, I true 0, .bool false]) p)) ∧ True := by
  refine denP_ex E19 rfl (by simp [AV.pureL, AV.pure, pure_wd]) ?_
  have o1 := rOf_spec 1 (by decide) (by decide)
  rw [RM, show decide ((1 : Int) = 0) = false from rfl] at o1
  have hadd := rAdd_spec fa a fa a (by omega) (by omega)
  have l2a := dg_add a a
  rw [RM, show decide (a + a = 0) = false from decide_eq_false (by omega)] at hadd
  simp (maxSteps := 4000000) only [go_sem, ↓reduceIte, Nat.reduceAdd, Nat.reduceSub, Nat.reduceMul, Nat.reduceEqDiff, reduceCtorEq, Int.reduceAdd, Int.reduceLT, Int.reduceLE, Int.reduceToNat, Int.reduceNeg, Int.reduceSub, ← List.map_take, ← List.map_drop, ne_eq, Nat.reduceLeDiff, Nat.reduceLT, Nat.zero_le, Nat.le_refl, wrap64, wrapu64, wrapu32, ← Int.natCast_add, ← Int.natCast_mul, cast_succ, wrapu32_nat, shr32, reps_wd, map_set_wd, List.length_set, zs_len, Try.f19, o1, places, fillAll]
  refine W_drawn ?_
  simp (maxSteps := 4000000) only [go_sem, ↓reduceIte, Nat.reduceAdd, Nat.reduceSub, Nat.reduceMul, Nat.reduceEqDiff, reduceCtorEq, Int.reduceAdd, Int.reduceLT, Int.reduceLE, Int.reduceToNat, Int.reduceNeg, Int.reduceSub, ← List.map_take, ← List.map_drop, ne_eq, Nat.reduceLeDiff, Nat.reduceLT, Nat.zero_le, Nat.le_refl, wrap64, wrapu64, wrapu32, ← Int.natCast_add, ← Int.natCast_mul, cast_succ, wrapu32_nat, shr32, reps_wd, map_set_wd, List.length_set, zs_len, o1, places, fillAll]
  refine ⟨by refine okR_pairs ?_; (repeat ((with_unfolding_all refine And.intro ?_ ?_); (focus (rw [free_mk] <;> (try simp) <;> (try omega))))); (with_unfolding_all exact True.intro), ?_⟩
  simp (maxSteps := 4000000) only [go_sem, ↓reduceIte, Nat.reduceAdd, Nat.reduceSub, Nat.reduceMul, Nat.reduceEqDiff, reduceCtorEq, Int.reduceAdd, Int.reduceLT, Int.reduceLE, Int.reduceToNat, Int.reduceNeg, Int.reduceSub, ← List.map_take, ← List.map_drop, ne_eq, Nat.reduceLeDiff, Nat.reduceLT, Nat.zero_le, Nat.le_refl, wrap64, wrapu64, wrapu32, ← Int.natCast_add, ← Int.natCast_mul, cast_succ, wrapu32_nat, shr32, reps_wd, map_set_wd, List.length_set, zs_len, hadd, places, fillAll]
  clear o1 hadd
  refine W_loopS (fun k sl h nx => ∃ (i : Nat) (fc fp fx fy : Bool), (∃ g : Nat → AV, sl = [g 0, .int .i64 n, g 2, g 3, .ptr 1 0, .ptr 2 0, .bool false, .ptr 3 0, .ptr 4 0, .ptr 5 0, .ptr 6 0, .ptr 7 0, .int .i64 i, g 13, g 14, g 15, g 16, g 17, g 18, g 19, g 20, g 21, g 22, g 23, g 24, g 25, g 26, g 27, g 28, g 29, g 30, g 31, g 32, g 33, g 34, g 35, g 36, g 37, g 38, g 39, g 40, g 41, g 42, g 43, g 44]) ∧ (h 1 = some (crow true 0) ∧ h 2 = some (crow true 0) ∧ h 3 = some (crow fc (chi a i)) ∧ h 4 = some (crow fp (psi a i)) ∧ h 5 = some (crow fx (chi a (i + 1))) ∧ h 6 = some (crow fy (psi a (i + 1))) ∧ h 7 = some (crow false (a + a))) ∧ nx = 8 ∧ i + k = n ∧ (dg (psi a i)).length ≤ 8192) n ⟨0, false, true, fa, false, garb rfl, ?_, rfl, by omega, by rw [psi_zero, dg_zero]; simp⟩ ?_
  · rw [chi_zero, psi_zero, chi_one, psi_one, crow, crow, ng_zero, dg_zero]
    refine ⟨?_, ?_, ?_, ?_, ?_, ?_, ?_⟩ <;> simp only [upd_apply, ↓reduceIte, Nat.reduceEqDiff, if_pos] <;> rfl
  · rintro k _ h _ ⟨i, fc, fp, fx, fy, ⟨g, rfl⟩, ⟨r1, r2, r3, r4, r5, r6, r7⟩, rfl, hk, hl⟩
    simp only [crow] at r1 r2 r3 r4 r5 r6 r7
    by_cases hk0 : k = 0
    · subst hk0
      obtain rfl : i = n := by omega
      have z1 : ((i : Int) < (i : Int)) = False := eq_false (by omega)
      simp (maxSteps := 4000000) only [go_sem, ↓reduceIte, Nat.reduceAdd, Nat.reduceSub, Nat.reduceMul, Nat.reduceEqDiff, reduceCtorEq, Int.reduceAdd, Int.reduceLT, Int.reduceLE, Int.reduceToNat, Int.reduceNeg, Int.reduceSub, ← List.map_take, ← List.map_drop, ne_eq, Nat.reduceLeDiff, Nat.reduceLT, Nat.zero_le, Nat.le_refl, wrap64, wrapu64, wrapu32, ← Int.natCast_add, ← Int.natCast_mul, cast_succ, wrapu32_nat, shr32, reps_wd, map_set_wd, List.length_set, zs_len, z1]
      refine W_drawn ?_
      simp (maxSteps := 4000000) only [go_sem, ↓reduceIte, Nat.reduceAdd, Nat.reduceSub, Nat.reduceMul, Nat.reduceEqDiff, reduceCtorEq, Int.reduceAdd, Int.reduceLT, Int.reduceLE, Int.reduceToNat, Int.reduceNeg, Int.reduceSub, ← List.map_take, ← List.map_drop, ne_eq, Nat.reduceLeDiff, Nat.reduceLT, Nat.zero_le, Nat.le_refl, wrap64, wrapu64, wrapu32, ← Int.natCast_add, ← Int.natCast_mul, cast_succ, wrapu32_nat, shr32, reps_wd, map_set_wd, List.length_set, zs_len, r1, r2, r3, r4, r5, r6, r7]
      refine ⟨by refine okR_pairs ?_; (repeat ((with_unfolding_all refine And.intro ?_ ?_); (focus (rw [free_mk] <;> (try simp) <;> (try omega))))); (with_unfolding_all exact True.intro), (fc, fp), ?_⟩
      rw [if_pos hl]
    · have z1 : ((i : Int) < (n : Int)) = True := eq_true (by omega)
      obtain ⟨b1, b2, b3⟩ := dg_psi h2 ha i hl
      have m1 := rMul_spec false (a + a) fx (chi a (i + 1)) (by omega) (by omega)
      have m2 := rMul_spec false (a + a) fy (psi a (i + 1)) (by omega) (by omega)
      have lm1 := dg_mul (a + a) (chi a (i + 1))
      have lm2 := dg_mul (a + a) (psi a (i + 1))
      have s1 := rSub_spec (decide ((a + a) * chi a (i + 1) = 0)) ((a + a) * chi a (i + 1)) fc (chi a i) (by omega) (by omega)
      have s2 := rSub_spec (decide ((a + a) * psi a (i + 1) = 0)) ((a + a) * psi a (i + 1)) fp (psi a i) (by omega) (by omega)
      have e1 : (a + a) * chi a (i + 1) - chi a i = chi a (i + 2) := by rw [chi_rec, Int.two_mul]
      have e2 : (a + a) * psi a (i + 1) - psi a i = psi a (i + 2) := by rw [psi_rec, Int.two_mul]
      rw [e1] at s1
      rw [e2] at s2
      rw [RM] at m1 m2 s1 s2
      generalize decide ((a + a) * chi a (i + 1) = 0) = d1 at *
      generalize decide ((a + a) * psi a (i + 1) = 0) = d2 at *
      generalize decide (chi a (i + 2) = 0) = d3 at *
      generalize decide (psi a (i + 2) = 0) = d4 at *
      clear e1 e2 lm1 lm2 b2 b3
      simp (maxSteps := 4000000) only [go_sem, ↓reduceIte, Nat.reduceAdd, Nat.reduceSub, Nat.reduceMul, Nat.reduceEqDiff, reduceCtorEq, Int.reduceAdd, Int.reduceLT, Int.reduceLE, Int.reduceToNat, Int.reduceNeg, Int.reduceSub, ← List.map_take, ← List.map_drop, ne_eq, Nat.reduceLeDiff, Nat.reduceLT, Nat.zero_le, Nat.le_refl, wrap64, wrapu64, wrapu32, ← Int.natCast_add, ← Int.natCast_mul, cast_succ, wrapu32_nat, shr32, reps_wd, map_set_wd, List.length_set, zs_len, z1]
      refine W_drawn ?_
      simp (maxSteps := 4000000) only [go_sem, ↓reduceIte, Nat.reduceAdd, Nat.reduceSub, Nat.reduceMul, Nat.reduceEqDiff, reduceCtorEq, Int.reduceAdd, Int.reduceLT, Int.reduceLE, Int.reduceToNat, Int.reduceNeg, Int.reduceSub, ← List.map_take, ← List.map_drop, ne_eq, Nat.reduceLeDiff, Nat.reduceLT, Nat.zero_le, Nat.le_refl, wrap64, wrapu64, wrapu32, ← Int.natCast_add, ← Int.natCast_mul, cast_succ, wrapu32_nat, shr32, reps_wd, map_set_wd, List.length_set, zs_len, r1, r2, r3, r4, r5, r6, r7, m1, s1]
      refine ⟨by refine okR_pairs ?_; (repeat ((with_unfolding_all refine And.intro ?_ ?_); (focus (rw [free_mk] <;> (try simp) <;> (try omega))))); (with_unfolding_all exact True.intro), ?_⟩
      refine W_drawn ?_
      simp (maxSteps := 4000000) only [go_sem, ↓reduceIte, Nat.reduceAdd, Nat.reduceSub, Nat.reduceMul, Nat.reduceEqDiff, reduceCtorEq, Int.reduceAdd, Int.reduceLT, Int.reduceLE, Int.reduceToNat, Int.reduceNeg, Int.reduceSub, ← List.map_take, ← List.map_drop, ne_eq, Nat.reduceLeDiff, Nat.reduceLT, Nat.zero_le, Nat.le_refl, wrap64, wrapu64, wrapu32, ← Int.natCast_add, ← Int.natCast_mul, cast_succ, wrapu32_nat, shr32, reps_wd, map_set_wd, List.length_set, zs_len, r1, r2, r3, r4, r5, r6, r7, m2, s2]
      refine ⟨by refine okR_pairs ?_; (repeat ((with_unfolding_all refine And.intro ?_ ?_); (focus (rw [free_mk] <;> (try simp) <;> (try omega))))); (with_unfolding_all exact True.intro), ?_⟩
      by_cases hb : (dg (psi a (i + 1))).length ≤ 8192
      · have z2 : ((8192 : Int) < ((dg (psi a (i + 1))).length : Int)) = False := eq_false (by omega)
        have z3 : IntKind.i64.wrap ((i + 1 : Nat) : Int) = ((i + 1 : Nat) : Int) := wrap64 (by omega) (by omega)
        simp (maxSteps := 4000000) only [go_sem, ↓reduceIte, Nat.reduceAdd, Nat.reduceSub, Nat.reduceMul, Nat.reduceEqDiff, reduceCtorEq, Int.reduceAdd, Int.reduceLT, Int.reduceLE, Int.reduceToNat, Int.reduceNeg, Int.reduceSub, ← List.map_take, ← List.map_drop, ne_eq, Nat.reduceLeDiff, Nat.reduceLT, Nat.zero_le, Nat.le_refl, wrap64, wrapu64, wrapu32, ← Int.natCast_add, ← Int.natCast_mul, cast_succ, wrapu32_nat, shr32, reps_wd, map_set_wd, List.length_set, zs_len, r1, r2, r3, r4, r5, r6, r7, z2, z3]
        exact ⟨k - 1, by omega, i + 1, fx, fy, d3, d4, garb rfl, ⟨rfl, rfl, rfl, rfl⟩, by omega, hb⟩
      · have z2 : ((8192 : Int) < ((dg (psi a (i + 1))).length : Int)) = True := eq_true (by omega)
        have hno : ¬ (dg (psi a n)).length ≤ 8192 := fun h => hb (Nat.le_trans (dg_psi_le h2 (show i + 1 ≤ n by omega)) h)
        simp (maxSteps := 4000000) only [go_sem, ↓reduceIte, Nat.reduceAdd, Nat.reduceSub, Nat.reduceMul, Nat.reduceEqDiff, reduceCtorEq, Int.reduceAdd, Int.reduceLT, Int.reduceLE, Int.reduceToNat, Int.reduceNeg, Int.reduceSub, ← List.map_take, ← List.map_drop, ne_eq, Nat.reduceLeDiff, Nat.reduceLT, Nat.zero_le, Nat.le_refl, wrap64, wrapu64, wrapu32, ← Int.natCast_add, ← Int.natCast_mul, cast_succ, wrapu32_nat, shr32, reps_wd, map_set_wd, List.length_set, zs_len, r1, r2, r3, r4, r5, r6, r7, z2, places, fillAll]
        refine ⟨(true, true), ?_⟩
        rw [if_neg hno, ng_zero, dg_zero]
        rfl
end Go.Proofs.Ytmgmcnoobgljpaa

/- The machine over pure values: how one walks through a loop over a function. (Own work of this repo.) -/
namespace Vm
open Go
section
variable {E : Env} {σ : St} {Q : Ex → St → Prop}
/-- The loop, its row's states being L. -/
def rfK (E : Env) (Q : Ex → St → Prop) (σ : St) (L : Nat → Blk) : Option AV → Prop
  | some (.fn g a b) => g ≠ 1000003 ∧ ∃ v h' n' s e, denO E g (a ++ [.fn 1000003 [] [.ref σ.nx 0 0]] ++ b) (σ.h.upd σ.nx (some (L 0))) (σ.nx + 1) = some (.ret v, h', n') ∧ h' σ.nx = some (L s) ∧ leftBy s = some e ∧ Q e ⟨σ.sl, h'.upd σ.nx none, n'⟩
  | _ => False
def IsLoop (L : Nat → Blk) (ps : Array Tmp) (asg bd : Code) (sl : List AV) : Prop := ∀ s, L s = loopRow s ps asg bd sl
theorem W_rangeFunc {fo : Operand} {ps : Array Tmp} {asg bd : Code} (h : ∀ L : Nat → Blk, IsLoop L ps asg bd σ.sl → rfK E Q σ L (ev σ.sl fo)) : W E (.rangeFunc fo ps asg bd) σ Q := by
  have h1 := h _ (fun _ => rfl)
  unfold rfK at h1
  split at h1
  · rename_i g a b he
    obtain ⟨hg, v, h', n', s, e, hd, hs, hl, hq⟩ := h1
    refine W_of (r := (e, ⟨σ.sl, h'.upd σ.nx none, n'⟩)) ?_ hq
    have hd' : (cl E (den E)).o g (a ++ [.fn 1000003 [] [.ref σ.nx 0 0]] ++ b) (σ.h.upd σ.nx (some (loopRow 0 ps asg bd σ.sl))) (σ.nx + 1) = some (.ret v, h', n') := hd
    have hst : statusOf (h' σ.nx) = some s := by rw [hs]; unfold statusOf loopRow; rfl
    simp only [step, he]
    rw [if_neg hg, hd']
    simp only [hst, hl]
  · exact h1.elim
/-- A round begins: the loop's variables are set. -/
def beginK (E : Env) (L : Nat → Blk) (id : Nat) (bd : Code) (Q : Ex → St → Prop) : Ex → St → Prop
  | .norm, σ => σ.h id = some (L 0) ∧ W E bd ⟨σ.sl, σ.h.upd id (some (L 1)), σ.nx⟩ Q
  | _, _ => False
/-- It ends. -/
def endK (L : Nat → Blk) (id : Nat) (R : Bool → Heap → Nat → Prop) : Ex → St → Prop
  | .norm, σ => σ.h id = some (L 1) ∧ R true (σ.h.upd id (some (L 0))) σ.nx
  | .ret, σ => σ.h id = some (L 1) ∧ R false (σ.h.upd id (some (L 2))) σ.nx
  | .exit i, σ => σ.h id = some (L 1) ∧ R false (σ.h.upd id (some (L (i + 3)))) σ.nx
  | .panic _, _ => False
theorem beginK_norm {L : Nat → Blk} {id : Nat} {bd : Code} : beginK E L id bd Q .norm σ = (σ.h id = some (L 0) ∧ W E bd ⟨σ.sl, σ.h.upd id (some (L 1)), σ.nx⟩ Q) := rfl
theorem endK_norm {L : Nat → Blk} {id : Nat} {R : Bool → Heap → Nat → Prop} : endK L id R .norm σ = (σ.h id = some (L 1) ∧ R true (σ.h.upd id (some (L 0))) σ.nx) := rfl
theorem endK_ret {L : Nat → Blk} {id : Nat} {R : Bool → Heap → Nat → Prop} : endK L id R .ret σ = (σ.h id = some (L 1) ∧ R false (σ.h.upd id (some (L 2))) σ.nx) := rfl
theorem endK_exit {L : Nat → Blk} {id i : Nat} {R : Bool → Heap → Nat → Prop} : endK L id R (.exit i) σ = (σ.h id = some (L 1) ∧ R false (σ.h.upd id (some (L (i + 3)))) σ.nx) := rfl
theorem turn_loop {L : Nat → Blk} {ps : Array Tmp} {asg bd : Code} {sl : List AV} (hL : IsLoop L ps asg bd sl) (s s' : Nat) : turn s s' (some (L s)) = some (L s') := by
  rw [hL s, hL s']
  unfold turn loopRow
  simp
theorem denO_yield {L : Nat → Blk} {ps : Array Tmp} {asg bd : Code} {sl args : List AV} (hL : IsLoop L ps asg bd sl) {id : Nat} {h : Heap} {nx : Nat} {R : Bool → Heap → Nat → Prop} (hE : E.fn 1000003 = none) (hrow : h id = some (L 0)) (hlen : args.length = ps.size)
    (hw : W E asg ⟨setAll sl (ps.toList.zip args), h, nx⟩ (beginK E L id bd (endK L id R))) : ∃ b h' n', denO E 1000003 (args ++ [.ref id 0 0]) h nx = some (.ret (.bool b), h', n') ∧ R b h' n' := by
  obtain ⟨e, σ1, h1, h2⟩ := hw
  cases e with
  | norm =>
    obtain ⟨h3, e2, σ2, h4, h5⟩ := h2
    have hr : rowOf (h id) = some (ps, asg, bd, sl) := by rw [hrow, hL 0]; rfl
    have t1 : turn 0 1 (σ1.h id) = some (L 1) := by rw [h3]; exact turn_loop hL 0 1
    have main : ∀ s b, roundBy e2 = some (s, b) → σ2.h id = some (L 1) → R b (σ2.h.upd id (some (L s))) σ2.nx → ∃ b h' n', denO E 1000003 (args ++ [.ref id 0 0]) h nx = some (.ret (.bool b), h', n') ∧ R b h' n' := by
      intro s b hb h6 hR
      refine ⟨b, _, _, ?_, hR⟩
      have t2 : turn 1 s (σ2.h id) = some (L s) := by rw [h6]; exact turn_loop hL 1 s
      unfold denO
      simp only [body, hE, if_true, yieldB, List.getLast?_append, List.getLast?_singleton, Option.some_or, refOf, List.dropLast_concat, yieldR, hr, hlen, h1, t1, h4, roundEnd, hb, t2]
    cases e2 with
    | norm => exact main 0 true rfl h5.1 h5.2
    | ret => exact main 2 false rfl h5.1 h5.2
    | exit i => exact main (i + 3) false rfl h5.1 h5.2
    | panic v => exact h5.elim
  | ret => exact h2.elim
  | exit i => exact h2.elim
  | panic v => exact h2.elim
theorem setAll_two {sl : List AV} {t u : Tmp} {x y : AV} : setAll sl (([t, u] : List Tmp).zip [x, y]) = (sl.set t x).set u y := rfl
theorem setAll_one {sl : List AV} {t : Tmp} {x : AV} : setAll sl (([t] : List Tmp).zip [x]) = sl.set t x := rfl
end
attribute [go_sem] setAll_two setAll_one beginK_norm endK_norm endK_ret endK_exit
end Vm

/- Walks: the rests of a sequence, one after the other. (Own work of this repo.) -/
namespace Go.Proofs.Ytmgmcnoobgljpaa
open Vm Luc
set_option maxRecDepth 10000

theorem rest_fix (x y : Int) (f g : Bool) (hx : (dg x).length ≤ 4096) (hy : (dg y).length ≤ 4096) (hy0 : y ≠ 0) (hf : f = true → x = 0) : ∃ fl : Bool, (fl = true → x % y = 0) ∧ ∀ (id esz : Nat) (rest : List AV) (h : Heap) (nx : Nat), id < nx → h id = some ⟨.int .i64 0 :: rest, true, esz, false⟩ →
    ∃ (h' : Heap) (n' : Nat), denO E 60 [.ptr id 0, I f x, I g y] h nx = some (.ret (I fl (x % y)), h', n') ∧ Kept id ⟨.int .i64 0 :: rest, true, esz, false⟩ h nx h' n' := by
  obtain ⟨⟨m1, m2⟩, h1, h2, h3⟩ := div_spec f x g y hx hy hy0 hf
  refine ⟨m2, h3, fun id esz rest h nx hi hH => ?_⟩
  have key : ∃ v h' n', denO E 60 [.ptr id 0, I f x, I g y] h nx = some (.ret v, h', n') ∧ v = I m2 (x % y) ∧
      h' id = some ⟨.int .i64 0 :: rest, true, esz, false⟩ ∧ nx ≤ n' ∧ ∀ i, i < nx → i ≠ id → h' i = h i := by
    refine denO_intro E60 rfl ?_
    have hr := rest_len (x := x) hy hy0
    have hk := keep_open id esz 0 (x % y) m2 rest
    simp only [fit_of hr, fm_of hr, er_of hr, kf_fit hr, kval_fit hr, ke_fit hr] at hk
    dsimp only at h1 h3
    generalize x % y = r at *
    generalize x / y = q at *
    simp (maxSteps := 4000000) (disch := omega) only [go_sem, ↓reduceIte, Nat.reduceAdd, Nat.reduceSub, Nat.reduceMul, Nat.reduceEqDiff, reduceCtorEq, Int.reduceAdd, Int.reduceLT, Int.reduceLE, Int.reduceToNat, Int.reduceNeg, Int.reduceSub, ← List.map_take, ← List.map_drop, wrap64, wrapu64, wrapu32, Try.f60, hH, h1]
    refine openK_kept (hk _ _ (by omega) ?_) ?_
    · simp (disch := omega) only [upd_apply, if_pos, if_neg, ↓reduceIte]; exact hH
    intro h' n' k1 k2 k3
    have q := k3 (nx + 1 + 1) (by omega) (by omega)
    simp (disch := omega) only [upd_apply, if_pos, if_neg, ↓reduceIte] at q
    simp (maxSteps := 4000000) (disch := omega) only [go_sem, ↓reduceIte, Nat.reduceAdd, Nat.reduceSub, Nat.reduceMul, Nat.reduceEqDiff, reduceCtorEq, Int.reduceAdd, Int.reduceLT, Int.reduceLE, Int.reduceToNat, Int.reduceNeg, Int.reduceSub, ← List.map_take, ← List.map_drop, wrap64, wrapu64, wrapu32, k1, q]
    refine ⟨by omega, fun i hi1 hi2 => ?_⟩
    have q := k3 i (by omega) hi2
    simp (disch := omega) only [upd_apply, if_pos, if_neg, ↓reduceIte] at q
    simp (disch := omega) only [upd_apply, if_pos, if_neg, ↓reduceIte]
    exact q
  obtain ⟨v, h', n', h1, rfl, h3⟩ := key
  exact ⟨h', n', h1, h3⟩
theorem mul_two (f g : Bool) (x y : Int) (hx : (dg x).length ≤ 4096) (hxy : (dg (x * y)).length ≤ 4096) : ∃ fl : Bool, mulL (0, 1, false) [(f, x), (g, y)] = (0, x * y, fl) ∧ (fl = true → x * y = 0) := by
  refine ⟨mz x y, ?_, ?_⟩
  · simp only [mulL, Int.one_mul, ke_fit hx, kval_fit hx, ke_fit hxy, kval_fit hxy, kf_fit hxy]
  · intro h
    unfold mz at h
    simp only [Bool.or_eq_true, decide_eq_true_eq] at h
    rcases h with rfl | rfl
    · exact Int.zero_mul _
    · exact Int.mul_zero _
theorem rests1_open (a m : Int) (fa fm : Bool) (most : Nat) (ha : (dg a).length ≤ 4096) (hfa : fa = true → a = 0) (hm : (dg m).length ≤ 200) (hm1 : 1 ≤ m) (hmost : most ≤ 20000) (pa pm pt r nx : Nat) (h : Heap) (la : pa < nx) (lm : pm < nx) (lt : pt < nx) (Y Z : Nat → Heap → Prop)
    (hYs : ∀ n h h', Y n h → (∀ i, i < nx → h' i = h i) → Y n h')
    (hYr : ∀ n h, Y n h → h pa = some (crow fa a) ∧ h pm = some (crow fm m) ∧ h pt = some ⟨[.int .i64 most], false, 1, false⟩)
    (hY : ∀ n z f h n0, 1 ≤ n → n ≤ most → nx ≤ n0 → Y n h → z = psi a n % m → ∃ b h' n', denO E 1000003 [.int .i64 n, I f z, .ref r 0 0] h n0 = some (.ret (.bool b), h', n') ∧ n0 ≤ n' ∧ (∀ i, nx ≤ i → i < n0 → h' i = h i) ∧ (if b = true then Y (n + 1) h' else Z n h'))
    (h0 : Y 1 h) : ∃ h' n', denO E 73 [.fn 1000003 [] [.ref r 0 0], .ptr pa 0, .ptr pm 0, .ptr pt 0] h nx = some (.ret (.tup []), h', n') ∧ nx ≤ n' ∧ (Y (most + 1) h' ∨ ∃ n, 1 ≤ n ∧ n ≤ most ∧ Z n h') := by
  have key : ∃ v h' n', denO E 73 [.fn 1000003 [] [.ref r 0 0], .ptr pa 0, .ptr pm 0, .ptr pt 0] h nx = some (.ret v, h', n') ∧ v = .tup [] ∧ nx ≤ n' ∧ (Y (most + 1) h' ∨ ∃ n, 1 ≤ n ∧ n ≤ most ∧ Z n h') := by
    have hm0 : m ≠ 0 := by omega
    obtain ⟨g1, g2, g3⟩ := hYr 1 h h0
    have o1 := of_spec 1 (by decide) (by decide)
    have o2 := of_spec 2 (by decide) (by decide)
    have lR : ∀ x : Int, (dg (x % m)).length ≤ 200 := fun x => by
      refine Nat.le_trans (dg_mono ?_) hm
      have h1 := Int.emod_nonneg x hm0
      have h2 := Int.emod_lt x hm0
      omega
    have l2 := dg_small (z := 2) (by decide)
    obtain ⟨f1, e1, R1⟩ := rest_fix a m fa fm ha (by omega) hm0 hfa
    have q1 := lR a
    obtain ⟨f2, e2, e3⟩ := mul_two false f1 2 (a % m) (by omega) (by have := dg_mul 2 (a % m); omega)
    have M1 := fun k => chainMul_open nx 1 k 0 [(false, 2), (f1, a % m)] (by simp; omega) (by simp) []
    rw [e2] at M1
    obtain ⟨f3, e4, R2⟩ := rest_fix (2 * (a % m)) m f2 fm (by have := dg_mul 2 (a % m); omega) (by omega) hm0 e3
    have eT : 2 * (a % m) % m = (2 * a) % m := by rw [Int.mul_emod, Int.emod_emod, ← Int.mul_emod]
    rw [eT] at R2
    have lT := lR (2 * a)
    generalize hT : (2 * a) % m = T at *
    generalize 2 * (a % m) = am2 at *
    generalize a % m = am at *
    clear eT q1 e1 e2 e3
    refine denO_intro E73 rfl ?_
    have ipanx0 : (pa = nx) = False := eq_false (by omega); have jpanx0 : (nx = pa) = False := eq_false (by omega); have ipanx1 : (pa = nx + 1) = False := eq_false (by omega); have jpanx1 : (nx + 1 = pa) = False := eq_false (by omega); have ipanx2 : (pa = nx + 2) = False := eq_false (by omega); have jpanx2 : (nx + 2 = pa) = False := eq_false (by omega); have ipanx3 : (pa = nx + 3) = False := eq_false (by omega); have jpanx3 : (nx + 3 = pa) = False := eq_false (by omega); have ipanx4 : (pa = nx + 4) = False := eq_false (by omega); have jpanx4 : (nx + 4 = pa) = False := eq_false (by omega); have ipanx5 : (pa = nx + 5) = False := eq_false (by omega); have jpanx5 : (nx + 5 = pa) = False := eq_false (by omega); have ipanx6 : (pa = nx + 6) = False := eq_false (by omega); have jpanx6 : (nx + 6 = pa) = False := eq_false (by omega)
    have ipmnx0 : (pm = nx) = False := eq_false (by omega); have jpmnx0 : (nx = pm) = False := eq_false (by omega); have ipmnx1 : (pm = nx + 1) = False := eq_false (by omega); have jpmnx1 : (nx + 1 = pm) = False := eq_false (by omega); have ipmnx2 : (pm = nx + 2) = False := eq_false (by omega); have jpmnx2 : (nx + 2 = pm) = False := eq_false (by omega); have ipmnx3 : (pm = nx + 3) = False := eq_false (by omega); have jpmnx3 : (nx + 3 = pm) = False := eq_false (by omega); have ipmnx4 : (pm = nx + 4) = False := eq_false (by omega); have jpmnx4 : (nx + 4 = pm) = False := eq_false (by omega); have ipmnx5 : (pm = nx + 5) = False := eq_false (by omega); have jpmnx5 : (nx + 5 = pm) = False := eq_false (by omega); have ipmnx6 : (pm = nx + 6) = False := eq_false (by omega); have jpmnx6 : (nx + 6 = pm) = False := eq_false (by omega)
    have iptnx0 : (pt = nx) = False := eq_false (by omega); have jptnx0 : (nx = pt) = False := eq_false (by omega); have iptnx1 : (pt = nx + 1) = False := eq_false (by omega); have jptnx1 : (nx + 1 = pt) = False := eq_false (by omega); have iptnx2 : (pt = nx + 2) = False := eq_false (by omega); have jptnx2 : (nx + 2 = pt) = False := eq_false (by omega); have iptnx3 : (pt = nx + 3) = False := eq_false (by omega); have jptnx3 : (nx + 3 = pt) = False := eq_false (by omega); have iptnx4 : (pt = nx + 4) = False := eq_false (by omega); have jptnx4 : (nx + 4 = pt) = False := eq_false (by omega); have iptnx5 : (pt = nx + 5) = False := eq_false (by omega); have jptnx5 : (nx + 5 = pt) = False := eq_false (by omega); have iptnx6 : (pt = nx + 6) = False := eq_false (by omega); have jptnx6 : (nx + 6 = pt) = False := eq_false (by omega)
    simp (maxSteps := 4000000) only [go_sem, ↓reduceIte, Nat.reduceAdd, Nat.reduceSub, Nat.reduceMul, Nat.reduceEqDiff, reduceCtorEq, Int.reduceAdd, Int.reduceLT, Int.reduceLE, Int.reduceToNat, Int.reduceNeg, Int.reduceSub, ← List.map_take, ← List.map_drop, ne_eq, Nat.reduceLeDiff, Nat.reduceLT, Nat.zero_le, Nat.le_refl, wrap64, wrapu64, wrapu32, ← Int.natCast_add, ← Int.natCast_mul, cast_succ, wrapu32_nat, shr32, reps_wd, map_set_wd, List.length_set, zs_len, Try.f73, places, fillAll]
    obtain ⟨QQ, hQQ⟩ : ∃ QQ : Ex → St → Prop, QQ = fun ex τ => ex = .norm ∧ (∃ g : Nat → AV, τ.sl = [.fn 1000003 [] [.ref r 0 0], .ptr pa 0, .ptr pm 0, .ptr pt 0, g 4, .ptr nx 0, .ptr (nx + 2) 0, g 7, g 8, g 9, g 10, g 11, g 12, g 13, g 14, g 15, g 16, g 17, g 18, g 19, g 20, g 21, g 22, g 23, g 24, g 25, g 26, g 27, g 28, g 29, g 30, g 31, g 32, g 33, g 34, g 35, g 36, g 37, g 38, g 39, g 40, g 41, g 42, g 43, g 44, g 45, g 46, g 47, g 48, g 49, g 50]) ∧ nx + 3 = τ.nx ∧ τ.h nx = some ⟨[.int .i64 0], true, 1, false⟩ ∧
      τ.h (nx + 2) = some (crow f3 T) ∧ ∀ i, i < nx → τ.h i = h i := ⟨_, rfl⟩
    refine W_mono (Q := QQ) ?_ ?_
    · refine W_drawn2 ?_
      simp (maxSteps := 4000000) only [go_sem, ↓reduceIte, Nat.reduceAdd, Nat.reduceSub, Nat.reduceMul, Nat.reduceEqDiff, reduceCtorEq, Int.reduceAdd, Int.reduceLT, Int.reduceLE, Int.reduceToNat, Int.reduceNeg, Int.reduceSub, ← List.map_take, ← List.map_drop, ne_eq, Nat.reduceLeDiff, Nat.reduceLT, Nat.zero_le, Nat.le_refl, wrap64, wrapu64, wrapu32, ← Int.natCast_add, ← Int.natCast_mul, cast_succ, wrapu32_nat, shr32, reps_wd, map_set_wd, List.length_set, zs_len, g1, g2, o2, Nat.add_assoc, Nat.reduceAdd, off_ne, ne_off, ipanx0, jpanx0, ipanx1, jpanx1, ipanx2, jpanx2, ipanx3, jpanx3, ipanx4, jpanx4, ipanx5, jpanx5, ipanx6, jpanx6, Nat.add_assoc, Nat.reduceAdd, off_ne, ne_off, ipmnx0, jpmnx0, ipmnx1, jpmnx1, ipmnx2, jpmnx2, ipmnx3, jpmnx3, ipmnx4, jpmnx4, ipmnx5, jpmnx5, ipmnx6, jpmnx6, reps, fillAll]
      refine lnK2_kept [nx] (nx) rfl rfl (by (simp only [upd_apply, ↓reduceIte, Nat.reduceEqDiff, g1, g2, Nat.add_assoc, Nat.reduceAdd, off_ne, ne_off, ipanx0, jpanx0, ipanx1, jpanx1, ipanx2, jpanx2, ipanx3, jpanx3, ipanx4, jpanx4, ipanx5, jpanx5, ipanx6, jpanx6, Nat.add_assoc, Nat.reduceAdd, off_ne, ne_off, ipmnx0, jpmnx0, ipmnx1, jpmnx1, ipmnx2, jpmnx2, ipmnx3, jpmnx3, ipmnx4, jpmnx4, ipmnx5, jpmnx5, ipmnx6, jpmnx6, reach, AV.surfL, AV.surf, cellsAt, List.map_cons, List.map_nil, List.append_nil, List.nil_append, List.cons_append, List.flatMap_cons, List.flatMap_nil]); try rfl) (by (repeat rw [List.forall_mem_cons]); (refine ⟨?_, ?_⟩ <;> (try omega)); simp; (try omega)) (R1 _ 1 [] _ _ (by omega) (by simp (disch := omega) [Heap.only, upd_apply, if_neg])) (by simp only [AV.pure, AV.pureL, pure_wd]; rfl) (by (simp only [upd_apply, ↓reduceIte, Nat.reduceEqDiff, g1, g2, Nat.add_assoc, Nat.reduceAdd, off_ne, ne_off, ipanx0, jpanx0, ipanx1, jpanx1, ipanx2, jpanx2, ipanx3, jpanx3, ipanx4, jpanx4, ipanx5, jpanx5, ipanx6, jpanx6, Nat.add_assoc, Nat.reduceAdd, off_ne, ne_off, ipmnx0, jpmnx0, ipmnx1, jpmnx1, ipmnx2, jpmnx2, ipmnx3, jpmnx3, ipmnx4, jpmnx4, ipmnx5, jpmnx5, ipmnx6, jpmnx6, List.all_cons, List.all_nil, AV.withinL, AV.within, pure_wd, Option.isSome_some, Bool.true_and, Bool.and_true, Bool.and_self, List.contains_cons, beq_self_eq_true, Bool.or_true, Bool.true_or]); try rfl) ?_
      simp (maxSteps := 4000000) only [go_sem, ↓reduceIte, Nat.reduceAdd, Nat.reduceSub, Nat.reduceMul, Nat.reduceEqDiff, reduceCtorEq, Int.reduceAdd, Int.reduceLT, Int.reduceLE, Int.reduceToNat, Int.reduceNeg, Int.reduceSub, ← List.map_take, ← List.map_drop, ne_eq, Nat.reduceLeDiff, Nat.reduceLT, Nat.zero_le, Nat.le_refl, wrap64, wrapu64, wrapu32, ← Int.natCast_add, ← Int.natCast_mul, cast_succ, wrapu32_nat, shr32, reps_wd, map_set_wd, List.length_set, zs_len, g1, g2, o2, Nat.add_assoc, Nat.reduceAdd, off_ne, ne_off, ipanx0, jpanx0, ipanx1, jpanx1, ipanx2, jpanx2, ipanx3, jpanx3, ipanx4, jpanx4, ipanx5, jpanx5, ipanx6, jpanx6, Nat.add_assoc, Nat.reduceAdd, off_ne, ne_off, ipmnx0, jpmnx0, ipmnx1, jpmnx1, ipmnx2, jpmnx2, ipmnx3, jpmnx3, ipmnx4, jpmnx4, ipmnx5, jpmnx5, ipmnx6, jpmnx6, reps, fillAll]
      refine lnK2_kept [nx, nx + 1] (nx) rfl rfl (by (simp only [upd_apply, ↓reduceIte, Nat.reduceEqDiff, g1, g2, Nat.add_assoc, Nat.reduceAdd, off_ne, ne_off, ipanx0, jpanx0, ipanx1, jpanx1, ipanx2, jpanx2, ipanx3, jpanx3, ipanx4, jpanx4, ipanx5, jpanx5, ipanx6, jpanx6, Nat.add_assoc, Nat.reduceAdd, off_ne, ne_off, ipmnx0, jpmnx0, ipmnx1, jpmnx1, ipmnx2, jpmnx2, ipmnx3, jpmnx3, ipmnx4, jpmnx4, ipmnx5, jpmnx5, ipmnx6, jpmnx6, reach, AV.surfL, AV.surf, cellsAt, List.map_cons, List.map_nil, List.append_nil, List.nil_append, List.cons_append, List.flatMap_cons, List.flatMap_nil]); try rfl) (by (repeat rw [List.forall_mem_cons]); (refine ⟨?_, ?_⟩ <;> (try omega)); simp; (try omega)) (M1 _ _ _ (by omega) (by omega) (by omega) (by simp (disch := omega) [Heap.only, upd_apply, if_neg]) (by simp (disch := omega) [Heap.only, upd_apply, if_neg, rowI])) (by simp only [AV.pure, AV.pureL, pure_wd]; rfl) (by (simp only [upd_apply, ↓reduceIte, Nat.reduceEqDiff, g1, g2, Nat.add_assoc, Nat.reduceAdd, off_ne, ne_off, ipanx0, jpanx0, ipanx1, jpanx1, ipanx2, jpanx2, ipanx3, jpanx3, ipanx4, jpanx4, ipanx5, jpanx5, ipanx6, jpanx6, Nat.add_assoc, Nat.reduceAdd, off_ne, ne_off, ipmnx0, jpmnx0, ipmnx1, jpmnx1, ipmnx2, jpmnx2, ipmnx3, jpmnx3, ipmnx4, jpmnx4, ipmnx5, jpmnx5, ipmnx6, jpmnx6, List.all_cons, List.all_nil, AV.withinL, AV.within, pure_wd, Option.isSome_some, Bool.true_and, Bool.and_true, Bool.and_self, List.contains_cons, beq_self_eq_true, Bool.or_true, Bool.true_or]); try rfl) ?_
      simp (maxSteps := 4000000) only [go_sem, ↓reduceIte, Nat.reduceAdd, Nat.reduceSub, Nat.reduceMul, Nat.reduceEqDiff, reduceCtorEq, Int.reduceAdd, Int.reduceLT, Int.reduceLE, Int.reduceToNat, Int.reduceNeg, Int.reduceSub, ← List.map_take, ← List.map_drop, ne_eq, Nat.reduceLeDiff, Nat.reduceLT, Nat.zero_le, Nat.le_refl, wrap64, wrapu64, wrapu32, ← Int.natCast_add, ← Int.natCast_mul, cast_succ, wrapu32_nat, shr32, reps_wd, map_set_wd, List.length_set, zs_len, g1, g2, o2, Nat.add_assoc, Nat.reduceAdd, off_ne, ne_off, ipanx0, jpanx0, ipanx1, jpanx1, ipanx2, jpanx2, ipanx3, jpanx3, ipanx4, jpanx4, ipanx5, jpanx5, ipanx6, jpanx6, Nat.add_assoc, Nat.reduceAdd, off_ne, ne_off, ipmnx0, jpmnx0, ipmnx1, jpmnx1, ipmnx2, jpmnx2, ipmnx3, jpmnx3, ipmnx4, jpmnx4, ipmnx5, jpmnx5, ipmnx6, jpmnx6, reps, fillAll]
      refine lnK2_kept [nx] (nx) rfl rfl (by (simp only [upd_apply, ↓reduceIte, Nat.reduceEqDiff, g1, g2, Nat.add_assoc, Nat.reduceAdd, off_ne, ne_off, ipanx0, jpanx0, ipanx1, jpanx1, ipanx2, jpanx2, ipanx3, jpanx3, ipanx4, jpanx4, ipanx5, jpanx5, ipanx6, jpanx6, Nat.add_assoc, Nat.reduceAdd, off_ne, ne_off, ipmnx0, jpmnx0, ipmnx1, jpmnx1, ipmnx2, jpmnx2, ipmnx3, jpmnx3, ipmnx4, jpmnx4, ipmnx5, jpmnx5, ipmnx6, jpmnx6, reach, AV.surfL, AV.surf, cellsAt, List.map_cons, List.map_nil, List.append_nil, List.nil_append, List.cons_append, List.flatMap_cons, List.flatMap_nil]); try rfl) (by (repeat rw [List.forall_mem_cons]); (refine ⟨?_, ?_⟩ <;> (try omega)); simp; (try omega)) (R2 _ 1 [] _ _ (by omega) (by simp (disch := omega) [Heap.only, upd_apply, if_neg])) (by simp only [AV.pure, AV.pureL, pure_wd]; rfl) (by (simp only [upd_apply, ↓reduceIte, Nat.reduceEqDiff, g1, g2, Nat.add_assoc, Nat.reduceAdd, off_ne, ne_off, ipanx0, jpanx0, ipanx1, jpanx1, ipanx2, jpanx2, ipanx3, jpanx3, ipanx4, jpanx4, ipanx5, jpanx5, ipanx6, jpanx6, Nat.add_assoc, Nat.reduceAdd, off_ne, ne_off, ipmnx0, jpmnx0, ipmnx1, jpmnx1, ipmnx2, jpmnx2, ipmnx3, jpmnx3, ipmnx4, jpmnx4, ipmnx5, jpmnx5, ipmnx6, jpmnx6, List.all_cons, List.all_nil, AV.withinL, AV.within, pure_wd, Option.isSome_some, Bool.true_and, Bool.and_true, Bool.and_self, List.contains_cons, beq_self_eq_true, Bool.or_true, Bool.true_or]); try rfl) ?_
      simp (maxSteps := 4000000) only [go_sem, ↓reduceIte, Nat.reduceAdd, Nat.reduceSub, Nat.reduceMul, Nat.reduceEqDiff, reduceCtorEq, Int.reduceAdd, Int.reduceLT, Int.reduceLE, Int.reduceToNat, Int.reduceNeg, Int.reduceSub, ← List.map_take, ← List.map_drop, ne_eq, Nat.reduceLeDiff, Nat.reduceLT, Nat.zero_le, Nat.le_refl, wrap64, wrapu64, wrapu32, ← Int.natCast_add, ← Int.natCast_mul, cast_succ, wrapu32_nat, shr32, reps_wd, map_set_wd, List.length_set, zs_len, g1, g2, o2, Nat.add_assoc, Nat.reduceAdd, off_ne, ne_off, ipanx0, jpanx0, ipanx1, jpanx1, ipanx2, jpanx2, ipanx3, jpanx3, ipanx4, jpanx4, ipanx5, jpanx5, ipanx6, jpanx6, Nat.add_assoc, Nat.reduceAdd, off_ne, ne_off, ipmnx0, jpmnx0, ipmnx1, jpmnx1, ipmnx2, jpmnx2, ipmnx3, jpmnx3, ipmnx4, jpmnx4, ipmnx5, jpmnx5, ipmnx6, jpmnx6, reps, fillAll]
      refine ⟨by exact allW_of [(24, 0)] [0, 0, 0, 0, 0, 0, 60, 124, 254, 0, 1023, 0, 4095] (by kernel_rfl) (by ((simp only [List.flatMap_cons, List.flatMap_nil, cr, List.append_nil, List.nil_append, List.cons_append]); rfl)) (by ((simp (disch := omega) [sts, stB, allS, stOk, cr, Dep.ok, loadEff, upd_apply, if_neg, T1, T2, T3, T4, T5, T6, T7, T8, T9, T10, T11, T12, T13, T14, T15, T16, T17, T18, T19, T20, T21, T22, T23, T24, T25, T26, T27, T29, T30, T31, T33, T34, T35, T37, T38, T39, T40, T42, T43, T44, T45, T46, T47, T48, T50, T51, T53, T55, T56, T57, T58, T59, T60, T61, T62, T63, T64, T65, T66, T67, T68, T69, T70, T71, T72, T73, T74, T75, T76, T77, T78, T79, T80, T81, T82, T83, T84, T85, T86, T87, T88, T89, T90, T92, T94, T95, T96, T97, T98, T99, T100, T101, T102, T104, T105, T106, T107, T108, T109, T111, T112, T113, T115, T116, T117, T118, T119, T120, T121, T122, T123, T124, T125, T126, T127, T128, T129, T130, T131, T132, T133, g1, g2]) <;> (repeat (any_goals apply And.intro)) <;> (first | omega | rfl | (intro hx; first | omega | rfl)))) (by ((repeat ((with_unfolding_all refine And.intro ?_ ?_); (focus ((with_unfolding_all refine ⟨?_, ?_, ?_⟩) <;> ((intro i hi hj); (simp only [cr, Rec.ids, List.map_cons, List.map_nil, List.mem_cons, List.not_mem_nil, or_false, false_or] at hi hj); (first | done | omega)))))); (with_unfolding_all exact True.intro))), ?_⟩
      rw [hQQ]
      refine ⟨rfl, garb rfl, rfl, ?_, ?_, ?_⟩
      · simp only [upd_apply, ↓reduceIte, Nat.reduceEqDiff, Nat.add_assoc, Nat.reduceAdd, off_ne, ne_off, ipanx0, jpanx0, ipanx1, jpanx1, ipanx2, jpanx2, ipanx3, jpanx3, ipanx4, jpanx4, ipanx5, jpanx5, ipanx6, jpanx6]
      · simp only [upd_apply, ↓reduceIte, Nat.reduceEqDiff, Nat.add_assoc, Nat.reduceAdd, off_ne, ne_off, ipanx0, jpanx0, ipanx1, jpanx1, ipanx2, jpanx2, ipanx3, jpanx3, ipanx4, jpanx4, ipanx5, jpanx5, ipanx6, jpanx6]
      · intro i hi
        (repeat (refine (upd_ne (by omega)).trans ?_))
        rfl
    · rw [hQQ]
      clear hQQ QQ M1 R1 R2 e4
      rintro ex ⟨sl, H, n⟩ ⟨rfl, ⟨g', rfl⟩, hn, k1, k2, k3⟩
      dsimp only at hn k1 k2 k3
      have h0' : Y 1 H := hYs _ _ _ h0 k3
      clear k3 g1 g2 g3 h0 h
      obtain ⟨g1, g2, g3⟩ := hYr 1 H h0'
      subst hn
      have l1 := dg_small (z := 1) (by decide)
      obtain ⟨f4, e4, R1⟩ := rest_fix 1 m false fm (by omega) (by omega) hm0 (fun h => by cases h)
      have lT1 := lR 1
      generalize hT1 : 1 % m = T1' at *
      simp (maxSteps := 4000000) only [go_sem, ↓reduceIte, Nat.reduceAdd, Nat.reduceSub, Nat.reduceMul, Nat.reduceEqDiff, reduceCtorEq, Int.reduceAdd, Int.reduceLT, Int.reduceLE, Int.reduceToNat, Int.reduceNeg, Int.reduceSub, ← List.map_take, ← List.map_drop, ne_eq, Nat.reduceLeDiff, Nat.reduceLT, Nat.zero_le, Nat.le_refl, wrap64, wrapu64, wrapu32, ← Int.natCast_add, ← Int.natCast_mul, cast_succ, wrapu32_nat, shr32, reps_wd, map_set_wd, List.length_set, zs_len, g1, g2]
      obtain ⟨QQ, hQQ⟩ : ∃ QQ : Ex → St → Prop, QQ = fun ex τ => ex = .norm ∧ (∃ g : Nat → AV, τ.sl = [.fn 1000003 [] [.ref r 0 0], .ptr pa 0, .ptr pm 0, .ptr pt 0, g 4, .ptr nx 0, .ptr (nx + 2) 0, .ptr (nx + 3) 0, .ptr (nx + 4) 0, g 9, g 10, g 11, g 12, g 13, g 14, g 15, g 16, g 17, g 18, g 19, g 20, g 21, g 22, g 23, g 24, g 25, g 26, g 27, g 28, g 29, g 30, g 31, g 32, g 33, g 34, g 35, g 36, g 37, g 38, g 39, g 40, g 41, g 42, g 43, g 44, g 45, g 46, g 47, g 48, g 49, g 50]) ∧ nx + 5 = τ.nx ∧ τ.h nx = some ⟨[.int .i64 0], true, 1, false⟩ ∧
        τ.h (nx + 2) = some (crow f3 T) ∧ τ.h (nx + 3) = some (crow true 0) ∧ τ.h (nx + 4) = some (crow f4 T1') ∧ ∀ i, i < nx → τ.h i = H i := ⟨_, rfl⟩
      refine W_mono (Q := QQ) ?_ ?_
      · refine W_drawn2 ?_
        simp (maxSteps := 4000000) only [go_sem, ↓reduceIte, Nat.reduceAdd, Nat.reduceSub, Nat.reduceMul, Nat.reduceEqDiff, reduceCtorEq, Int.reduceAdd, Int.reduceLT, Int.reduceLE, Int.reduceToNat, Int.reduceNeg, Int.reduceSub, ← List.map_take, ← List.map_drop, ne_eq, Nat.reduceLeDiff, Nat.reduceLT, Nat.zero_le, Nat.le_refl, wrap64, wrapu64, wrapu32, ← Int.natCast_add, ← Int.natCast_mul, cast_succ, wrapu32_nat, shr32, reps_wd, map_set_wd, List.length_set, zs_len, k1, k2, g1, g2, o1, Nat.add_assoc, Nat.reduceAdd, off_ne, ne_off, ipanx0, jpanx0, ipanx1, jpanx1, ipanx2, jpanx2, ipanx3, jpanx3, ipanx4, jpanx4, ipanx5, jpanx5, ipanx6, jpanx6, Nat.add_assoc, Nat.reduceAdd, off_ne, ne_off, ipmnx0, jpmnx0, ipmnx1, jpmnx1, ipmnx2, jpmnx2, ipmnx3, jpmnx3, ipmnx4, jpmnx4, ipmnx5, jpmnx5, ipmnx6, jpmnx6, reps, fillAll, places]
        refine lnK2_kept [nx] (nx) rfl rfl (by (simp only [upd_apply, ↓reduceIte, Nat.reduceEqDiff, k1, k2, g1, g2, Nat.add_assoc, Nat.reduceAdd, off_ne, ne_off, ipanx0, jpanx0, ipanx1, jpanx1, ipanx2, jpanx2, ipanx3, jpanx3, ipanx4, jpanx4, ipanx5, jpanx5, ipanx6, jpanx6, Nat.add_assoc, Nat.reduceAdd, off_ne, ne_off, ipmnx0, jpmnx0, ipmnx1, jpmnx1, ipmnx2, jpmnx2, ipmnx3, jpmnx3, ipmnx4, jpmnx4, ipmnx5, jpmnx5, ipmnx6, jpmnx6, reach, AV.surfL, AV.surf, cellsAt, List.map_cons, List.map_nil, List.append_nil, List.nil_append, List.cons_append, List.flatMap_cons, List.flatMap_nil]); try rfl) (by (repeat rw [List.forall_mem_cons]); (refine ⟨?_, ?_⟩ <;> (try omega)); simp; (try omega)) (R1 _ 1 [] _ _ (by omega) (by simp (disch := omega) [Heap.only, upd_apply, if_neg, k1])) (by simp only [AV.pure, AV.pureL, pure_wd]; rfl) (by (simp only [upd_apply, ↓reduceIte, Nat.reduceEqDiff, k1, k2, g1, g2, Nat.add_assoc, Nat.reduceAdd, off_ne, ne_off, ipanx0, jpanx0, ipanx1, jpanx1, ipanx2, jpanx2, ipanx3, jpanx3, ipanx4, jpanx4, ipanx5, jpanx5, ipanx6, jpanx6, Nat.add_assoc, Nat.reduceAdd, off_ne, ne_off, ipmnx0, jpmnx0, ipmnx1, jpmnx1, ipmnx2, jpmnx2, ipmnx3, jpmnx3, ipmnx4, jpmnx4, ipmnx5, jpmnx5, ipmnx6, jpmnx6, List.all_cons, List.all_nil, AV.withinL, AV.within, pure_wd, Option.isSome_some, Bool.true_and, Bool.and_true, Bool.and_self, List.contains_cons, beq_self_eq_true, Bool.or_true, Bool.true_or]); try rfl) ?_
        simp (maxSteps := 4000000) only [go_sem, ↓reduceIte, Nat.reduceAdd, Nat.reduceSub, Nat.reduceMul, Nat.reduceEqDiff, reduceCtorEq, Int.reduceAdd, Int.reduceLT, Int.reduceLE, Int.reduceToNat, Int.reduceNeg, Int.reduceSub, ← List.map_take, ← List.map_drop, ne_eq, Nat.reduceLeDiff, Nat.reduceLT, Nat.zero_le, Nat.le_refl, wrap64, wrapu64, wrapu32, ← Int.natCast_add, ← Int.natCast_mul, cast_succ, wrapu32_nat, shr32, reps_wd, map_set_wd, List.length_set, zs_len, k1, k2, g1, g2, o1, Nat.add_assoc, Nat.reduceAdd, off_ne, ne_off, ipanx0, jpanx0, ipanx1, jpanx1, ipanx2, jpanx2, ipanx3, jpanx3, ipanx4, jpanx4, ipanx5, jpanx5, ipanx6, jpanx6, Nat.add_assoc, Nat.reduceAdd, off_ne, ne_off, ipmnx0, jpmnx0, ipmnx1, jpmnx1, ipmnx2, jpmnx2, ipmnx3, jpmnx3, ipmnx4, jpmnx4, ipmnx5, jpmnx5, ipmnx6, jpmnx6, reps, fillAll, places]
        refine ⟨by exact allW_of [(24, 0)] [0, 0, 0, 0, 14, 0, 0, 127, 255] (by kernel_rfl) (by ((simp only [List.flatMap_cons, List.flatMap_nil, cr, List.append_nil, List.nil_append, List.cons_append]); rfl)) (by ((simp (disch := omega) [sts, stB, allS, stOk, cr, Dep.ok, loadEff, upd_apply, if_neg, T1, T2, T3, T4, T5, T6, T7, T8, T9, T10, T11, T12, T13, T14, T15, T16, T17, T18, T19, T20, T21, T22, T23, T24, T25, T26, T27, T29, T30, T31, T33, T34, T35, T37, T38, T39, T40, T42, T43, T44, T45, T46, T47, T48, T50, T51, T53, T55, T56, T57, T58, T59, T60, T61, T62, T63, T64, T65, T66, T67, T68, T69, T70, T71, T72, T73, T74, T75, T76, T77, T78, T79, T80, T81, T82, T83, T84, T85, T86, T87, T88, T89, T90, T92, T94, T95, T96, T97, T98, T99, T100, T101, T102, T104, T105, T106, T107, T108, T109, T111, T112, T113, T115, T116, T117, T118, T119, T120, T121, T122, T123, T124, T125, T126, T127, T128, T129, T130, T131, T132, T133, k1, k2, g1, g2]) <;> (repeat (any_goals apply And.intro)) <;> (first | omega | rfl | (intro hx; first | omega | rfl)))) (by ((repeat ((with_unfolding_all refine And.intro ?_ ?_); (focus ((with_unfolding_all refine ⟨?_, ?_, ?_⟩) <;> ((intro i hi hj); (simp only [cr, Rec.ids, List.map_cons, List.map_nil, List.mem_cons, List.not_mem_nil, or_false, false_or] at hi hj); (first | done | omega)))))); (with_unfolding_all exact True.intro))), ?_⟩
        rw [hQQ]
        refine ⟨rfl, garb rfl, rfl, ?_, ?_, ?_, ?_, ?_⟩
        · simp only [upd_apply, ↓reduceIte, Nat.reduceEqDiff, Nat.add_assoc, Nat.reduceAdd, off_ne, ne_off, ipanx0, jpanx0, ipanx1, jpanx1, ipanx2, jpanx2, ipanx3, jpanx3, ipanx4, jpanx4, ipanx5, jpanx5, ipanx6, jpanx6]
        · simp only [upd_apply, ↓reduceIte, Nat.reduceEqDiff, k2, Nat.add_assoc, Nat.reduceAdd, off_ne, ne_off, ipanx0, jpanx0, ipanx1, jpanx1, ipanx2, jpanx2, ipanx3, jpanx3, ipanx4, jpanx4, ipanx5, jpanx5, ipanx6, jpanx6]
        · simp only [upd_apply, ↓reduceIte, Nat.reduceEqDiff, ng_zero, dg_zero, List.map_nil, Nat.add_assoc, Nat.reduceAdd, off_ne, ne_off, ipanx0, jpanx0, ipanx1, jpanx1, ipanx2, jpanx2, ipanx3, jpanx3, ipanx4, jpanx4, ipanx5, jpanx5, ipanx6, jpanx6]
          rw [crow, ng_zero, dg_zero]
          rfl
        · simp only [upd_apply, ↓reduceIte, Nat.reduceEqDiff, Nat.add_assoc, Nat.reduceAdd, off_ne, ne_off, ipanx0, jpanx0, ipanx1, jpanx1, ipanx2, jpanx2, ipanx3, jpanx3, ipanx4, jpanx4, ipanx5, jpanx5, ipanx6, jpanx6]
        · intro i hi
          (repeat (refine (upd_ne (by omega)).trans ?_))
          rfl
      · rw [hQQ]
        clear hQQ QQ R1 k1 k2 e4 g1 g2 g3
        rintro ex ⟨sl, H', n⟩ ⟨rfl, ⟨g'', rfl⟩, hn, k1, k2, k3, k4, k5⟩
        dsimp only at hn k1 k2 k3 k4 k5
        have h0 : Y 1 H' := hYs _ _ _ h0' k5
        clear k5 h0' H
        subst hn
        clear ipanx0 jpanx0 ipanx1 jpanx1 ipanx2 jpanx2 ipanx3 jpanx3 ipanx4 jpanx4 ipanx5 jpanx5 ipanx6 jpanx6 ipmnx0 jpmnx0 ipmnx1 jpmnx1 ipmnx2 jpmnx2 ipmnx3 jpmnx3 ipmnx4 jpmnx4 ipmnx5 jpmnx5 ipmnx6 jpmnx6 iptnx0 jptnx0 iptnx1 jptnx1 iptnx2 jptnx2 iptnx3 jptnx3 iptnx4 jptnx4 iptnx5 jptnx5 iptnx6 jptnx6
        simp (maxSteps := 4000000) only [go_sem, ↓reduceIte, Nat.reduceAdd, Nat.reduceSub, Nat.reduceMul, Nat.reduceEqDiff, reduceCtorEq, Int.reduceAdd, Int.reduceLT, Int.reduceLE, Int.reduceToNat, Int.reduceNeg, Int.reduceSub, ← List.map_take, ← List.map_drop, ne_eq, Nat.reduceLeDiff, Nat.reduceLT, Nat.zero_le, Nat.le_refl, wrap64, wrapu64, wrapu32, ← Int.natCast_add, ← Int.natCast_mul, cast_succ, wrapu32_nat, shr32, reps_wd, map_set_wd, List.length_set, zs_len, k1, k2]
        generalize htw : nx + 2 = tw at *
        generalize hbf : nx + 3 = bf at *
        generalize hnw : nx + 4 = nw at *
        have inxtw0 : (nx = tw) = False := eq_false (by omega); have jnxtw0 : (tw = nx) = False := eq_false (by omega)
        have inxbf0 : (nx = bf) = False := eq_false (by omega); have jnxbf0 : (bf = nx) = False := eq_false (by omega)
        have inxnw0 : (nx = nw) = False := eq_false (by omega); have jnxnw0 : (nw = nx) = False := eq_false (by omega)
        have itwbf0 : (tw = bf) = False := eq_false (by omega); have jtwbf0 : (bf = tw) = False := eq_false (by omega)
        have itwnw0 : (tw = nw) = False := eq_false (by omega); have jtwnw0 : (nw = tw) = False := eq_false (by omega)
        have ibfnw0 : (bf = nw) = False := eq_false (by omega); have jbfnw0 : (nw = bf) = False := eq_false (by omega)
        have ipmnx0 : (pm = nx) = False := eq_false (by omega); have jpmnx0 : (nx = pm) = False := eq_false (by omega)
        have ipmtw0 : (pm = tw) = False := eq_false (by omega); have jpmtw0 : (tw = pm) = False := eq_false (by omega)
        have ipmbf0 : (pm = bf) = False := eq_false (by omega); have jpmbf0 : (bf = pm) = False := eq_false (by omega)
        have ipmnw0 : (pm = nw) = False := eq_false (by omega); have jpmnw0 : (nw = pm) = False := eq_false (by omega)
        have iptnx0 : (pt = nx) = False := eq_false (by omega); have jptnx0 : (nx = pt) = False := eq_false (by omega)
        have ipttw0 : (pt = tw) = False := eq_false (by omega); have jpttw0 : (tw = pt) = False := eq_false (by omega)
        have iptbf0 : (pt = bf) = False := eq_false (by omega); have jptbf0 : (bf = pt) = False := eq_false (by omega)
        have iptnw0 : (pt = nw) = False := eq_false (by omega); have jptnw0 : (nw = pt) = False := eq_false (by omega)
        refine W_loopS (fun k sl h nn => ∃ (i : Nat) (fb fn : Bool), (∃ g : Nat → AV, sl = [.fn 1000003 [] [.ref r 0 0], .ptr pa 0, .ptr pm 0, .ptr pt 0, g 4, .ptr nx 0, .ptr tw 0, .ptr bf 0, .ptr nw 0, .int .i64 ((i + 1 : Nat) : Int), g 10, g 11, g 12, g 13, g 14, g 15, g 16, g 17, g 18, g 19, g 20, g 21, g 22, g 23, g 24, g 25, g 26, g 27, g 28, g 29, g 30, g 31, g 32, g 33, g 34, g 35, g 36, g 37, g 38, g 39, g 40, g 41, g 42, g 43, g 44, g 45, g 46, g 47, g 48, g 49, g 50]) ∧ nx + 5 ≤ nn ∧ h nx = some ⟨[.int .i64 0], true, 1, false⟩ ∧ h tw = some (crow f3 T) ∧
          h bf = some (crow fb (psi a i % m)) ∧ h nw = some (crow fn (psi a (i + 1) % m)) ∧ Y (i + 1) h ∧ i + k = most) most ⟨0, true, f4, garb rfl, Nat.le_refl _, k1, k2, ?_, ?_, h0, by omega⟩ ?_
        · rw [psi_zero, Int.zero_emod]; exact k3
        · rw [psi_one, hT1]; exact k4
        · clear k1 k2 k3 k4 h0 H'
          rintro k _ h nn ⟨i, fb, fn, ⟨g, rfl⟩, hnn, k1, k2, k3, k4, hy, hk⟩
          obtain ⟨g1, g2, g3⟩ := hYr _ h hy
          by_cases hk0 : k = 0
          · obtain rfl : i = most := by omega
            have z1 : (((i + 1 : Nat) : Int) ≤ (i : Int)) = False := eq_false (by omega)
            simp (maxSteps := 4000000) only [go_sem, ↓reduceIte, Nat.reduceAdd, Nat.reduceSub, Nat.reduceMul, Nat.reduceEqDiff, reduceCtorEq, Int.reduceAdd, Int.reduceLT, Int.reduceLE, Int.reduceToNat, Int.reduceNeg, Int.reduceSub, ← List.map_take, ← List.map_drop, ne_eq, Nat.reduceLeDiff, Nat.reduceLT, Nat.zero_le, Nat.le_refl, wrap64, wrapu64, wrapu32, ← Int.natCast_add, ← Int.natCast_mul, cast_succ, wrapu32_nat, shr32, reps_wd, map_set_wd, List.length_set, zs_len, k1, k2, k3, k4, g3, z1]
            exact ⟨by omega, .inl hy⟩
          · have z1 : (((i + 1 : Nat) : Int) ≤ (most : Int)) = True := eq_true (by omega)
            have z2 : ((most : Int) < ((i + 1 : Nat) : Int)) = False := eq_false (by omega)
            obtain ⟨b, h1, n1, d1, d2, d3, d4⟩ := hY (i + 1) _ fn h nn (by omega) (by omega) (by omega) hy rfl
            simp (maxSteps := 4000000) only [go_sem, ↓reduceIte, Nat.reduceAdd, Nat.reduceSub, Nat.reduceMul, Nat.reduceEqDiff, reduceCtorEq, Int.reduceAdd, Int.reduceLT, Int.reduceLE, Int.reduceToNat, Int.reduceNeg, Int.reduceSub, ← List.map_take, ← List.map_drop, ne_eq, Nat.reduceLeDiff, Nat.reduceLT, Nat.zero_le, Nat.le_refl, wrap64, wrapu64, wrapu32, ← Int.natCast_add, ← Int.natCast_mul, cast_succ, wrapu32_nat, shr32, reps_wd, map_set_wd, List.length_set, zs_len, k1, k2, k3, k4, g3, z1, z2]
            refine openK_any d1 ?_
            cases b with
            | false =>
              simp (maxSteps := 4000000) only [go_sem, ↓reduceIte, Nat.reduceAdd, Nat.reduceSub, Nat.reduceMul, Nat.reduceEqDiff, reduceCtorEq, Int.reduceAdd, Int.reduceLT, Int.reduceLE, Int.reduceToNat, Int.reduceNeg, Int.reduceSub, ← List.map_take, ← List.map_drop, ne_eq, Nat.reduceLeDiff, Nat.reduceLT, Nat.zero_le, Nat.le_refl, wrap64, wrapu64, wrapu32, ← Int.natCast_add, ← Int.natCast_mul, cast_succ, wrapu32_nat, shr32, reps_wd, map_set_wd, List.length_set, zs_len, k1]
              rw [if_neg (by decide)] at d4
              exact ⟨by omega, .inr ⟨i + 1, by omega, by omega, d4⟩⟩
            | true =>
              rw [if_pos rfl] at d4
              replace k1 := (d3 nx (by omega) (by omega)).trans k1
              replace k2 := (d3 tw (by omega) (by omega)).trans k2
              replace k3 := (d3 bf (by omega) (by omega)).trans k3
              replace k4 := (d3 nw (by omega) (by omega)).trans k4
              obtain ⟨g1, g2, g3⟩ := hYr _ _ d4
              clear d1 d3 hy z1 z2
              simp (maxSteps := 4000000) only [go_sem, ↓reduceIte, Nat.reduceAdd, Nat.reduceSub, Nat.reduceMul, Nat.reduceEqDiff, reduceCtorEq, Int.reduceAdd, Int.reduceLT, Int.reduceLE, Int.reduceToNat, Int.reduceNeg, Int.reduceSub, ← List.map_take, ← List.map_drop, ne_eq, Nat.reduceLeDiff, Nat.reduceLT, Nat.zero_le, Nat.le_refl, wrap64, wrapu64, wrapu32, ← Int.natCast_add, ← Int.natCast_mul, cast_succ, wrapu32_nat, shr32, reps_wd, map_set_wd, List.length_set, zs_len, k1, k2]
              have inxn10 : (nx = n1) = False := eq_false (by omega); have jnxn10 : (n1 = nx) = False := eq_false (by omega); have inxn11 : (nx = n1 + 1) = False := eq_false (by omega); have jnxn11 : (n1 + 1 = nx) = False := eq_false (by omega)
              have itwn10 : (tw = n1) = False := eq_false (by omega); have jtwn10 : (n1 = tw) = False := eq_false (by omega); have itwn11 : (tw = n1 + 1) = False := eq_false (by omega); have jtwn11 : (n1 + 1 = tw) = False := eq_false (by omega)
              have ibfn10 : (bf = n1) = False := eq_false (by omega); have jbfn10 : (n1 = bf) = False := eq_false (by omega); have ibfn11 : (bf = n1 + 1) = False := eq_false (by omega); have jbfn11 : (n1 + 1 = bf) = False := eq_false (by omega)
              have inwn10 : (nw = n1) = False := eq_false (by omega); have jnwn10 : (n1 = nw) = False := eq_false (by omega); have inwn11 : (nw = n1 + 1) = False := eq_false (by omega); have jnwn11 : (n1 + 1 = nw) = False := eq_false (by omega)
              have ipmn10 : (pm = n1) = False := eq_false (by omega); have jpmn10 : (n1 = pm) = False := eq_false (by omega); have ipmn11 : (pm = n1 + 1) = False := eq_false (by omega); have jpmn11 : (n1 + 1 = pm) = False := eq_false (by omega)
              have lp := lR (psi a (i + 1))
              have lq := lR (psi a i)
              obtain ⟨f5, e1, e2⟩ := mul_two f3 fn T (psi a (i + 1) % m) (by omega) (by have := dg_mul T (psi a (i + 1) % m); omega)
              have M1 := fun k => chainMul_open nx 1 k 0 [(f3, T), (fn, psi a (i + 1) % m)] (by simp; omega) (by simp) []
              rw [e1] at M1
              have l5 : (dg (T * (psi a (i + 1) % m))).length ≤ 400 := by have := dg_mul T (psi a (i + 1) % m); omega
              have l6 : (dg (T * (psi a (i + 1) % m) - psi a i % m)).length ≤ 401 := by have := dg_sub (T * (psi a (i + 1) % m)) (psi a i % m); omega
              have S1 := chainSub_open nx 1 0 (T * (psi a (i + 1) % m)) (psi a i % m) f5 fb (by omega) (by omega) []
              rw [kval_fit (by omega), ke_fit (by omega), kf_fit (by omega)] at S1
              obtain ⟨f6, e3, R1⟩ := rest_fix (T * (psi a (i + 1) % m) - psi a i % m) m false fm (by omega) (by omega) hm0 (fun h => by cases h)
              have e4 : (T * (psi a (i + 1) % m) - psi a i % m) % m = psi a (i + 2) % m := by
                rw [← hT, psi_rec, Int.sub_emod, Int.emod_emod, ← Int.mul_emod, ← Int.sub_emod]
              rw [e4] at R1
              clear e1 e2 e3 e4 l5 l6 lp lq
              generalize hv3 : T * (psi a (i + 1) % m) - psi a i % m = v3 at *
              generalize hv2 : T * (psi a (i + 1) % m) = v2 at *
              generalize hv1 : psi a (i + 1) % m = v1 at *
              generalize hv0 : psi a i % m = v0 at *
              generalize hv4 : psi a (i + 2) % m = v4 at *
              obtain ⟨QQ, hQQ⟩ : ∃ QQ : Ex → St → Prop, QQ = fun ex τ => ex = .norm ∧ (∃ g : Nat → AV, τ.sl = [.fn 1000003 [] [.ref r 0 0], .ptr pa 0, .ptr pm 0, .ptr pt 0, g 4, .ptr nx 0, .ptr tw 0, .ptr bf 0, .ptr nw 0, .int .i64 ((i + 1 : Nat) : Int), g 10, g 11, g 12, g 13, g 14, g 15, g 16, g 17, g 18, g 19, g 20, g 21, g 22, g 23, g 24, g 25, g 26, g 27, g 28, g 29, g 30, g 31, g 32, g 33, g 34, g 35, g 36, g 37, g 38, g 39, g 40, g 41, g 42, g 43, g 44, g 45, g 46, g 47, g 48, g 49, g 50]) ∧ nx + 5 ≤ τ.nx ∧ τ.h nx = some ⟨[.int .i64 0], true, 1, false⟩ ∧
                τ.h tw = some (crow f3 T) ∧ τ.h bf = some (crow fn v1) ∧ τ.h nw = some (crow f6 v4) ∧ ∀ j, j < nx → τ.h j = h1 j := ⟨_, rfl⟩
              refine W_mono (Q := QQ) ?_ ?_
              · refine W_drawn2 ?_
                simp (maxSteps := 4000000) only [go_sem, ↓reduceIte, Nat.reduceAdd, Nat.reduceSub, Nat.reduceMul, Nat.reduceEqDiff, reduceCtorEq, Int.reduceAdd, Int.reduceLT, Int.reduceLE, Int.reduceToNat, Int.reduceNeg, Int.reduceSub, ← List.map_take, ← List.map_drop, ne_eq, Nat.reduceLeDiff, Nat.reduceLT, Nat.zero_le, Nat.le_refl, wrap64, wrapu64, wrapu32, ← Int.natCast_add, ← Int.natCast_mul, cast_succ, wrapu32_nat, shr32, reps_wd, map_set_wd, List.length_set, zs_len, k1, k2, k3, k4, g2, Nat.add_assoc, Nat.reduceAdd, off_ne, ne_off, inxtw0, jnxtw0, Nat.add_assoc, Nat.reduceAdd, off_ne, ne_off, inxbf0, jnxbf0, Nat.add_assoc, Nat.reduceAdd, off_ne, ne_off, inxnw0, jnxnw0, Nat.add_assoc, Nat.reduceAdd, off_ne, ne_off, itwbf0, jtwbf0, Nat.add_assoc, Nat.reduceAdd, off_ne, ne_off, itwnw0, jtwnw0, Nat.add_assoc, Nat.reduceAdd, off_ne, ne_off, ibfnw0, jbfnw0, Nat.add_assoc, Nat.reduceAdd, off_ne, ne_off, ipmnx0, jpmnx0, Nat.add_assoc, Nat.reduceAdd, off_ne, ne_off, ipmtw0, jpmtw0, Nat.add_assoc, Nat.reduceAdd, off_ne, ne_off, ipmbf0, jpmbf0, Nat.add_assoc, Nat.reduceAdd, off_ne, ne_off, ipmnw0, jpmnw0, Nat.add_assoc, Nat.reduceAdd, off_ne, ne_off, inxn10, jnxn10, inxn11, jnxn11, Nat.add_assoc, Nat.reduceAdd, off_ne, ne_off, itwn10, jtwn10, itwn11, jtwn11, Nat.add_assoc, Nat.reduceAdd, off_ne, ne_off, ibfn10, jbfn10, ibfn11, jbfn11, Nat.add_assoc, Nat.reduceAdd, off_ne, ne_off, inwn10, jnwn10, inwn11, jnwn11, Nat.add_assoc, Nat.reduceAdd, off_ne, ne_off, ipmn10, jpmn10, ipmn11, jpmn11, reps, fillAll]
                refine lnK2_kept [nx, n1] (nx) rfl rfl (by (simp only [upd_apply, ↓reduceIte, Nat.reduceEqDiff, k1, k2, k3, k4, g2, Nat.add_assoc, Nat.reduceAdd, off_ne, ne_off, inxtw0, jnxtw0, Nat.add_assoc, Nat.reduceAdd, off_ne, ne_off, inxbf0, jnxbf0, Nat.add_assoc, Nat.reduceAdd, off_ne, ne_off, inxnw0, jnxnw0, Nat.add_assoc, Nat.reduceAdd, off_ne, ne_off, itwbf0, jtwbf0, Nat.add_assoc, Nat.reduceAdd, off_ne, ne_off, itwnw0, jtwnw0, Nat.add_assoc, Nat.reduceAdd, off_ne, ne_off, ibfnw0, jbfnw0, Nat.add_assoc, Nat.reduceAdd, off_ne, ne_off, ipmnx0, jpmnx0, Nat.add_assoc, Nat.reduceAdd, off_ne, ne_off, ipmtw0, jpmtw0, Nat.add_assoc, Nat.reduceAdd, off_ne, ne_off, ipmbf0, jpmbf0, Nat.add_assoc, Nat.reduceAdd, off_ne, ne_off, ipmnw0, jpmnw0, Nat.add_assoc, Nat.reduceAdd, off_ne, ne_off, inxn10, jnxn10, inxn11, jnxn11, Nat.add_assoc, Nat.reduceAdd, off_ne, ne_off, itwn10, jtwn10, itwn11, jtwn11, Nat.add_assoc, Nat.reduceAdd, off_ne, ne_off, ibfn10, jbfn10, ibfn11, jbfn11, Nat.add_assoc, Nat.reduceAdd, off_ne, ne_off, inwn10, jnwn10, inwn11, jnwn11, Nat.add_assoc, Nat.reduceAdd, off_ne, ne_off, ipmn10, jpmn10, ipmn11, jpmn11, reach, AV.surfL, AV.surf, cellsAt, List.map_cons, List.map_nil, List.append_nil, List.nil_append, List.cons_append, List.flatMap_cons, List.flatMap_nil]); try rfl) (by (repeat rw [List.forall_mem_cons]); (refine ⟨?_, ?_⟩ <;> (try omega)); simp; (try omega)) (M1 _ _ _ (by omega) (by omega) (by omega) (by simp (disch := omega) [Heap.only, upd_apply, if_neg, k1]) (by simp (disch := omega) [Heap.only, upd_apply, if_neg, rowI])) (by simp only [AV.pure, AV.pureL, pure_wd]; rfl) (by (simp only [upd_apply, ↓reduceIte, Nat.reduceEqDiff, k1, k2, k3, k4, g2, Nat.add_assoc, Nat.reduceAdd, off_ne, ne_off, inxtw0, jnxtw0, Nat.add_assoc, Nat.reduceAdd, off_ne, ne_off, inxbf0, jnxbf0, Nat.add_assoc, Nat.reduceAdd, off_ne, ne_off, inxnw0, jnxnw0, Nat.add_assoc, Nat.reduceAdd, off_ne, ne_off, itwbf0, jtwbf0, Nat.add_assoc, Nat.reduceAdd, off_ne, ne_off, itwnw0, jtwnw0, Nat.add_assoc, Nat.reduceAdd, off_ne, ne_off, ibfnw0, jbfnw0, Nat.add_assoc, Nat.reduceAdd, off_ne, ne_off, ipmnx0, jpmnx0, Nat.add_assoc, Nat.reduceAdd, off_ne, ne_off, ipmtw0, jpmtw0, Nat.add_assoc, Nat.reduceAdd, off_ne, ne_off, ipmbf0, jpmbf0, Nat.add_assoc, Nat.reduceAdd, off_ne, ne_off, ipmnw0, jpmnw0, Nat.add_assoc, Nat.reduceAdd, off_ne, ne_off, inxn10, jnxn10, inxn11, jnxn11, Nat.add_assoc, Nat.reduceAdd, off_ne, ne_off, itwn10, jtwn10, itwn11, jtwn11, Nat.add_assoc, Nat.reduceAdd, off_ne, ne_off, ibfn10, jbfn10, ibfn11, jbfn11, Nat.add_assoc, Nat.reduceAdd, off_ne, ne_off, inwn10, jnwn10, inwn11, jnwn11, Nat.add_assoc, Nat.reduceAdd, off_ne, ne_off, ipmn10, jpmn10, ipmn11, jpmn11, List.all_cons, List.all_nil, AV.withinL, AV.within, pure_wd, Option.isSome_some, Bool.true_and, Bool.and_true, Bool.and_self, List.contains_cons, beq_self_eq_true, Bool.or_true, Bool.true_or]); try rfl) ?_
                simp (maxSteps := 4000000) only [go_sem, ↓reduceIte, Nat.reduceAdd, Nat.reduceSub, Nat.reduceMul, Nat.reduceEqDiff, reduceCtorEq, Int.reduceAdd, Int.reduceLT, Int.reduceLE, Int.reduceToNat, Int.reduceNeg, Int.reduceSub, ← List.map_take, ← List.map_drop, ne_eq, Nat.reduceLeDiff, Nat.reduceLT, Nat.zero_le, Nat.le_refl, wrap64, wrapu64, wrapu32, ← Int.natCast_add, ← Int.natCast_mul, cast_succ, wrapu32_nat, shr32, reps_wd, map_set_wd, List.length_set, zs_len, k1, k2, k3, k4, g2, Nat.add_assoc, Nat.reduceAdd, off_ne, ne_off, inxtw0, jnxtw0, Nat.add_assoc, Nat.reduceAdd, off_ne, ne_off, inxbf0, jnxbf0, Nat.add_assoc, Nat.reduceAdd, off_ne, ne_off, inxnw0, jnxnw0, Nat.add_assoc, Nat.reduceAdd, off_ne, ne_off, itwbf0, jtwbf0, Nat.add_assoc, Nat.reduceAdd, off_ne, ne_off, itwnw0, jtwnw0, Nat.add_assoc, Nat.reduceAdd, off_ne, ne_off, ibfnw0, jbfnw0, Nat.add_assoc, Nat.reduceAdd, off_ne, ne_off, ipmnx0, jpmnx0, Nat.add_assoc, Nat.reduceAdd, off_ne, ne_off, ipmtw0, jpmtw0, Nat.add_assoc, Nat.reduceAdd, off_ne, ne_off, ipmbf0, jpmbf0, Nat.add_assoc, Nat.reduceAdd, off_ne, ne_off, ipmnw0, jpmnw0, Nat.add_assoc, Nat.reduceAdd, off_ne, ne_off, inxn10, jnxn10, inxn11, jnxn11, Nat.add_assoc, Nat.reduceAdd, off_ne, ne_off, itwn10, jtwn10, itwn11, jtwn11, Nat.add_assoc, Nat.reduceAdd, off_ne, ne_off, ibfn10, jbfn10, ibfn11, jbfn11, Nat.add_assoc, Nat.reduceAdd, off_ne, ne_off, inwn10, jnwn10, inwn11, jnwn11, Nat.add_assoc, Nat.reduceAdd, off_ne, ne_off, ipmn10, jpmn10, ipmn11, jpmn11, reps, fillAll]
                refine lnK2_kept [nx] (nx) rfl rfl (by (simp only [upd_apply, ↓reduceIte, Nat.reduceEqDiff, k1, k2, k3, k4, g2, Nat.add_assoc, Nat.reduceAdd, off_ne, ne_off, inxtw0, jnxtw0, Nat.add_assoc, Nat.reduceAdd, off_ne, ne_off, inxbf0, jnxbf0, Nat.add_assoc, Nat.reduceAdd, off_ne, ne_off, inxnw0, jnxnw0, Nat.add_assoc, Nat.reduceAdd, off_ne, ne_off, itwbf0, jtwbf0, Nat.add_assoc, Nat.reduceAdd, off_ne, ne_off, itwnw0, jtwnw0, Nat.add_assoc, Nat.reduceAdd, off_ne, ne_off, ibfnw0, jbfnw0, Nat.add_assoc, Nat.reduceAdd, off_ne, ne_off, ipmnx0, jpmnx0, Nat.add_assoc, Nat.reduceAdd, off_ne, ne_off, ipmtw0, jpmtw0, Nat.add_assoc, Nat.reduceAdd, off_ne, ne_off, ipmbf0, jpmbf0, Nat.add_assoc, Nat.reduceAdd, off_ne, ne_off, ipmnw0, jpmnw0, Nat.add_assoc, Nat.reduceAdd, off_ne, ne_off, inxn10, jnxn10, inxn11, jnxn11, Nat.add_assoc, Nat.reduceAdd, off_ne, ne_off, itwn10, jtwn10, itwn11, jtwn11, Nat.add_assoc, Nat.reduceAdd, off_ne, ne_off, ibfn10, jbfn10, ibfn11, jbfn11, Nat.add_assoc, Nat.reduceAdd, off_ne, ne_off, inwn10, jnwn10, inwn11, jnwn11, Nat.add_assoc, Nat.reduceAdd, off_ne, ne_off, ipmn10, jpmn10, ipmn11, jpmn11, reach, AV.surfL, AV.surf, cellsAt, List.map_cons, List.map_nil, List.append_nil, List.nil_append, List.cons_append, List.flatMap_cons, List.flatMap_nil]); try rfl) (by (repeat rw [List.forall_mem_cons]); (refine ⟨?_, ?_⟩ <;> (try omega)); simp; (try omega)) (S1 _ _ (by omega) (by simp (disch := omega) [Heap.only, upd_apply, if_neg, k1])) (by simp only [AV.pure, AV.pureL, pure_wd]; rfl) (by (simp only [upd_apply, ↓reduceIte, Nat.reduceEqDiff, k1, k2, k3, k4, g2, Nat.add_assoc, Nat.reduceAdd, off_ne, ne_off, inxtw0, jnxtw0, Nat.add_assoc, Nat.reduceAdd, off_ne, ne_off, inxbf0, jnxbf0, Nat.add_assoc, Nat.reduceAdd, off_ne, ne_off, inxnw0, jnxnw0, Nat.add_assoc, Nat.reduceAdd, off_ne, ne_off, itwbf0, jtwbf0, Nat.add_assoc, Nat.reduceAdd, off_ne, ne_off, itwnw0, jtwnw0, Nat.add_assoc, Nat.reduceAdd, off_ne, ne_off, ibfnw0, jbfnw0, Nat.add_assoc, Nat.reduceAdd, off_ne, ne_off, ipmnx0, jpmnx0, Nat.add_assoc, Nat.reduceAdd, off_ne, ne_off, ipmtw0, jpmtw0, Nat.add_assoc, Nat.reduceAdd, off_ne, ne_off, ipmbf0, jpmbf0, Nat.add_assoc, Nat.reduceAdd, off_ne, ne_off, ipmnw0, jpmnw0, Nat.add_assoc, Nat.reduceAdd, off_ne, ne_off, inxn10, jnxn10, inxn11, jnxn11, Nat.add_assoc, Nat.reduceAdd, off_ne, ne_off, itwn10, jtwn10, itwn11, jtwn11, Nat.add_assoc, Nat.reduceAdd, off_ne, ne_off, ibfn10, jbfn10, ibfn11, jbfn11, Nat.add_assoc, Nat.reduceAdd, off_ne, ne_off, inwn10, jnwn10, inwn11, jnwn11, Nat.add_assoc, Nat.reduceAdd, off_ne, ne_off, ipmn10, jpmn10, ipmn11, jpmn11, List.all_cons, List.all_nil, AV.withinL, AV.within, pure_wd, Option.isSome_some, Bool.true_and, Bool.and_true, Bool.and_self, List.contains_cons, beq_self_eq_true, Bool.or_true, Bool.true_or]); try rfl) ?_
                simp (maxSteps := 4000000) only [go_sem, ↓reduceIte, Nat.reduceAdd, Nat.reduceSub, Nat.reduceMul, Nat.reduceEqDiff, reduceCtorEq, Int.reduceAdd, Int.reduceLT, Int.reduceLE, Int.reduceToNat, Int.reduceNeg, Int.reduceSub, ← List.map_take, ← List.map_drop, ne_eq, Nat.reduceLeDiff, Nat.reduceLT, Nat.zero_le, Nat.le_refl, wrap64, wrapu64, wrapu32, ← Int.natCast_add, ← Int.natCast_mul, cast_succ, wrapu32_nat, shr32, reps_wd, map_set_wd, List.length_set, zs_len, k1, k2, k3, k4, g2, Nat.add_assoc, Nat.reduceAdd, off_ne, ne_off, inxtw0, jnxtw0, Nat.add_assoc, Nat.reduceAdd, off_ne, ne_off, inxbf0, jnxbf0, Nat.add_assoc, Nat.reduceAdd, off_ne, ne_off, inxnw0, jnxnw0, Nat.add_assoc, Nat.reduceAdd, off_ne, ne_off, itwbf0, jtwbf0, Nat.add_assoc, Nat.reduceAdd, off_ne, ne_off, itwnw0, jtwnw0, Nat.add_assoc, Nat.reduceAdd, off_ne, ne_off, ibfnw0, jbfnw0, Nat.add_assoc, Nat.reduceAdd, off_ne, ne_off, ipmnx0, jpmnx0, Nat.add_assoc, Nat.reduceAdd, off_ne, ne_off, ipmtw0, jpmtw0, Nat.add_assoc, Nat.reduceAdd, off_ne, ne_off, ipmbf0, jpmbf0, Nat.add_assoc, Nat.reduceAdd, off_ne, ne_off, ipmnw0, jpmnw0, Nat.add_assoc, Nat.reduceAdd, off_ne, ne_off, inxn10, jnxn10, inxn11, jnxn11, Nat.add_assoc, Nat.reduceAdd, off_ne, ne_off, itwn10, jtwn10, itwn11, jtwn11, Nat.add_assoc, Nat.reduceAdd, off_ne, ne_off, ibfn10, jbfn10, ibfn11, jbfn11, Nat.add_assoc, Nat.reduceAdd, off_ne, ne_off, inwn10, jnwn10, inwn11, jnwn11, Nat.add_assoc, Nat.reduceAdd, off_ne, ne_off, ipmn10, jpmn10, ipmn11, jpmn11, reps, fillAll]
                refine lnK2_kept [nx] (nx) rfl rfl (by (simp only [upd_apply, ↓reduceIte, Nat.reduceEqDiff, k1, k2, k3, k4, g2, Nat.add_assoc, Nat.reduceAdd, off_ne, ne_off, inxtw0, jnxtw0, Nat.add_assoc, Nat.reduceAdd, off_ne, ne_off, inxbf0, jnxbf0, Nat.add_assoc, Nat.reduceAdd, off_ne, ne_off, inxnw0, jnxnw0, Nat.add_assoc, Nat.reduceAdd, off_ne, ne_off, itwbf0, jtwbf0, Nat.add_assoc, Nat.reduceAdd, off_ne, ne_off, itwnw0, jtwnw0, Nat.add_assoc, Nat.reduceAdd, off_ne, ne_off, ibfnw0, jbfnw0, Nat.add_assoc, Nat.reduceAdd, off_ne, ne_off, ipmnx0, jpmnx0, Nat.add_assoc, Nat.reduceAdd, off_ne, ne_off, ipmtw0, jpmtw0, Nat.add_assoc, Nat.reduceAdd, off_ne, ne_off, ipmbf0, jpmbf0, Nat.add_assoc, Nat.reduceAdd, off_ne, ne_off, ipmnw0, jpmnw0, Nat.add_assoc, Nat.reduceAdd, off_ne, ne_off, inxn10, jnxn10, inxn11, jnxn11, Nat.add_assoc, Nat.reduceAdd, off_ne, ne_off, itwn10, jtwn10, itwn11, jtwn11, Nat.add_assoc, Nat.reduceAdd, off_ne, ne_off, ibfn10, jbfn10, ibfn11, jbfn11, Nat.add_assoc, Nat.reduceAdd, off_ne, ne_off, inwn10, jnwn10, inwn11, jnwn11, Nat.add_assoc, Nat.reduceAdd, off_ne, ne_off, ipmn10, jpmn10, ipmn11, jpmn11, reach, AV.surfL, AV.surf, cellsAt, List.map_cons, List.map_nil, List.append_nil, List.nil_append, List.cons_append, List.flatMap_cons, List.flatMap_nil]); try rfl) (by (repeat rw [List.forall_mem_cons]); (refine ⟨?_, ?_⟩ <;> (try omega)); simp; (try omega)) (R1 _ 1 [] _ _ (by omega) (by simp (disch := omega) [Heap.only, upd_apply, if_neg, k1])) (by simp only [AV.pure, AV.pureL, pure_wd]; rfl) (by (simp only [upd_apply, ↓reduceIte, Nat.reduceEqDiff, k1, k2, k3, k4, g2, Nat.add_assoc, Nat.reduceAdd, off_ne, ne_off, inxtw0, jnxtw0, Nat.add_assoc, Nat.reduceAdd, off_ne, ne_off, inxbf0, jnxbf0, Nat.add_assoc, Nat.reduceAdd, off_ne, ne_off, inxnw0, jnxnw0, Nat.add_assoc, Nat.reduceAdd, off_ne, ne_off, itwbf0, jtwbf0, Nat.add_assoc, Nat.reduceAdd, off_ne, ne_off, itwnw0, jtwnw0, Nat.add_assoc, Nat.reduceAdd, off_ne, ne_off, ibfnw0, jbfnw0, Nat.add_assoc, Nat.reduceAdd, off_ne, ne_off, ipmnx0, jpmnx0, Nat.add_assoc, Nat.reduceAdd, off_ne, ne_off, ipmtw0, jpmtw0, Nat.add_assoc, Nat.reduceAdd, off_ne, ne_off, ipmbf0, jpmbf0, Nat.add_assoc, Nat.reduceAdd, off_ne, ne_off, ipmnw0, jpmnw0, Nat.add_assoc, Nat.reduceAdd, off_ne, ne_off, inxn10, jnxn10, inxn11, jnxn11, Nat.add_assoc, Nat.reduceAdd, off_ne, ne_off, itwn10, jtwn10, itwn11, jtwn11, Nat.add_assoc, Nat.reduceAdd, off_ne, ne_off, ibfn10, jbfn10, ibfn11, jbfn11, Nat.add_assoc, Nat.reduceAdd, off_ne, ne_off, inwn10, jnwn10, inwn11, jnwn11, Nat.add_assoc, Nat.reduceAdd, off_ne, ne_off, ipmn10, jpmn10, ipmn11, jpmn11, List.all_cons, List.all_nil, AV.withinL, AV.within, pure_wd, Option.isSome_some, Bool.true_and, Bool.and_true, Bool.and_self, List.contains_cons, beq_self_eq_true, Bool.or_true, Bool.true_or]); try rfl) ?_
                simp (maxSteps := 4000000) only [go_sem, ↓reduceIte, Nat.reduceAdd, Nat.reduceSub, Nat.reduceMul, Nat.reduceEqDiff, reduceCtorEq, Int.reduceAdd, Int.reduceLT, Int.reduceLE, Int.reduceToNat, Int.reduceNeg, Int.reduceSub, ← List.map_take, ← List.map_drop, ne_eq, Nat.reduceLeDiff, Nat.reduceLT, Nat.zero_le, Nat.le_refl, wrap64, wrapu64, wrapu32, ← Int.natCast_add, ← Int.natCast_mul, cast_succ, wrapu32_nat, shr32, reps_wd, map_set_wd, List.length_set, zs_len, k1, k2, k3, k4, g2, Nat.add_assoc, Nat.reduceAdd, off_ne, ne_off, inxtw0, jnxtw0, Nat.add_assoc, Nat.reduceAdd, off_ne, ne_off, inxbf0, jnxbf0, Nat.add_assoc, Nat.reduceAdd, off_ne, ne_off, inxnw0, jnxnw0, Nat.add_assoc, Nat.reduceAdd, off_ne, ne_off, itwbf0, jtwbf0, Nat.add_assoc, Nat.reduceAdd, off_ne, ne_off, itwnw0, jtwnw0, Nat.add_assoc, Nat.reduceAdd, off_ne, ne_off, ibfnw0, jbfnw0, Nat.add_assoc, Nat.reduceAdd, off_ne, ne_off, ipmnx0, jpmnx0, Nat.add_assoc, Nat.reduceAdd, off_ne, ne_off, ipmtw0, jpmtw0, Nat.add_assoc, Nat.reduceAdd, off_ne, ne_off, ipmbf0, jpmbf0, Nat.add_assoc, Nat.reduceAdd, off_ne, ne_off, ipmnw0, jpmnw0, Nat.add_assoc, Nat.reduceAdd, off_ne, ne_off, inxn10, jnxn10, inxn11, jnxn11, Nat.add_assoc, Nat.reduceAdd, off_ne, ne_off, itwn10, jtwn10, itwn11, jtwn11, Nat.add_assoc, Nat.reduceAdd, off_ne, ne_off, ibfn10, jbfn10, ibfn11, jbfn11, Nat.add_assoc, Nat.reduceAdd, off_ne, ne_off, inwn10, jnwn10, inwn11, jnwn11, Nat.add_assoc, Nat.reduceAdd, off_ne, ne_off, ipmn10, jpmn10, ipmn11, jpmn11, reps, fillAll]
                refine ⟨by exact allW_of [] [0, 0, 0, 0, 0, 0, 48, 120, 0, 508, 0, 2046, 4095, 8191] (by kernel_rfl) (by ((simp only [List.flatMap_cons, List.flatMap_nil, cr, List.append_nil, List.nil_append, List.cons_append]); rfl)) (by ((simp (disch := omega) [sts, stB, allS, stOk, cr, Dep.ok, loadEff, upd_apply, if_neg, T1, T2, T3, T4, T5, T6, T7, T8, T9, T10, T11, T12, T13, T14, T15, T16, T17, T18, T19, T20, T21, T22, T23, T24, T25, T26, T27, T29, T30, T31, T33, T34, T35, T37, T38, T39, T40, T42, T43, T44, T45, T46, T47, T48, T50, T51, T53, T55, T56, T57, T58, T59, T60, T61, T62, T63, T64, T65, T66, T67, T68, T69, T70, T71, T72, T73, T74, T75, T76, T77, T78, T79, T80, T81, T82, T83, T84, T85, T86, T87, T88, T89, T90, T92, T94, T95, T96, T97, T98, T99, T100, T101, T102, T104, T105, T106, T107, T108, T109, T111, T112, T113, T115, T116, T117, T118, T119, T120, T121, T122, T123, T124, T125, T126, T127, T128, T129, T130, T131, T132, T133, k1, k2, k3, k4, g2]) <;> (repeat (any_goals apply And.intro)) <;> (first | omega | rfl | (intro hx; first | omega | rfl)))) (by ((repeat ((with_unfolding_all refine And.intro ?_ ?_); (focus ((with_unfolding_all refine ⟨?_, ?_, ?_⟩) <;> ((intro i hi hj); (simp only [cr, Rec.ids, List.map_cons, List.map_nil, List.mem_cons, List.not_mem_nil, or_false, false_or] at hi hj); (first | done | omega)))))); (with_unfolding_all exact True.intro))), ?_⟩
                rw [hQQ]
                refine ⟨rfl, garb rfl, by dsimp only; omega, ?_, ?_, ?_, ?_, ?_⟩
                · simp only [upd_apply, ↓reduceIte, Nat.reduceEqDiff, k1, Nat.add_assoc, Nat.reduceAdd, off_ne, ne_off, inxtw0, jnxtw0, Nat.add_assoc, Nat.reduceAdd, off_ne, ne_off, inxbf0, jnxbf0, Nat.add_assoc, Nat.reduceAdd, off_ne, ne_off, inxnw0, jnxnw0, Nat.add_assoc, Nat.reduceAdd, off_ne, ne_off, itwbf0, jtwbf0, Nat.add_assoc, Nat.reduceAdd, off_ne, ne_off, itwnw0, jtwnw0, Nat.add_assoc, Nat.reduceAdd, off_ne, ne_off, ibfnw0, jbfnw0, Nat.add_assoc, Nat.reduceAdd, off_ne, ne_off, ipmnx0, jpmnx0, Nat.add_assoc, Nat.reduceAdd, off_ne, ne_off, ipmtw0, jpmtw0, Nat.add_assoc, Nat.reduceAdd, off_ne, ne_off, ipmbf0, jpmbf0, Nat.add_assoc, Nat.reduceAdd, off_ne, ne_off, ipmnw0, jpmnw0, Nat.add_assoc, Nat.reduceAdd, off_ne, ne_off, inxn10, jnxn10, inxn11, jnxn11, Nat.add_assoc, Nat.reduceAdd, off_ne, ne_off, itwn10, jtwn10, itwn11, jtwn11, Nat.add_assoc, Nat.reduceAdd, off_ne, ne_off, ibfn10, jbfn10, ibfn11, jbfn11, Nat.add_assoc, Nat.reduceAdd, off_ne, ne_off, inwn10, jnwn10, inwn11, jnwn11, Nat.add_assoc, Nat.reduceAdd, off_ne, ne_off, ipmn10, jpmn10, ipmn11, jpmn11]
                · simp only [upd_apply, ↓reduceIte, Nat.reduceEqDiff, k2, Nat.add_assoc, Nat.reduceAdd, off_ne, ne_off, inxtw0, jnxtw0, Nat.add_assoc, Nat.reduceAdd, off_ne, ne_off, inxbf0, jnxbf0, Nat.add_assoc, Nat.reduceAdd, off_ne, ne_off, inxnw0, jnxnw0, Nat.add_assoc, Nat.reduceAdd, off_ne, ne_off, itwbf0, jtwbf0, Nat.add_assoc, Nat.reduceAdd, off_ne, ne_off, itwnw0, jtwnw0, Nat.add_assoc, Nat.reduceAdd, off_ne, ne_off, ibfnw0, jbfnw0, Nat.add_assoc, Nat.reduceAdd, off_ne, ne_off, ipmnx0, jpmnx0, Nat.add_assoc, Nat.reduceAdd, off_ne, ne_off, ipmtw0, jpmtw0, Nat.add_assoc, Nat.reduceAdd, off_ne, ne_off, ipmbf0, jpmbf0, Nat.add_assoc, Nat.reduceAdd, off_ne, ne_off, ipmnw0, jpmnw0, Nat.add_assoc, Nat.reduceAdd, off_ne, ne_off, inxn10, jnxn10, inxn11, jnxn11, Nat.add_assoc, Nat.reduceAdd, off_ne, ne_off, itwn10, jtwn10, itwn11, jtwn11, Nat.add_assoc, Nat.reduceAdd, off_ne, ne_off, ibfn10, jbfn10, ibfn11, jbfn11, Nat.add_assoc, Nat.reduceAdd, off_ne, ne_off, inwn10, jnwn10, inwn11, jnwn11, Nat.add_assoc, Nat.reduceAdd, off_ne, ne_off, ipmn10, jpmn10, ipmn11, jpmn11]
                · simp only [upd_apply, ↓reduceIte, Nat.reduceEqDiff, k3, Nat.add_assoc, Nat.reduceAdd, off_ne, ne_off, inxtw0, jnxtw0, Nat.add_assoc, Nat.reduceAdd, off_ne, ne_off, inxbf0, jnxbf0, Nat.add_assoc, Nat.reduceAdd, off_ne, ne_off, inxnw0, jnxnw0, Nat.add_assoc, Nat.reduceAdd, off_ne, ne_off, itwbf0, jtwbf0, Nat.add_assoc, Nat.reduceAdd, off_ne, ne_off, itwnw0, jtwnw0, Nat.add_assoc, Nat.reduceAdd, off_ne, ne_off, ibfnw0, jbfnw0, Nat.add_assoc, Nat.reduceAdd, off_ne, ne_off, ipmnx0, jpmnx0, Nat.add_assoc, Nat.reduceAdd, off_ne, ne_off, ipmtw0, jpmtw0, Nat.add_assoc, Nat.reduceAdd, off_ne, ne_off, ipmbf0, jpmbf0, Nat.add_assoc, Nat.reduceAdd, off_ne, ne_off, ipmnw0, jpmnw0, Nat.add_assoc, Nat.reduceAdd, off_ne, ne_off, inxn10, jnxn10, inxn11, jnxn11, Nat.add_assoc, Nat.reduceAdd, off_ne, ne_off, itwn10, jtwn10, itwn11, jtwn11, Nat.add_assoc, Nat.reduceAdd, off_ne, ne_off, ibfn10, jbfn10, ibfn11, jbfn11, Nat.add_assoc, Nat.reduceAdd, off_ne, ne_off, inwn10, jnwn10, inwn11, jnwn11, Nat.add_assoc, Nat.reduceAdd, off_ne, ne_off, ipmn10, jpmn10, ipmn11, jpmn11]
                · simp only [upd_apply, ↓reduceIte, Nat.reduceEqDiff, k4, Nat.add_assoc, Nat.reduceAdd, off_ne, ne_off, inxtw0, jnxtw0, Nat.add_assoc, Nat.reduceAdd, off_ne, ne_off, inxbf0, jnxbf0, Nat.add_assoc, Nat.reduceAdd, off_ne, ne_off, inxnw0, jnxnw0, Nat.add_assoc, Nat.reduceAdd, off_ne, ne_off, itwbf0, jtwbf0, Nat.add_assoc, Nat.reduceAdd, off_ne, ne_off, itwnw0, jtwnw0, Nat.add_assoc, Nat.reduceAdd, off_ne, ne_off, ibfnw0, jbfnw0, Nat.add_assoc, Nat.reduceAdd, off_ne, ne_off, ipmnx0, jpmnx0, Nat.add_assoc, Nat.reduceAdd, off_ne, ne_off, ipmtw0, jpmtw0, Nat.add_assoc, Nat.reduceAdd, off_ne, ne_off, ipmbf0, jpmbf0, Nat.add_assoc, Nat.reduceAdd, off_ne, ne_off, ipmnw0, jpmnw0, Nat.add_assoc, Nat.reduceAdd, off_ne, ne_off, inxn10, jnxn10, inxn11, jnxn11, Nat.add_assoc, Nat.reduceAdd, off_ne, ne_off, itwn10, jtwn10, itwn11, jtwn11, Nat.add_assoc, Nat.reduceAdd, off_ne, ne_off, ibfn10, jbfn10, ibfn11, jbfn11, Nat.add_assoc, Nat.reduceAdd, off_ne, ne_off, inwn10, jnwn10, inwn11, jnwn11, Nat.add_assoc, Nat.reduceAdd, off_ne, ne_off, ipmn10, jpmn10, ipmn11, jpmn11]
                · intro j hj
                  (repeat (refine (upd_ne (by omega)).trans ?_))
                  rfl
              · rw [hQQ]
                clear hQQ QQ M1 S1 R1 k1 k2 k3 k4 g1 g2 g3
                rintro ex ⟨sl, H', n⟩ ⟨rfl, ⟨g', rfl⟩, hn, k1, k2, k3, k4, k5⟩
                dsimp only at hn k1 k2 k3 k4 k5
                have hy : Y (i + 1 + 1) H' := hYs _ _ _ d4 k5
                have z3 : IntKind.i64.wrap ((i + 1 + 1 : Nat) : Int) = ((i + 1 + 1 : Nat) : Int) := wrap64 (by omega) (by omega)
                simp (maxSteps := 4000000) only [go_sem, ↓reduceIte, Nat.reduceAdd, Nat.reduceSub, Nat.reduceMul, Nat.reduceEqDiff, reduceCtorEq, Int.reduceAdd, Int.reduceLT, Int.reduceLE, Int.reduceToNat, Int.reduceNeg, Int.reduceSub, ← List.map_take, ← List.map_drop, ne_eq, Nat.reduceLeDiff, Nat.reduceLT, Nat.zero_le, Nat.le_refl, wrap64, wrapu64, wrapu32, ← Int.natCast_add, ← Int.natCast_mul, cast_succ, wrapu32_nat, shr32, reps_wd, map_set_wd, List.length_set, zs_len, k1, k2, z3]
                exact ⟨k - 1, by omega, i + 1, fn, f6, garb rfl, by omega, k3.trans (by rw [hv1]), k4.trans (by rw [hv4]), hy, by omega⟩
  obtain ⟨v, h', n', h1, rfl, h2⟩ := key
  exact ⟨h', n', h1, h2⟩
end Go.Proofs.Ytmgmcnoobgljpaa

/- Walks: the rank. (Own work of this repo.) -/
namespace Go.Proofs.Ytmgmcnoobgljpaa
open Vm Luc
set_option maxRecDepth 10000

theorem modulus_spec (fm : Bool) (m : Int) (hm : (dg m).length ≤ 4096) : denP E 48 [I fm m] = some (.ret (.bool (decide (1 ≤ m) && decide (bl m.natAbs ≤ 4000)))) := by
  refine denP_eq E48 rfl (by simp [AV.pureL, AV.pure, pure_wd]) ?_
  have o1 := of_spec 1 (by decide) (by decide)
  have o2 := less_spec fm m false 1 hm one_len
  have o3 := bits_spec fm m hm
  have hb : (bl m.natAbs : Int) ≤ 4000 ↔ bl m.natAbs ≤ 4000 := by omega
  by_cases h : 1 ≤ m
  · rw [decide_eq_false (show ¬ m < 1 by omega)] at o2
    rw [decide_eq_true h]
    simp (maxSteps := 4000000) only [go_sem, ↓reduceIte, Nat.reduceAdd, Nat.reduceSub, Nat.reduceMul, Nat.reduceEqDiff, reduceCtorEq, Int.reduceAdd, Int.reduceLT, Int.reduceLE, Int.reduceToNat, Int.reduceNeg, Int.reduceSub, ← List.map_take, ← List.map_drop, ne_eq, Nat.reduceLeDiff, Nat.reduceLT, Nat.zero_le, Nat.le_refl, wrap64, wrapu64, wrapu32, ← Int.natCast_add, ← Int.natCast_mul, cast_succ, wrapu32_nat, shr32, reps_wd, map_set_wd, List.length_set, zs_len, Try.f48]
    refine W_drawn ?_
    simp (maxSteps := 4000000) only [go_sem, ↓reduceIte, Nat.reduceAdd, Nat.reduceSub, Nat.reduceMul, Nat.reduceEqDiff, reduceCtorEq, Int.reduceAdd, Int.reduceLT, Int.reduceLE, Int.reduceToNat, Int.reduceNeg, Int.reduceSub, ← List.map_take, ← List.map_drop, ne_eq, Nat.reduceLeDiff, Nat.reduceLT, Nat.zero_le, Nat.le_refl, wrap64, wrapu64, wrapu32, ← Int.natCast_add, ← Int.natCast_mul, cast_succ, wrapu32_nat, shr32, reps_wd, map_set_wd, List.length_set, zs_len, o1, o2, o3]
    refine ⟨by refine okR_pairs ?_; (repeat ((with_unfolding_all refine And.intro ?_ ?_); (focus (rw [free_mk] <;> (try simp) <;> (try omega))))); (with_unfolding_all exact True.intro), ?_⟩
    simp
    exact hb
  · rw [decide_eq_true (show m < 1 by omega)] at o2
    rw [decide_eq_false h]
    simp (maxSteps := 4000000) only [go_sem, ↓reduceIte, Nat.reduceAdd, Nat.reduceSub, Nat.reduceMul, Nat.reduceEqDiff, reduceCtorEq, Int.reduceAdd, Int.reduceLT, Int.reduceLE, Int.reduceToNat, Int.reduceNeg, Int.reduceSub, ← List.map_take, ← List.map_drop, ne_eq, Nat.reduceLeDiff, Nat.reduceLT, Nat.zero_le, Nat.le_refl, wrap64, wrapu64, wrapu32, ← Int.natCast_add, ← Int.natCast_mul, cast_succ, wrapu32_nat, shr32, reps_wd, map_set_wd, List.length_set, zs_len, Try.f48]
    refine W_drawn ?_
    simp (maxSteps := 4000000) only [go_sem, ↓reduceIte, Nat.reduceAdd, Nat.reduceSub, Nat.reduceMul, Nat.reduceEqDiff, reduceCtorEq, Int.reduceAdd, Int.reduceLT, Int.reduceLE, Int.reduceToNat, Int.reduceNeg, Int.reduceSub, ← List.map_take, ← List.map_drop, ne_eq, Nat.reduceLeDiff, Nat.reduceLT, Nat.zero_le, Nat.le_refl, wrap64, wrapu64, wrapu32, ← Int.natCast_add, ← Int.natCast_mul, cast_succ, wrapu32_nat, shr32, reps_wd, map_set_wd, List.length_set, zs_len, o1, o2, o3]
    refine okR_pairs ?_; (repeat ((with_unfolding_all refine And.intro ?_ ?_); (focus (rw [free_mk] <;> (try simp) <;> (try omega))))); (with_unfolding_all exact True.intro)
theorem rests_open (a m : Int) (fa fm : Bool) (most : Int) (h : Heap) (nx : Nat) :
    ∃ h', denO E 49 [I fa a, I fm m, .int .i64 most] h nx = some (.ret (.fn 73 [] [.ptr nx 0, .ptr (nx + 1) 0, .ptr (nx + 2) 0]), h', nx + 3) ∧ h' nx = some (crow fa a) ∧ h' (nx + 1) = some (crow fm m) ∧ h' (nx + 2) = some ⟨[.int .i64 most], false, 1, false⟩ ∧ ∀ i, i < nx → h' i = h i := by
  have key : ∃ v h' n', denO E 49 [I fa a, I fm m, .int .i64 most] h nx = some (.ret v, h', n') ∧ v = .fn 73 [] [.ptr nx 0, .ptr (nx + 1) 0, .ptr (nx + 2) 0] ∧ n' = nx + 3 ∧ h' nx = some (crow fa a) ∧ h' (nx + 1) = some (crow fm m) ∧ h' (nx + 2) = some ⟨[.int .i64 most], false, 1, false⟩ ∧ ∀ i, i < nx → h' i = h i := by
    refine denO_intro E49 rfl ?_
    simp (maxSteps := 4000000) only [go_sem, ↓reduceIte, Nat.reduceAdd, Nat.reduceSub, Nat.reduceMul, Nat.reduceEqDiff, reduceCtorEq, Int.reduceAdd, Int.reduceLT, Int.reduceLE, Int.reduceToNat, Int.reduceNeg, Int.reduceSub, ← List.map_take, ← List.map_drop, ne_eq, Nat.reduceLeDiff, Nat.reduceLT, Nat.zero_le, Nat.le_refl, wrap64, wrapu64, wrapu32, ← Int.natCast_add, ← Int.natCast_mul, cast_succ, wrapu32_nat, shr32, reps_wd, map_set_wd, List.length_set, zs_len, Try.f49, Nat.add_assoc, off_ne, ne_off]
    intro i hi
    (repeat rw [if_neg (by omega)])
  obtain ⟨v, h', n', h1, rfl, rfl, h2⟩ := key
  exact ⟨h', h1, h2⟩
theorem rank_form (fa fm : Bool) (qa qm : Raw) (la : qa.2.2.length < 2 ^ 40) (lm : qm.2.2.length < 2 ^ 40) (h : fitW qa [qm] = false) (most : Int) : denP E 21 [ivr qa, ivr qm, .int .i64 most] = some (.ret (.tup [.int .i64 0, .int .i64 1])) := by
  refine denP_eq E21 rfl (by simp [AV.pureL, AV.pure, pure_wd]) ?_
  have f1 := fits_bad qa false [qm] (by simp) (by simp) la (by simpa using lm) h
  simp only [List.map_cons, List.map_nil, ivr, iv] at f1 ⊢
  simp (maxSteps := 4000000) only [go_sem, ↓reduceIte, Nat.reduceAdd, Nat.reduceSub, Nat.reduceMul, Nat.reduceEqDiff, reduceCtorEq, Int.reduceAdd, Int.reduceLT, Int.reduceLE, Int.reduceToNat, Int.reduceNeg, Int.reduceSub, ← List.map_take, ← List.map_drop, ne_eq, Nat.reduceLeDiff, Nat.reduceLT, Nat.zero_le, Nat.le_refl, wrap64, wrapu64, wrapu32, ← Int.natCast_add, ← Int.natCast_mul, cast_succ, wrapu32_nat, shr32, reps_wd, map_set_wd, List.length_set, zs_len, Try.f21, f1, Int.reduceEq, places, fillAll, reps, refP, elems]
abbrev RK (n e : Int) : AV := .tup [.int .i64 n, .int .i64 e]
theorem rank_small (a m : Int) (fa fm : Bool) (ha : (dg a).length ≤ 4096) (hm : (dg m).length ≤ 4096) (h : a < 2) (most : Int) : denP E 21 [I fa a, I fm m, .int .i64 most] = some (.ret (RK 0 2)) := by
  refine denP_eq E21 rfl (by simp [AV.pureL, AV.pure, pure_wd]) ?_
  have f1 := fits_ok fa a ha false [(ng m, fm, dg m)] (by simp) (by simp) (by simp; omega) (by simp only [List.all_cons, List.all_nil, Bool.and_true, rvl]; exact (validW_I m).trans (decide_eq_true hm))
  rw [if_pos h] at f1
  simp only [List.map_cons, List.map_nil, ivr, iv] at f1
  simp (maxSteps := 4000000) only [go_sem, ↓reduceIte, Nat.reduceAdd, Nat.reduceSub, Nat.reduceMul, Nat.reduceEqDiff, reduceCtorEq, Int.reduceAdd, Int.reduceLT, Int.reduceLE, Int.reduceToNat, Int.reduceNeg, Int.reduceSub, ← List.map_take, ← List.map_drop, ne_eq, Nat.reduceLeDiff, Nat.reduceLT, Nat.zero_le, Nat.le_refl, wrap64, wrapu64, wrapu32, ← Int.natCast_add, ← Int.natCast_mul, cast_succ, wrapu32_nat, shr32, reps_wd, map_set_wd, List.length_set, zs_len, Try.f21, f1, Int.reduceEq, places, fillAll, reps, refP, elems]
theorem rank_arg (a m : Int) (fa fm : Bool) (ha : (dg a).length ≤ 4096) (hm : (dg m).length ≤ 4096) (h2 : 2 ≤ a) (most : Int) (h : (decide (1 ≤ m) && decide (bl m.natAbs ≤ 4000)) = false ∨ most < 1 ∨ 20000 < most) : denP E 21 [I fa a, I fm m, .int .i64 most] = some (.ret (RK 0 2)) := by
  refine denP_eq E21 rfl (by simp [AV.pureL, AV.pure, pure_wd]) ?_
  have f1 := fits_ok fa a ha false [(ng m, fm, dg m)] (by simp) (by simp) (by simp; omega) (by simp only [List.all_cons, List.all_nil, Bool.and_true, rvl]; exact (validW_I m).trans (decide_eq_true hm))
  rw [if_neg (by omega)] at f1
  have f2 := modulus_spec fm m hm
  simp only [List.map_cons, List.map_nil, ivr, iv] at f1
  cases hd : (decide (1 ≤ m) && decide (bl m.natAbs ≤ 4000)) with
  | false =>
    rw [hd] at f2
    simp (maxSteps := 4000000) only [go_sem, ↓reduceIte, Nat.reduceAdd, Nat.reduceSub, Nat.reduceMul, Nat.reduceEqDiff, reduceCtorEq, Int.reduceAdd, Int.reduceLT, Int.reduceLE, Int.reduceToNat, Int.reduceNeg, Int.reduceSub, ← List.map_take, ← List.map_drop, ne_eq, Nat.reduceLeDiff, Nat.reduceLT, Nat.zero_le, Nat.le_refl, wrap64, wrapu64, wrapu32, ← Int.natCast_add, ← Int.natCast_mul, cast_succ, wrapu32_nat, shr32, reps_wd, map_set_wd, List.length_set, zs_len, Try.f21, f1, f2, Int.reduceEq, places, fillAll, reps, refP, elems]
  | true =>
    rw [hd] at f2
    by_cases h1 : most < 1
    · have z1 : (most < 1) = True := eq_true h1
      simp (maxSteps := 4000000) only [go_sem, ↓reduceIte, Nat.reduceAdd, Nat.reduceSub, Nat.reduceMul, Nat.reduceEqDiff, reduceCtorEq, Int.reduceAdd, Int.reduceLT, Int.reduceLE, Int.reduceToNat, Int.reduceNeg, Int.reduceSub, ← List.map_take, ← List.map_drop, ne_eq, Nat.reduceLeDiff, Nat.reduceLT, Nat.zero_le, Nat.le_refl, wrap64, wrapu64, wrapu32, ← Int.natCast_add, ← Int.natCast_mul, cast_succ, wrapu32_nat, shr32, reps_wd, map_set_wd, List.length_set, zs_len, Try.f21, f1, f2, z1, Int.reduceEq, places, fillAll, reps, refP, elems]
    · have z1 : (most < 1) = False := eq_false h1
      have z2 : (20000 < most) = True := eq_true (by
        rcases h with h | h | h
        · rw [hd] at h; cases h
        · omega
        · exact h)
      simp (maxSteps := 4000000) only [go_sem, ↓reduceIte, Nat.reduceAdd, Nat.reduceSub, Nat.reduceMul, Nat.reduceEqDiff, reduceCtorEq, Int.reduceAdd, Int.reduceLT, Int.reduceLE, Int.reduceToNat, Int.reduceNeg, Int.reduceSub, ← List.map_take, ← List.map_drop, ne_eq, Nat.reduceLeDiff, Nat.reduceLT, Nat.zero_le, Nat.le_refl, wrap64, wrapu64, wrapu32, ← Int.natCast_add, ← Int.natCast_mul, cast_succ, wrapu32_nat, shr32, reps_wd, map_set_wd, List.length_set, zs_len, Try.f21, f1, f2, z1, z2, Int.reduceEq, places, fillAll, reps, refP, elems]
set_option maxHeartbeats 2000000 in
theorem rank_walk (a m : Int) (fa fm : Bool) (ha : (dg a).length ≤ 4096) (hfa : fa = true → a = 0) (hm : (dg m).length ≤ 200) (h2 : 2 ≤ a) (hb : (decide (1 ≤ m) && decide (bl m.natAbs ≤ 4000)) = true) (most : Nat) (hmost : 1 ≤ most ∧ most ≤ 20000) :
    ∃ p : Nat × Int, denP E 21 [I fa a, I fm m, .int .i64 most] = some (.ret ((fun p : Nat × Int => RK p.1 p.2) p)) ∧ ((1 ≤ p.1 ∧ p.1 ≤ most ∧ p.2 = 0 ∧ psi a p.1 % m = 0 ∧ ∀ k, 1 ≤ k → k < p.1 → psi a k % m ≠ 0) ∨ (p = (0, 6) ∧ ∀ k, 1 ≤ k → k ≤ most → psi a k % m ≠ 0)) := by
  refine denP_ex E21 rfl (by simp [AV.pureL, AV.pure, pure_wd]) ?_
  have f1 := fits_ok fa a ha false [(ng m, fm, dg m)] (by simp) (by simp) (by simp; omega) (by simp only [List.all_cons, List.all_nil, Bool.and_true, rvl]; exact (validW_I m).trans (decide_eq_true (by omega)))
  rw [if_neg (by omega)] at f1
  have f2 := modulus_spec fm m (by omega)
  rw [hb] at f2
  simp only [List.map_cons, List.map_nil, ivr, iv] at f1
  have hm1 : 1 ≤ m := by simp only [Bool.and_eq_true, decide_eq_true_eq] at hb; exact hb.1
  have z1 : ((most : Int) < 1) = False := eq_false (by omega)
  have z2 : ((20000 : Int) < most) = False := eq_false (by omega)
  simp (maxSteps := 4000000) only [go_sem, ↓reduceIte, Nat.reduceAdd, Nat.reduceSub, Nat.reduceMul, Nat.reduceEqDiff, reduceCtorEq, Int.reduceAdd, Int.reduceLT, Int.reduceLE, Int.reduceToNat, Int.reduceNeg, Int.reduceSub, ← List.map_take, ← List.map_drop, ne_eq, Nat.reduceLeDiff, Nat.reduceLT, Nat.zero_le, Nat.le_refl, wrap64, wrapu64, wrapu32, ← Int.natCast_add, ← Int.natCast_mul, cast_succ, wrapu32_nat, shr32, reps_wd, map_set_wd, List.length_set, zs_len, Try.f21, f1, f2, z1, z2, Int.reduceEq, places, fillAll, reps, refP, elems]
  obtain ⟨H, d1, k1, k2, k3, k4⟩ := rests_open a m fa fm most (((((Heap.empty.upd 0 (some ⟨[.bool (ng a), .lst fa ((dg a).map wd)], true, 2, false⟩)).upd 1 (some ⟨[.bool (ng m), .lst fm ((dg m).map wd)], true, 2, false⟩)).upd 2 (some ⟨[.int .i64 0], false, 1, false⟩)).upd 3 (some ⟨[.int .i64 0], false, 1, false⟩)).upd 4 (some ⟨[.bool (ng m), .lst fm ((dg m).map wd)], true, 2, false⟩) |>.upd 4 (some ⟨[.bool (ng m), .lst fm ((dg m).map wd)], true, 2, true⟩)) 5
  refine openK_any d1 ?_
  have q2 := k4 2 (by decide)
  have q3 := k4 3 (by decide)
  simp only [upd_apply, ↓reduceIte, Nat.reduceEqDiff, if_pos] at q2 q3
  clear d1 k4 f1 f2
  simp (maxSteps := 4000000) only [go_sem, ↓reduceIte, Nat.reduceAdd, Nat.reduceSub, Nat.reduceMul, Nat.reduceEqDiff, reduceCtorEq, Int.reduceAdd, Int.reduceLT, Int.reduceLE, Int.reduceToNat, Int.reduceNeg, Int.reduceSub, ← List.map_take, ← List.map_drop, ne_eq, Nat.reduceLeDiff, Nat.reduceLT, Nat.zero_le, Nat.le_refl, wrap64, wrapu64, wrapu32, ← Int.natCast_add, ← Int.natCast_mul, cast_succ, wrapu32_nat, shr32, reps_wd, map_set_wd, List.length_set, zs_len, q2, q3]
  refine W_rangeFunc fun L hL => ?_
  refine ⟨by decide, ?_⟩
  dsimp only
  obtain ⟨Y, hYd⟩ : ∃ Y : Nat → Heap → Prop, Y = fun n h => h 2 = some ⟨[.int .i64 0], false, 1, false⟩ ∧ h 3 = some ⟨[.int .i64 0], false, 1, false⟩ ∧ h 5 = some (crow fa a) ∧ h 6 = some (crow fm m) ∧ h 7 = some ⟨[.int .i64 most], false, 1, false⟩ ∧ h 8 = some (L 0) ∧ ∀ k, 1 ≤ k → k < n → psi a k % m ≠ 0 := ⟨_, rfl⟩
  obtain ⟨Z, hZd⟩ : ∃ Z : Nat → Heap → Prop, Z = fun n h => h 2 = some ⟨[.int .i64 n], false, 1, false⟩ ∧ h 3 = some ⟨[.int .i64 0], false, 1, false⟩ ∧ h 8 = some (L 2) ∧ psi a n % m = 0 ∧ ∀ k, 1 ≤ k → k < n → psi a k % m ≠ 0 := ⟨_, rfl⟩
  have hmain := rests1_open a m fa fm most ha hfa hm hm1 hmost.2 5 6 7 8 9 (H.upd 8 (some (L 0))) (by decide) (by decide) (by decide) Y Z ?_ ?_ ?_ ?_
  · obtain ⟨h', n', d1, hn', hfin⟩ := hmain
    rcases hfin with hy | ⟨n, b1, b2, hz⟩
    · rw [hYd] at hy
      obtain ⟨e1, e2, e3, e4, e5, e6, e7⟩ := hy
      refine ⟨_, h', n', 0, .norm, d1, e6, rfl, ?_⟩
      clear d1 hL hYd hZd
      simp (maxSteps := 4000000) only [go_sem, ↓reduceIte, Nat.reduceAdd, Nat.reduceSub, Nat.reduceMul, Nat.reduceEqDiff, reduceCtorEq, Int.reduceAdd, Int.reduceLT, Int.reduceLE, Int.reduceToNat, Int.reduceNeg, Int.reduceSub, ← List.map_take, ← List.map_drop, ne_eq, Nat.reduceLeDiff, Nat.reduceLT, Nat.zero_le, Nat.le_refl, wrap64, wrapu64, wrapu32, ← Int.natCast_add, ← Int.natCast_mul, cast_succ, wrapu32_nat, shr32, reps_wd, map_set_wd, List.length_set, zs_len, e1, e2]
      exact ⟨(0, 6), rfl, .inr ⟨rfl, fun k hk1 hk2 => e7 k hk1 (by omega)⟩⟩
    · rw [hZd] at hz
      obtain ⟨e1, e2, e3, e4, e5⟩ := hz
      refine ⟨_, h', n', 2, .ret, d1, e3, rfl, ?_⟩
      clear d1 hL hYd hZd
      simp (maxSteps := 4000000) only [go_sem, ↓reduceIte, Nat.reduceAdd, Nat.reduceSub, Nat.reduceMul, Nat.reduceEqDiff, reduceCtorEq, Int.reduceAdd, Int.reduceLT, Int.reduceLE, Int.reduceToNat, Int.reduceNeg, Int.reduceSub, ← List.map_take, ← List.map_drop, ne_eq, Nat.reduceLeDiff, Nat.reduceLT, Nat.zero_le, Nat.le_refl, wrap64, wrapu64, wrapu32, ← Int.natCast_add, ← Int.natCast_mul, cast_succ, wrapu32_nat, shr32, reps_wd, map_set_wd, List.length_set, zs_len, e1, e2]
      exact ⟨(n, 0), rfl, .inl ⟨b1, b2, rfl, e4, e5⟩⟩
  · rw [hYd]
    rintro n h h' ⟨e1, e2, e3, e4, e5, e6, e7⟩ hh
    exact ⟨(hh _ (by decide)).trans e1, (hh _ (by decide)).trans e2, (hh _ (by decide)).trans e3, (hh _ (by decide)).trans e4, (hh _ (by decide)).trans e5, (hh _ (by decide)).trans e6, e7⟩
  · rw [hYd]
    rintro n h ⟨e1, e2, e3, e4, e5, e6, e7⟩
    exact ⟨e3, e4, e5⟩
  · intro n z f h n0 hn1 hn2 hn0 hy hz
    have hy' := hy
    rw [hYd] at hy'
    obtain ⟨e1, e2, e3, e4, e5, e6, e7⟩ := hy'
    refine denO_yield (args := [.int .i64 n, I f z]) (R := fun b h' n' => n0 ≤ n' ∧ (∀ i, 9 ≤ i → i < n0 → h' i = h i) ∧ (if b = true then Y (n + 1) h' else Z n h')) hL eok.yf e6 rfl ?_
    clear hL hy
    have y2 : (n0 = 2) = False := eq_false (by omega)
    have y3 : (n0 = 3) = False := eq_false (by omega)
    have y8 : (n0 = 8) = False := eq_false (by omega)
    have x2 : (2 = n0) = False := eq_false (by omega)
    have x3 : (3 = n0) = False := eq_false (by omega)
    have x8 : (8 = n0) = False := eq_false (by omega)
    have hzl : ((dg z).length = 0) ↔ z = 0 := dg_len0
    by_cases h0 : z = 0
    · have zz : (((dg z).length : Int) = 0) = True := eq_true (by have := hzl.2 h0; omega)
      have hfin : ∀ h' : Heap, h' 2 = some ⟨[.int .i64 n], false, 1, false⟩ → h' 3 = some ⟨[.int .i64 0], false, 1, false⟩ → h' 8 = some (L 2) → Z n h' := fun h' a1 a2 a3 => by rw [hZd]; exact ⟨a1, a2, a3, hz ▸ h0, e7⟩
      simp (maxSteps := 4000000) only [go_sem, ↓reduceIte, Nat.reduceAdd, Nat.reduceSub, Nat.reduceMul, Nat.reduceEqDiff, reduceCtorEq, Int.reduceAdd, Int.reduceLT, Int.reduceLE, Int.reduceToNat, Int.reduceNeg, Int.reduceSub, ← List.map_take, ← List.map_drop, ne_eq, Nat.reduceLeDiff, Nat.reduceLT, Nat.zero_le, Nat.le_refl, wrap64, wrapu64, wrapu32, ← Int.natCast_add, ← Int.natCast_mul, cast_succ, wrapu32_nat, shr32, reps_wd, map_set_wd, List.length_set, zs_len, e1, e2, e6, y2, y3, y8, x2, x3, x8, zz, places, fillAll]
      refine ⟨by omega, fun i hi1 hi2 => ?_, hfin _ ?_ ?_ ?_⟩
      · (repeat rw [if_neg (by omega)])
      · simp only [upd_apply, ↓reduceIte, Nat.reduceEqDiff, if_pos]
      · simp only [upd_apply, ↓reduceIte, Nat.reduceEqDiff, if_pos]
      · simp only [upd_apply, ↓reduceIte, Nat.reduceEqDiff, if_pos]
    · have zz : (((dg z).length : Int) = 0) = False := eq_false (by intro h; exact h0 (hzl.1 (by omega)))
      simp (maxSteps := 4000000) only [go_sem, ↓reduceIte, Nat.reduceAdd, Nat.reduceSub, Nat.reduceMul, Nat.reduceEqDiff, reduceCtorEq, Int.reduceAdd, Int.reduceLT, Int.reduceLE, Int.reduceToNat, Int.reduceNeg, Int.reduceSub, ← List.map_take, ← List.map_drop, ne_eq, Nat.reduceLeDiff, Nat.reduceLT, Nat.zero_le, Nat.le_refl, wrap64, wrapu64, wrapu32, ← Int.natCast_add, ← Int.natCast_mul, cast_succ, wrapu32_nat, shr32, reps_wd, map_set_wd, List.length_set, zs_len, e1, e2, e6, y2, y3, y8, x2, x3, x8, zz, places, fillAll]
      refine ⟨by omega, fun i hi1 hi2 => ?_, ?_⟩
      · (repeat rw [if_neg (by omega)])
      · rw [hYd]
        refine ⟨?_, ?_, ?_, ?_, ?_, ?_, fun k hk1 hk2 => ?_⟩
        · simp only [upd_apply, ↓reduceIte, Nat.reduceEqDiff, y2, x2, e1]
        · simp only [upd_apply, ↓reduceIte, Nat.reduceEqDiff, y3, x3, e2]
        · (repeat (refine (upd_ne (by omega)).trans ?_))
          exact e3
        · (repeat (refine (upd_ne (by omega)).trans ?_))
          exact e4
        · (repeat (refine (upd_ne (by omega)).trans ?_))
          exact e5
        · simp only [upd_apply, ↓reduceIte, Nat.reduceEqDiff, if_pos]
        · rcases Nat.lt_or_ge k n with h1 | h1
          · exact e7 k hk1 h1
          · obtain rfl : k = n := by omega
            exact hz ▸ h0
  · rw [hYd]
    refine ⟨?_, ?_, ?_, ?_, ?_, rfl, fun k _ _ => by omega⟩
    · exact q2
    · exact q3
    · exact k1
    · exact k2
    · exact k3
end Go.Proofs.Ytmgmcnoobgljpaa

/- Walks: chapter 8 is awake. (Own work of this repo.) -/
namespace Go.Proofs.Ytmgmcnoobgljpaa
open Vm Luc
set_option maxRecDepth 10000

theorem awake8 : denP E 14 [] = some (.ret (.bool true)) := by
  refine denP_eq E14 rfl rfl ?_
  have r2 := rOf_spec 2 (by decide) (by decide)
  have r8 := rOf_spec 8 (by decide) (by decide)
  have r209 := rOf_spec 209 (by decide) (by decide)
  have r97 := rOf_spec 97 (by decide) (by decide)
  have l2 := dg_small (z := 2) (by decide)
  have l8 := dg_small (z := 8) (by decide)
  have l209 := dg_small (z := 209) (by decide)
  have l97 := dg_small (z := 97) (by decide)
  rw [RM, show decide ((2 : Int) = 0) = false from rfl] at r2
  rw [RM, show decide ((8 : Int) = 0) = false from rfl] at r8
  rw [RM, show decide ((209 : Int) = 0) = false from rfl] at r209
  rw [RM, show decide ((97 : Int) = 0) = false from rfl] at r97
  obtain ⟨fp, p1⟩ := psi_el 2 false (by omega) (by decide) 5 (by decide)
  obtain ⟨fc, c1⟩ := chi_el 2 false (by omega) (by decide) 4 (by decide)
  have p2 := psi_of _ _ _ _ _ _ p1
  have c2 := chi_of _ _ _ _ _ _ c1
  have e5 : psi 2 5 = 209 := by decide
  have e4 : chi 2 4 = 97 := by decide
  rw [e5, fit_of (by omega), er_of (by omega)] at p2
  rw [e4, fit_of (by omega), er_of (by omega)] at c2
  obtain ⟨⟨n, e⟩, k1, k2⟩ := rank_walk 2 8 false false (by omega) (by intro h; cases h) (by omega) (by decide) (by rw [Bool.and_eq_true]; exact ⟨by decide, decide_eq_true (Nat.le_trans (bl_le.2 (show (8 : Int).natAbs < 2 ^ 4 by decide)) (by decide))⟩) 9 (by decide)
  have hn : n = 4 ∧ e = 0 := by
    rcases k2 with ⟨a1, a2, a3, a4, a5⟩ | ⟨a1, a2⟩
    · dsimp only at a1 a2 a3 a4 a5
      refine ⟨?_, a3⟩
      have h4 : ¬ 4 < n := fun h => a5 4 (by decide) h (by decide)
      have : n = 1 ∨ n = 2 ∨ n = 3 ∨ n = 4 := by omega
      rcases this with rfl | rfl | rfl | rfl
      · exact absurd a4 (by decide)
      · exact absurd a4 (by decide)
      · exact absurd a4 (by decide)
      · rfl
    · exact absurd (by decide) (a2 4 (by decide) (by decide))
  obtain ⟨rfl, rfl⟩ := hn
  have s1 := rSame_spec fp 209 false 209 (by omega) (by omega)
  have s2 := rSame_spec fc 97 false 97 (by omega) (by omega)
  rw [decide_eq_true rfl] at s1 s2
  clear p1 c1 k2
  simp only [Int.cast_ofNat_Int] at p2 c2 k1
  simp (maxSteps := 4000000) only [go_sem, ↓reduceIte, Nat.reduceAdd, Nat.reduceSub, Nat.reduceMul, Nat.reduceEqDiff, reduceCtorEq, Int.reduceAdd, Int.reduceLT, Int.reduceLE, Int.reduceToNat, Int.reduceNeg, Int.reduceSub, ← List.map_take, ← List.map_drop, ne_eq, Nat.reduceLeDiff, Nat.reduceLT, Nat.zero_le, Nat.le_refl, wrap64, wrapu64, wrapu32, ← Int.natCast_add, ← Int.natCast_mul, cast_succ, wrapu32_nat, shr32, reps_wd, map_set_wd, List.length_set, zs_len, Try.f14, r2, r8, p2, c2, k1]
  refine W_drawn ?_
  simp (maxSteps := 4000000) only [go_sem, ↓reduceIte, Nat.reduceAdd, Nat.reduceSub, Nat.reduceMul, Nat.reduceEqDiff, reduceCtorEq, Int.reduceAdd, Int.reduceLT, Int.reduceLE, Int.reduceToNat, Int.reduceNeg, Int.reduceSub, ← List.map_take, ← List.map_drop, ne_eq, Nat.reduceLeDiff, Nat.reduceLT, Nat.zero_le, Nat.le_refl, wrap64, wrapu64, wrapu32, ← Int.natCast_add, ← Int.natCast_mul, cast_succ, wrapu32_nat, shr32, reps_wd, map_set_wd, List.length_set, zs_len, r209, r97, s1, s2, Int.reduceEq]
  refine okR_pairs ?_; (repeat ((with_unfolding_all refine And.intro ?_ ?_); (focus (rw [free_mk] <;> (try simp) <;> (try omega))))); (with_unfolding_all exact True.intro)
end Go.Proofs.Ytmgmcnoobgljpaa
