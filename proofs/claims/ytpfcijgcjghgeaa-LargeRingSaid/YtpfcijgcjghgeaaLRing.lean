/- The law LargeRing. (Own work of this repo.) -/
import Derived.Test.YtpfcijgcjghgeaaLaw1
import Derived.Test.YtpfcijgcjghgeaaAwake
import Derived.Test.YtpfcijgcjghgeaaRLargeRing
set_option linter.unusedVariables false
set_option linter.unusedSimpArgs false
namespace Go.Proofs.Ytpfcijgcjghgeaa
open Vm
set_option maxRecDepth 10000

set_option maxHeartbeats 4000000 in
theorem largeRing_walk (qa qb qc : Raw) (ra : InR qa.2.2) (rb : InR qb.2.2) (rc : InR qc.2.2) :
    denP E 4 [ivr qa, ivr qb, ivr qc] = some (.ret (.bool true)) := by
  have hlt := light_walk 1000 [qa, qb, qc] (by simp) (by decide)
  simp only [List.map_cons, List.map_nil, Int.cast_ofNat_Int] at hlt
  refine denP_eq E4 rfl (by simp [AV.pureL, AV.pure, pure_wd]) ?_
  by_cases hl : [qa, qb, qc].all (lightW 1000) = true
  · rw [hl] at hlt
    simp only [List.all_cons, List.all_nil, Bool.and_true, Bool.and_eq_true] at hl
    obtain ⟨h1, h2, h3⟩ := hl
    obtain ⟨ka, _, a, ea, da⟩ := light_norm ra h1
    obtain ⟨kb, _, b, eb, db⟩ := light_norm rb h2
    obtain ⟨kc, _, c, ec, dc⟩ := light_norm rc h3
    rw [← da] at ka; rw [← db] at kb; rw [← dc] at kc
    rw [ea, eb, ec] at hlt ⊢
    generalize qa.2.1 = ma at *
    generalize qb.2.1 = mb at *
    generalize qc.2.1 = mc at *
    clear ea eb ec da db dc ra rb rc h1 h2 h3
    have l1 := dg_add a b
    have l2 := dg_add b c
    have l2' := dg_add b a
    have l3 := dg_add (a + b) c
    have l4 := dg_add a (b + c)
    have l5 := dg_sub (a + b) b
    have l6 := dg_mul a b
    have l7 := dg_mul b a
    have l8 := dg_mul b c
    have l9 := dg_mul (a * b) c
    have l10 := dg_mul a (b * c)
    have l11 := dg_mul a (b + c)
    have l12 := dg_mul a c
    have l13 := dg_add (a * b) (a * c)
    have a1 := ladd_spec ma a mb b (by omega) (by omega) (by omega)
    have a2 := ladd_spec mb b ma a (by omega) (by omega) (by omega)
    have a3 := ladd_spec mb b mc c (by omega) (by omega) (by omega)
    have a4 := ladd_spec false (a + b) mc c (by omega) (by omega) (by omega)
    have a5 := ladd_spec ma a false (b + c) (by omega) (by omega) (by omega)
    have a6 := lsub_spec false (a + b) mb b (by omega) (by omega) (by omega)
    have m1 := lmul_spec ma a mb b (by omega) (by omega) (by omega)
    have m2 := lmul_spec mb b ma a (by omega) (by omega) (by omega)
    have m3 := lmul_spec mb b mc c (by omega) (by omega) (by omega)
    have m4 := lmul_spec (mz a b) (a * b) mc c (by omega) (by omega) (by omega)
    have m5 := lmul_spec ma a (mz b c) (b * c) (by omega) (by omega) (by omega)
    have m6 := lmul_spec ma a false (b + c) (by omega) (by omega) (by omega)
    have m7 := lmul_spec ma a mc c (by omega) (by omega) (by omega)
    have a7 := ladd_spec (mz a b) (a * b) (mz a c) (a * c) (by omega) (by omega) (by omega)
    have s1 := rSame_spec false (a + b) false (b + a) (by omega) (by omega)
    have s2 := rSame_spec false (a + b + c) false (a + (b + c)) (by omega) (by omega)
    have s3 := rSame_spec false (a + b - b) ma a (by omega) (by omega)
    have s4 := rSame_spec (mz a b) (a * b) (mz b a) (b * a) (by omega) (by omega)
    have s5 := rSame_spec (mz (a * b) c) (a * b * c) (mz a (b * c)) (a * (b * c)) (by omega) (by omega)
    have s6 := rSame_spec (mz a (b + c)) (a * (b + c)) false (a * b + a * c) (by omega) (by omega)
    rw [decide_eq_true (by omega)] at s1 s2 s3
    rw [decide_eq_true (Int.mul_comm a b)] at s4
    rw [decide_eq_true (Int.mul_assoc a b c)] at s5
    rw [decide_eq_true (Int.mul_add a b c)] at s6
    clear l1 l2 l2' l3 l4 l5 l6 l7 l8 l9 l10 l11 l12 l13
    simp (maxSteps := 4000000) (disch := omega) only [↓reduceIte, Rc_nil, Rc_cons, reK_val, reK_skip, rcK_ret, raK_some, rtK_some, rtK_none, rwK_t, rwK_f, List.map_cons, W_seq, W_block, W_region, W_skip, W_ret, W_exit, thenK_norm, thenK_exit, thenK_ret, thenK_panic, blockK_norm, blockK_exit, blockK_ret, blockK_panic, loopK_norm, loopK_exit, loopK_ret, loopK_panic, retK_ret, retK_norm, resK_some, purK_some, W_cond', condK_t, condK_f, Rg_nil, Rg_cons, wantK_t, wantK_f, targK_none, targK_some, effK_val, effK_skip, effK_panic, argK_some, callK_ret, callK_panic, openK_ret, openK_panic, want, target, opEff, ev, evs, evo, evps, Option.map_some, Option.map_none, Option.isSome_none, Option.isNone_some, Option.isNone_none, Int.toNat_natCast, Int.toNat_zero, Int.toNat_one, Int.natCast_zero, List.drop_zero, Option.isSome_some, put, List.set_cons_zero, List.set_cons_succ, List.getD_cons_zero, List.getD_cons_succ, List.getElem?_cons_zero, List.getElem?_cons_succ, ofConst, scalConst, Eff.v, Heap.upds, Bool.false_eq_true, if_false, if_true, builtinEff, binEff, bothInt, intBin, loadEff, storeEff, beq_self_eq_true, Bool.and_self, Bool.true_and, Bool.and_true, Bool.false_and, Bool.and_false, Bool.not_true, Bool.not_false, resOf, one, Nat.reduceAdd, Nat.reduceSub, Nat.reduceMul, Nat.zero_add, Nat.mul_one, Nat.zero_mul, List.replicate, Nat.reduceEqDiff, reduceCtorEq, eqOf, AV.cells, List.length_cons, List.length_nil, inRange, beq_true, beq_false, Bool.true_beq, Bool.false_beq, decide_true, decide_false, decide_eq_true_eq, not_true_eq_false, not_false_eq_true, List.append_nil, List.nil_append, List.cons_append, Vm.undef, Int.reduceAdd, Int.reduceLT, Int.reduceLE, Int.reduceToNat, Int.reduceNeg, Int.reduceSub, Int.cast_ofNat_Int, Bool.or_true, Bool.true_or, Bool.or_false, Bool.false_or, purify_wd, purify_lnil, List.map_nil, purify_ref, refP_wd, flat_wd, purify_agg, purify_tup, purify_int, purify_bool, purify_str, purify_nilf, purify_fn, mapL_nil, mapL_cons, pure_wd, upd_apply, setCells_cons, setCells_nil, freezes, iv, deep, List.all_cons, List.all_nil, AV.scal, List.take_succ_cons, List.take_zero, List.drop_succ_cons, List.take_nil, List.drop_nil, true_or, or_true, or_self, false_or, or_false, and_true, true_and, and_self, ite_self, ← List.map_take, ← List.map_drop, RI, RM, I, if_pos, if_neg, decide_eq_true, decide_eq_false, wrap64, wrapu64, wrapu32, get_wd, get_wd', wd, List.length_map, opn_eq, T1, T2, T3, T4, T5, T6, T7, T8, T9, T10, T11, T12, T13, T14, T15, T16, T17, T18, T19, T20, T21, T22, T23, T25, T26, T27, T28, T29, T30, T31, T32, T33, T35, T36, T37, T39, T41, T42, T43, T44, T45, T46, T47, T48, T49, T50, T51, T52, T54, T56, T58, T59, T61, T62, T64, T65, T66, T67, T68, T69, T70, T71, T72, T73, T74, T76, T77, T78, T79, T80, T81, T82, T83, T84, T85, T87, T88, T89, T91, T92, T93, T95, T97, T98, T100, T101, T102, T103, T104, T105, T106, T107, T108, T109, T110, T111, T112, T113, T114, T115, T116, T117, T118, T119, T120, T121, T122, Try.f4, fillAll, reps, refP, elems, hlt, a1, a2, a3, a4, a5, a6, s1, s2, s3, m1, m2, m3, m4, m5, m6, m7, a7, s4, s5, s6, awake14]
  · rw [Bool.not_eq_true] at hl
    rw [hl] at hlt
    simp only [ivr, iv] at hlt
    simp (maxSteps := 4000000) (disch := omega) only [↓reduceIte, Rc_nil, Rc_cons, reK_val, reK_skip, rcK_ret, raK_some, rtK_some, rtK_none, rwK_t, rwK_f, List.map_cons, W_seq, W_block, W_region, W_skip, W_ret, W_exit, thenK_norm, thenK_exit, thenK_ret, thenK_panic, blockK_norm, blockK_exit, blockK_ret, blockK_panic, loopK_norm, loopK_exit, loopK_ret, loopK_panic, retK_ret, retK_norm, resK_some, purK_some, W_cond', condK_t, condK_f, Rg_nil, Rg_cons, wantK_t, wantK_f, targK_none, targK_some, effK_val, effK_skip, effK_panic, argK_some, callK_ret, callK_panic, openK_ret, openK_panic, want, target, opEff, ev, evs, evo, evps, Option.map_some, Option.map_none, Option.isSome_none, Option.isNone_some, Option.isNone_none, Int.toNat_natCast, Int.toNat_zero, Int.toNat_one, Int.natCast_zero, List.drop_zero, Option.isSome_some, put, List.set_cons_zero, List.set_cons_succ, List.getD_cons_zero, List.getD_cons_succ, List.getElem?_cons_zero, List.getElem?_cons_succ, ofConst, scalConst, Eff.v, Heap.upds, Bool.false_eq_true, if_false, if_true, builtinEff, binEff, bothInt, intBin, loadEff, storeEff, beq_self_eq_true, Bool.and_self, Bool.true_and, Bool.and_true, Bool.false_and, Bool.and_false, Bool.not_true, Bool.not_false, resOf, one, Nat.reduceAdd, Nat.reduceSub, Nat.reduceMul, Nat.zero_add, Nat.mul_one, Nat.zero_mul, List.replicate, Nat.reduceEqDiff, reduceCtorEq, eqOf, AV.cells, List.length_cons, List.length_nil, inRange, beq_true, beq_false, Bool.true_beq, Bool.false_beq, decide_true, decide_false, decide_eq_true_eq, not_true_eq_false, not_false_eq_true, List.append_nil, List.nil_append, List.cons_append, Vm.undef, Int.reduceAdd, Int.reduceLT, Int.reduceLE, Int.reduceToNat, Int.reduceNeg, Int.reduceSub, Int.cast_ofNat_Int, Bool.or_true, Bool.true_or, Bool.or_false, Bool.false_or, purify_wd, purify_lnil, List.map_nil, purify_ref, refP_wd, flat_wd, purify_agg, purify_tup, purify_int, purify_bool, purify_str, purify_nilf, purify_fn, mapL_nil, mapL_cons, pure_wd, upd_apply, setCells_cons, setCells_nil, freezes, iv, deep, List.all_cons, List.all_nil, AV.scal, List.take_succ_cons, List.take_zero, List.drop_succ_cons, List.take_nil, List.drop_nil, true_or, or_true, or_self, false_or, or_false, and_true, true_and, and_self, ite_self, ← List.map_take, ← List.map_drop, RI, RM, I, if_pos, if_neg, decide_eq_true, decide_eq_false, wrap64, wrapu64, wrapu32, get_wd, get_wd', wd, List.length_map, opn_eq, T1, T2, T3, T4, T5, T6, T7, T8, T9, T10, T11, T12, T13, T14, T15, T16, T17, T18, T19, T20, T21, T22, T23, T25, T26, T27, T28, T29, T30, T31, T32, T33, T35, T36, T37, T39, T41, T42, T43, T44, T45, T46, T47, T48, T49, T50, T51, T52, T54, T56, T58, T59, T61, T62, T64, T65, T66, T67, T68, T69, T70, T71, T72, T73, T74, T76, T77, T78, T79, T80, T81, T82, T83, T84, T85, T87, T88, T89, T91, T92, T93, T95, T97, T98, T100, T101, T102, T103, T104, T105, T106, T107, T108, T109, T110, T111, T112, T113, T114, T115, T116, T117, T118, T119, T120, T121, T122, Try.f4, ivr, fillAll, reps, refP, elems, hlt, awake14]
theorem largeRing_pure : largeRing.Pure := by
  intro xs h
  simp only [FitArgs, opn_eq, T1, T2, T3, T4, T5, T6, T7, T8, T9, T10, T11, T12, T13, T14, T15, T16, T17, T18, T19, T20, T21, T22, T23, T25, T26, T27, T28, T29, T30, T31, T32, T33, T35, T36, T37, T39, T41, T42, T43, T44, T45, T46, T47, T48, T49, T50, T51, T52, T54, T56, T58, T59, T61, T62, T64, T65, T66, T67, T68, T69, T70, T71, T72, T73, T74, T76, T77, T78, T79, T80, T81, T82, T83, T84, T85, T87, T88, T89, T91, T92, T93, T95, T97, T98, T100, T101, T102, T103, T104, T105, T106, T107, T108, T109, T110, T111, T112, T113, T114, T115, T116, T117, T118, T119, T120, T121, T122, elm] at h
  obtain ⟨c1, x1, y1, rfl, ⟨rfl, h1⟩, c2, x2, y2, rfl, ⟨rfl, h2⟩, c3, x3, y3, rfl, ⟨rfl, h3⟩, rfl⟩ := h
  obtain ⟨qa, rfl, ra, na, la⟩ := fit_raw (m := 3) h1
  obtain ⟨qb, rfl, rb, nb, lb⟩ := fit_raw (m := 3) h2
  obtain ⟨qc, rfl, rc, nc, lc⟩ := fit_raw (m := 3) h3
  exact largeRing_walk qa qb qc ra rb rc
theorem largeRing_holds : Rows.LargeRingSaid := largeRing.over largeRing_pure
#print axioms largeRing_holds
end Go.Proofs.Ytpfcijgcjghgeaa
