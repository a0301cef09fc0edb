/- Walks: Shift. (Own work of this repo.) -/
import Derived.Test.YtpfcijgcjghgeaaSh2
import Derived.Test.YtpfcijgcjghgeaaOf
import Derived.Test.YtpfcijgcjghgeaaNat1
set_option linter.unusedVariables false
set_option linter.unusedSimpArgs false
namespace Go.Proofs.Ytpfcijgcjghgeaa
open Vm
set_option maxRecDepth 10000

theorem floor_neg (y c : Nat) (hc : 0 < c) : (-(y : Int)) / (c : Int) = -((y / c + (if y % c = 0 then 0 else 1) : Nat) : Int) := by
  have h := Nat.div_add_mod y c
  have hm := Nat.mod_lt y hc
  generalize y / c = q at *
  generalize y % c = r at *
  have hy : (y : Int) = c * q + r := by rw [← h]; push_cast; rfl
  have hc' : (0 : Int) < c := by omega
  by_cases h0 : r = 0
  · rw [if_pos h0, hy, h0]
    rw [show -((c : Int) * q + ((0 : Nat) : Int)) = (c : Int) * (-(q : Int)) by rw [Int.mul_neg]; simp, Int.mul_ediv_cancel_left _ (by omega)]
    simp
  · rw [if_neg h0, hy]
    rw [show -((c : Int) * q + r) = (c - r) + (c : Int) * (-(q : Int) - 1) by rw [Int.mul_sub, Int.mul_neg]; omega, Int.add_mul_ediv_left _ _ (by omega), Int.ediv_eq_zero_of_lt (by omega) (by omega)]
    push_cast
    omega
theorem floor_pos (y c : Nat) : (y : Int) / (c : Int) = ((y / c : Nat) : Int) := by push_cast; rfl
theorem shl_abs (x : Int) (n : Nat) : sg (ng x) (x.natAbs * 2 ^ n) = x * 2 ^ n := by
  have e : ((2 ^ n : Nat) : Int) = 2 ^ n := by push_cast; rfl
  unfold sg
  by_cases h : x < 0
  · rw [if_pos (ng_true.2 h)]
    rw [show x * 2 ^ n = -(-x * 2 ^ n) by rw [Int.neg_mul, Int.neg_neg], show -x = ((x.natAbs : Nat) : Int) by omega]
    push_cast; rfl
  · rw [if_neg (by rw [Bool.not_eq_true]; exact ng_false.2 (by omega))]
    rw [show x * 2 ^ n = ((x.natAbs : Nat) : Int) * 2 ^ n by rw [show ((x.natAbs : Nat) : Int) = x by omega]]
    push_cast; rfl
theorem valid_len {x : Int} {k : Nat} (h : (dg x).length ≤ k) : x.natAbs < 2 ^ (32 * k) := by
  have := dg_len.1 h
  rwa [show BB = 2 ^ 32 from rfl, ← Nat.pow_mul] at this
theorem shl_no {x : Int} {n k : Nat} (hx : x ≠ 0) (h : 32 * k ≤ n) : ¬ (dg (x * 2 ^ n)).length ≤ k := by
  intro hl
  have h1 := valid_len hl
  rw [Int.natAbs_mul, Int.natAbs_pow] at h1
  have h4 : 2 ^ (32 * k) ≤ 2 ^ n := Nat.pow_le_pow_right (by decide) h
  have h5 : 1 * 2 ^ n ≤ x.natAbs * 2 ^ n := Nat.mul_le_mul_right _ (by omega)
  rw [Nat.one_mul] at h5
  exact absurd (Nat.lt_of_le_of_lt (Nat.le_trans h4 h5) h1) (Nat.lt_irrefl _)
theorem floor_far {x : Int} {n m k : Nat} (hx : (dg x).length ≤ k) (hn : 32 * k ≤ n) (hm : 32 * k ≤ m) : x / 2 ^ n = x / 2 ^ m := by
  have hv := valid_len hx
  have hv2 : x.natAbs < 2 ^ n := Nat.lt_of_lt_of_le hv (Nat.pow_le_pow_right (by decide) hn)
  have hv1 : x.natAbs < 2 ^ m := Nat.lt_of_lt_of_le hv (Nat.pow_le_pow_right (by decide) hm)
  have p1 : ((2 ^ n : Nat) : Int) = 2 ^ n := by push_cast; rfl
  have p2 : ((2 ^ m : Nat) : Int) = 2 ^ m := by push_cast; rfl
  rw [← p1, ← p2]
  rcases Int.natAbs_eq x with h | h
  · rw [h, floor_pos, floor_pos, Nat.div_eq_of_lt hv1, Nat.div_eq_of_lt hv2]
  · rw [h, floor_neg _ _ (Nat.pow_pos (by decide)), floor_neg _ _ (Nat.pow_pos (by decide)), Nat.div_eq_of_lt hv1, Nat.div_eq_of_lt hv2, Nat.mod_eq_of_lt hv1, Nat.mod_eq_of_lt hv2]
theorem len_ge {x : Int} {k : Nat} (h : BB ^ k ≤ x.natAbs) : k < (dg x).length := by
  rcases Nat.lt_or_ge k (dg x).length with h1 | h1
  · exact h1
  · have := dg_len.1 h1; omega
theorem dig_shl (a n : Nat) : (dig (a * 2 ^ n)).length ≤ (dig a).length + (n / 32 + 1) := by
  have h := dig_mul a (2 ^ n)
  have h2 : (dig (2 ^ n)).length ≤ n / 32 + 1 := by
    rw [dig_len, show BB = 2 ^ 32 from rfl, ← Nat.pow_mul]
    exact Nat.pow_lt_pow_right (by decide) (by omega)
  omega
theorem shift_pos (m : Bool) (x : Int) (n : Nat) (hx : (dg x).length ≤ 4096) (hn : n < 2 ^ 63) : denP E 34 [I m x, .int .i64 n] = some (.ret (RI (decide (x = 0)) (x * 2 ^ n))) := by
  refine denP_eq E34 rfl (by simp [AV.pureL, AV.pure, pure_wd]) ?_
  have h1 := valid_I m x hx
  by_cases h0 : x = 0
  · subst h0
    have e2 : (dg 0).length = 0 := dg_len0.2 rfl
    have e3 : (0 : Int) * 2 ^ n = 0 := Int.zero_mul _
    rw [e3, RI, fit_of (by omega), er_of (by omega), fm_of (by omega), decide_eq_true rfl]
    simp only [I, ng_zero, dg_zero, List.map_nil] at h1
    simp (maxSteps := 4000000) (disch := omega) only [↓reduceIte, Rc_nil, Rc_cons, reK_val, reK_skip, rcK_ret, raK_some, rtK_some, rtK_none, rwK_t, rwK_f, List.map_cons, W_seq, W_block, W_region, W_skip, W_ret, W_exit, thenK_norm, thenK_exit, thenK_ret, thenK_panic, blockK_norm, blockK_exit, blockK_ret, blockK_panic, loopK_norm, loopK_exit, loopK_ret, loopK_panic, retK_ret, retK_norm, resK_some, purK_some, W_cond', condK_t, condK_f, Rg_nil, Rg_cons, wantK_t, wantK_f, targK_none, targK_some, effK_val, effK_skip, effK_panic, argK_some, callK_ret, callK_panic, openK_ret, openK_panic, want, target, opEff, ev, evs, evo, evps, Option.map_some, Option.map_none, Option.isSome_none, Option.isNone_some, Option.isNone_none, Int.toNat_natCast, Int.toNat_zero, Int.toNat_one, Int.natCast_zero, List.drop_zero, Option.isSome_some, put, List.set_cons_zero, List.set_cons_succ, List.getD_cons_zero, List.getD_cons_succ, List.getElem?_cons_zero, List.getElem?_cons_succ, ofConst, scalConst, Eff.v, Heap.upds, Bool.false_eq_true, if_false, if_true, builtinEff, binEff, bothInt, intBin, loadEff, storeEff, beq_self_eq_true, Bool.and_self, Bool.true_and, Bool.and_true, Bool.false_and, Bool.and_false, Bool.not_true, Bool.not_false, resOf, one, Nat.reduceAdd, Nat.reduceSub, Nat.reduceMul, Nat.zero_add, Nat.mul_one, Nat.zero_mul, List.replicate, Nat.reduceEqDiff, reduceCtorEq, eqOf, AV.cells, List.length_cons, List.length_nil, inRange, beq_true, beq_false, Bool.true_beq, Bool.false_beq, decide_true, decide_false, decide_eq_true_eq, not_true_eq_false, not_false_eq_true, List.append_nil, List.nil_append, List.cons_append, Vm.undef, Int.reduceAdd, Int.reduceLT, Int.reduceLE, Int.reduceToNat, Int.reduceNeg, Int.reduceSub, Int.cast_ofNat_Int, Bool.or_true, Bool.true_or, Bool.or_false, Bool.false_or, purify_wd, purify_lnil, List.map_nil, purify_ref, refP_wd, flat_wd, purify_agg, purify_tup, purify_int, purify_bool, purify_str, purify_nilf, purify_fn, mapL_nil, mapL_cons, pure_wd, upd_apply, setCells_cons, setCells_nil, freezes, iv, deep, List.all_cons, List.all_nil, AV.scal, List.take_succ_cons, List.take_zero, List.drop_succ_cons, List.take_nil, List.drop_nil, true_or, or_true, or_self, false_or, or_false, and_true, true_and, and_self, ite_self, ← List.map_take, ← List.map_drop, RI, RM, I, retO_ret, retO_norm, resO_some, if_pos, if_neg, decide_eq_true, decide_eq_false, wrap64, wrapu64, wrapu32, get_wd, get_wd', wd, List.length_map, opn_eq, T1, T2, T3, T4, T5, T6, T7, T8, T9, T10, T11, T12, T13, T14, T15, T16, T17, T18, T19, T20, T21, T22, T23, T25, T26, T27, T28, T29, T30, T31, T32, T33, T35, T36, T37, T39, T41, T42, T43, T44, T45, T46, T47, T48, T49, T50, T51, T52, T54, T56, T58, T59, T61, T62, T64, T65, T66, T67, T68, T69, T70, T71, T72, T73, T74, T76, T77, T78, T79, T80, T81, T82, T83, T84, T85, T87, T88, T89, T91, T92, T93, T95, T97, T98, T100, T101, T102, T103, T104, T105, T106, T107, T108, T109, T110, T111, T112, T113, T114, T115, T116, T117, T118, T119, T120, T121, T122, Try.f34, h1, places, fillAll, ng_zero, dg_zero]
  · have hl := dg_pos.2 h0
    rw [decide_eq_false h0]
    by_cases h2 : 131072 < n
    · have h3 : ¬ (dg (x * 2 ^ n)).length ≤ 4096 := shl_no h0 (by omega)
      rw [RI, fit_no h3, er_no h3, fm_no h3]
      clear h3
      simp (maxSteps := 4000000) (disch := omega) only [↓reduceIte, Rc_nil, Rc_cons, reK_val, reK_skip, rcK_ret, raK_some, rtK_some, rtK_none, rwK_t, rwK_f, List.map_cons, W_seq, W_block, W_region, W_skip, W_ret, W_exit, thenK_norm, thenK_exit, thenK_ret, thenK_panic, blockK_norm, blockK_exit, blockK_ret, blockK_panic, loopK_norm, loopK_exit, loopK_ret, loopK_panic, retK_ret, retK_norm, resK_some, purK_some, W_cond', condK_t, condK_f, Rg_nil, Rg_cons, wantK_t, wantK_f, targK_none, targK_some, effK_val, effK_skip, effK_panic, argK_some, callK_ret, callK_panic, openK_ret, openK_panic, want, target, opEff, ev, evs, evo, evps, Option.map_some, Option.map_none, Option.isSome_none, Option.isNone_some, Option.isNone_none, Int.toNat_natCast, Int.toNat_zero, Int.toNat_one, Int.natCast_zero, List.drop_zero, Option.isSome_some, put, List.set_cons_zero, List.set_cons_succ, List.getD_cons_zero, List.getD_cons_succ, List.getElem?_cons_zero, List.getElem?_cons_succ, ofConst, scalConst, Eff.v, Heap.upds, Bool.false_eq_true, if_false, if_true, builtinEff, binEff, bothInt, intBin, loadEff, storeEff, beq_self_eq_true, Bool.and_self, Bool.true_and, Bool.and_true, Bool.false_and, Bool.and_false, Bool.not_true, Bool.not_false, resOf, one, Nat.reduceAdd, Nat.reduceSub, Nat.reduceMul, Nat.zero_add, Nat.mul_one, Nat.zero_mul, List.replicate, Nat.reduceEqDiff, reduceCtorEq, eqOf, AV.cells, List.length_cons, List.length_nil, inRange, beq_true, beq_false, Bool.true_beq, Bool.false_beq, decide_true, decide_false, decide_eq_true_eq, not_true_eq_false, not_false_eq_true, List.append_nil, List.nil_append, List.cons_append, Vm.undef, Int.reduceAdd, Int.reduceLT, Int.reduceLE, Int.reduceToNat, Int.reduceNeg, Int.reduceSub, Int.cast_ofNat_Int, Bool.or_true, Bool.true_or, Bool.or_false, Bool.false_or, purify_wd, purify_lnil, List.map_nil, purify_ref, refP_wd, flat_wd, purify_agg, purify_tup, purify_int, purify_bool, purify_str, purify_nilf, purify_fn, mapL_nil, mapL_cons, pure_wd, upd_apply, setCells_cons, setCells_nil, freezes, iv, deep, List.all_cons, List.all_nil, AV.scal, List.take_succ_cons, List.take_zero, List.drop_succ_cons, List.take_nil, List.drop_nil, true_or, or_true, or_self, false_or, or_false, and_true, true_and, and_self, ite_self, ← List.map_take, ← List.map_drop, RI, RM, I, retO_ret, retO_norm, resO_some, if_pos, if_neg, decide_eq_true, decide_eq_false, wrap64, wrapu64, wrapu32, get_wd, get_wd', wd, List.length_map, opn_eq, T1, T2, T3, T4, T5, T6, T7, T8, T9, T10, T11, T12, T13, T14, T15, T16, T17, T18, T19, T20, T21, T22, T23, T25, T26, T27, T28, T29, T30, T31, T32, T33, T35, T36, T37, T39, T41, T42, T43, T44, T45, T46, T47, T48, T49, T50, T51, T52, T54, T56, T58, T59, T61, T62, T64, T65, T66, T67, T68, T69, T70, T71, T72, T73, T74, T76, T77, T78, T79, T80, T81, T82, T83, T84, T85, T87, T88, T89, T91, T92, T93, T95, T97, T98, T100, T101, T102, T103, T104, T105, T106, T107, T108, T109, T110, T111, T112, T113, T114, T115, T116, T117, T118, T119, T120, T121, T122, Try.f34, h1, places, fillAll, ng_zero, dg_zero]
    · have h3 := left_spec m (dg x) n (dg_inR x) (by omega) (by omega)
      rw [val_dg, decide_eq_false (by omega)] at h3
      have h4 := dig_shl x.natAbs n
      have h5 := made_dig (ng x) false (x.natAbs * 2 ^ n) (by simp) (by unfold dg at hx; omega)
      rw [shl_abs] at h5
      clear h4
      simp (maxSteps := 4000000) (disch := omega) only [↓reduceIte, Rc_nil, Rc_cons, reK_val, reK_skip, rcK_ret, raK_some, rtK_some, rtK_none, rwK_t, rwK_f, List.map_cons, W_seq, W_block, W_region, W_skip, W_ret, W_exit, thenK_norm, thenK_exit, thenK_ret, thenK_panic, blockK_norm, blockK_exit, blockK_ret, blockK_panic, loopK_norm, loopK_exit, loopK_ret, loopK_panic, retK_ret, retK_norm, resK_some, purK_some, W_cond', condK_t, condK_f, Rg_nil, Rg_cons, wantK_t, wantK_f, targK_none, targK_some, effK_val, effK_skip, effK_panic, argK_some, callK_ret, callK_panic, openK_ret, openK_panic, want, target, opEff, ev, evs, evo, evps, Option.map_some, Option.map_none, Option.isSome_none, Option.isNone_some, Option.isNone_none, Int.toNat_natCast, Int.toNat_zero, Int.toNat_one, Int.natCast_zero, List.drop_zero, Option.isSome_some, put, List.set_cons_zero, List.set_cons_succ, List.getD_cons_zero, List.getD_cons_succ, List.getElem?_cons_zero, List.getElem?_cons_succ, ofConst, scalConst, Eff.v, Heap.upds, Bool.false_eq_true, if_false, if_true, builtinEff, binEff, bothInt, intBin, loadEff, storeEff, beq_self_eq_true, Bool.and_self, Bool.true_and, Bool.and_true, Bool.false_and, Bool.and_false, Bool.not_true, Bool.not_false, resOf, one, Nat.reduceAdd, Nat.reduceSub, Nat.reduceMul, Nat.zero_add, Nat.mul_one, Nat.zero_mul, List.replicate, Nat.reduceEqDiff, reduceCtorEq, eqOf, AV.cells, List.length_cons, List.length_nil, inRange, beq_true, beq_false, Bool.true_beq, Bool.false_beq, decide_true, decide_false, decide_eq_true_eq, not_true_eq_false, not_false_eq_true, List.append_nil, List.nil_append, List.cons_append, Vm.undef, Int.reduceAdd, Int.reduceLT, Int.reduceLE, Int.reduceToNat, Int.reduceNeg, Int.reduceSub, Int.cast_ofNat_Int, Bool.or_true, Bool.true_or, Bool.or_false, Bool.false_or, purify_wd, purify_lnil, List.map_nil, purify_ref, refP_wd, flat_wd, purify_agg, purify_tup, purify_int, purify_bool, purify_str, purify_nilf, purify_fn, mapL_nil, mapL_cons, pure_wd, upd_apply, setCells_cons, setCells_nil, freezes, iv, deep, List.all_cons, List.all_nil, AV.scal, List.take_succ_cons, List.take_zero, List.drop_succ_cons, List.take_nil, List.drop_nil, true_or, or_true, or_self, false_or, or_false, and_true, true_and, and_self, ite_self, ← List.map_take, ← List.map_drop, RI, RM, I, retO_ret, retO_norm, resO_some, if_pos, if_neg, decide_eq_true, decide_eq_false, wrap64, wrapu64, wrapu32, get_wd, get_wd', wd, List.length_map, opn_eq, T1, T2, T3, T4, T5, T6, T7, T8, T9, T10, T11, T12, T13, T14, T15, T16, T17, T18, T19, T20, T21, T22, T23, T25, T26, T27, T28, T29, T30, T31, T32, T33, T35, T36, T37, T39, T41, T42, T43, T44, T45, T46, T47, T48, T49, T50, T51, T52, T54, T56, T58, T59, T61, T62, T64, T65, T66, T67, T68, T69, T70, T71, T72, T73, T74, T76, T77, T78, T79, T80, T81, T82, T83, T84, T85, T87, T88, T89, T91, T92, T93, T95, T97, T98, T100, T101, T102, T103, T104, T105, T106, T107, T108, T109, T110, T111, T112, T113, T114, T115, T116, T117, T118, T119, T120, T121, T122, Try.f34, h1]
      refine W_drawn ?_
      simp (maxSteps := 4000000) (disch := omega) only [↓reduceIte, Rc_nil, Rc_cons, reK_val, reK_skip, rcK_ret, raK_some, rtK_some, rtK_none, rwK_t, rwK_f, List.map_cons, W_seq, W_block, W_region, W_skip, W_ret, W_exit, thenK_norm, thenK_exit, thenK_ret, thenK_panic, blockK_norm, blockK_exit, blockK_ret, blockK_panic, loopK_norm, loopK_exit, loopK_ret, loopK_panic, retK_ret, retK_norm, resK_some, purK_some, W_cond', condK_t, condK_f, Rg_nil, Rg_cons, wantK_t, wantK_f, targK_none, targK_some, effK_val, effK_skip, effK_panic, argK_some, callK_ret, callK_panic, openK_ret, openK_panic, want, target, opEff, ev, evs, evo, evps, Option.map_some, Option.map_none, Option.isSome_none, Option.isNone_some, Option.isNone_none, Int.toNat_natCast, Int.toNat_zero, Int.toNat_one, Int.natCast_zero, List.drop_zero, Option.isSome_some, put, List.set_cons_zero, List.set_cons_succ, List.getD_cons_zero, List.getD_cons_succ, List.getElem?_cons_zero, List.getElem?_cons_succ, ofConst, scalConst, Eff.v, Heap.upds, Bool.false_eq_true, if_false, if_true, builtinEff, binEff, bothInt, intBin, loadEff, storeEff, beq_self_eq_true, Bool.and_self, Bool.true_and, Bool.and_true, Bool.false_and, Bool.and_false, Bool.not_true, Bool.not_false, resOf, one, Nat.reduceAdd, Nat.reduceSub, Nat.reduceMul, Nat.zero_add, Nat.mul_one, Nat.zero_mul, List.replicate, Nat.reduceEqDiff, reduceCtorEq, eqOf, AV.cells, List.length_cons, List.length_nil, inRange, beq_true, beq_false, Bool.true_beq, Bool.false_beq, decide_true, decide_false, decide_eq_true_eq, not_true_eq_false, not_false_eq_true, List.append_nil, List.nil_append, List.cons_append, Vm.undef, Int.reduceAdd, Int.reduceLT, Int.reduceLE, Int.reduceToNat, Int.reduceNeg, Int.reduceSub, Int.cast_ofNat_Int, Bool.or_true, Bool.true_or, Bool.or_false, Bool.false_or, purify_wd, purify_lnil, List.map_nil, purify_ref, refP_wd, flat_wd, purify_agg, purify_tup, purify_int, purify_bool, purify_str, purify_nilf, purify_fn, mapL_nil, mapL_cons, pure_wd, upd_apply, setCells_cons, setCells_nil, freezes, iv, deep, List.all_cons, List.all_nil, AV.scal, List.take_succ_cons, List.take_zero, List.drop_succ_cons, List.take_nil, List.drop_nil, true_or, or_true, or_self, false_or, or_false, and_true, true_and, and_self, ite_self, ← List.map_take, ← List.map_drop, RI, RM, I, retO_ret, retO_norm, resO_some, if_pos, if_neg, decide_eq_true, decide_eq_false, wrap64, wrapu64, wrapu32, get_wd, get_wd', wd, List.length_map, opn_eq, T1, T2, T3, T4, T5, T6, T7, T8, T9, T10, T11, T12, T13, T14, T15, T16, T17, T18, T19, T20, T21, T22, T23, T25, T26, T27, T28, T29, T30, T31, T32, T33, T35, T36, T37, T39, T41, T42, T43, T44, T45, T46, T47, T48, T49, T50, T51, T52, T54, T56, T58, T59, T61, T62, T64, T65, T66, T67, T68, T69, T70, T71, T72, T73, T74, T76, T77, T78, T79, T80, T81, T82, T83, T84, T85, T87, T88, T89, T91, T92, T93, T95, T97, T98, T100, T101, T102, T103, T104, T105, T106, T107, T108, T109, T110, T111, T112, T113, T114, T115, T116, T117, T118, T119, T120, T121, T122, h3, h5]
      rfl
theorem shift_neg (m : Bool) (x : Int) (n : Nat) (hx : (dg x).length ≤ 4096) (hn : 0 < n) (hn2 : n ≤ 2 ^ 63) : ∃ f : Bool, denP E 34 [I m x, .int .i64 (-(n : Int))] = some (.ret (.tup [I f (x / 2 ^ n), .int .i64 0])) ∧ True := by
  refine denP_ex E34 rfl (by simp [AV.pureL, AV.pure, pure_wd]) ?_
  have h1 := valid_I m x hx
  by_cases h0 : x = 0
  · subst h0
    have e2 : (dg 0).length = 0 := dg_len0.2 rfl
    rw [Int.zero_ediv]
    simp only [I, ng_zero, dg_zero, List.map_nil] at h1
    simp (maxSteps := 4000000) (disch := omega) only [↓reduceIte, Rc_nil, Rc_cons, reK_val, reK_skip, rcK_ret, raK_some, rtK_some, rtK_none, rwK_t, rwK_f, List.map_cons, W_seq, W_block, W_region, W_skip, W_ret, W_exit, thenK_norm, thenK_exit, thenK_ret, thenK_panic, blockK_norm, blockK_exit, blockK_ret, blockK_panic, loopK_norm, loopK_exit, loopK_ret, loopK_panic, retK_ret, retK_norm, resK_some, purK_some, W_cond', condK_t, condK_f, Rg_nil, Rg_cons, wantK_t, wantK_f, targK_none, targK_some, effK_val, effK_skip, effK_panic, argK_some, callK_ret, callK_panic, openK_ret, openK_panic, want, target, opEff, ev, evs, evo, evps, Option.map_some, Option.map_none, Option.isSome_none, Option.isNone_some, Option.isNone_none, Int.toNat_natCast, Int.toNat_zero, Int.toNat_one, Int.natCast_zero, List.drop_zero, Option.isSome_some, put, List.set_cons_zero, List.set_cons_succ, List.getD_cons_zero, List.getD_cons_succ, List.getElem?_cons_zero, List.getElem?_cons_succ, ofConst, scalConst, Eff.v, Heap.upds, Bool.false_eq_true, if_false, if_true, builtinEff, binEff, bothInt, intBin, loadEff, storeEff, beq_self_eq_true, Bool.and_self, Bool.true_and, Bool.and_true, Bool.false_and, Bool.and_false, Bool.not_true, Bool.not_false, resOf, one, Nat.reduceAdd, Nat.reduceSub, Nat.reduceMul, Nat.zero_add, Nat.mul_one, Nat.zero_mul, List.replicate, Nat.reduceEqDiff, reduceCtorEq, eqOf, AV.cells, List.length_cons, List.length_nil, inRange, beq_true, beq_false, Bool.true_beq, Bool.false_beq, decide_true, decide_false, decide_eq_true_eq, not_true_eq_false, not_false_eq_true, List.append_nil, List.nil_append, List.cons_append, Vm.undef, Int.reduceAdd, Int.reduceLT, Int.reduceLE, Int.reduceToNat, Int.reduceNeg, Int.reduceSub, Int.cast_ofNat_Int, Bool.or_true, Bool.true_or, Bool.or_false, Bool.false_or, purify_wd, purify_lnil, List.map_nil, purify_ref, refP_wd, flat_wd, purify_agg, purify_tup, purify_int, purify_bool, purify_str, purify_nilf, purify_fn, mapL_nil, mapL_cons, pure_wd, upd_apply, setCells_cons, setCells_nil, freezes, iv, deep, List.all_cons, List.all_nil, AV.scal, List.take_succ_cons, List.take_zero, List.drop_succ_cons, List.take_nil, List.drop_nil, true_or, or_true, or_self, false_or, or_false, and_true, true_and, and_self, ite_self, ← List.map_take, ← List.map_drop, RI, RM, I, retO_ret, retO_norm, resO_some, if_pos, if_neg, decide_eq_true, decide_eq_false, wrap64, wrapu64, wrapu32, get_wd, get_wd', wd, List.length_map, opn_eq, T1, T2, T3, T4, T5, T6, T7, T8, T9, T10, T11, T12, T13, T14, T15, T16, T17, T18, T19, T20, T21, T22, T23, T25, T26, T27, T28, T29, T30, T31, T32, T33, T35, T36, T37, T39, T41, T42, T43, T44, T45, T46, T47, T48, T49, T50, T51, T52, T54, T56, T58, T59, T61, T62, T64, T65, T66, T67, T68, T69, T70, T71, T72, T73, T74, T76, T77, T78, T79, T80, T81, T82, T83, T84, T85, T87, T88, T89, T91, T92, T93, T95, T97, T98, T100, T101, T102, T103, T104, T105, T106, T107, T108, T109, T110, T111, T112, T113, T114, T115, T116, T117, T118, T119, T120, T121, T122, Try.f34, h1, places, fillAll, ng_zero, dg_zero]
    exact ⟨true, rfl⟩
  · have hl := dg_pos.2 h0
    -- how far
    obtain ⟨k, hk⟩ : ∃ k : Nat, k = min n 131072 := ⟨_, rfl⟩
    have e1 : 0 - (if -(n : Int) < -131072 then (-131072 : Int) else -(n : Int)) = (k : Int) := by split <;> omega
    have hfl : x / 2 ^ n = x / 2 ^ k := by
      by_cases hnk : n ≤ 131072
      · rw [show k = n by omega]
      · exact floor_far hx (by omega) (by omega)
    have hk3 : k ≤ 131072 := by omega
    have p2 : ((2 ^ k : Nat) : Int) = 2 ^ k := by push_cast; rfl
    have hc : 0 < 2 ^ k := Nat.pow_pos (by decide)
    rw [hfl, ← p2]
    have h3 := right_spec m (dg x) k (dg_norm x) (by omega) (by omega)
    rw [val_dg] at h3
    have hle : x.natAbs / 2 ^ k ≤ x.natAbs := Nat.div_le_self _ _
    have hl1 := dig_mono hle
    have hfn : decide ((dg x).length ≤ k / 32) = true → x.natAbs / 2 ^ k = 0 := by
      intro h
      rw [decide_eq_true_eq] at h
      have h4 : x.natAbs < BB ^ (k / 32) := dg_len.1 h
      refine Nat.div_eq_of_lt (Nat.lt_of_lt_of_le h4 ?_)
      rw [show BB = 2 ^ 32 from rfl, ← Nat.pow_mul]
      exact Nat.pow_le_pow_right (by decide) (by omega)
    cases hng : ng x with
    | false =>
      have hx0 := ng_false.1 hng
      have h4 := made_dig false (decide ((dg x).length ≤ k / 32)) (x.natAbs / 2 ^ k) hfn (by unfold dg at hx; omega)
      have e2 : sg false (x.natAbs / 2 ^ k) = x / ((2 ^ k : Nat) : Int) := by
        conv => rhs; rw [show x = ((x.natAbs : Nat) : Int) by omega, floor_pos]
        rfl
      rw [e2] at h4
      have h5 : (dg (x / ((2 ^ k : Nat) : Int))).length ≤ 4096 := by rw [← e2, dg_sg]; unfold dg at hx; omega
      simp only [RI, fit_of h5, er_of h5, fm_of h5] at h4
      simp only [I, hng] at h1
      generalize decide ((dg x).length ≤ k / 32) = fl at *
      generalize x / ((2 ^ k : Nat) : Int) = v at *
      generalize (!decide (x.natAbs % 2 ^ k = 0)) = lo at *
      clear hfl p2 hle hl1 e2 hfn hc
      simp (maxSteps := 4000000) (disch := omega) only [↓reduceIte, Rc_nil, Rc_cons, reK_val, reK_skip, rcK_ret, raK_some, rtK_some, rtK_none, rwK_t, rwK_f, List.map_cons, W_seq, W_block, W_region, W_skip, W_ret, W_exit, thenK_norm, thenK_exit, thenK_ret, thenK_panic, blockK_norm, blockK_exit, blockK_ret, blockK_panic, loopK_norm, loopK_exit, loopK_ret, loopK_panic, retK_ret, retK_norm, resK_some, purK_some, W_cond', condK_t, condK_f, Rg_nil, Rg_cons, wantK_t, wantK_f, targK_none, targK_some, effK_val, effK_skip, effK_panic, argK_some, callK_ret, callK_panic, openK_ret, openK_panic, want, target, opEff, ev, evs, evo, evps, Option.map_some, Option.map_none, Option.isSome_none, Option.isNone_some, Option.isNone_none, Int.toNat_natCast, Int.toNat_zero, Int.toNat_one, Int.natCast_zero, List.drop_zero, Option.isSome_some, put, List.set_cons_zero, List.set_cons_succ, List.getD_cons_zero, List.getD_cons_succ, List.getElem?_cons_zero, List.getElem?_cons_succ, ofConst, scalConst, Eff.v, Heap.upds, Bool.false_eq_true, if_false, if_true, builtinEff, binEff, bothInt, intBin, loadEff, storeEff, beq_self_eq_true, Bool.and_self, Bool.true_and, Bool.and_true, Bool.false_and, Bool.and_false, Bool.not_true, Bool.not_false, resOf, one, Nat.reduceAdd, Nat.reduceSub, Nat.reduceMul, Nat.zero_add, Nat.mul_one, Nat.zero_mul, List.replicate, Nat.reduceEqDiff, reduceCtorEq, eqOf, AV.cells, List.length_cons, List.length_nil, inRange, beq_true, beq_false, Bool.true_beq, Bool.false_beq, decide_true, decide_false, decide_eq_true_eq, not_true_eq_false, not_false_eq_true, List.append_nil, List.nil_append, List.cons_append, Vm.undef, Int.reduceAdd, Int.reduceLT, Int.reduceLE, Int.reduceToNat, Int.reduceNeg, Int.reduceSub, Int.cast_ofNat_Int, Bool.or_true, Bool.true_or, Bool.or_false, Bool.false_or, purify_wd, purify_lnil, List.map_nil, purify_ref, refP_wd, flat_wd, purify_agg, purify_tup, purify_int, purify_bool, purify_str, purify_nilf, purify_fn, mapL_nil, mapL_cons, pure_wd, upd_apply, setCells_cons, setCells_nil, freezes, iv, deep, List.all_cons, List.all_nil, AV.scal, List.take_succ_cons, List.take_zero, List.drop_succ_cons, List.take_nil, List.drop_nil, true_or, or_true, or_self, false_or, or_false, and_true, true_and, and_self, ite_self, ← List.map_take, ← List.map_drop, RI, RM, I, retO_ret, retO_norm, resO_some, if_pos, if_neg, decide_eq_true, decide_eq_false, wrap64, wrapu64, wrapu32, get_wd, get_wd', wd, List.length_map, opn_eq, T1, T2, T3, T4, T5, T6, T7, T8, T9, T10, T11, T12, T13, T14, T15, T16, T17, T18, T19, T20, T21, T22, T23, T25, T26, T27, T28, T29, T30, T31, T32, T33, T35, T36, T37, T39, T41, T42, T43, T44, T45, T46, T47, T48, T49, T50, T51, T52, T54, T56, T58, T59, T61, T62, T64, T65, T66, T67, T68, T69, T70, T71, T72, T73, T74, T76, T77, T78, T79, T80, T81, T82, T83, T84, T85, T87, T88, T89, T91, T92, T93, T95, T97, T98, T100, T101, T102, T103, T104, T105, T106, T107, T108, T109, T110, T111, T112, T113, T114, T115, T116, T117, T118, T119, T120, T121, T122, Try.f34, hng, h1, e1, h3, h4]
      exact ⟨fl, rfl⟩
    | true =>
      have hx0 := ng_true.1 hng
      have ex : x / ((2 ^ k : Nat) : Int) = -((x.natAbs / 2 ^ k + (if x.natAbs % 2 ^ k = 0 then 0 else 1) : Nat) : Int) := by
        conv => lhs; rw [show x = -((x.natAbs : Nat) : Int) by omega, floor_neg _ _ hc]
      by_cases hr : x.natAbs % 2 ^ k = 0
      · have h4 := made_dig true (decide ((dg x).length ≤ k / 32)) (x.natAbs / 2 ^ k) hfn (by unfold dg at hx; omega)
        have e2 : sg true (x.natAbs / 2 ^ k) = x / ((2 ^ k : Nat) : Int) := by
          rw [ex, if_pos hr]; rfl
        rw [e2] at h4
        have h5 : (dg (x / ((2 ^ k : Nat) : Int))).length ≤ 4096 := by rw [← e2, dg_sg]; unfold dg at hx; omega
        simp only [RI, fit_of h5, er_of h5, fm_of h5] at h4
        simp only [I, hng] at h1
        rw [decide_eq_true hr, Bool.not_true] at h3
        generalize decide ((dg x).length ≤ k / 32) = fl at *
        generalize x / ((2 ^ k : Nat) : Int) = v at *
        clear hfl p2 hle hl1 e2 hfn hc hr
        simp (maxSteps := 4000000) (disch := omega) only [↓reduceIte, Rc_nil, Rc_cons, reK_val, reK_skip, rcK_ret, raK_some, rtK_some, rtK_none, rwK_t, rwK_f, List.map_cons, W_seq, W_block, W_region, W_skip, W_ret, W_exit, thenK_norm, thenK_exit, thenK_ret, thenK_panic, blockK_norm, blockK_exit, blockK_ret, blockK_panic, loopK_norm, loopK_exit, loopK_ret, loopK_panic, retK_ret, retK_norm, resK_some, purK_some, W_cond', condK_t, condK_f, Rg_nil, Rg_cons, wantK_t, wantK_f, targK_none, targK_some, effK_val, effK_skip, effK_panic, argK_some, callK_ret, callK_panic, openK_ret, openK_panic, want, target, opEff, ev, evs, evo, evps, Option.map_some, Option.map_none, Option.isSome_none, Option.isNone_some, Option.isNone_none, Int.toNat_natCast, Int.toNat_zero, Int.toNat_one, Int.natCast_zero, List.drop_zero, Option.isSome_some, put, List.set_cons_zero, List.set_cons_succ, List.getD_cons_zero, List.getD_cons_succ, List.getElem?_cons_zero, List.getElem?_cons_succ, ofConst, scalConst, Eff.v, Heap.upds, Bool.false_eq_true, if_false, if_true, builtinEff, binEff, bothInt, intBin, loadEff, storeEff, beq_self_eq_true, Bool.and_self, Bool.true_and, Bool.and_true, Bool.false_and, Bool.and_false, Bool.not_true, Bool.not_false, resOf, one, Nat.reduceAdd, Nat.reduceSub, Nat.reduceMul, Nat.zero_add, Nat.mul_one, Nat.zero_mul, List.replicate, Nat.reduceEqDiff, reduceCtorEq, eqOf, AV.cells, List.length_cons, List.length_nil, inRange, beq_true, beq_false, Bool.true_beq, Bool.false_beq, decide_true, decide_false, decide_eq_true_eq, not_true_eq_false, not_false_eq_true, List.append_nil, List.nil_append, List.cons_append, Vm.undef, Int.reduceAdd, Int.reduceLT, Int.reduceLE, Int.reduceToNat, Int.reduceNeg, Int.reduceSub, Int.cast_ofNat_Int, Bool.or_true, Bool.true_or, Bool.or_false, Bool.false_or, purify_wd, purify_lnil, List.map_nil, purify_ref, refP_wd, flat_wd, purify_agg, purify_tup, purify_int, purify_bool, purify_str, purify_nilf, purify_fn, mapL_nil, mapL_cons, pure_wd, upd_apply, setCells_cons, setCells_nil, freezes, iv, deep, List.all_cons, List.all_nil, AV.scal, List.take_succ_cons, List.take_zero, List.drop_succ_cons, List.take_nil, List.drop_nil, true_or, or_true, or_self, false_or, or_false, and_true, true_and, and_self, ite_self, ← List.map_take, ← List.map_drop, RI, RM, I, retO_ret, retO_norm, resO_some, if_pos, if_neg, decide_eq_true, decide_eq_false, wrap64, wrapu64, wrapu32, get_wd, get_wd', wd, List.length_map, opn_eq, T1, T2, T3, T4, T5, T6, T7, T8, T9, T10, T11, T12, T13, T14, T15, T16, T17, T18, T19, T20, T21, T22, T23, T25, T26, T27, T28, T29, T30, T31, T32, T33, T35, T36, T37, T39, T41, T42, T43, T44, T45, T46, T47, T48, T49, T50, T51, T52, T54, T56, T58, T59, T61, T62, T64, T65, T66, T67, T68, T69, T70, T71, T72, T73, T74, T76, T77, T78, T79, T80, T81, T82, T83, T84, T85, T87, T88, T89, T91, T92, T93, T95, T97, T98, T100, T101, T102, T103, T104, T105, T106, T107, T108, T109, T110, T111, T112, T113, T114, T115, T116, T117, T118, T119, T120, T121, T122, Try.f34, hng, h1, e1, h3, h4]
        exact ⟨fl, rfl⟩
      · have hq1 : x.natAbs / 2 ^ k + 1 ≤ x.natAbs := by
          have h6 := Nat.div_add_mod x.natAbs (2 ^ k)
          have h7 : 1 * (x.natAbs / 2 ^ k) ≤ 2 ^ k * (x.natAbs / 2 ^ k) := Nat.mul_le_mul_right _ hc
          omega
        have hl2 := dig_mono hq1
        have h6 := plus_spec (decide ((dg x).length ≤ k / 32)) (dig (x.natAbs / 2 ^ k)) false [1] (dig_inR _) (fun y hy => by simp at hy; subst hy; decide) (by unfold dg at hx; omega) (by simp)
        rw [val_dig, show val [1] = 1 from rfl] at h6
        have h4 := made_dig true false (x.natAbs / 2 ^ k + 1) (by simp) (by unfold dg at hx; omega)
        have e2 : sg true (x.natAbs / 2 ^ k + 1) = x / ((2 ^ k : Nat) : Int) := by
          rw [ex, if_neg hr]; rfl
        rw [e2] at h4
        have h5 : (dg (x / ((2 ^ k : Nat) : Int))).length ≤ 4096 := by rw [← e2, dg_sg]; unfold dg at hx; omega
        simp only [RI, fit_of h5, er_of h5, fm_of h5] at h4
        simp only [I, hng] at h1
        rw [decide_eq_false hr, Bool.not_false] at h3
        simp only [List.map_cons, List.map_nil, wd, show ((1 : Nat) : Int) = 1 from rfl] at h6
        generalize decide ((dg x).length ≤ k / 32) = fl at *
        generalize x / ((2 ^ k : Nat) : Int) = v at *
        clear hfl p2 hle hl1 e2 hfn hc hr hq1 hl2 ex
        simp (maxSteps := 4000000) (disch := omega) only [↓reduceIte, Rc_nil, Rc_cons, reK_val, reK_skip, rcK_ret, raK_some, rtK_some, rtK_none, rwK_t, rwK_f, List.map_cons, W_seq, W_block, W_region, W_skip, W_ret, W_exit, thenK_norm, thenK_exit, thenK_ret, thenK_panic, blockK_norm, blockK_exit, blockK_ret, blockK_panic, loopK_norm, loopK_exit, loopK_ret, loopK_panic, retK_ret, retK_norm, resK_some, purK_some, W_cond', condK_t, condK_f, Rg_nil, Rg_cons, wantK_t, wantK_f, targK_none, targK_some, effK_val, effK_skip, effK_panic, argK_some, callK_ret, callK_panic, openK_ret, openK_panic, want, target, opEff, ev, evs, evo, evps, Option.map_some, Option.map_none, Option.isSome_none, Option.isNone_some, Option.isNone_none, Int.toNat_natCast, Int.toNat_zero, Int.toNat_one, Int.natCast_zero, List.drop_zero, Option.isSome_some, put, List.set_cons_zero, List.set_cons_succ, List.getD_cons_zero, List.getD_cons_succ, List.getElem?_cons_zero, List.getElem?_cons_succ, ofConst, scalConst, Eff.v, Heap.upds, Bool.false_eq_true, if_false, if_true, builtinEff, binEff, bothInt, intBin, loadEff, storeEff, beq_self_eq_true, Bool.and_self, Bool.true_and, Bool.and_true, Bool.false_and, Bool.and_false, Bool.not_true, Bool.not_false, resOf, one, Nat.reduceAdd, Nat.reduceSub, Nat.reduceMul, Nat.zero_add, Nat.mul_one, Nat.zero_mul, List.replicate, Nat.reduceEqDiff, reduceCtorEq, eqOf, AV.cells, List.length_cons, List.length_nil, inRange, beq_true, beq_false, Bool.true_beq, Bool.false_beq, decide_true, decide_false, decide_eq_true_eq, not_true_eq_false, not_false_eq_true, List.append_nil, List.nil_append, List.cons_append, Vm.undef, Int.reduceAdd, Int.reduceLT, Int.reduceLE, Int.reduceToNat, Int.reduceNeg, Int.reduceSub, Int.cast_ofNat_Int, Bool.or_true, Bool.true_or, Bool.or_false, Bool.false_or, purify_wd, purify_lnil, List.map_nil, purify_ref, refP_wd, flat_wd, purify_agg, purify_tup, purify_int, purify_bool, purify_str, purify_nilf, purify_fn, mapL_nil, mapL_cons, pure_wd, upd_apply, setCells_cons, setCells_nil, freezes, iv, deep, List.all_cons, List.all_nil, AV.scal, List.take_succ_cons, List.take_zero, List.drop_succ_cons, List.take_nil, List.drop_nil, true_or, or_true, or_self, false_or, or_false, and_true, true_and, and_self, ite_self, ← List.map_take, ← List.map_drop, RI, RM, I, retO_ret, retO_norm, resO_some, if_pos, if_neg, decide_eq_true, decide_eq_false, wrap64, wrapu64, wrapu32, get_wd, get_wd', wd, List.length_map, opn_eq, T1, T2, T3, T4, T5, T6, T7, T8, T9, T10, T11, T12, T13, T14, T15, T16, T17, T18, T19, T20, T21, T22, T23, T25, T26, T27, T28, T29, T30, T31, T32, T33, T35, T36, T37, T39, T41, T42, T43, T44, T45, T46, T47, T48, T49, T50, T51, T52, T54, T56, T58, T59, T61, T62, T64, T65, T66, T67, T68, T69, T70, T71, T72, T73, T74, T76, T77, T78, T79, T80, T81, T82, T83, T84, T85, T87, T88, T89, T91, T92, T93, T95, T97, T98, T100, T101, T102, T103, T104, T105, T106, T107, T108, T109, T110, T111, T112, T113, T114, T115, T116, T117, T118, T119, T120, T121, T122, Try.f34, hng, h1, e1, h3, h4, h6, reps, fillAll, refP, elems, List.headD]
        exact ⟨false, rfl⟩
end Go.Proofs.Ytpfcijgcjghgeaa
