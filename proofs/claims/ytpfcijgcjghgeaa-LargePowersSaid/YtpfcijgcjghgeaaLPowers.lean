/- The law LargePowers. (Own work of this repo.) -/
import Derived.Test.YtpfcijgcjghgeaaLaw1
import Derived.Test.YtpfcijgcjghgeaaSh3
import Derived.Test.YtpfcijgcjghgeaaPow1
import Derived.Test.YtpfcijgcjghgeaaAwake
import Derived.Test.YtpfcijgcjghgeaaRLargePowers
set_option linter.unusedVariables false
set_option linter.unusedSimpArgs false
namespace Go.Proofs.Ytpfcijgcjghgeaa
open Vm
set_option maxRecDepth 10000

theorem dg_pow {x : Int} {L : Nat} (h : (dg x).length ≤ L) (e : Nat) : (dg (x ^ e)).length ≤ L * e + 1 := by
  rw [dg_len, Int.natAbs_pow, Nat.pow_succ, Nat.pow_mul]
  have h1 := dg_len.1 h
  have h2 : x.natAbs ^ e ≤ (BB ^ L) ^ e := Nat.pow_le_pow_left (Nat.le_of_lt h1) e
  have h3 : 0 < (BB ^ L) ^ e := Nat.pow_pos (Nat.pow_pos (by decide))
  have h4 : (BB ^ L) ^ e * 1 < (BB ^ L) ^ e * BB := Nat.mul_lt_mul_of_pos_left (by decide) h3
  omega
theorem dg_shl (x : Int) (n : Nat) : (dg (x * 2 ^ n)).length ≤ (dg x).length + (n / 32 + 1) := by
  have h4 := dig_shl x.natAbs n
  have h5 : dg (x * 2 ^ n) = dig (x.natAbs * 2 ^ n) := by
    unfold dg; rw [Int.natAbs_mul, Int.natAbs_pow]; rfl
  rw [h5]; exact h4
theorem shift_back (m : Bool) (x : Int) (n : Nat) (hx : (dg x).length ≤ 4096) (hn : n < 2 ^ 40) : ∃ f : Bool, denP E 34 [I m x, .int .i64 (-(n : Int))] = some (.ret (.tup [I f (x / 2 ^ n), .int .i64 0])) ∧ True := by
  by_cases h : n = 0
  · subst h
    have h1 := shift_pos m x 0 hx (by decide)
    rw [Int.pow_zero, Int.mul_one, RI, fm_of hx, fit_of hx, er_of hx] at h1
    rw [Int.pow_zero, Int.ediv_one]
    exact ⟨_, h1, trivial⟩
  · exact shift_neg m x n hx (by omega) (by omega)
set_option maxHeartbeats 4000000 in
theorem largePowers_walk (qa : Raw) (ra : InR qa.2.2) (i k : Nat) (hi : i < 256) (hk : k < 256) :
    denP E 7 [ivr qa, .int .u8 i, .int .u8 k] = some (.ret (.bool true)) := by
  have hlt := light_walk 60 [qa] (by simp) (by decide)
  simp only [List.map_cons, List.map_nil, Int.cast_ofNat_Int] at hlt
  refine denP_eq E7 rfl (by simp [AV.pureL, AV.pure, pure_wd]) ?_
  by_cases hl : [qa].all (lightW 60) = true
  · rw [hl] at hlt
    simp only [List.all_cons, List.all_nil, Bool.and_true] at hl
    obtain ⟨ka, _, a, ea, da⟩ := light_norm ra hl
    rw [← da] at ka
    rw [ea] at hlt ⊢
    generalize qa.2.1 = ma at *
    clear ea da ra hl
    by_cases h1 : 20 < i
    · simp (maxSteps := 4000000) (disch := omega) only [↓reduceIte, Rc_nil, Rc_cons, reK_val, reK_skip, rcK_ret, raK_some, rtK_some, rtK_none, rwK_t, rwK_f, List.map_cons, W_seq, W_block, W_region, W_skip, W_ret, W_exit, thenK_norm, thenK_exit, thenK_ret, thenK_panic, blockK_norm, blockK_exit, blockK_ret, blockK_panic, loopK_norm, loopK_exit, loopK_ret, loopK_panic, retK_ret, retK_norm, resK_some, purK_some, W_cond', condK_t, condK_f, Rg_nil, Rg_cons, wantK_t, wantK_f, targK_none, targK_some, effK_val, effK_skip, effK_panic, argK_some, callK_ret, callK_panic, openK_ret, openK_panic, want, target, opEff, ev, evs, evo, evps, Option.map_some, Option.map_none, Option.isSome_none, Option.isNone_some, Option.isNone_none, Int.toNat_natCast, Int.toNat_zero, Int.toNat_one, Int.natCast_zero, List.drop_zero, Option.isSome_some, put, List.set_cons_zero, List.set_cons_succ, List.getD_cons_zero, List.getD_cons_succ, List.getElem?_cons_zero, List.getElem?_cons_succ, ofConst, scalConst, Eff.v, Heap.upds, Bool.false_eq_true, if_false, if_true, builtinEff, binEff, bothInt, intBin, loadEff, storeEff, beq_self_eq_true, Bool.and_self, Bool.true_and, Bool.and_true, Bool.false_and, Bool.and_false, Bool.not_true, Bool.not_false, resOf, one, Nat.reduceAdd, Nat.reduceSub, Nat.reduceMul, Nat.zero_add, Nat.mul_one, Nat.zero_mul, List.replicate, Nat.reduceEqDiff, reduceCtorEq, eqOf, AV.cells, List.length_cons, List.length_nil, inRange, beq_true, beq_false, Bool.true_beq, Bool.false_beq, decide_true, decide_false, decide_eq_true_eq, not_true_eq_false, not_false_eq_true, List.append_nil, List.nil_append, List.cons_append, Vm.undef, Int.reduceAdd, Int.reduceLT, Int.reduceLE, Int.reduceToNat, Int.reduceNeg, Int.reduceSub, Int.cast_ofNat_Int, Bool.or_true, Bool.true_or, Bool.or_false, Bool.false_or, purify_wd, purify_lnil, List.map_nil, purify_ref, refP_wd, flat_wd, purify_agg, purify_tup, purify_int, purify_bool, purify_str, purify_nilf, purify_fn, mapL_nil, mapL_cons, pure_wd, upd_apply, setCells_cons, setCells_nil, freezes, iv, deep, List.all_cons, List.all_nil, AV.scal, List.take_succ_cons, List.take_zero, List.drop_succ_cons, List.take_nil, List.drop_nil, true_or, or_true, or_self, false_or, or_false, and_true, true_and, and_self, ite_self, ← List.map_take, ← List.map_drop, RI, RM, I, retO_ret, retO_norm, resO_some, if_pos, if_neg, decide_eq_true, decide_eq_false, wrap64, wrapu64, wrapu32, get_wd, get_wd', wd, List.length_map, opn_eq, T1, T2, T3, T4, T5, T6, T7, T8, T9, T10, T11, T12, T13, T14, T15, T16, T17, T18, T19, T20, T21, T22, T23, T25, T26, T27, T28, T29, T30, T31, T32, T33, T35, T36, T37, T39, T41, T42, T43, T44, T45, T46, T47, T48, T49, T50, T51, T52, T54, T56, T58, T59, T61, T62, T64, T65, T66, T67, T68, T69, T70, T71, T72, T73, T74, T76, T77, T78, T79, T80, T81, T82, T83, T84, T85, T87, T88, T89, T91, T92, T93, T95, T97, T98, T100, T101, T102, T103, T104, T105, T106, T107, T108, T109, T110, T111, T112, T113, T114, T115, T116, T117, T118, T119, T120, T121, T122, Try.f7, fillAll, reps, refP, elems, hlt, awake14]
    · by_cases h2 : 20 < k
      · simp (maxSteps := 4000000) (disch := omega) only [↓reduceIte, Rc_nil, Rc_cons, reK_val, reK_skip, rcK_ret, raK_some, rtK_some, rtK_none, rwK_t, rwK_f, List.map_cons, W_seq, W_block, W_region, W_skip, W_ret, W_exit, thenK_norm, thenK_exit, thenK_ret, thenK_panic, blockK_norm, blockK_exit, blockK_ret, blockK_panic, loopK_norm, loopK_exit, loopK_ret, loopK_panic, retK_ret, retK_norm, resK_some, purK_some, W_cond', condK_t, condK_f, Rg_nil, Rg_cons, wantK_t, wantK_f, targK_none, targK_some, effK_val, effK_skip, effK_panic, argK_some, callK_ret, callK_panic, openK_ret, openK_panic, want, target, opEff, ev, evs, evo, evps, Option.map_some, Option.map_none, Option.isSome_none, Option.isNone_some, Option.isNone_none, Int.toNat_natCast, Int.toNat_zero, Int.toNat_one, Int.natCast_zero, List.drop_zero, Option.isSome_some, put, List.set_cons_zero, List.set_cons_succ, List.getD_cons_zero, List.getD_cons_succ, List.getElem?_cons_zero, List.getElem?_cons_succ, ofConst, scalConst, Eff.v, Heap.upds, Bool.false_eq_true, if_false, if_true, builtinEff, binEff, bothInt, intBin, loadEff, storeEff, beq_self_eq_true, Bool.and_self, Bool.true_and, Bool.and_true, Bool.false_and, Bool.and_false, Bool.not_true, Bool.not_false, resOf, one, Nat.reduceAdd, Nat.reduceSub, Nat.reduceMul, Nat.zero_add, Nat.mul_one, Nat.zero_mul, List.replicate, Nat.reduceEqDiff, reduceCtorEq, eqOf, AV.cells, List.length_cons, List.length_nil, inRange, beq_true, beq_false, Bool.true_beq, Bool.false_beq, decide_true, decide_false, decide_eq_true_eq, not_true_eq_false, not_false_eq_true, List.append_nil, List.nil_append, List.cons_append, Vm.undef, Int.reduceAdd, Int.reduceLT, Int.reduceLE, Int.reduceToNat, Int.reduceNeg, Int.reduceSub, Int.cast_ofNat_Int, Bool.or_true, Bool.true_or, Bool.or_false, Bool.false_or, purify_wd, purify_lnil, List.map_nil, purify_ref, refP_wd, flat_wd, purify_agg, purify_tup, purify_int, purify_bool, purify_str, purify_nilf, purify_fn, mapL_nil, mapL_cons, pure_wd, upd_apply, setCells_cons, setCells_nil, freezes, iv, deep, List.all_cons, List.all_nil, AV.scal, List.take_succ_cons, List.take_zero, List.drop_succ_cons, List.take_nil, List.drop_nil, true_or, or_true, or_self, false_or, or_false, and_true, true_and, and_self, ite_self, ← List.map_take, ← List.map_drop, RI, RM, I, retO_ret, retO_norm, resO_some, if_pos, if_neg, decide_eq_true, decide_eq_false, wrap64, wrapu64, wrapu32, get_wd, get_wd', wd, List.length_map, opn_eq, T1, T2, T3, T4, T5, T6, T7, T8, T9, T10, T11, T12, T13, T14, T15, T16, T17, T18, T19, T20, T21, T22, T23, T25, T26, T27, T28, T29, T30, T31, T32, T33, T35, T36, T37, T39, T41, T42, T43, T44, T45, T46, T47, T48, T49, T50, T51, T52, T54, T56, T58, T59, T61, T62, T64, T65, T66, T67, T68, T69, T70, T71, T72, T73, T74, T76, T77, T78, T79, T80, T81, T82, T83, T84, T85, T87, T88, T89, T91, T92, T93, T95, T97, T98, T100, T101, T102, T103, T104, T105, T106, T107, T108, T109, T110, T111, T112, T113, T114, T115, T116, T117, T118, T119, T120, T121, T122, Try.f7, fillAll, reps, refP, elems, hlt, awake14]
      · obtain ⟨p, hp⟩ : ∃ p, p = 7 * i := ⟨_, rfl⟩
        obtain ⟨q, hq⟩ : ∃ q, q = 11 * k := ⟨_, rfl⟩
        have c1 : (7 : Int) * (i : Int) = (p : Int) := by omega
        have c2 : (11 : Int) * (k : Int) = (q : Int) := by omega
        have c3 : (p : Int) + (q : Int) = ((p + q : Nat) : Int) := by omega
        have c4 : (-11 : Int) * (k : Int) = -(q : Int) := by omega
        have c5 : (i : Int) + (k : Int) = ((i + k : Nat) : Int) := by omega
        have hmi : 60 * i ≤ 60 * 20 := Nat.mul_le_mul_left _ (by omega)
        have hmk : 60 * k ≤ 60 * 20 := Nat.mul_le_mul_left _ (by omega)
        have hmik : 60 * (i + k) ≤ 60 * 40 := Nat.mul_le_mul_left _ (by omega)
        have l1 := dg_pow ka i
        have l2 := dg_pow ka k
        have l3 := dg_pow ka (i + k)
        have l4 := dg_shl a p
        have l5 := dg_shl (a * 2 ^ p) q
        have l6 := dg_shl a (p + q)
        have l7 : (dg ((2 : Int) ^ (p + q))).length ≤ 1000 := by
          have := dg_pow (x := 2) (L := 1) (by rw [dg_len]; decide) (p + q); omega
        have E1 : a ^ i * a ^ k = a ^ (i + k) := (Int.pow_add a i k).symm
        have E2 : a * 2 ^ p * 2 ^ q = a * 2 ^ (p + q) := by rw [Int.pow_add, Int.mul_assoc]
        have E3 : a * 2 ^ p * 2 ^ q / 2 ^ q = a * 2 ^ p := Int.mul_ediv_cancel _ (Int.ne_of_gt (Int.pow_pos (by decide)))
        obtain ⟨f1, p1, _⟩ := power_spec ma a i (by omega) (by omega)
        obtain ⟨f2, p2, _⟩ := power_spec ma a k (by omega) (by omega)
        obtain ⟨f3, p3, _⟩ := power_spec ma a (i + k) (by omega) (by omega)
        obtain ⟨f4, p4, _⟩ := power_spec false 2 (p + q) (by have := dg_small (z := 2) (by decide); omega) (by omega)
        have s1 := shift_pos ma a p (by omega) (by omega)
        have s2 := shift_pos (decide (a = 0)) (a * 2 ^ p) q (by omega) (by omega)
        have s3 := shift_pos ma a (p + q) (by omega) (by omega)
        obtain ⟨f5, s4, _⟩ := shift_back (decide (a * 2 ^ p = 0)) (a * 2 ^ p * 2 ^ q) q (by omega) (by omega)
        rw [E3] at s4
        have m1 := lmul_spec f1 (a ^ i) f2 (a ^ k) (by omega) (by omega) (by rw [E1]; omega)
        have m2 := lmul_spec ma a f4 (2 ^ (p + q)) (by omega) (by omega) (by omega)
        have o1 := of_spec 2 (by decide) (by decide)
        simp only [RI, fit_of (show (dg (a ^ i)).length ≤ 4096 by omega), er_of (show (dg (a ^ i)).length ≤ 4096 by omega), fm_of (show (dg (a ^ i)).length ≤ 4096 by omega)] at p1
        simp only [RI, fit_of (show (dg (a ^ k)).length ≤ 4096 by omega), er_of (show (dg (a ^ k)).length ≤ 4096 by omega), fm_of (show (dg (a ^ k)).length ≤ 4096 by omega)] at p2
        simp only [RI, fit_of (show (dg (a ^ (i + k))).length ≤ 4096 by omega), er_of (show (dg (a ^ (i + k))).length ≤ 4096 by omega), fm_of (show (dg (a ^ (i + k))).length ≤ 4096 by omega)] at p3
        simp only [RI, fit_of (show (dg ((2 : Int) ^ (p + q))).length ≤ 4096 by omega), er_of (show (dg ((2 : Int) ^ (p + q))).length ≤ 4096 by omega), fm_of (show (dg ((2 : Int) ^ (p + q))).length ≤ 4096 by omega)] at p4
        simp only [RI, fit_of (show (dg (a * 2 ^ p)).length ≤ 4096 by omega), er_of (show (dg (a * 2 ^ p)).length ≤ 4096 by omega), fm_of (show (dg (a * 2 ^ p)).length ≤ 4096 by omega)] at s1
        simp only [RI, fit_of (show (dg (a * 2 ^ p * 2 ^ q)).length ≤ 4096 by omega), er_of (show (dg (a * 2 ^ p * 2 ^ q)).length ≤ 4096 by omega), fm_of (show (dg (a * 2 ^ p * 2 ^ q)).length ≤ 4096 by omega)] at s2
        simp only [RI, fit_of (show (dg (a * 2 ^ (p + q))).length ≤ 4096 by omega), er_of (show (dg (a * 2 ^ (p + q))).length ≤ 4096 by omega), fm_of (show (dg (a * 2 ^ (p + q))).length ≤ 4096 by omega)] at s3
        have r1 := rSame_spec (mz (a ^ i) (a ^ k)) (a ^ i * a ^ k) f3 (a ^ (i + k)) (by rw [E1]; omega) (by omega)
        rw [decide_eq_true E1] at r1
        have r2 := rSame_spec (decide (a * 2 ^ p = 0)) (a * 2 ^ p * 2 ^ q) (decide (a = 0)) (a * 2 ^ (p + q)) (by omega) (by omega)
        rw [decide_eq_true E2] at r2
        have r3 := rSame_spec (decide (a = 0)) (a * 2 ^ (p + q)) (mz a (2 ^ (p + q))) (a * 2 ^ (p + q)) (by omega) (by omega)
        rw [decide_eq_true rfl] at r3
        have r4 := rSame_spec f5 (a * 2 ^ p) (decide (a = 0)) (a * 2 ^ p) (by omega) (by omega)
        rw [decide_eq_true rfl] at r4
        have hp2 : p ≤ 140 := by omega
        have hq2 : q ≤ 220 := by omega
        clear E1 E2 E3 l1 l2 l3 l4 l5 l6 l7 hmi hmk hmik hp hq ka
        generalize decide (a = 0) = d0 at *
        generalize decide (a * 2 ^ p = 0) = d1 at *
        generalize mz a (2 ^ (p + q)) = d2 at *
        generalize mz (a ^ i) (a ^ k) = d3 at *
        generalize a * 2 ^ p * 2 ^ q = A1 at *
        generalize a * 2 ^ p = A2 at *
        generalize a * 2 ^ (p + q) = A3 at *
        generalize a ^ i * a ^ k = A4 at *
        generalize a ^ (i + k) = A5 at *
        generalize a ^ i = A6 at *
        generalize a ^ k = A7 at *
        generalize (2 : Int) ^ (p + q) = A8 at *
        simp (maxSteps := 4000000) (disch := omega) only [↓reduceIte, Rc_nil, Rc_cons, reK_val, reK_skip, rcK_ret, raK_some, rtK_some, rtK_none, rwK_t, rwK_f, List.map_cons, W_seq, W_block, W_region, W_skip, W_ret, W_exit, thenK_norm, thenK_exit, thenK_ret, thenK_panic, blockK_norm, blockK_exit, blockK_ret, blockK_panic, loopK_norm, loopK_exit, loopK_ret, loopK_panic, retK_ret, retK_norm, resK_some, purK_some, W_cond', condK_t, condK_f, Rg_nil, Rg_cons, wantK_t, wantK_f, targK_none, targK_some, effK_val, effK_skip, effK_panic, argK_some, callK_ret, callK_panic, openK_ret, openK_panic, want, target, opEff, ev, evs, evo, evps, Option.map_some, Option.map_none, Option.isSome_none, Option.isNone_some, Option.isNone_none, Int.toNat_natCast, Int.toNat_zero, Int.toNat_one, Int.natCast_zero, List.drop_zero, Option.isSome_some, put, List.set_cons_zero, List.set_cons_succ, List.getD_cons_zero, List.getD_cons_succ, List.getElem?_cons_zero, List.getElem?_cons_succ, ofConst, scalConst, Eff.v, Heap.upds, Bool.false_eq_true, if_false, if_true, builtinEff, binEff, bothInt, intBin, loadEff, storeEff, beq_self_eq_true, Bool.and_self, Bool.true_and, Bool.and_true, Bool.false_and, Bool.and_false, Bool.not_true, Bool.not_false, resOf, one, Nat.reduceAdd, Nat.reduceSub, Nat.reduceMul, Nat.zero_add, Nat.mul_one, Nat.zero_mul, List.replicate, Nat.reduceEqDiff, reduceCtorEq, eqOf, AV.cells, List.length_cons, List.length_nil, inRange, beq_true, beq_false, Bool.true_beq, Bool.false_beq, decide_true, decide_false, decide_eq_true_eq, not_true_eq_false, not_false_eq_true, List.append_nil, List.nil_append, List.cons_append, Vm.undef, Int.reduceAdd, Int.reduceLT, Int.reduceLE, Int.reduceToNat, Int.reduceNeg, Int.reduceSub, Int.cast_ofNat_Int, Bool.or_true, Bool.true_or, Bool.or_false, Bool.false_or, purify_wd, purify_lnil, List.map_nil, purify_ref, refP_wd, flat_wd, purify_agg, purify_tup, purify_int, purify_bool, purify_str, purify_nilf, purify_fn, mapL_nil, mapL_cons, pure_wd, upd_apply, setCells_cons, setCells_nil, freezes, iv, deep, List.all_cons, List.all_nil, AV.scal, List.take_succ_cons, List.take_zero, List.drop_succ_cons, List.take_nil, List.drop_nil, true_or, or_true, or_self, false_or, or_false, and_true, true_and, and_self, ite_self, ← List.map_take, ← List.map_drop, RI, RM, I, retO_ret, retO_norm, resO_some, if_pos, if_neg, decide_eq_true, decide_eq_false, wrap64, wrapu64, wrapu32, get_wd, get_wd', wd, List.length_map, opn_eq, T1, T2, T3, T4, T5, T6, T7, T8, T9, T10, T11, T12, T13, T14, T15, T16, T17, T18, T19, T20, T21, T22, T23, T25, T26, T27, T28, T29, T30, T31, T32, T33, T35, T36, T37, T39, T41, T42, T43, T44, T45, T46, T47, T48, T49, T50, T51, T52, T54, T56, T58, T59, T61, T62, T64, T65, T66, T67, T68, T69, T70, T71, T72, T73, T74, T76, T77, T78, T79, T80, T81, T82, T83, T84, T85, T87, T88, T89, T91, T92, T93, T95, T97, T98, T100, T101, T102, T103, T104, T105, T106, T107, T108, T109, T110, T111, T112, T113, T114, T115, T116, T117, T118, T119, T120, T121, T122, Try.f7, fillAll, reps, refP, elems, hlt, c1, c2, c3, c4, c5, p1, p2, p3, p4, s1, s2, s3, s4, m1, m2, o1, r1, r2, r3, r4, awake14]
  · rw [Bool.not_eq_true] at hl
    rw [hl] at hlt
    simp only [ivr, iv] at hlt
    simp (maxSteps := 4000000) (disch := omega) only [↓reduceIte, Rc_nil, Rc_cons, reK_val, reK_skip, rcK_ret, raK_some, rtK_some, rtK_none, rwK_t, rwK_f, List.map_cons, W_seq, W_block, W_region, W_skip, W_ret, W_exit, thenK_norm, thenK_exit, thenK_ret, thenK_panic, blockK_norm, blockK_exit, blockK_ret, blockK_panic, loopK_norm, loopK_exit, loopK_ret, loopK_panic, retK_ret, retK_norm, resK_some, purK_some, W_cond', condK_t, condK_f, Rg_nil, Rg_cons, wantK_t, wantK_f, targK_none, targK_some, effK_val, effK_skip, effK_panic, argK_some, callK_ret, callK_panic, openK_ret, openK_panic, want, target, opEff, ev, evs, evo, evps, Option.map_some, Option.map_none, Option.isSome_none, Option.isNone_some, Option.isNone_none, Int.toNat_natCast, Int.toNat_zero, Int.toNat_one, Int.natCast_zero, List.drop_zero, Option.isSome_some, put, List.set_cons_zero, List.set_cons_succ, List.getD_cons_zero, List.getD_cons_succ, List.getElem?_cons_zero, List.getElem?_cons_succ, ofConst, scalConst, Eff.v, Heap.upds, Bool.false_eq_true, if_false, if_true, builtinEff, binEff, bothInt, intBin, loadEff, storeEff, beq_self_eq_true, Bool.and_self, Bool.true_and, Bool.and_true, Bool.false_and, Bool.and_false, Bool.not_true, Bool.not_false, resOf, one, Nat.reduceAdd, Nat.reduceSub, Nat.reduceMul, Nat.zero_add, Nat.mul_one, Nat.zero_mul, List.replicate, Nat.reduceEqDiff, reduceCtorEq, eqOf, AV.cells, List.length_cons, List.length_nil, inRange, beq_true, beq_false, Bool.true_beq, Bool.false_beq, decide_true, decide_false, decide_eq_true_eq, not_true_eq_false, not_false_eq_true, List.append_nil, List.nil_append, List.cons_append, Vm.undef, Int.reduceAdd, Int.reduceLT, Int.reduceLE, Int.reduceToNat, Int.reduceNeg, Int.reduceSub, Int.cast_ofNat_Int, Bool.or_true, Bool.true_or, Bool.or_false, Bool.false_or, purify_wd, purify_lnil, List.map_nil, purify_ref, refP_wd, flat_wd, purify_agg, purify_tup, purify_int, purify_bool, purify_str, purify_nilf, purify_fn, mapL_nil, mapL_cons, pure_wd, upd_apply, setCells_cons, setCells_nil, freezes, iv, deep, List.all_cons, List.all_nil, AV.scal, List.take_succ_cons, List.take_zero, List.drop_succ_cons, List.take_nil, List.drop_nil, true_or, or_true, or_self, false_or, or_false, and_true, true_and, and_self, ite_self, ← List.map_take, ← List.map_drop, RI, RM, I, retO_ret, retO_norm, resO_some, if_pos, if_neg, decide_eq_true, decide_eq_false, wrap64, wrapu64, wrapu32, get_wd, get_wd', wd, List.length_map, opn_eq, T1, T2, T3, T4, T5, T6, T7, T8, T9, T10, T11, T12, T13, T14, T15, T16, T17, T18, T19, T20, T21, T22, T23, T25, T26, T27, T28, T29, T30, T31, T32, T33, T35, T36, T37, T39, T41, T42, T43, T44, T45, T46, T47, T48, T49, T50, T51, T52, T54, T56, T58, T59, T61, T62, T64, T65, T66, T67, T68, T69, T70, T71, T72, T73, T74, T76, T77, T78, T79, T80, T81, T82, T83, T84, T85, T87, T88, T89, T91, T92, T93, T95, T97, T98, T100, T101, T102, T103, T104, T105, T106, T107, T108, T109, T110, T111, T112, T113, T114, T115, T116, T117, T118, T119, T120, T121, T122, Try.f7, ivr, fillAll, reps, refP, elems, hlt, awake14]
theorem fit_u8 {m : Nat} {cs : List AV} {t : Nat} (ht : E.T t = some ⟨1, 1, false, .int .u8 0, .int .u8⟩) (h : Fit E (m + 1) t cs) : ∃ n : Nat, n < 256 ∧ cs = [.int .u8 n] := by
  simp only [Fit, ht, FitD] at h
  obtain ⟨_, i, rfl, hi⟩ := h
  have hi' : 0 ≤ i ∧ i < 256 := by simp [Lit.wf, IntKind.max, IntKind.min, IntKind.bits, IntKind.signed] at hi; omega
  refine ⟨i.toNat, by omega, ?_⟩
  rw [show ((i.toNat : Nat) : Int) = i by omega]
theorem largePowers_pure : largePowers.Pure := by
  intro xs h
  simp only [FitArgs, opn_eq, T1, T2, T3, T4, T5, T6, T7, T8, T9, T10, T11, T12, T13, T14, T15, T16, T17, T18, T19, T20, T21, T22, T23, T25, T26, T27, T28, T29, T30, T31, T32, T33, T35, T36, T37, T39, T41, T42, T43, T44, T45, T46, T47, T48, T49, T50, T51, T52, T54, T56, T58, T59, T61, T62, T64, T65, T66, T67, T68, T69, T70, T71, T72, T73, T74, T76, T77, T78, T79, T80, T81, T82, T83, T84, T85, T87, T88, T89, T91, T92, T93, T95, T97, T98, T100, T101, T102, T103, T104, T105, T106, T107, T108, T109, T110, T111, T112, T113, T114, T115, T116, T117, T118, T119, T120, T121, T122, elm] at h
  obtain ⟨c1, x1, y1, rfl, ⟨rfl, h1⟩, c2, x2, y2, rfl, ⟨rfl, h2⟩, c3, x3, y3, rfl, ⟨rfl, h3⟩, rfl⟩ := h
  obtain ⟨qa, rfl, ra, na, la⟩ := fit_raw (m := 3) h1
  obtain ⟨i, hi, rfl⟩ := fit_u8 (m := 5) T5 h2
  obtain ⟨k, hk, rfl⟩ := fit_u8 (m := 5) T5 h3
  exact largePowers_walk qa ra i k hi hk
theorem largePowers_holds : Rows.LargePowersSaid := largePowers.over largePowers_pure
#print axioms largePowers_holds
end Go.Proofs.Ytpfcijgcjghgeaa
