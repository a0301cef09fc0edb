/- The law LargeUnder. (Own work of this repo.) -/
import Derived.Test.YtpfcijgcjghgeaaLgNat
import Derived.Test.YtpfcijgcjghgeaaLgRUnder
set_option linter.unusedVariables false
set_option linter.unusedSimpArgs false
namespace Go.Proofs.Ytpfcijgcjghgeaa
open Vm

theorem E3 : E.fn 3 = some Try.f3 := rfl
set_option maxRecDepth 100000 in
theorem awake14 : denP E 14 [] = some (.ret (.bool true)) := denP_of (n := 200) (by kernel_rfl)

set_option maxRecDepth 10000
def sm (n : Nat) : List Nat := if n = 0 then [] else [n]
theorem of_small {n : Nat} (hn : n < 4294967296) : ∃ m, denP E 12 [.int .i64 n] = some (.ret (iv false m ((sm n)))) := by
  obtain ⟨m, hm⟩ := of12 n (by omega)
  refine ⟨m, ?_⟩
  rw [hm]
  have h1 : n % 4294967296 = n := by omega
  have h2 : n / 4294967296 = 0 := by omega
  rw [h1, h2]
  by_cases h : n = 0
  · subst h; rfl
  · have : tz [n, 0] 2 = 1 := by simp [tz, h]
    rw [this]; simp [sm, h]
theorem sm_len (n : Nat) : (sm n).length ≤ 1 := by unfold sm; split <;> simp
theorem sm_valid (n : Nat) : validW false (sm n) = true := by unfold sm validW; split <;> simp_all
theorem under_sm {n m : Nat} (hn : n < 4294967296) (hm : m < 4294967296) : underW (sm n) (sm m) = decide (n &&& m = n) := by
  unfold sm underW
  by_cases h1 : n = 0
  · subst h1; simp
  · by_cases h2 : m = 0
    · subst h2; simp [h1]; omega
    · have := andNot_zero hn hm
      simp [h1, h2, this]
theorem under_small {n m : Nat} (hn : n < 4294967296) (hm : m < 4294967296) (a b : Bool) : denP E 11 [iv false a (sm n), iv false b (sm m)] = some (.ret (.tup [.bool (decide (n &&& m = n)), .int .i64 0])) := by
  rw [under11 a (sm n) b (sm m) (by have := sm_len n; omega) (by have := sm_len m; omega) (sm_valid n) (sm_valid m), under_sm hn hm]

theorem largeUnder_pure : largeUnder.Pure := by
  intro a b ha hb
  obtain ⟨a, rfl⟩ : ∃ n : Nat, a = n := ⟨a.toNat, by simp [Lit.wf, IntKind.max, IntKind.min, IntKind.bits, IntKind.signed] at ha; omega⟩
  obtain ⟨b, rfl⟩ : ∃ n : Nat, b = n := ⟨b.toNat, by simp [Lit.wf, IntKind.max, IntKind.min, IntKind.bits, IntKind.signed] at hb; omega⟩
  refine denP_eq E3 rfl (by simp [AV.pureL, AV.pure]) ?_
  have ha2 : a < 65536 := by simp [Lit.wf, IntKind.max, IntKind.min, IntKind.bits, IntKind.signed] at ha; omega
  have hb2 : b < 65536 := by simp [Lit.wf, IntKind.max, IntKind.min, IntKind.bits, IntKind.signed] at hb; omega
  have e1 : (a : Int).tmod 601 = ((a % 601 : Nat) : Int) := rfl
  have e2 : (b : Int).tmod 601 = ((b % 601 : Nat) : Int) := rfl
  generalize hn : a % 601 = n at e1
  generalize hm : b % 601 = m at e2
  have hn1 : n < 601 := by omega
  have hm1 : m < 601 := by omega
  obtain ⟨x, hx⟩ := of_small (n := n) (by omega)
  obtain ⟨y, hy⟩ := of_small (n := m) (by omega)
  have h1 := under_small (n := n) (m := m) (by omega) (by omega) x y
  have h2 := odd13 m n (by omega) (by omega)
  have h3 : (decide (n ≤ m) && pas m n) = decide (n &&& m = n) := by
    rw [pas_land]
    by_cases h : n ≤ m
    · simp [h]
    · have : n &&& m ≤ m := Nat.and_le_right
      simp [h]; omega
  rw [h3] at h2
  by_cases h : n ≤ m
  · have e3 : (m : Int) - n = ((m - n : Nat) : Int) := by omega
    obtain ⟨z, hz⟩ := of_small (n := m - n) (by omega)
    have h4 := under_small (n := m - n) (m := m) (by omega) (by omega) z y
    by_cases hu : n &&& m = n
    · have hs := land_sub hu
      simp only [hu, decide_true] at h1 h2
      simp only [hs.2, decide_true] at h4
      have h5 := land64 (a := n) (b := m - n) (by omega) (by omega)
      rw [hs.1] at h5
      simp (disch := omega) only [Rc_nil, Rc_cons, reK_val, reK_skip, rcK_ret, raK_some, rtK_some, rtK_none, rwK_t, rwK_f, List.map_cons, W_seq, W_block, W_region, W_skip, W_ret, W_exit, thenK_norm, thenK_exit, thenK_ret, thenK_panic, blockK_norm, blockK_exit, blockK_ret, blockK_panic, loopK_norm, loopK_exit, loopK_ret, loopK_panic, retK_ret, retK_norm, resK_some, purK_some, W_cond', condK_t, condK_f, Rg_nil, Rg_cons, wantK_t, wantK_f, targK_none, targK_some, effK_val, effK_skip, effK_panic, argK_some, callK_ret, callK_panic, openK_ret, openK_panic, want, target, opEff, ev, evs, evo, evps, Option.map_some, Option.map_none, Option.isSome_none, Option.isNone_some, Option.isNone_none, Int.toNat_natCast, Int.toNat_zero, Int.toNat_one, Int.natCast_zero, List.drop_zero, Option.isSome_some, put, List.set_cons_zero, List.set_cons_succ, List.getD_cons_zero, List.getD_cons_succ, List.getElem?_cons_zero, List.getElem?_cons_succ, ofConst, scalConst, Eff.v, Heap.upds, Bool.false_eq_true, if_false, if_true, builtinEff, binEff, bothInt, intBin, loadEff, storeEff, beq_self_eq_true, Bool.and_self, Bool.true_and, Bool.and_true, Bool.false_and, Bool.and_false, Bool.not_true, Bool.not_false, resOf, one, Nat.reduceAdd, Nat.reduceSub, Nat.reduceMul, Nat.zero_add, Nat.mul_one, Nat.zero_mul, List.replicate, Nat.reduceEqDiff, reduceCtorEq, eqOf, AV.cells, List.length_cons, List.length_nil, inRange, beq_true, beq_false, Bool.true_beq, Bool.false_beq, decide_true, decide_false, decide_eq_true_eq, not_true_eq_false, not_false_eq_true, List.append_nil, List.nil_append, List.cons_append, Vm.undef, Int.reduceAdd, Int.reduceLT, Int.reduceLE, Int.reduceToNat, Int.reduceNeg, Int.reduceSub, Int.cast_ofNat_Int, Bool.or_true, Bool.true_or, Bool.or_false, Bool.false_or, purify_wd, purify_lnil, List.map_nil, purify_ref, refP_wd, flat_wd, purify_agg, purify_tup, purify_int, purify_bool, purify_str, purify_nilf, purify_fn, mapL_nil, mapL_cons, pure_wd, upd_apply, setCells_cons, setCells_nil, freezes, iv, deep, List.all_cons, List.all_nil, AV.scal, List.take_succ_cons, List.take_zero, List.drop_succ_cons, List.take_nil, List.drop_nil, true_or, or_true, or_self, false_or, or_false, and_true, true_and, and_self, ite_self, ← List.map_take, ← List.map_drop, if_pos, if_neg, decide_eq_true, decide_eq_false, wrap64, wrapu64, wrapu32, get_wd, get_wd', wd, List.length_map, opn_eq, T1, T2, T3, T4, T5, T6, T7, T8, T9, T10, T11, T12, T13, T14, T15, T16, T17, T18, T19, T20, T21, T22, T23, T25, T26, T27, T28, T29, T30, T31, T32, T33, T35, T36, T37, T39, T41, T42, T43, T44, T45, T46, T47, T48, T49, T50, T51, T52, T54, T56, T58, T59, T61, T62, T64, T65, T66, T67, T68, T69, T70, T71, T72, T73, T74, T76, T77, T78, T79, T80, T81, T82, T83, T84, T85, T87, T88, T89, T91, T92, T93, T95, T97, T98, T100, T101, T102, T103, T104, T105, T106, T107, T108, T109, T110, T111, T112, T113, T114, T115, T116, T117, T118, T119, T120, T121, T122, Try.f3, e1, e2, e3, hx, hy, hz, h1, h2, h4, h5, awake14]
    · have hs1 : ¬ (m - n) &&& m = m - n := fun g => hu (land_of_sub h g)
      have hs2 : ¬ n &&& (m - n) = 0 := fun g => hu (land_of_zero h g)
      simp only [hu, decide_false] at h1 h2
      simp only [hs1, decide_false] at h4
      have h5 := land64 (a := n) (b := m - n) (by omega) (by omega)
      have h6 : ¬ ((n &&& (m - n) : Nat) : Int) = 0 := by omega
      simp (disch := omega) only [Rc_nil, Rc_cons, reK_val, reK_skip, rcK_ret, raK_some, rtK_some, rtK_none, rwK_t, rwK_f, List.map_cons, W_seq, W_block, W_region, W_skip, W_ret, W_exit, thenK_norm, thenK_exit, thenK_ret, thenK_panic, blockK_norm, blockK_exit, blockK_ret, blockK_panic, loopK_norm, loopK_exit, loopK_ret, loopK_panic, retK_ret, retK_norm, resK_some, purK_some, W_cond', condK_t, condK_f, Rg_nil, Rg_cons, wantK_t, wantK_f, targK_none, targK_some, effK_val, effK_skip, effK_panic, argK_some, callK_ret, callK_panic, openK_ret, openK_panic, want, target, opEff, ev, evs, evo, evps, Option.map_some, Option.map_none, Option.isSome_none, Option.isNone_some, Option.isNone_none, Int.toNat_natCast, Int.toNat_zero, Int.toNat_one, Int.natCast_zero, List.drop_zero, Option.isSome_some, put, List.set_cons_zero, List.set_cons_succ, List.getD_cons_zero, List.getD_cons_succ, List.getElem?_cons_zero, List.getElem?_cons_succ, ofConst, scalConst, Eff.v, Heap.upds, Bool.false_eq_true, if_false, if_true, builtinEff, binEff, bothInt, intBin, loadEff, storeEff, beq_self_eq_true, Bool.and_self, Bool.true_and, Bool.and_true, Bool.false_and, Bool.and_false, Bool.not_true, Bool.not_false, resOf, one, Nat.reduceAdd, Nat.reduceSub, Nat.reduceMul, Nat.zero_add, Nat.mul_one, Nat.zero_mul, List.replicate, Nat.reduceEqDiff, reduceCtorEq, eqOf, AV.cells, List.length_cons, List.length_nil, inRange, beq_true, beq_false, Bool.true_beq, Bool.false_beq, decide_true, decide_false, decide_eq_true_eq, not_true_eq_false, not_false_eq_true, List.append_nil, List.nil_append, List.cons_append, Vm.undef, Int.reduceAdd, Int.reduceLT, Int.reduceLE, Int.reduceToNat, Int.reduceNeg, Int.reduceSub, Int.cast_ofNat_Int, Bool.or_true, Bool.true_or, Bool.or_false, Bool.false_or, purify_wd, purify_lnil, List.map_nil, purify_ref, refP_wd, flat_wd, purify_agg, purify_tup, purify_int, purify_bool, purify_str, purify_nilf, purify_fn, mapL_nil, mapL_cons, pure_wd, upd_apply, setCells_cons, setCells_nil, freezes, iv, deep, List.all_cons, List.all_nil, AV.scal, List.take_succ_cons, List.take_zero, List.drop_succ_cons, List.take_nil, List.drop_nil, true_or, or_true, or_self, false_or, or_false, and_true, true_and, and_self, ite_self, ← List.map_take, ← List.map_drop, if_pos, if_neg, decide_eq_true, decide_eq_false, wrap64, wrapu64, wrapu32, get_wd, get_wd', wd, List.length_map, opn_eq, T1, T2, T3, T4, T5, T6, T7, T8, T9, T10, T11, T12, T13, T14, T15, T16, T17, T18, T19, T20, T21, T22, T23, T25, T26, T27, T28, T29, T30, T31, T32, T33, T35, T36, T37, T39, T41, T42, T43, T44, T45, T46, T47, T48, T49, T50, T51, T52, T54, T56, T58, T59, T61, T62, T64, T65, T66, T67, T68, T69, T70, T71, T72, T73, T74, T76, T77, T78, T79, T80, T81, T82, T83, T84, T85, T87, T88, T89, T91, T92, T93, T95, T97, T98, T100, T101, T102, T103, T104, T105, T106, T107, T108, T109, T110, T111, T112, T113, T114, T115, T116, T117, T118, T119, T120, T121, T122, Try.f3, e1, e2, e3, hx, hy, hz, h1, h2, h4, h5, awake14]
  · have hu : ¬ n &&& m = n := by
      have : n &&& m ≤ m := Nat.and_le_right
      omega
    simp only [hu, decide_false] at h1 h2
    simp (disch := omega) only [Rc_nil, Rc_cons, reK_val, reK_skip, rcK_ret, raK_some, rtK_some, rtK_none, rwK_t, rwK_f, List.map_cons, W_seq, W_block, W_region, W_skip, W_ret, W_exit, thenK_norm, thenK_exit, thenK_ret, thenK_panic, blockK_norm, blockK_exit, blockK_ret, blockK_panic, loopK_norm, loopK_exit, loopK_ret, loopK_panic, retK_ret, retK_norm, resK_some, purK_some, W_cond', condK_t, condK_f, Rg_nil, Rg_cons, wantK_t, wantK_f, targK_none, targK_some, effK_val, effK_skip, effK_panic, argK_some, callK_ret, callK_panic, openK_ret, openK_panic, want, target, opEff, ev, evs, evo, evps, Option.map_some, Option.map_none, Option.isSome_none, Option.isNone_some, Option.isNone_none, Int.toNat_natCast, Int.toNat_zero, Int.toNat_one, Int.natCast_zero, List.drop_zero, Option.isSome_some, put, List.set_cons_zero, List.set_cons_succ, List.getD_cons_zero, List.getD_cons_succ, List.getElem?_cons_zero, List.getElem?_cons_succ, ofConst, scalConst, Eff.v, Heap.upds, Bool.false_eq_true, if_false, if_true, builtinEff, binEff, bothInt, intBin, loadEff, storeEff, beq_self_eq_true, Bool.and_self, Bool.true_and, Bool.and_true, Bool.false_and, Bool.and_false, Bool.not_true, Bool.not_false, resOf, one, Nat.reduceAdd, Nat.reduceSub, Nat.reduceMul, Nat.zero_add, Nat.mul_one, Nat.zero_mul, List.replicate, Nat.reduceEqDiff, reduceCtorEq, eqOf, AV.cells, List.length_cons, List.length_nil, inRange, beq_true, beq_false, Bool.true_beq, Bool.false_beq, decide_true, decide_false, decide_eq_true_eq, not_true_eq_false, not_false_eq_true, List.append_nil, List.nil_append, List.cons_append, Vm.undef, Int.reduceAdd, Int.reduceLT, Int.reduceLE, Int.reduceToNat, Int.reduceNeg, Int.reduceSub, Int.cast_ofNat_Int, Bool.or_true, Bool.true_or, Bool.or_false, Bool.false_or, purify_wd, purify_lnil, List.map_nil, purify_ref, refP_wd, flat_wd, purify_agg, purify_tup, purify_int, purify_bool, purify_str, purify_nilf, purify_fn, mapL_nil, mapL_cons, pure_wd, upd_apply, setCells_cons, setCells_nil, freezes, iv, deep, List.all_cons, List.all_nil, AV.scal, List.take_succ_cons, List.take_zero, List.drop_succ_cons, List.take_nil, List.drop_nil, true_or, or_true, or_self, false_or, or_false, and_true, true_and, and_self, ite_self, ← List.map_take, ← List.map_drop, if_pos, if_neg, decide_eq_true, decide_eq_false, wrap64, wrapu64, wrapu32, get_wd, get_wd', wd, List.length_map, opn_eq, T1, T2, T3, T4, T5, T6, T7, T8, T9, T10, T11, T12, T13, T14, T15, T16, T17, T18, T19, T20, T21, T22, T23, T25, T26, T27, T28, T29, T30, T31, T32, T33, T35, T36, T37, T39, T41, T42, T43, T44, T45, T46, T47, T48, T49, T50, T51, T52, T54, T56, T58, T59, T61, T62, T64, T65, T66, T67, T68, T69, T70, T71, T72, T73, T74, T76, T77, T78, T79, T80, T81, T82, T83, T84, T85, T87, T88, T89, T91, T92, T93, T95, T97, T98, T100, T101, T102, T103, T104, T105, T106, T107, T108, T109, T110, T111, T112, T113, T114, T115, T116, T117, T118, T119, T120, T121, T122, Try.f3, e1, e2, hx, hy, h1, h2, awake14]
theorem largeUnder_holds : Rows.LargeUnderSaid := largeUnder.over largeUnder_pure
#print axioms largeUnder_holds
end Go.Proofs.Ytpfcijgcjghgeaa
