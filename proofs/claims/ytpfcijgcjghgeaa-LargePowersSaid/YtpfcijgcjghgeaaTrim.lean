/- trim. -/
import Derived.Test.YtpfcijgcjghgeaaEnv
import Derived.Test.YtpfcijgcjghgeaaVal
set_option linter.unusedVariables false
set_option linter.unusedSimpArgs false
namespace Go.Proofs.Ytpfcijgcjghgeaa
open Vm
set_option maxRecDepth 10000

def tz (l : List Nat) : Nat → Nat
  | 0 => 0
  | n + 1 => if l.getD n 0 = 0 then tz l n else n + 1
theorem tz_le (l : List Nat) : ∀ n, tz l n ≤ n
  | 0 => Nat.le_refl _
  | n + 1 => by simp only [tz]; split; exact Nat.le_succ_of_le (tz_le l n); exact Nat.le_refl _

theorem trim_walk (nl : Bool) (l : List Nat) (hl : l.length < 2 ^ 60) : denP E 80 [.lst nl (l.map wd)] = some (.ret (.lst nl ((l.take (tz l l.length)).map wd))) := by
  refine denP_eq E80 rfl (by simp [AV.pureL, AV.pure, pure_wd]) ?_
  simp only [Try.f80, List.length_cons, List.length_nil, List.replicate, List.cons_append, List.nil_append, ↓reduceIte, Rc_nil, Rc_cons, reK_val, reK_skip, rcK_ret, raK_some, rtK_some, rtK_none, rwK_t, rwK_f, List.map_cons, W_seq, W_block, W_region, W_skip, W_ret, W_exit, thenK_norm, thenK_exit, thenK_ret, thenK_panic, blockK_norm, blockK_exit, blockK_ret, blockK_panic, loopK_norm, loopK_exit, loopK_ret, loopK_panic, retK_ret, retK_norm, resK_some, purK_some, W_cond', condK_t, condK_f, Rg_nil, Rg_cons, wantK_t, wantK_f, targK_none, targK_some, effK_val, effK_skip, effK_panic, argK_some, callK_ret, callK_panic, openK_ret, openK_panic, want, target, opEff, ev, evs, evo, evps, Option.map_some, Option.map_none, Option.isSome_none, Option.isNone_some, Option.isNone_none, Int.toNat_natCast, Int.toNat_zero, Int.toNat_one, Int.natCast_zero, List.drop_zero, Option.isSome_some, put, List.set_cons_zero, List.set_cons_succ, List.getD_cons_zero, List.getD_cons_succ, List.getElem?_cons_zero, List.getElem?_cons_succ, ofConst, scalConst, Eff.v, Heap.upds, Bool.false_eq_true, if_false, if_true, builtinEff, binEff, bothInt, intBin, loadEff, storeEff, beq_self_eq_true, Bool.and_self, Bool.true_and, Bool.and_true, Bool.false_and, Bool.and_false, Bool.not_true, Bool.not_false, resOf, one, Nat.reduceAdd, Nat.reduceSub, Nat.reduceMul, Nat.zero_add, Nat.mul_one, Nat.zero_mul, List.replicate, Nat.reduceEqDiff, reduceCtorEq, eqOf, AV.cells, List.length_cons, List.length_nil, inRange, beq_true, beq_false, Bool.true_beq, Bool.false_beq, decide_true, decide_false, decide_eq_true_eq, not_true_eq_false, not_false_eq_true, List.append_nil, List.nil_append, List.cons_append, Vm.undef, Int.reduceAdd, Int.reduceLT, Int.reduceLE, Int.reduceToNat, Int.reduceNeg, Int.reduceSub, Int.cast_ofNat_Int, Bool.or_true, Bool.true_or, Bool.or_false, Bool.false_or, purify_wd, purify_lnil, List.map_nil, purify_ref, refP_wd, flat_wd, purify_agg, purify_tup, purify_int, purify_bool, purify_str, purify_nilf, purify_fn, mapL_nil, mapL_cons, pure_wd, upd_apply, setCells_cons, setCells_nil, freezes, iv, deep, List.all_cons, List.all_nil, AV.scal, List.take_succ_cons, List.take_zero, List.drop_succ_cons, List.take_nil, List.drop_nil, true_or, or_true, or_self, false_or, or_false, and_true, true_and, and_self, ite_self, ← List.map_take, ← List.map_drop, T73, T3, T4, T69, List.length_map]
  refine W_loopI (fun k σ => ∃ (g4 g5 g6 g7 g8 g9 g10 g11 g12 g13 g14 g15 g16 g17 g18 g19 g20 g21 : AV), σ = ⟨[.lst nl (l.map wd), Vm.undef, .lst true [], .int .i64 k, g4, g5, g6, g7, g8, g9, g10, g11, g12, g13, g14, g15, g16, g17, g18, g19, g20, g21], Heap.empty, 0⟩ ∧ k ≤ l.length ∧ tz l k = tz l l.length) l.length ⟨_, _, _, _, _, _, _, _, _, _, _, _, _, _, _, _, _, _, rfl, Nat.le_refl _, rfl⟩ ?_
  rintro k σ ⟨g4, g5, g6, g7, g8, g9, g10, g11, g12, g13, g14, g15, g16, g17, g18, g19, g20, g21, rfl, hk, ht⟩
  cases k with
  | zero =>
    simp (maxSteps := 4000000) (disch := omega) only [↓reduceIte, Rc_nil, Rc_cons, reK_val, reK_skip, rcK_ret, raK_some, rtK_some, rtK_none, rwK_t, rwK_f, List.map_cons, W_seq, W_block, W_region, W_skip, W_ret, W_exit, thenK_norm, thenK_exit, thenK_ret, thenK_panic, blockK_norm, blockK_exit, blockK_ret, blockK_panic, loopK_norm, loopK_exit, loopK_ret, loopK_panic, retK_ret, retK_norm, resK_some, purK_some, W_cond', condK_t, condK_f, Rg_nil, Rg_cons, wantK_t, wantK_f, targK_none, targK_some, effK_val, effK_skip, effK_panic, argK_some, callK_ret, callK_panic, openK_ret, openK_panic, want, target, opEff, ev, evs, evo, evps, Option.map_some, Option.map_none, Option.isSome_none, Option.isNone_some, Option.isNone_none, Int.toNat_natCast, Int.toNat_zero, Int.toNat_one, Int.natCast_zero, List.drop_zero, Option.isSome_some, put, List.set_cons_zero, List.set_cons_succ, List.getD_cons_zero, List.getD_cons_succ, List.getElem?_cons_zero, List.getElem?_cons_succ, ofConst, scalConst, Eff.v, Heap.upds, Bool.false_eq_true, if_false, if_true, builtinEff, binEff, bothInt, intBin, loadEff, storeEff, beq_self_eq_true, Bool.and_self, Bool.true_and, Bool.and_true, Bool.false_and, Bool.and_false, Bool.not_true, Bool.not_false, resOf, one, Nat.reduceAdd, Nat.reduceSub, Nat.reduceMul, Nat.zero_add, Nat.mul_one, Nat.zero_mul, List.replicate, Nat.reduceEqDiff, reduceCtorEq, eqOf, AV.cells, List.length_cons, List.length_nil, inRange, beq_true, beq_false, Bool.true_beq, Bool.false_beq, decide_true, decide_false, decide_eq_true_eq, not_true_eq_false, not_false_eq_true, List.append_nil, List.nil_append, List.cons_append, Vm.undef, Int.reduceAdd, Int.reduceLT, Int.reduceLE, Int.reduceToNat, Int.reduceNeg, Int.reduceSub, Int.cast_ofNat_Int, Bool.or_true, Bool.true_or, Bool.or_false, Bool.false_or, purify_wd, purify_lnil, List.map_nil, purify_ref, refP_wd, flat_wd, purify_agg, purify_tup, purify_int, purify_bool, purify_str, purify_nilf, purify_fn, mapL_nil, mapL_cons, pure_wd, upd_apply, setCells_cons, setCells_nil, freezes, iv, deep, List.all_cons, List.all_nil, AV.scal, List.take_succ_cons, List.take_zero, List.drop_succ_cons, List.take_nil, List.drop_nil, true_or, or_true, or_self, false_or, or_false, and_true, true_and, and_self, ite_self, ← List.map_take, ← List.map_drop, if_pos, if_neg, decide_eq_true, decide_eq_false, wrap64, wrapu64, wrapu32, get_wd, get_wd', wd, List.length_map, opn_eq, T1, T2, T3, T4, T5, T6, T7, T8, T9, T10, T11, T12, T13, T14, T15, T16, T17, T18, T19, T20, T21, T22, T23, T25, T26, T27, T28, T29, T30, T31, T32, T33, T35, T36, T37, T39, T41, T42, T43, T44, T45, T46, T47, T48, T49, T50, T51, T52, T54, T56, T58, T59, T61, T62, T64, T65, T66, T67, T68, T69, T70, T71, T72, T73, T74, T76, T77, T78, T79, T80, T81, T82, T83, T84, T85, T87, T88, T89, T91, T92, T93, T95, T97, T98, T100, T101, T102, T103, T104, T105, T106, T107, T108, T109, T110, T111, T112, T113, T114, T115, T116, T117, T118, T119, T120, T121, T122, cutBounds]
    rw [← ht]; rfl
  | succ k => 
    have e : ((k + 1 : Nat) : Int) - 1 = k := by omega
    by_cases h0 : l.getD k 0 = 0
    · simp (maxSteps := 4000000) (disch := omega) only [↓reduceIte, Rc_nil, Rc_cons, reK_val, reK_skip, rcK_ret, raK_some, rtK_some, rtK_none, rwK_t, rwK_f, List.map_cons, W_seq, W_block, W_region, W_skip, W_ret, W_exit, thenK_norm, thenK_exit, thenK_ret, thenK_panic, blockK_norm, blockK_exit, blockK_ret, blockK_panic, loopK_norm, loopK_exit, loopK_ret, loopK_panic, retK_ret, retK_norm, resK_some, purK_some, W_cond', condK_t, condK_f, Rg_nil, Rg_cons, wantK_t, wantK_f, targK_none, targK_some, effK_val, effK_skip, effK_panic, argK_some, callK_ret, callK_panic, openK_ret, openK_panic, want, target, opEff, ev, evs, evo, evps, Option.map_some, Option.map_none, Option.isSome_none, Option.isNone_some, Option.isNone_none, Int.toNat_natCast, Int.toNat_zero, Int.toNat_one, Int.natCast_zero, List.drop_zero, Option.isSome_some, put, List.set_cons_zero, List.set_cons_succ, List.getD_cons_zero, List.getD_cons_succ, List.getElem?_cons_zero, List.getElem?_cons_succ, ofConst, scalConst, Eff.v, Heap.upds, Bool.false_eq_true, if_false, if_true, builtinEff, binEff, bothInt, intBin, loadEff, storeEff, beq_self_eq_true, Bool.and_self, Bool.true_and, Bool.and_true, Bool.false_and, Bool.and_false, Bool.not_true, Bool.not_false, resOf, one, Nat.reduceAdd, Nat.reduceSub, Nat.reduceMul, Nat.zero_add, Nat.mul_one, Nat.zero_mul, List.replicate, Nat.reduceEqDiff, reduceCtorEq, eqOf, AV.cells, List.length_cons, List.length_nil, inRange, beq_true, beq_false, Bool.true_beq, Bool.false_beq, decide_true, decide_false, decide_eq_true_eq, not_true_eq_false, not_false_eq_true, List.append_nil, List.nil_append, List.cons_append, Vm.undef, Int.reduceAdd, Int.reduceLT, Int.reduceLE, Int.reduceToNat, Int.reduceNeg, Int.reduceSub, Int.cast_ofNat_Int, Bool.or_true, Bool.true_or, Bool.or_false, Bool.false_or, purify_wd, purify_lnil, List.map_nil, purify_ref, refP_wd, flat_wd, purify_agg, purify_tup, purify_int, purify_bool, purify_str, purify_nilf, purify_fn, mapL_nil, mapL_cons, pure_wd, upd_apply, setCells_cons, setCells_nil, freezes, iv, deep, List.all_cons, List.all_nil, AV.scal, List.take_succ_cons, List.take_zero, List.drop_succ_cons, List.take_nil, List.drop_nil, true_or, or_true, or_self, false_or, or_false, and_true, true_and, and_self, ite_self, ← List.map_take, ← List.map_drop, if_pos, if_neg, decide_eq_true, decide_eq_false, wrap64, wrapu64, wrapu32, get_wd, get_wd', wd, List.length_map, opn_eq, T1, T2, T3, T4, T5, T6, T7, T8, T9, T10, T11, T12, T13, T14, T15, T16, T17, T18, T19, T20, T21, T22, T23, T25, T26, T27, T28, T29, T30, T31, T32, T33, T35, T36, T37, T39, T41, T42, T43, T44, T45, T46, T47, T48, T49, T50, T51, T52, T54, T56, T58, T59, T61, T62, T64, T65, T66, T67, T68, T69, T70, T71, T72, T73, T74, T76, T77, T78, T79, T80, T81, T82, T83, T84, T85, T87, T88, T89, T91, T92, T93, T95, T97, T98, T100, T101, T102, T103, T104, T105, T106, T107, T108, T109, T110, T111, T112, T113, T114, T115, T116, T117, T118, T119, T120, T121, T122, cutBounds, e]
      exact ⟨k, by omega, _, _, _, _, _, _, _, _, _, _, _, _, _, _, _, _, _, _, rfl, by omega, by rw [← ht]; simp only [tz, if_pos h0]⟩
    · simp (maxSteps := 4000000) (disch := omega) only [↓reduceIte, Rc_nil, Rc_cons, reK_val, reK_skip, rcK_ret, raK_some, rtK_some, rtK_none, rwK_t, rwK_f, List.map_cons, W_seq, W_block, W_region, W_skip, W_ret, W_exit, thenK_norm, thenK_exit, thenK_ret, thenK_panic, blockK_norm, blockK_exit, blockK_ret, blockK_panic, loopK_norm, loopK_exit, loopK_ret, loopK_panic, retK_ret, retK_norm, resK_some, purK_some, W_cond', condK_t, condK_f, Rg_nil, Rg_cons, wantK_t, wantK_f, targK_none, targK_some, effK_val, effK_skip, effK_panic, argK_some, callK_ret, callK_panic, openK_ret, openK_panic, want, target, opEff, ev, evs, evo, evps, Option.map_some, Option.map_none, Option.isSome_none, Option.isNone_some, Option.isNone_none, Int.toNat_natCast, Int.toNat_zero, Int.toNat_one, Int.natCast_zero, List.drop_zero, Option.isSome_some, put, List.set_cons_zero, List.set_cons_succ, List.getD_cons_zero, List.getD_cons_succ, List.getElem?_cons_zero, List.getElem?_cons_succ, ofConst, scalConst, Eff.v, Heap.upds, Bool.false_eq_true, if_false, if_true, builtinEff, binEff, bothInt, intBin, loadEff, storeEff, beq_self_eq_true, Bool.and_self, Bool.true_and, Bool.and_true, Bool.false_and, Bool.and_false, Bool.not_true, Bool.not_false, resOf, one, Nat.reduceAdd, Nat.reduceSub, Nat.reduceMul, Nat.zero_add, Nat.mul_one, Nat.zero_mul, List.replicate, Nat.reduceEqDiff, reduceCtorEq, eqOf, AV.cells, List.length_cons, List.length_nil, inRange, beq_true, beq_false, Bool.true_beq, Bool.false_beq, decide_true, decide_false, decide_eq_true_eq, not_true_eq_false, not_false_eq_true, List.append_nil, List.nil_append, List.cons_append, Vm.undef, Int.reduceAdd, Int.reduceLT, Int.reduceLE, Int.reduceToNat, Int.reduceNeg, Int.reduceSub, Int.cast_ofNat_Int, Bool.or_true, Bool.true_or, Bool.or_false, Bool.false_or, purify_wd, purify_lnil, List.map_nil, purify_ref, refP_wd, flat_wd, purify_agg, purify_tup, purify_int, purify_bool, purify_str, purify_nilf, purify_fn, mapL_nil, mapL_cons, pure_wd, upd_apply, setCells_cons, setCells_nil, freezes, iv, deep, List.all_cons, List.all_nil, AV.scal, List.take_succ_cons, List.take_zero, List.drop_succ_cons, List.take_nil, List.drop_nil, true_or, or_true, or_self, false_or, or_false, and_true, true_and, and_self, ite_self, ← List.map_take, ← List.map_drop, if_pos, if_neg, decide_eq_true, decide_eq_false, wrap64, wrapu64, wrapu32, get_wd, get_wd', wd, List.length_map, opn_eq, T1, T2, T3, T4, T5, T6, T7, T8, T9, T10, T11, T12, T13, T14, T15, T16, T17, T18, T19, T20, T21, T22, T23, T25, T26, T27, T28, T29, T30, T31, T32, T33, T35, T36, T37, T39, T41, T42, T43, T44, T45, T46, T47, T48, T49, T50, T51, T52, T54, T56, T58, T59, T61, T62, T64, T65, T66, T67, T68, T69, T70, T71, T72, T73, T74, T76, T77, T78, T79, T80, T81, T82, T83, T84, T85, T87, T88, T89, T91, T92, T93, T95, T97, T98, T100, T101, T102, T103, T104, T105, T106, T107, T108, T109, T110, T111, T112, T113, T114, T115, T116, T117, T118, T119, T120, T121, T122, cutBounds, e]
      rw [← ht]; simp only [tz, if_neg h0]

theorem tz_zero (l : List Nat) : ∀ n i, tz l n ≤ i → i < n → l.getD i 0 = 0
  | 0, i, _, h => by omega
  | n + 1, i, h1, h2 => by
    simp only [tz] at h1
    split at h1
    · rename_i h0
      by_cases hi : i = n
      · rw [hi]; exact h0
      · exact tz_zero l n i h1 (by omega)
    · omega
theorem tz_last (l : List Nat) : ∀ n, tz l n = 0 ∨ l.getD (tz l n - 1) 0 ≠ 0
  | 0 => .inl rfl
  | n + 1 => by
    simp only [tz]
    split
    · exact tz_last l n
    · rename_i h; right; simpa using h
theorem vp_tz (l : List Nat) : ∀ n, vp l (tz l n) = vp l n
  | 0 => rfl
  | n + 1 => by
    simp only [tz]
    split
    · rename_i h; rw [vp_tz l n, vp, h]; simp
    · rfl
/-- Cut at its end, a row is its number's. -/
theorem take_tz {l : List Nat} (h : InR l) : l.take (tz l l.length) = dig (val l) := by
  have hle := tz_le l l.length
  have hlen : (l.take (tz l l.length)).length = tz l l.length := by rw [List.length_take]; omega
  have hn : Norm (l.take (tz l l.length)) := by
    refine ⟨h.take _, ?_⟩
    rcases tz_last l l.length with h0 | h0
    · left; rw [h0]; rfl
    · by_cases hz : tz l l.length = 0
      · left; rw [hz]; rfl
      · right; rw [hlen, getD_take (by omega)]; exact h0
  have hv : val (l.take (tz l l.length)) = val l := by
    rw [val, hlen, vp_congr _ (fun i hi => getD_take hi), vp_tz]; rfl
  rw [← hv, dig_val hn]
theorem trim_spec (nl : Bool) (l : List Nat) (h : InR l) (hl : l.length < 2 ^ 60) : denP E 80 [.lst nl (l.map wd)] = some (.ret (.lst nl ((dig (val l)).map wd))) := by
  rw [trim_walk nl l hl, take_tz h]
end Go.Proofs.Ytpfcijgcjghgeaa
