/- Part 6 of a proof about this seat: RLucasRank, LRank. (Own work of this repo.) -/
import Derived.Test.YtmgmcnoobgljpaaZLucasRank5
import Derived.WalkKit
import Derived.ProofKit
import Derived.OpenShut
import Derived.ShutString
import Derived.ChangeOld
import Derived.Below
import Derived.SizedLaws
set_option linter.unusedVariables false
set_option linter.unusedSimpArgs false
/- The row of LucasRank, out of what the machine over pure values says. (Own work of this repo.) -/
namespace Go.Proofs.Ytmgmcnoobgljpaa
namespace lucasRank
open Go.ChangeShapes Go.WideShapes Go.ChangeAt Go.RowKit
def Pure : Prop := ∀ xs, Vm.FitArgs E [24, 24, 3] xs → Vm.denP E 4 xs = some (.ret (.bool true))
theorem own : ownKnob Try.prog.godebug = none := by kernel_rfl
set_option maxRecDepth 100000 in
theorem lifted (hP : Pure) (os : Os) (started : os.Started) (H : Type) (enc : TypeId × Value → H) :
    ReturnsInHanded {} Try.checked os 4 .any (Rows.lucasRankSpec.pre6 enc Try.prog Try.f4 Rows.lucasRankRow.domain false) (Rows.lucasRankSpec.post enc Try.prog Try.f4 false true false false) := by
  refine returnsInHanded_of_change_sized (C := Try.checked) own started (by kernel_rfl) Try.func4
    (ChangeSpec.witness6 (enc := enc) (C := Try.checked) false ⟨#[], #[(.agg #[.bool false, .slice none 0 0]), (.agg #[.bool false, .slice none 0 0]), (.int .i64 0)], []⟩ 8 (by kernel_rfl) (by kernel_rfl) (by kernel_rfl) (by kernel_rfl)) ?_
  intro W base args ds gs before hval0 hW hcnd hsz0 _
  have hval : ∀ (j : Nat) t v, Try.f4.params[j]? = some t → args[j]? = some v → Value.okWide Try.prog W .any base t v := hval0
  have hW' := hW
  obtain ⟨p, q, hA0, hV, rfl, hfz, hnd⟩ := hW
  have hA : DataW.TrodAll enc Try.prog W 0 (fun _ => true) true Try.f4.params.toList args.toList ds p := hA0
  have hpar : Try.f4.params.toList = [24, 24, 3] := by rw [Try.params4]
  rw [hpar] at hA
  obtain ⟨xs, hfit, hrep, hpure, hst⟩ := Vm.open_args eok.toEOk (by kernel_rfl) _ _ _ _ (by kernel_rfl) hA (fun j t v ht hv => ⟨_, _, hval j t v (by rw [← Array.getElem?_toList, hpar]; exact ht) (by rw [← Array.getElem?_toList]; exact hv)⟩)
  have hlen := Vm.trodAll_len hA
  obtain ⟨rfl, rfl⟩ := trodVars_none hV
  clear hA0 hval0 hsz0 hval hA hcnd
  match ds, hlen, hst, hW' with
  | [d0, d1, d2], _, hst, hW =>
    refine (Vm.denP_calls eok (hP xs hfit) W args hrep hpure).mono fun e W' ⟨bel, v, he, hv⟩ => ?_
    subst he
    obtain rfl := Vm.rep_bool hv
    exact ⟨_, rfl, _, _, _, [], _, [], hW, trodAll_mk1 (shut_bool Try.underlying4 _), (by rw [hpar]; exact hst W' bel), rfl, bel.frame _, fun h => by cases h⟩
theorem over (hP : Pure) : Rows.lucasRankRow.holds Try.pinned (OpenSpec.ofChange Rows.lucasRankSpec) :=
  OpenClaim.holds_of_wide 4 Try.f4 rfl rfl rfl rfl rfl rfl rfl ⟨rfl, rfl, rfl, rfl, rfl⟩ rfl rfl rfl rfl rfl (by kernel_rfl) Try.func4 (by kernel_rfl)
    (of_decide_eq_true (by kernel_rfl)) (by unfold Func.isWrapper; first | (rw [if_pos (by decide +kernel)]; kernel_rfl) | (rw [if_neg (by decide +kernel)]; exact ⟨rfl, rfl⟩))
    (fun os started H enc _ => lifted hP os started H enc)
end lucasRank

end Go.Proofs.Ytmgmcnoobgljpaa

/- The law LucasRank. (Own work of this repo.) -/
namespace Go.Proofs.Ytmgmcnoobgljpaa
open Vm Luc
set_option maxRecDepth 10000

abbrev rankP (qa qm : Raw) (most : Int) : Prop := denP E 4 [ivr qa, ivr qm, .int .i64 most] = some (.ret (.bool true))
theorem rank_far (qa qm : Raw) (most : Int) (h : shortW 20 qa = false ∨ (20 < qm.2.2.length ∧ qm.2.2.length < 126) ∨ (400 < most ∧ most ≤ 20000)) : rankP qa qm most := by
  have hs := short1 20 (by decide) qa
  refine denP_eq E4 rfl (by simp [AV.pureL, AV.pure, pure_wd]) ?_
  simp only [ivr, iv] at hs ⊢
  simp only [Int.cast_ofNat_Int] at hs
  cases hd : shortW 20 qa with
  | false =>
    rw [hd] at hs
    simp (maxSteps := 4000000) only [go_sem, ↓reduceIte, Nat.reduceAdd, Nat.reduceSub, Nat.reduceMul, Nat.reduceEqDiff, reduceCtorEq, Int.reduceAdd, Int.reduceLT, Int.reduceLE, Int.reduceToNat, Int.reduceNeg, Int.reduceSub, ← List.map_take, ← List.map_drop, ne_eq, Nat.reduceLeDiff, Nat.reduceLT, Nat.zero_le, Nat.le_refl, wrap64, wrapu64, wrapu32, ← Int.natCast_add, ← Int.natCast_mul, cast_succ, wrapu32_nat, shr32, reps_wd, map_set_wd, List.length_set, zs_len, Try.f4, hs, awake8, places, fillAll, reps, refP, elems]
  | true =>
    rw [hd] at hs h
    have h := h.resolve_left (by intro e; cases e)
    rcases h with ⟨b1, b2⟩ | ⟨b1, b2⟩
    · have z1 : ((20 : Int) < (qm.2.2.length : Int)) = True := eq_true (by omega)
      have z2 : ((qm.2.2.length : Int) < 126) = True := eq_true (by omega)
      simp (maxSteps := 4000000) only [go_sem, ↓reduceIte, Nat.reduceAdd, Nat.reduceSub, Nat.reduceMul, Nat.reduceEqDiff, reduceCtorEq, Int.reduceAdd, Int.reduceLT, Int.reduceLE, Int.reduceToNat, Int.reduceNeg, Int.reduceSub, ← List.map_take, ← List.map_drop, ne_eq, Nat.reduceLeDiff, Nat.reduceLT, Nat.zero_le, Nat.le_refl, wrap64, wrapu64, wrapu32, ← Int.natCast_add, ← Int.natCast_mul, cast_succ, wrapu32_nat, shr32, reps_wd, map_set_wd, List.length_set, zs_len, Try.f4, hs, z1, z2, awake8, places, fillAll, reps, refP, elems]
    · have z3 : (400 < most) = True := eq_true b1
      have z4 : (most ≤ 20000) = True := eq_true b2
      by_cases a1 : (20 : Int) < (qm.2.2.length : Int)
      · by_cases a2 : (qm.2.2.length : Int) < 126
        · simp (maxSteps := 4000000) only [go_sem, ↓reduceIte, Nat.reduceAdd, Nat.reduceSub, Nat.reduceMul, Nat.reduceEqDiff, reduceCtorEq, Int.reduceAdd, Int.reduceLT, Int.reduceLE, Int.reduceToNat, Int.reduceNeg, Int.reduceSub, ← List.map_take, ← List.map_drop, ne_eq, Nat.reduceLeDiff, Nat.reduceLT, Nat.zero_le, Nat.le_refl, wrap64, wrapu64, wrapu32, ← Int.natCast_add, ← Int.natCast_mul, cast_succ, wrapu32_nat, shr32, reps_wd, map_set_wd, List.length_set, zs_len, Try.f4, hs, a1, a2, awake8, places, fillAll, reps, refP, elems]
        · simp (maxSteps := 4000000) only [go_sem, ↓reduceIte, Nat.reduceAdd, Nat.reduceSub, Nat.reduceMul, Nat.reduceEqDiff, reduceCtorEq, Int.reduceAdd, Int.reduceLT, Int.reduceLE, Int.reduceToNat, Int.reduceNeg, Int.reduceSub, ← List.map_take, ← List.map_drop, ne_eq, Nat.reduceLeDiff, Nat.reduceLT, Nat.zero_le, Nat.le_refl, wrap64, wrapu64, wrapu32, ← Int.natCast_add, ← Int.natCast_mul, cast_succ, wrapu32_nat, shr32, reps_wd, map_set_wd, List.length_set, zs_len, Try.f4, hs, a1, a2, z3, z4, awake8, places, fillAll, reps, refP, elems]
      · simp (maxSteps := 4000000) only [go_sem, ↓reduceIte, Nat.reduceAdd, Nat.reduceSub, Nat.reduceMul, Nat.reduceEqDiff, reduceCtorEq, Int.reduceAdd, Int.reduceLT, Int.reduceLE, Int.reduceToNat, Int.reduceNeg, Int.reduceSub, ← List.map_take, ← List.map_drop, ne_eq, Nat.reduceLeDiff, Nat.reduceLT, Nat.zero_le, Nat.le_refl, wrap64, wrapu64, wrapu32, ← Int.natCast_add, ← Int.natCast_mul, cast_succ, wrapu32_nat, shr32, reps_wd, map_set_wd, List.length_set, zs_len, Try.f4, hs, a1, z3, z4, awake8, places, fillAll, reps, refP, elems]
/-- What is near: neither the modulus nor the bound is between. -/
def nearR (n : Nat) (most : Int) : Prop := ((((20 : Int) < (n : Int)) = False ∧ ((20 : Int) < (n : Int)) = False) ∨ (((20 : Int) < (n : Int)) = True ∧ ((n : Int) < 126) = False)) ∧ (((400 < most) = False ∧ (400 < most) = False) ∨ ((400 < most) = True ∧ (most ≤ 20000) = False))
theorem near_of {n : Nat} {most : Int} (h1 : ¬ (20 < n ∧ n < 126)) (h2 : ¬ (400 < most ∧ most ≤ 20000)) : nearR n most := by
  unfold nearR
  simp only [eq_iff_iff, iff_false, iff_true]
  omega
set_option maxHeartbeats 2000000 in
/-- Numbers that are not valid, or a is too small. -/
theorem rank_no (qa qm : Raw) (most : Int) (hs : shortW 20 qa = true) (hn : nearR qm.2.2.length most) (w c : Int) (v : Bool) (hw : w ≠ 0) (hr : denP E 21 [ivr qa, ivr qm, .int .i64 most] = some (.ret (RK 0 w)))
    (hc : denP E 17 [ivr qa] = some (.ret (.int .i64 c))) (hv : denP E 22 [ivr qm] = some (.ret (.bool v))) (h : (v = false ∧ w = 1) ∨ (v = true ∧ c = w)) : rankP qa qm most := by
  have hs' := short1 20 (by decide) qa
  rw [hs] at hs'
  refine denP_eq E4 rfl (by simp [AV.pureL, AV.pure, pure_wd]) ?_
  simp only [ivr, iv] at hs' hr hc hv ⊢
  simp only [Int.cast_ofNat_Int] at hs'
  have z0 : (w = 0) = False := eq_false hw
  obtain ⟨hn1, hn2⟩ := hn
  rcases h with ⟨rfl, rfl⟩ | ⟨rfl, rfl⟩ <;> rcases hn1 with ⟨n1, n1'⟩ | ⟨n1, n1'⟩ <;> rcases hn2 with ⟨n2, n2'⟩ | ⟨n2, n2'⟩ <;> (
    simp (maxSteps := 4000000) only [go_sem, ↓reduceIte, Nat.reduceAdd, Nat.reduceSub, Nat.reduceMul, Nat.reduceEqDiff, reduceCtorEq, Int.reduceAdd, Int.reduceLT, Int.reduceLE, Int.reduceToNat, Int.reduceNeg, Int.reduceSub, ← List.map_take, ← List.map_drop, ne_eq, Nat.reduceLeDiff, Nat.reduceLT, Nat.zero_le, Nat.le_refl, wrap64, wrapu64, wrapu32, ← Int.natCast_add, ← Int.natCast_mul, cast_succ, wrapu32_nat, shr32, reps_wd, map_set_wd, List.length_set, zs_len, Try.f4, hs', n1, n1', n2, n2', hr, hc, hv, z0, Int.reduceEq, awake8, places, fillAll, reps, refP, elems]
    refine W_drawn ?_
    simp (maxSteps := 4000000) only [go_sem, ↓reduceIte, Nat.reduceAdd, Nat.reduceSub, Nat.reduceMul, Nat.reduceEqDiff, reduceCtorEq, Int.reduceAdd, Int.reduceLT, Int.reduceLE, Int.reduceToNat, Int.reduceNeg, Int.reduceSub, ← List.map_take, ← List.map_drop, ne_eq, Nat.reduceLeDiff, Nat.reduceLT, Nat.zero_le, Nat.le_refl, wrap64, wrapu64, wrapu32, ← Int.natCast_add, ← Int.natCast_mul, cast_succ, wrapu32_nat, shr32, reps_wd, map_set_wd, List.length_set, zs_len, z0, Int.reduceEq, awake8]
    refine okR_pairs ?_; (repeat ((with_unfolding_all refine And.intro ?_ ?_); (focus (rw [free_mk] <;> (try simp) <;> (try omega))))); (with_unfolding_all exact True.intro))
set_option maxHeartbeats 4000000 in
theorem rank_bad (fa : Bool) (a : Int) (fm : Bool) (m : Int) (most : Int) (ha : (dg a).length ≤ 20) (hm : (dg m).length ≤ 4096) (h2 : 2 ≤ a) (hn : nearR (dg m).length most)
    (h : (((m < 1) = True ∧ (m < 1) = True) ∧ (m < 1) = True) ∨ (((m < 1) = False ∧ ((4000 : Int) < (bl m.natAbs : Int)) = True) ∧ (m < 1) = False) ∨ (((m < 1) = False ∧ ((4000 : Int) < (bl m.natAbs : Int)) = False) ∧ (most < 1) = True) ∨ (((m < 1) = False ∧ ((4000 : Int) < (bl m.natAbs : Int)) = False) ∧ (most < 1) = False ∧ (20000 < most) = True)) :
    denP E 4 [I fa a, I fm m, .int .i64 most] = some (.ret (.bool true)) := by
  have hs := short1 20 (by decide) (ng a, fa, dg a)
  rw [show shortW 20 (ng a, fa, dg a) = true from decide_eq_true ha] at hs
  have hr := rank_arg a m fa fm (by omega) hm h2 most (by
    simp only [eq_iff_iff, iff_false, iff_true] at h
    by_cases h1 : 1 ≤ m
    · by_cases h3 : bl m.natAbs ≤ 4000
      · rw [decide_eq_true h1, decide_eq_true h3]; right; omega
      · left; rw [decide_eq_false h3, Bool.and_false]
    · left; rw [decide_eq_false h1, Bool.false_and])
  have hc := code_ok fa a (by omega)
  rw [if_pos h2] at hc
  have hv := rValid_spec fm m (by omega)
  rw [decide_eq_true hm] at hv
  have o1 := rOf_spec 1 (by decide) (by decide)
  rw [RM, show decide ((1 : Int) = 0) = false from rfl] at o1
  have l1 := dg_small (z := 1) (by decide)
  have c1 := rCmp_spec fm m false 1 (by omega) (by omega)
  have c2 : (cmpI m 1 < 0) = (m < 1) := by unfold cmpI; (repeat' split) <;> simp <;> omega
  have b1 := rBits_spec fm m (by omega)
  refine denP_eq E4 rfl (by simp [AV.pureL, AV.pure, pure_wd]) ?_
  simp only [ivr, iv] at hs
  simp only [Int.cast_ofNat_Int] at hs
  obtain ⟨hn1, hn2⟩ := hn
  rcases h with ⟨⟨h3, h4⟩, h5⟩ | ⟨⟨h3, h4⟩, h5⟩ | ⟨⟨h3, h4⟩, h5⟩ | ⟨⟨h3, h4⟩, h5, h6⟩
  · rcases hn1 with ⟨n1, n1'⟩ | ⟨n1, n1'⟩ <;> rcases hn2 with ⟨n2, n2'⟩ | ⟨n2, n2'⟩ <;> (
      simp (maxSteps := 4000000) only [go_sem, ↓reduceIte, Nat.reduceAdd, Nat.reduceSub, Nat.reduceMul, Nat.reduceEqDiff, reduceCtorEq, Int.reduceAdd, Int.reduceLT, Int.reduceLE, Int.reduceToNat, Int.reduceNeg, Int.reduceSub, ← List.map_take, ← List.map_drop, ne_eq, Nat.reduceLeDiff, Nat.reduceLT, Nat.zero_le, Nat.le_refl, wrap64, wrapu64, wrapu32, ← Int.natCast_add, ← Int.natCast_mul, cast_succ, wrapu32_nat, shr32, reps_wd, map_set_wd, List.length_set, zs_len, Try.f4, hs, n1, n1', n2, n2', hr, hc, hv, Int.reduceEq, awake8, places, fillAll, reps, refP, elems]
      refine W_drawn ?_
      simp (maxSteps := 4000000) only [go_sem, ↓reduceIte, Nat.reduceAdd, Nat.reduceSub, Nat.reduceMul, Nat.reduceEqDiff, reduceCtorEq, Int.reduceAdd, Int.reduceLT, Int.reduceLE, Int.reduceToNat, Int.reduceNeg, Int.reduceSub, ← List.map_take, ← List.map_drop, ne_eq, Nat.reduceLeDiff, Nat.reduceLT, Nat.zero_le, Nat.le_refl, wrap64, wrapu64, wrapu32, ← Int.natCast_add, ← Int.natCast_mul, cast_succ, wrapu32_nat, shr32, reps_wd, map_set_wd, List.length_set, zs_len, o1, c1, c2, b1, h3]
      refine ⟨by refine okR_pairs ?_; (repeat ((with_unfolding_all refine And.intro ?_ ?_); (focus (rw [free_mk] <;> (try simp) <;> (try omega))))); (with_unfolding_all exact True.intro), ?_⟩
      simp (maxSteps := 4000000) only [go_sem, ↓reduceIte, Nat.reduceAdd, Nat.reduceSub, Nat.reduceMul, Nat.reduceEqDiff, reduceCtorEq, Int.reduceAdd, Int.reduceLT, Int.reduceLE, Int.reduceToNat, Int.reduceNeg, Int.reduceSub, ← List.map_take, ← List.map_drop, ne_eq, Nat.reduceLeDiff, Nat.reduceLT, Nat.zero_le, Nat.le_refl, wrap64, wrapu64, wrapu32, ← Int.natCast_add, ← Int.natCast_mul, cast_succ, wrapu32_nat, shr32, reps_wd, map_set_wd, List.length_set, zs_len, awake8, Int.reduceEq])
  · rcases hn1 with ⟨n1, n1'⟩ | ⟨n1, n1'⟩ <;> rcases hn2 with ⟨n2, n2'⟩ | ⟨n2, n2'⟩ <;> (
      simp (maxSteps := 4000000) only [go_sem, ↓reduceIte, Nat.reduceAdd, Nat.reduceSub, Nat.reduceMul, Nat.reduceEqDiff, reduceCtorEq, Int.reduceAdd, Int.reduceLT, Int.reduceLE, Int.reduceToNat, Int.reduceNeg, Int.reduceSub, ← List.map_take, ← List.map_drop, ne_eq, Nat.reduceLeDiff, Nat.reduceLT, Nat.zero_le, Nat.le_refl, wrap64, wrapu64, wrapu32, ← Int.natCast_add, ← Int.natCast_mul, cast_succ, wrapu32_nat, shr32, reps_wd, map_set_wd, List.length_set, zs_len, Try.f4, hs, n1, n1', n2, n2', hr, hc, hv, Int.reduceEq, awake8, places, fillAll, reps, refP, elems]
      refine W_drawn ?_
      simp (maxSteps := 4000000) only [go_sem, ↓reduceIte, Nat.reduceAdd, Nat.reduceSub, Nat.reduceMul, Nat.reduceEqDiff, reduceCtorEq, Int.reduceAdd, Int.reduceLT, Int.reduceLE, Int.reduceToNat, Int.reduceNeg, Int.reduceSub, ← List.map_take, ← List.map_drop, ne_eq, Nat.reduceLeDiff, Nat.reduceLT, Nat.zero_le, Nat.le_refl, wrap64, wrapu64, wrapu32, ← Int.natCast_add, ← Int.natCast_mul, cast_succ, wrapu32_nat, shr32, reps_wd, map_set_wd, List.length_set, zs_len, o1, c1, c2, b1, h3, h4]
      refine ⟨by refine okR_pairs ?_; (repeat ((with_unfolding_all refine And.intro ?_ ?_); (focus (rw [free_mk] <;> (try simp) <;> (try omega))))); (with_unfolding_all exact True.intro), ?_⟩
      simp (maxSteps := 4000000) only [go_sem, ↓reduceIte, Nat.reduceAdd, Nat.reduceSub, Nat.reduceMul, Nat.reduceEqDiff, reduceCtorEq, Int.reduceAdd, Int.reduceLT, Int.reduceLE, Int.reduceToNat, Int.reduceNeg, Int.reduceSub, ← List.map_take, ← List.map_drop, ne_eq, Nat.reduceLeDiff, Nat.reduceLT, Nat.zero_le, Nat.le_refl, wrap64, wrapu64, wrapu32, ← Int.natCast_add, ← Int.natCast_mul, cast_succ, wrapu32_nat, shr32, reps_wd, map_set_wd, List.length_set, zs_len, awake8, Int.reduceEq])
  · rcases hn1 with ⟨n1, n1'⟩ | ⟨n1, n1'⟩ <;> rcases hn2 with ⟨n2, n2'⟩ | ⟨n2, n2'⟩ <;> (
      simp (maxSteps := 4000000) only [go_sem, ↓reduceIte, Nat.reduceAdd, Nat.reduceSub, Nat.reduceMul, Nat.reduceEqDiff, reduceCtorEq, Int.reduceAdd, Int.reduceLT, Int.reduceLE, Int.reduceToNat, Int.reduceNeg, Int.reduceSub, ← List.map_take, ← List.map_drop, ne_eq, Nat.reduceLeDiff, Nat.reduceLT, Nat.zero_le, Nat.le_refl, wrap64, wrapu64, wrapu32, ← Int.natCast_add, ← Int.natCast_mul, cast_succ, wrapu32_nat, shr32, reps_wd, map_set_wd, List.length_set, zs_len, Try.f4, hs, n1, n1', n2, n2', hr, hc, hv, Int.reduceEq, awake8, places, fillAll, reps, refP, elems]
      refine W_drawn ?_
      simp (maxSteps := 4000000) only [go_sem, ↓reduceIte, Nat.reduceAdd, Nat.reduceSub, Nat.reduceMul, Nat.reduceEqDiff, reduceCtorEq, Int.reduceAdd, Int.reduceLT, Int.reduceLE, Int.reduceToNat, Int.reduceNeg, Int.reduceSub, ← List.map_take, ← List.map_drop, ne_eq, Nat.reduceLeDiff, Nat.reduceLT, Nat.zero_le, Nat.le_refl, wrap64, wrapu64, wrapu32, ← Int.natCast_add, ← Int.natCast_mul, cast_succ, wrapu32_nat, shr32, reps_wd, map_set_wd, List.length_set, zs_len, o1, c1, c2, b1, h3, h4, h5]
      refine ⟨by refine okR_pairs ?_; (repeat ((with_unfolding_all refine And.intro ?_ ?_); (focus (rw [free_mk] <;> (try simp) <;> (try omega))))); (with_unfolding_all exact True.intro), ?_⟩
      simp (maxSteps := 4000000) only [go_sem, ↓reduceIte, Nat.reduceAdd, Nat.reduceSub, Nat.reduceMul, Nat.reduceEqDiff, reduceCtorEq, Int.reduceAdd, Int.reduceLT, Int.reduceLE, Int.reduceToNat, Int.reduceNeg, Int.reduceSub, ← List.map_take, ← List.map_drop, ne_eq, Nat.reduceLeDiff, Nat.reduceLT, Nat.zero_le, Nat.le_refl, wrap64, wrapu64, wrapu32, ← Int.natCast_add, ← Int.natCast_mul, cast_succ, wrapu32_nat, shr32, reps_wd, map_set_wd, List.length_set, zs_len, awake8, Int.reduceEq])
  · rcases hn1 with ⟨n1, n1'⟩ | ⟨n1, n1'⟩ <;> rcases hn2 with ⟨n2, n2'⟩ | ⟨n2, n2'⟩ <;> (
      simp (maxSteps := 4000000) only [go_sem, ↓reduceIte, Nat.reduceAdd, Nat.reduceSub, Nat.reduceMul, Nat.reduceEqDiff, reduceCtorEq, Int.reduceAdd, Int.reduceLT, Int.reduceLE, Int.reduceToNat, Int.reduceNeg, Int.reduceSub, ← List.map_take, ← List.map_drop, ne_eq, Nat.reduceLeDiff, Nat.reduceLT, Nat.zero_le, Nat.le_refl, wrap64, wrapu64, wrapu32, ← Int.natCast_add, ← Int.natCast_mul, cast_succ, wrapu32_nat, shr32, reps_wd, map_set_wd, List.length_set, zs_len, Try.f4, hs, n1, n1', n2, n2', hr, hc, hv, Int.reduceEq, awake8, places, fillAll, reps, refP, elems]
      refine W_drawn ?_
      simp (maxSteps := 4000000) only [go_sem, ↓reduceIte, Nat.reduceAdd, Nat.reduceSub, Nat.reduceMul, Nat.reduceEqDiff, reduceCtorEq, Int.reduceAdd, Int.reduceLT, Int.reduceLE, Int.reduceToNat, Int.reduceNeg, Int.reduceSub, ← List.map_take, ← List.map_drop, ne_eq, Nat.reduceLeDiff, Nat.reduceLT, Nat.zero_le, Nat.le_refl, wrap64, wrapu64, wrapu32, ← Int.natCast_add, ← Int.natCast_mul, cast_succ, wrapu32_nat, shr32, reps_wd, map_set_wd, List.length_set, zs_len, o1, c1, c2, b1, h3, h4, h5, h6]
      refine ⟨by refine okR_pairs ?_; (repeat ((with_unfolding_all refine And.intro ?_ ?_); (focus (rw [free_mk] <;> (try simp) <;> (try omega))))); (with_unfolding_all exact True.intro), ?_⟩
      simp (maxSteps := 4000000) only [go_sem, ↓reduceIte, Nat.reduceAdd, Nat.reduceSub, Nat.reduceMul, Nat.reduceEqDiff, reduceCtorEq, Int.reduceAdd, Int.reduceLT, Int.reduceLE, Int.reduceToNat, Int.reduceNeg, Int.reduceSub, ← List.map_take, ← List.map_drop, ne_eq, Nat.reduceLeDiff, Nat.reduceLT, Nat.zero_le, Nat.le_refl, wrap64, wrapu64, wrapu32, ← Int.natCast_add, ← Int.natCast_mul, cast_succ, wrapu32_nat, shr32, reps_wd, map_set_wd, List.length_set, zs_len, awake8, Int.reduceEq])
set_option maxHeartbeats 1000000 in
theorem rank_yes (fa : Bool) (a : Int) (fm : Bool) (m : Int) (most : Nat) (ha : (dg a).length ≤ 20) (hfa : fa = true → a = 0) (hm : (dg m).length ≤ 20) (h2 : 2 ≤ a) (hm1 : 1 ≤ m) (hb : bl m.natAbs ≤ 4000) (h1 : 1 ≤ most) (h400 : most ≤ 400) :
    denP E 4 [I fa a, I fm m, .int .i64 most] = some (.ret (.bool true)) := by
  have hs := short1 20 (by decide) (ng a, fa, dg a)
  rw [show shortW 20 (ng a, fa, dg a) = true from decide_eq_true ha] at hs
  obtain ⟨⟨n, e⟩, hr, hr2⟩ := rank_walk a m fa fm (by omega) hfa (by omega) h2 (by rw [decide_eq_true hm1, decide_eq_true hb]; rfl) most ⟨h1, by omega⟩
  obtain ⟨⟨k, ok⟩, hk, hk2⟩ := rRank_spec a m fa fm (by omega) (by omega) hm1 most (by omega)
  dsimp only at hr hr2 hk hk2
  have hc := code_ok fa a (by omega)
  rw [if_pos h2] at hc
  have hv := rValid_spec fm m (by omega)
  rw [decide_eq_true (show (dg m).length ≤ 4096 by omega)] at hv
  have o1 := rOf_spec 1 (by decide) (by decide)
  rw [RM, show decide ((1 : Int) = 0) = false from rfl] at o1
  have l1 := dg_small (z := 1) (by decide)
  have c1 := rCmp_spec fm m false 1 (by omega) (by omega)
  have c2 : (cmpI m 1 < 0) = False := eq_false (by unfold cmpI; (repeat' split) <;> simp <;> omega)
  have b1 := rBits_spec fm m (by omega)
  refine denP_eq E4 rfl (by simp [AV.pureL, AV.pure, pure_wd]) ?_
  simp only [ivr, iv] at hs
  simp only [Int.cast_ofNat_Int] at hs
  have n1 : ((20 : Int) < ((dg m).length : Int)) = False := eq_false (by omega)
  have n2 : (400 < (most : Int)) = False := eq_false (by omega)
  have h4 : ((4000 : Int) < (bl m.natAbs : Int)) = False := eq_false (by omega)
  have h5 : ((most : Int) < 1) = False := eq_false (by omega)
  have h6 : (20000 < (most : Int)) = False := eq_false (by omega)
  have hsame : (e = 0 ∧ ok = true ∧ n = k) ∨ (e = 6 ∧ ok = false ∧ n = 0) := by
    rcases hr2 with ⟨r1, r2, r3, r4, r5⟩ | ⟨r1, r2⟩ <;> rcases hk2 with ⟨k1, k2, k3, k4, k5⟩ | ⟨k1, k2⟩
    · left
      refine ⟨r3, k3, ?_⟩
      rcases Nat.lt_trichotomy n k with h | h | h
      · exact absurd r4 (k5 n r1 h)
      · exact h
      · exact absurd k4 (r5 k k1 h)
    · exact absurd r4 (k2 n r1 r2)
    · exact absurd k4 (r2 k k1 k2)
    · cases r1; cases k1
      exact .inr ⟨rfl, rfl, rfl⟩
  clear hr2 hk2
  rcases hsame with ⟨rfl, rfl, rfl⟩ | ⟨rfl, rfl, rfl⟩
  · simp (maxSteps := 4000000) only [go_sem, ↓reduceIte, Nat.reduceAdd, Nat.reduceSub, Nat.reduceMul, Nat.reduceEqDiff, reduceCtorEq, Int.reduceAdd, Int.reduceLT, Int.reduceLE, Int.reduceToNat, Int.reduceNeg, Int.reduceSub, ← List.map_take, ← List.map_drop, ne_eq, Nat.reduceLeDiff, Nat.reduceLT, Nat.zero_le, Nat.le_refl, wrap64, wrapu64, wrapu32, ← Int.natCast_add, ← Int.natCast_mul, cast_succ, wrapu32_nat, shr32, reps_wd, map_set_wd, List.length_set, zs_len, Try.f4, hs, n1, n2, hr, hc, hv, Int.reduceEq, awake8, places, fillAll, reps, refP, elems]
    refine W_drawn ?_
    simp (maxSteps := 4000000) only [go_sem, ↓reduceIte, Nat.reduceAdd, Nat.reduceSub, Nat.reduceMul, Nat.reduceEqDiff, reduceCtorEq, Int.reduceAdd, Int.reduceLT, Int.reduceLE, Int.reduceToNat, Int.reduceNeg, Int.reduceSub, ← List.map_take, ← List.map_drop, ne_eq, Nat.reduceLeDiff, Nat.reduceLT, Nat.zero_le, Nat.le_refl, wrap64, wrapu64, wrapu32, ← Int.natCast_add, ← Int.natCast_mul, cast_succ, wrapu32_nat, shr32, reps_wd, map_set_wd, List.length_set, zs_len, o1, c1, c2, b1, h4, h5, h6]
    refine ⟨by refine okR_pairs ?_; (repeat ((with_unfolding_all refine And.intro ?_ ?_); (focus (rw [free_mk] <;> (try simp) <;> (try omega))))); (with_unfolding_all exact True.intro), ?_⟩
    simp (maxSteps := 4000000) only [go_sem, ↓reduceIte, Nat.reduceAdd, Nat.reduceSub, Nat.reduceMul, Nat.reduceEqDiff, reduceCtorEq, Int.reduceAdd, Int.reduceLT, Int.reduceLE, Int.reduceToNat, Int.reduceNeg, Int.reduceSub, ← List.map_take, ← List.map_drop, ne_eq, Nat.reduceLeDiff, Nat.reduceLT, Nat.zero_le, Nat.le_refl, wrap64, wrapu64, wrapu32, ← Int.natCast_add, ← Int.natCast_mul, cast_succ, wrapu32_nat, shr32, reps_wd, map_set_wd, List.length_set, zs_len, hk, awake8, Int.reduceEq]
  · simp (maxSteps := 4000000) only [go_sem, ↓reduceIte, Nat.reduceAdd, Nat.reduceSub, Nat.reduceMul, Nat.reduceEqDiff, reduceCtorEq, Int.reduceAdd, Int.reduceLT, Int.reduceLE, Int.reduceToNat, Int.reduceNeg, Int.reduceSub, ← List.map_take, ← List.map_drop, ne_eq, Nat.reduceLeDiff, Nat.reduceLT, Nat.zero_le, Nat.le_refl, wrap64, wrapu64, wrapu32, ← Int.natCast_add, ← Int.natCast_mul, cast_succ, wrapu32_nat, shr32, reps_wd, map_set_wd, List.length_set, zs_len, Try.f4, hs, n1, n2, hr, hc, hv, Int.reduceEq, awake8, places, fillAll, reps, refP, elems]
    refine W_drawn ?_
    simp (maxSteps := 4000000) only [go_sem, ↓reduceIte, Nat.reduceAdd, Nat.reduceSub, Nat.reduceMul, Nat.reduceEqDiff, reduceCtorEq, Int.reduceAdd, Int.reduceLT, Int.reduceLE, Int.reduceToNat, Int.reduceNeg, Int.reduceSub, ← List.map_take, ← List.map_drop, ne_eq, Nat.reduceLeDiff, Nat.reduceLT, Nat.zero_le, Nat.le_refl, wrap64, wrapu64, wrapu32, ← Int.natCast_add, ← Int.natCast_mul, cast_succ, wrapu32_nat, shr32, reps_wd, map_set_wd, List.length_set, zs_len, o1, c1, c2, b1, h4, h5, h6]
    refine ⟨by refine okR_pairs ?_; (repeat ((with_unfolding_all refine And.intro ?_ ?_); (focus (rw [free_mk] <;> (try simp) <;> (try omega))))); (with_unfolding_all exact True.intro), ?_⟩
    simp (maxSteps := 4000000) only [go_sem, ↓reduceIte, Nat.reduceAdd, Nat.reduceSub, Nat.reduceMul, Nat.reduceEqDiff, reduceCtorEq, Int.reduceAdd, Int.reduceLT, Int.reduceLE, Int.reduceToNat, Int.reduceNeg, Int.reduceSub, ← List.map_take, ← List.map_drop, ne_eq, Nat.reduceLeDiff, Nat.reduceLT, Nat.zero_le, Nat.le_refl, wrap64, wrapu64, wrapu32, ← Int.natCast_add, ← Int.natCast_mul, cast_succ, wrapu32_nat, shr32, reps_wd, map_set_wd, List.length_set, zs_len, hk, awake8, Int.reduceEq]
theorem lucasRank_walk (qa qm : Raw) (ra : InR qa.2.2) (rm : InR qm.2.2) (na : qa.2.1 = true → qa.2.2 = []) (la : qa.2.2.length < 9223372036854775808) (lm : qm.2.2.length < 9223372036854775808) (most : Int) : rankP qa qm most := by
  cases hs : shortW 20 qa with
  | false => exact rank_far qa qm most (.inl hs)
  | true =>
    by_cases h1 : 20 < qm.2.2.length ∧ qm.2.2.length < 126
    · exact rank_far qa qm most (.inr (.inl h1))
    by_cases h3 : 400 < most ∧ most ≤ 20000
    · exact rank_far qa qm most (.inr (.inr h3))
    have hn := near_of h1 h3
    have la' : qa.2.2.length ≤ 20 := of_decide_eq_true hs
    have hv := rValid_any qm.1 qm.2.1 qm.2.2 lm
    rw [valid_same] at hv
    cases hva : rvl qa with
    | false =>
      have hc := code_bad qa (by omega) hva
      have hr := rank_wide qa qm la lm (by unfold fitW; rw [hva]; rfl) most
      cases hvm : rvl qm with
      | false => exact rank_no qa qm most hs hn 1 1 false (by decide) hr hc (by rw [← hvm]; exact hv) (.inl ⟨rfl, rfl⟩)
      | true => exact rank_no qa qm most hs hn 1 1 true (by decide) hr hc (by rw [← hvm]; exact hv) (.inr ⟨rfl, rfl⟩)
    | true =>
      obtain ⟨hl', a, h4, h5⟩ := rvalid_norm (neg := qa.1) ra (by rw [valid_same]; exact hva)
      obtain ⟨neg, fa, l⟩ := qa
      dsimp only at h4 h5 la' na
      subst h4 h5
      have hc := code_ok fa a (by omega)
      have hfa : fa = true → a = 0 := fun h => dg_nil.1 (na h)
      cases hvm : rvl qm with
      | false =>
        have hr := rank_wide (ng a, fa, dg a) qm la lm (by unfold fitW; rw [hva]; simp [hvm]) most
        exact rank_no _ qm most hs hn 1 _ false (by decide) hr hc (by rw [← hvm]; exact hv) (.inl ⟨rfl, rfl⟩)
      | true =>
        obtain ⟨hl2, m, h6, h7⟩ := rvalid_norm (neg := qm.1) rm (by rw [valid_same]; exact hvm)
        obtain ⟨neg', fm, l'⟩ := qm
        dsimp only at h6 h7 h1 hn hl2
        subst h6 h7
        by_cases h2 : 2 ≤ a
        · by_cases hm1 : m < 1
          · exact rank_bad fa a fm m most la' hl2 h2 hn (.inl ⟨⟨eq_true hm1, eq_true hm1⟩, eq_true hm1⟩)
          by_cases hb : 4000 < bl m.natAbs
          · exact rank_bad fa a fm m most la' hl2 h2 hn (.inr (.inl ⟨⟨eq_false hm1, eq_true (by omega)⟩, eq_false hm1⟩))
          have hb' : ((4000 : Int) < (bl m.natAbs : Int)) = False := eq_false (by omega)
          by_cases ht : most < 1
          · exact rank_bad fa a fm m most la' hl2 h2 hn (.inr (.inr (.inl ⟨⟨eq_false hm1, hb'⟩, eq_true ht⟩)))
          by_cases ht2 : 20000 < most
          · exact rank_bad fa a fm m most la' hl2 h2 hn (.inr (.inr (.inr ⟨⟨eq_false hm1, hb'⟩, eq_false ht, eq_true ht2⟩)))
          obtain ⟨k, rfl⟩ := Int.eq_ofNat_of_zero_le (show 0 ≤ most by omega)
          have l125 := bl_len (z := m) (k := 125) (by omega)
          exact rank_yes fa a fm m k la' hfa (by omega) h2 (by omega) (by omega) (by omega) (by omega)
        · rw [if_neg h2] at hc
          exact rank_no (ng a, fa, dg a) (ng m, fm, dg m) most hs hn 2 2 true (by decide) (rank_small a m fa fm (by omega) hl2 (by omega) most) hc (by rw [← hvm]; exact hv) (.inr ⟨rfl, rfl⟩)
theorem lucasRank_pure : lucasRank.Pure := by
  intro xs h
  simp only [FitArgs, opn_eq, T1, T2, T3, T4, T5, T6, T7, T8, T9, T10, T11, T12, T13, T14, T15, T16, T17, T18, T19, T20, T21, T22, T23, T24, T25, T26, T27, T29, T30, T31, T33, T34, T35, T37, T38, T39, T40, T42, T43, T44, T45, T46, T47, T48, T50, T51, T53, T55, T56, T57, T58, T59, T60, T61, T62, T63, T64, T65, T66, T67, T68, T69, T70, T71, T72, T73, T74, T75, T76, T77, T78, T79, T80, T81, T82, T83, T84, T85, T86, T87, T88, T89, T90, T92, T94, T95, T96, T97, T98, T99, T100, T101, T102, T104, T105, T106, T107, T108, T109, T111, T112, T113, T115, T116, T117, T118, T119, T120, T121, T122, T123, T124, T125, T126, T127, T128, T129, T130, T131, T132, T133, elm] at h
  obtain ⟨c1, x1, y1, rfl, ⟨rfl, h1⟩, c2, x2, y2, rfl, ⟨rfl, h2⟩, c3, x3, y3, rfl, ⟨rfl, h3⟩, rfl⟩ := h
  obtain ⟨qa, rfl, ra, na, la⟩ := fit_raw (m := 3) h1
  obtain ⟨qm, rfl, rm, nm, lm⟩ := fit_raw (m := 3) h2
  obtain ⟨n, hn1, hn2, rfl⟩ := fit_int8 (m := 5) h3
  unfold maxLen at la lm
  exact lucasRank_walk qa qm ra rm na (by omega) (by omega) n
theorem lucasRank_holds : Rows.LucasRankSaid := lucasRank.over lucasRank_pure
#print axioms lucasRank_holds
end Go.Proofs.Ytmgmcnoobgljpaa
