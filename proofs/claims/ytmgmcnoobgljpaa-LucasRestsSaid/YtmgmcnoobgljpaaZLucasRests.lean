/- Part 7 of a proof about this seat: RLucasRests, LRests. (Own work of this repo.) -/
import Derived.Test.YtmgmcnoobgljpaaZLucasRank6
import Derived.WalkKit
import Derived.ProofKit
import Derived.OpenShut
import Derived.ShutString
import Derived.ChangeOld
import Derived.Below
import Derived.SizedLaws
set_option linter.unusedVariables false
set_option linter.unusedSimpArgs false
/- The row of LucasRests, out of what the machine over pure values says. (Own work of this repo.) -/
namespace Go.Proofs.Ytmgmcnoobgljpaa
namespace lucasRests
open Go.ChangeShapes Go.WideShapes Go.ChangeAt Go.RowKit
def Pure : Prop := ∀ xs, Vm.FitArgs E [24, 3, 24] xs → Vm.denP E 9 xs = some (.ret (.bool true))
theorem own : ownKnob Try.prog.godebug = none := by kernel_rfl
set_option maxRecDepth 100000 in
theorem lifted (hP : Pure) (os : Os) (started : os.Started) (H : Type) (enc : TypeId × Value → H) :
    ReturnsInHanded {} Try.checked os 9 .any (Rows.lucasRestsSpec.pre6 enc Try.prog Try.f9 Rows.lucasRestsRow.domain false) (Rows.lucasRestsSpec.post enc Try.prog Try.f9 false true false false) := by
  refine returnsInHanded_of_change_sized (C := Try.checked) own started (by kernel_rfl) Try.func9
    (ChangeSpec.witness6 (enc := enc) (C := Try.checked) false ⟨#[], #[(.agg #[.bool false, .slice none 0 0]), (.int .i64 0), (.agg #[.bool false, .slice none 0 0])], []⟩ 8 (by kernel_rfl) (by kernel_rfl) (by kernel_rfl) (by kernel_rfl)) ?_
  intro W base args ds gs before hval0 hW hcnd hsz0 _
  have hval : ∀ (j : Nat) t v, Try.f9.params[j]? = some t → args[j]? = some v → Value.okWide Try.prog W .any base t v := hval0
  have hW' := hW
  obtain ⟨p, q, hA0, hV, rfl, hfz, hnd⟩ := hW
  have hA : DataW.TrodAll enc Try.prog W 0 (fun _ => true) true Try.f9.params.toList args.toList ds p := hA0
  have hpar : Try.f9.params.toList = [24, 3, 24] := by rw [Try.params9]
  rw [hpar] at hA
  obtain ⟨xs, hfit, hrep, hpure, hst⟩ := Vm.open_args eok.toEOk (by kernel_rfl) _ _ _ _ (by kernel_rfl) hA (fun j t v ht hv => ⟨_, _, hval j t v (by rw [← Array.getElem?_toList, hpar]; exact ht) (by rw [← Array.getElem?_toList]; exact hv)⟩)
  have hlen := Vm.trodAll_len hA
  obtain ⟨rfl, rfl⟩ := trodVars_none hV
  clear hA0 hval0 hsz0 hval hA hcnd
  match ds, hlen, hst, hW' with
  | [d0, d1, d2], _, hst, hW =>
    refine (Vm.denP_calls eok (hP xs hfit) W args hrep hpure).mono fun e W' ⟨bel, v, he, hv⟩ => ?_
    subst he
    obtain rfl := Vm.rep_bool hv
    exact ⟨_, rfl, _, _, _, [], _, [], hW, trodAll_mk1 (shut_bool Try.underlying4 _), (by rw [hpar]; exact hst W' bel), rfl, bel.frame _, fun h => by cases h⟩
theorem over (hP : Pure) : Rows.lucasRestsRow.holds Try.pinned (OpenSpec.ofChange Rows.lucasRestsSpec) :=
  OpenClaim.holds_of_wide 9 Try.f9 rfl rfl rfl rfl rfl rfl rfl ⟨rfl, rfl, rfl, rfl, rfl⟩ rfl rfl rfl rfl rfl (by kernel_rfl) Try.func9 (by kernel_rfl)
    (of_decide_eq_true (by kernel_rfl)) (by unfold Func.isWrapper; first | (rw [if_pos (by decide +kernel)]; kernel_rfl) | (rw [if_neg (by decide +kernel)]; exact ⟨rfl, rfl⟩))
    (fun os started H enc _ => lifted hP os started H enc)
end lucasRests

end Go.Proofs.Ytmgmcnoobgljpaa

/- The law LucasRests. (Own work of this repo.) -/
namespace Go.Proofs.Ytmgmcnoobgljpaa
open Vm Luc
set_option maxRecDepth 10000

abbrev restsP (qa : Raw) (n : Int) (qm : Raw) : Prop := denP E 9 [ivr qa, .int .i64 n, ivr qm] = some (.ret (.bool true))
theorem num_bad (f g : Bool) (w : Int) (hw : w ≠ 0) : denP E 18 [I f 0, .int .i64 w, I g 0, .int .i64 w] = some (.ret (.bool true)) := by
  rw [number_spec f 0 w g 0 w (by rw [dg_zero]; simp) (by rw [dg_zero]; simp), if_pos hw]
  simp
theorem rs_far (qa qm : Raw) (n : Int) (h : shortW 60 qa = false ∨ (60 < qm.2.2.length ∧ qm.2.2.length < 126)) : restsP qa n qm := by
  have hs := short1 60 (by decide) qa
  refine denP_eq E9 rfl (by simp [AV.pureL, AV.pure, pure_wd]) ?_
  simp only [ivr, iv] at hs ⊢
  simp only [Int.cast_ofNat_Int] at hs
  cases hd : shortW 60 qa with
  | false =>
    rw [hd] at hs
    simp (maxSteps := 4000000) only [go_sem, ↓reduceIte, Nat.reduceAdd, Nat.reduceSub, Nat.reduceMul, Nat.reduceEqDiff, reduceCtorEq, Int.reduceAdd, Int.reduceLT, Int.reduceLE, Int.reduceToNat, Int.reduceNeg, Int.reduceSub, ← List.map_take, ← List.map_drop, ne_eq, Nat.reduceLeDiff, Nat.reduceLT, Nat.zero_le, Nat.le_refl, wrap64, wrapu64, wrapu32, ← Int.natCast_add, ← Int.natCast_mul, cast_succ, wrapu32_nat, shr32, reps_wd, map_set_wd, List.length_set, zs_len, Try.f9, hs, awake8, places, fillAll, reps, refP, elems]
  | true =>
    rw [hd] at hs h
    obtain ⟨b1, b2⟩ := h.resolve_left (by intro e; cases e)
    have z1 : ((60 : Int) < (qm.2.2.length : Int)) = True := eq_true (by omega)
    have z2 : ((qm.2.2.length : Int) < 126) = True := eq_true (by omega)
    simp (maxSteps := 4000000) only [go_sem, ↓reduceIte, Nat.reduceAdd, Nat.reduceSub, Nat.reduceMul, Nat.reduceEqDiff, reduceCtorEq, Int.reduceAdd, Int.reduceLT, Int.reduceLE, Int.reduceToNat, Int.reduceNeg, Int.reduceSub, ← List.map_take, ← List.map_drop, ne_eq, Nat.reduceLeDiff, Nat.reduceLT, Nat.zero_le, Nat.le_refl, wrap64, wrapu64, wrapu32, ← Int.natCast_add, ← Int.natCast_mul, cast_succ, wrapu32_nat, shr32, reps_wd, map_set_wd, List.length_set, zs_len, Try.f9, hs, z1, z2, awake8, places, fillAll, reps, refP, elems]
def nearS (n : Nat) : Prop := (((60 : Int) < (n : Int)) = False ∧ ((60 : Int) < (n : Int)) = False) ∨ (((60 : Int) < (n : Int)) = True ∧ ((n : Int) < 126) = False)
theorem nearS_of {n : Nat} (h1 : ¬ (60 < n ∧ n < 126)) : nearS n := by
  unfold nearS
  simp only [eq_iff_iff, iff_false, iff_true]
  omega
set_option maxHeartbeats 2000000 in
theorem rs_no (qa qm : Raw) (n : Int) (hs : shortW 60 qa = true) (hn : nearS qm.2.2.length) (w c : Int) (v : Bool) (hw : w ≠ 0) (hr : denP E 38 [ivr qa, .int .i64 n, ivr qm] = some (.ret (EQ3 w)))
    (hc : denP E 17 [ivr qa] = some (.ret (.int .i64 c))) (hv : denP E 22 [ivr qm] = some (.ret (.bool v))) (h : (v = false ∧ w = 1) ∨ (v = true ∧ c = w)) : restsP qa n qm := by
  have hs' := short1 60 (by decide) qa
  rw [hs] at hs'
  have nb := num_bad true true w hw
  have rz := rZero_spec true 0
  rw [decide_eq_true rfl] at rz
  refine denP_eq E9 rfl (by simp [AV.pureL, AV.pure, pure_wd]) ?_
  simp only [ivr, iv] at hs' hr hc hv ⊢
  simp only [Int.cast_ofNat_Int] at hs'
  have z0 : (w = 0) = False := eq_false hw
  rcases h with ⟨rfl, rfl⟩ | ⟨rfl, rfl⟩ <;> rcases hn with ⟨n1, n1'⟩ | ⟨n1, n1'⟩ <;> (
    simp (maxSteps := 4000000) only [go_sem, ↓reduceIte, Nat.reduceAdd, Nat.reduceSub, Nat.reduceMul, Nat.reduceEqDiff, reduceCtorEq, Int.reduceAdd, Int.reduceLT, Int.reduceLE, Int.reduceToNat, Int.reduceNeg, Int.reduceSub, ← List.map_take, ← List.map_drop, ne_eq, Nat.reduceLeDiff, Nat.reduceLT, Nat.zero_le, Nat.le_refl, wrap64, wrapu64, wrapu32, ← Int.natCast_add, ← Int.natCast_mul, cast_succ, wrapu32_nat, shr32, reps_wd, map_set_wd, List.length_set, zs_len, Try.f9, hs', n1, n1', hr, hc, hv, z0, Int.reduceEq, awake8, places, fillAll, reps, refP, elems]
    refine W_drawn ?_
    simp (maxSteps := 4000000) only [go_sem, ↓reduceIte, Nat.reduceAdd, Nat.reduceSub, Nat.reduceMul, Nat.reduceEqDiff, reduceCtorEq, Int.reduceAdd, Int.reduceLT, Int.reduceLE, Int.reduceToNat, Int.reduceNeg, Int.reduceSub, ← List.map_take, ← List.map_drop, ne_eq, Nat.reduceLeDiff, Nat.reduceLT, Nat.zero_le, Nat.le_refl, wrap64, wrapu64, wrapu32, ← Int.natCast_add, ← Int.natCast_mul, cast_succ, wrapu32_nat, shr32, reps_wd, map_set_wd, List.length_set, zs_len, z0, Int.reduceEq]
    refine ⟨by refine okR_pairs ?_; (repeat ((with_unfolding_all refine And.intro ?_ ?_); (focus (rw [free_mk] <;> (try simp) <;> (try omega))))); (with_unfolding_all exact True.intro), ?_⟩
    simp (maxSteps := 4000000) only [go_sem, ↓reduceIte, Nat.reduceAdd, Nat.reduceSub, Nat.reduceMul, Nat.reduceEqDiff, reduceCtorEq, Int.reduceAdd, Int.reduceLT, Int.reduceLE, Int.reduceToNat, Int.reduceNeg, Int.reduceSub, ← List.map_take, ← List.map_drop, ne_eq, Nat.reduceLeDiff, Nat.reduceLT, Nat.zero_le, Nat.le_refl, wrap64, wrapu64, wrapu32, ← Int.natCast_add, ← Int.natCast_mul, cast_succ, wrapu32_nat, shr32, reps_wd, map_set_wd, List.length_set, zs_len, nb, rz, awake8, z0, Int.reduceEq])
set_option maxHeartbeats 4000000 in
theorem rs_bad (fa : Bool) (a : Int) (fm : Bool) (m : Int) (n : Int) (ha : (dg a).length ≤ 60) (hm : (dg m).length ≤ 4096) (h2 : 2 ≤ a) (hn : nearS (dg m).length)
    (h : ((n < 0) = True ∧ (n < 0) = True) ∨ ((n < 0) = False ∧ (1152921504606846976 < n) = True) ∨ (((n < 0) = False ∧ (1152921504606846976 < n) = False) ∧ (m < 1) = True) ∨ (((n < 0) = False ∧ (1152921504606846976 < n) = False) ∧ (m < 1) = False ∧ ((4000 : Int) < (bl m.natAbs : Int)) = True)) :
    denP E 9 [I fa a, .int .i64 n, I fm m] = some (.ret (.bool true)) := by
  have hs := short1 60 (by decide) (ng a, fa, dg a)
  rw [show shortW 60 (ng a, fa, dg a) = true from decide_eq_true ha] at hs
  have hr := rests_arg a m fa fm (by omega) hm h2 n (by
    simp only [eq_iff_iff, iff_false, iff_true] at h
    by_cases h1 : 1 ≤ m
    · by_cases h3 : bl m.natAbs ≤ 4000
      · rw [decide_eq_true h1, decide_eq_true h3]; right; omega
      · left; rw [decide_eq_false h3, Bool.and_false]
    · left; rw [decide_eq_false h1, Bool.false_and])
  have hc := code_ok fa a (by omega)
  rw [if_pos h2] at hc
  have hv := rValid_spec fm m (by omega)
  rw [decide_eq_true hm] at hv
  have o1 := rOf_spec 1 (by decide) (by decide)
  rw [RM, show decide ((1 : Int) = 0) = false from rfl] at o1
  have l1 := dg_small (z := 1) (by decide)
  have c1 := rCmp_spec fm m false 1 (by omega) (by omega)
  have c2 : (cmpI m 1 < 0) = (m < 1) := by unfold cmpI; (repeat' split) <;> simp <;> omega
  have b1 := rBits_spec fm m (by omega)
  have nb := num_bad true true 2 (by decide)
  have rz := rZero_spec true 0
  rw [decide_eq_true rfl] at rz
  refine denP_eq E9 rfl (by simp [AV.pureL, AV.pure, pure_wd]) ?_
  simp only [ivr, iv] at hs
  simp only [Int.cast_ofNat_Int] at hs
  have h' : ∃ A B C D : Prop, (n < 0) = A ∧ (1152921504606846976 < n) = B ∧ (m < 1) = C ∧ ((4000 : Int) < (bl m.natAbs : Int)) = D ∧ ((A = True) ∨ (A = False ∧ B = True) ∨ (A = False ∧ B = False ∧ C = True) ∨ (A = False ∧ B = False ∧ C = False ∧ D = True)) := by
    refine ⟨_, _, _, _, rfl, rfl, rfl, rfl, ?_⟩
    rcases h with ⟨h3, _⟩ | ⟨h3, h4⟩ | ⟨⟨h3, h4⟩, h5⟩ | ⟨⟨h3, h4⟩, h5, h6⟩
    · exact .inl h3
    · exact .inr (.inl ⟨h3, h4⟩)
    · exact .inr (.inr (.inl ⟨h3, h4, h5⟩))
    · exact .inr (.inr (.inr ⟨h3, h4, h5, h6⟩))
  clear h
  obtain ⟨A, B, C, D, h3, h4, h5, h6, h⟩ := h'
  rcases h with rfl | ⟨rfl, rfl⟩ | ⟨rfl, rfl, rfl⟩ | ⟨rfl, rfl, rfl, rfl⟩ <;> rcases hn with ⟨n1, n1'⟩ | ⟨n1, n1'⟩ <;> (
      simp (maxSteps := 4000000) only [go_sem, ↓reduceIte, Nat.reduceAdd, Nat.reduceSub, Nat.reduceMul, Nat.reduceEqDiff, reduceCtorEq, Int.reduceAdd, Int.reduceLT, Int.reduceLE, Int.reduceToNat, Int.reduceNeg, Int.reduceSub, ← List.map_take, ← List.map_drop, ne_eq, Nat.reduceLeDiff, Nat.reduceLT, Nat.zero_le, Nat.le_refl, wrap64, wrapu64, wrapu32, ← Int.natCast_add, ← Int.natCast_mul, cast_succ, wrapu32_nat, shr32, reps_wd, map_set_wd, List.length_set, zs_len, Try.f9, hs, n1, n1', hr, hc, hv, Int.reduceEq, awake8, places, fillAll, reps, refP, elems]
      refine W_drawn ?_
      simp (maxSteps := 4000000) only [go_sem, ↓reduceIte, Nat.reduceAdd, Nat.reduceSub, Nat.reduceMul, Nat.reduceEqDiff, reduceCtorEq, Int.reduceAdd, Int.reduceLT, Int.reduceLE, Int.reduceToNat, Int.reduceNeg, Int.reduceSub, ← List.map_take, ← List.map_drop, ne_eq, Nat.reduceLeDiff, Nat.reduceLT, Nat.zero_le, Nat.le_refl, wrap64, wrapu64, wrapu32, ← Int.natCast_add, ← Int.natCast_mul, cast_succ, wrapu32_nat, shr32, reps_wd, map_set_wd, List.length_set, zs_len, o1, c1, c2, b1, h3, h4, h5, h6]
      refine ⟨by refine okR_pairs ?_; (repeat ((with_unfolding_all refine And.intro ?_ ?_); (focus (rw [free_mk] <;> (try simp) <;> (try omega))))); (with_unfolding_all exact True.intro), ?_⟩
      simp (maxSteps := 4000000) only [go_sem, ↓reduceIte, Nat.reduceAdd, Nat.reduceSub, Nat.reduceMul, Nat.reduceEqDiff, reduceCtorEq, Int.reduceAdd, Int.reduceLT, Int.reduceLE, Int.reduceToNat, Int.reduceNeg, Int.reduceSub, ← List.map_take, ← List.map_drop, ne_eq, Nat.reduceLeDiff, Nat.reduceLT, Nat.zero_le, Nat.le_refl, wrap64, wrapu64, wrapu32, ← Int.natCast_add, ← Int.natCast_mul, cast_succ, wrapu32_nat, shr32, reps_wd, map_set_wd, List.length_set, zs_len, nb, rz, awake8, Int.reduceEq])
theorem rs_yes (fa : Bool) (a : Int) (fm : Bool) (m : Int) (n : Nat) (ha : (dg a).length ≤ 60) (hfa : fa = true → a = 0) (hm : (dg m).length ≤ 60) (h2 : 2 ≤ a) (hm1 : 1 ≤ m) (hb : bl m.natAbs ≤ 4000) (hn : n ≤ 1152921504606846976) :
    denP E 9 [I fa a, .int .i64 n, I fm m] = some (.ret (.bool true)) := by
  have hs := short1 60 (by decide) (ng a, fa, dg a)
  rw [show shortW 60 (ng a, fa, dg a) = true from decide_eq_true ha] at hs
  obtain ⟨⟨g1, g2⟩, hr, _⟩ := rests_walk a m fa fm (by omega) hfa (by omega) h2 (by rw [decide_eq_true hm1, decide_eq_true hb]; rfl) n hn
  obtain ⟨⟨g3, g4⟩, hk, _⟩ := rRests_spec a m fa fm (by omega) (by omega) hm1 n n (Nat.le_refl _) hn
  dsimp only at hr hk
  have lx : (dg (chi a n % m)).length ≤ 60 := dg_mod hm (by omega)
  have ly : (dg (psi a n % m)).length ≤ 60 := dg_mod hm (by omega)
  have s1 := rSame_spec g1 (chi a n % m) g3 (chi a n % m) (by omega) (by omega)
  have s2 := rSame_spec g2 (psi a n % m) g4 (psi a n % m) (by omega) (by omega)
  rw [decide_eq_true rfl] at s1 s2
  have hc := code_ok fa a (by omega)
  rw [if_pos h2] at hc
  have hv := rValid_spec fm m (by omega)
  rw [decide_eq_true (show (dg m).length ≤ 4096 by omega)] at hv
  have o1 := rOf_spec 1 (by decide) (by decide)
  rw [RM, show decide ((1 : Int) = 0) = false from rfl] at o1
  have l1 := dg_small (z := 1) (by decide)
  have c1 := rCmp_spec fm m false 1 (by omega) (by omega)
  have c2 : (cmpI m 1 < 0) = False := eq_false (by unfold cmpI; (repeat' split) <;> simp <;> omega)
  have b1 := rBits_spec fm m (by omega)
  refine denP_eq E9 rfl (by simp [AV.pureL, AV.pure, pure_wd]) ?_
  simp only [ivr, iv] at hs
  simp only [Int.cast_ofNat_Int] at hs
  have n1 : ((60 : Int) < ((dg m).length : Int)) = False := eq_false (by omega)
  have h4 : ((4000 : Int) < (bl m.natAbs : Int)) = False := eq_false (by omega)
  have h5 : ((n : Int) < 0) = False := eq_false (by omega)
  have h6 : (1152921504606846976 < (n : Int)) = False := eq_false (by omega)
  generalize chi a n % m = x at *
  generalize psi a n % m = y at *
  simp (maxSteps := 4000000) only [go_sem, ↓reduceIte, Nat.reduceAdd, Nat.reduceSub, Nat.reduceMul, Nat.reduceEqDiff, reduceCtorEq, Int.reduceAdd, Int.reduceLT, Int.reduceLE, Int.reduceToNat, Int.reduceNeg, Int.reduceSub, ← List.map_take, ← List.map_drop, ne_eq, Nat.reduceLeDiff, Nat.reduceLT, Nat.zero_le, Nat.le_refl, wrap64, wrapu64, wrapu32, ← Int.natCast_add, ← Int.natCast_mul, cast_succ, wrapu32_nat, shr32, reps_wd, map_set_wd, List.length_set, zs_len, Try.f9, hs, n1, hr, hc, hv, Int.reduceEq, awake8, places, fillAll, reps, refP, elems]
  refine W_drawn ?_
  simp (maxSteps := 4000000) only [go_sem, ↓reduceIte, Nat.reduceAdd, Nat.reduceSub, Nat.reduceMul, Nat.reduceEqDiff, reduceCtorEq, Int.reduceAdd, Int.reduceLT, Int.reduceLE, Int.reduceToNat, Int.reduceNeg, Int.reduceSub, ← List.map_take, ← List.map_drop, ne_eq, Nat.reduceLeDiff, Nat.reduceLT, Nat.zero_le, Nat.le_refl, wrap64, wrapu64, wrapu32, ← Int.natCast_add, ← Int.natCast_mul, cast_succ, wrapu32_nat, shr32, reps_wd, map_set_wd, List.length_set, zs_len, o1, c1, c2, b1, h4, h5, h6]
  refine ⟨by refine okR_pairs ?_; (repeat ((with_unfolding_all refine And.intro ?_ ?_); (focus (rw [free_mk] <;> (try simp) <;> (try omega))))); (with_unfolding_all exact True.intro), ?_⟩
  simp (maxSteps := 4000000) only [go_sem, ↓reduceIte, Nat.reduceAdd, Nat.reduceSub, Nat.reduceMul, Nat.reduceEqDiff, reduceCtorEq, Int.reduceAdd, Int.reduceLT, Int.reduceLE, Int.reduceToNat, Int.reduceNeg, Int.reduceSub, ← List.map_take, ← List.map_drop, ne_eq, Nat.reduceLeDiff, Nat.reduceLT, Nat.zero_le, Nat.le_refl, wrap64, wrapu64, wrapu32, ← Int.natCast_add, ← Int.natCast_mul, cast_succ, wrapu32_nat, shr32, reps_wd, map_set_wd, List.length_set, zs_len, hk, s1, s2, awake8, places, fillAll, Int.reduceEq]
theorem lucasRests_walk (qa qm : Raw) (ra : InR qa.2.2) (rm : InR qm.2.2) (na : qa.2.1 = true → qa.2.2 = []) (la : qa.2.2.length < 9223372036854775808) (lm : qm.2.2.length < 9223372036854775808) (n : Int) : restsP qa n qm := by
  cases hs : shortW 60 qa with
  | false => exact rs_far qa qm n (.inl hs)
  | true =>
    by_cases h1 : 60 < qm.2.2.length ∧ qm.2.2.length < 126
    · exact rs_far qa qm n (.inr h1)
    have hn := nearS_of h1
    have la' : qa.2.2.length ≤ 60 := of_decide_eq_true hs
    have hv := rValid_any qm.1 qm.2.1 qm.2.2 lm
    rw [valid_same] at hv
    cases hva : rvl qa with
    | false =>
      have hc := code_bad qa (by omega) hva
      have hr := rests_wide qa qm la lm (by unfold fitW; rw [hva]; rfl) n
      cases hvm : rvl qm with
      | false => exact rs_no qa qm n hs hn 1 1 false (by decide) hr hc (by rw [← hvm]; exact hv) (.inl ⟨rfl, rfl⟩)
      | true => exact rs_no qa qm n hs hn 1 1 true (by decide) hr hc (by rw [← hvm]; exact hv) (.inr ⟨rfl, rfl⟩)
    | true =>
      obtain ⟨hl', a, h4, h5⟩ := rvalid_norm (neg := qa.1) ra (by rw [valid_same]; exact hva)
      obtain ⟨neg, fa, l⟩ := qa
      dsimp only at h4 h5 la' na
      subst h4 h5
      have hc := code_ok fa a (by omega)
      have hfa : fa = true → a = 0 := fun h => dg_nil.1 (na h)
      cases hvm : rvl qm with
      | false =>
        have hr := rests_wide (ng a, fa, dg a) qm la lm (by unfold fitW; rw [hva]; simp [hvm]) n
        exact rs_no _ qm n hs hn 1 _ false (by decide) hr hc (by rw [← hvm]; exact hv) (.inl ⟨rfl, rfl⟩)
      | true =>
        obtain ⟨hl2, m, h6, h7⟩ := rvalid_norm (neg := qm.1) rm (by rw [valid_same]; exact hvm)
        obtain ⟨neg', fm, l'⟩ := qm
        dsimp only at h6 h7 h1 hn hl2
        subst h6 h7
        by_cases h2 : 2 ≤ a
        · by_cases hn0 : n < 0
          · exact rs_bad fa a fm m n la' hl2 h2 hn (.inl ⟨eq_true hn0, eq_true hn0⟩)
          by_cases hn1 : 1152921504606846976 < n
          · exact rs_bad fa a fm m n la' hl2 h2 hn (.inr (.inl ⟨eq_false hn0, eq_true hn1⟩))
          by_cases hm1 : m < 1
          · exact rs_bad fa a fm m n la' hl2 h2 hn (.inr (.inr (.inl ⟨⟨eq_false hn0, eq_false hn1⟩, eq_true hm1⟩)))
          by_cases hb : 4000 < bl m.natAbs
          · exact rs_bad fa a fm m n la' hl2 h2 hn (.inr (.inr (.inr ⟨⟨eq_false hn0, eq_false hn1⟩, eq_false hm1, eq_true (by omega)⟩)))
          obtain ⟨k, rfl⟩ := Int.eq_ofNat_of_zero_le (show 0 ≤ n by omega)
          have l125 := bl_len (z := m) (k := 125) (by omega)
          exact rs_yes fa a fm m k la' hfa (by omega) h2 (by omega) (by omega) (by omega)
        · rw [if_neg h2] at hc
          exact rs_no (ng a, fa, dg a) (ng m, fm, dg m) n hs hn 2 2 true (by decide) (rests_small a m fa fm (by omega) hl2 (by omega) n) hc (by rw [← hvm]; exact hv) (.inr ⟨rfl, rfl⟩)
theorem lucasRests_pure : lucasRests.Pure := by
  intro xs h
  simp only [FitArgs, opn_eq, T1, T2, T3, T4, T5, T6, T7, T8, T9, T10, T11, T12, T13, T14, T15, T16, T17, T18, T19, T20, T21, T22, T23, T24, T25, T26, T27, T29, T30, T31, T33, T34, T35, T37, T38, T39, T40, T42, T43, T44, T45, T46, T47, T48, T50, T51, T53, T55, T56, T57, T58, T59, T60, T61, T62, T63, T64, T65, T66, T67, T68, T69, T70, T71, T72, T73, T74, T75, T76, T77, T78, T79, T80, T81, T82, T83, T84, T85, T86, T87, T88, T89, T90, T92, T94, T95, T96, T97, T98, T99, T100, T101, T102, T104, T105, T106, T107, T108, T109, T111, T112, T113, T115, T116, T117, T118, T119, T120, T121, T122, T123, T124, T125, T126, T127, T128, T129, T130, T131, T132, T133, elm] at h
  obtain ⟨c1, x1, y1, rfl, ⟨rfl, h1⟩, c2, x2, y2, rfl, ⟨rfl, h2⟩, c3, x3, y3, rfl, ⟨rfl, h3⟩, rfl⟩ := h
  obtain ⟨qa, rfl, ra, na, la⟩ := fit_raw (m := 3) h1
  obtain ⟨qm, rfl, rm, nm, lm⟩ := fit_raw (m := 3) h3
  obtain ⟨n, hn1, hn2, rfl⟩ := fit_int8 (m := 5) h2
  unfold maxLen at la lm
  exact lucasRests_walk qa qm ra rm na (by omega) (by omega) n
theorem lucasRests_holds : Rows.LucasRestsSaid := lucasRests.over lucasRests_pure
#print axioms lucasRests_holds
end Go.Proofs.Ytmgmcnoobgljpaa
