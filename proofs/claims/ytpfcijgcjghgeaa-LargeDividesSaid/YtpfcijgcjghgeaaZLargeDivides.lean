/- Part 4 of a proof about this seat: RLargeSums, LSums, RLargeDivides, LDivides. (Own work of this repo.) -/
import Derived.Test.YtpfcijgcjghgeaaZLargeDivides3
import Derived.WalkKit
import Derived.ProofKit
import Derived.OpenShut
import Derived.ShutString
import Derived.ChangeOld
import Derived.Below
import Derived.SizedLaws
set_option linter.unusedVariables false
set_option linter.unusedSimpArgs false
/- The row of LargeSums, out of what the machine over pure values says. (Own work of this repo.) -/
namespace Go.Proofs.Ytpfcijgcjghgeaa
namespace largeSums
open Go.ChangeShapes Go.WideShapes Go.ChangeAt Go.RowKit
def Pure : Prop := ∀ xs, Vm.FitArgs E [28, 28] xs → Vm.denP E 5 xs = some (.ret (.bool true))
theorem own : ownKnob Try.prog.godebug = none := by kernel_rfl
set_option maxRecDepth 100000 in
theorem lifted (hP : Pure) (os : Os) (started : os.Started) (H : Type) (enc : TypeId × Value → H) :
    ReturnsInHanded {} Try.checked os 5 .any (Rows.largeSumsSpec.pre6 enc Try.prog Try.f5 Rows.largeSumsRow.domain false) (Rows.largeSumsSpec.post enc Try.prog Try.f5 false true false false) := by
  refine returnsInHanded_of_change_sized (C := Try.checked) own started (by kernel_rfl) Try.func5
    (ChangeSpec.witness6 (enc := enc) (C := Try.checked) false ⟨#[], #[(.agg #[.bool false, .slice none 0 0]), (.agg #[.bool false, .slice none 0 0])], []⟩ 8 (by kernel_rfl) (by kernel_rfl) (by kernel_rfl) (by kernel_rfl)) ?_
  intro W base args ds gs before hval0 hW hcnd hsz0 _
  have hval : ∀ (j : Nat) t v, Try.f5.params[j]? = some t → args[j]? = some v → Value.okWide Try.prog W .any base t v := hval0
  have hW' := hW
  obtain ⟨p, q, hA0, hV, rfl, hfz, hnd⟩ := hW
  have hA : DataW.TrodAll enc Try.prog W 0 (fun _ => true) true Try.f5.params.toList args.toList ds p := hA0
  have hpar : Try.f5.params.toList = [28, 28] := by rw [Try.params5]
  rw [hpar] at hA
  obtain ⟨xs, hfit, hrep, hpure, hst⟩ := Vm.open_args eok.toEOk (by kernel_rfl) _ _ _ _ (by kernel_rfl) hA (fun j t v ht hv => ⟨_, _, hval j t v (by rw [← Array.getElem?_toList, hpar]; exact ht) (by rw [← Array.getElem?_toList]; exact hv)⟩)
  have hlen := Vm.trodAll_len hA
  obtain ⟨rfl, rfl⟩ := trodVars_none hV
  clear hA0 hval0 hsz0 hval hA hcnd
  match ds, hlen, hst, hW' with
  | [d0, d1], _, hst, hW =>
    refine (Vm.denP_calls eok (hP xs hfit) W args hrep hpure).mono fun e W' ⟨bel, v, he, hv⟩ => ?_
    subst he
    obtain rfl := Vm.rep_bool hv
    exact ⟨_, rfl, _, _, _, [], _, [], hW, trodAll_mk1 (shut_bool Try.underlying4 _), (by rw [hpar]; exact hst W' bel), rfl, bel.frame _, fun h => by cases h⟩
theorem over (hP : Pure) : Rows.largeSumsRow.holds Try.pinned (OpenSpec.ofChange Rows.largeSumsSpec) :=
  OpenClaim.holds_of_wide 5 Try.f5 rfl rfl rfl rfl rfl rfl rfl ⟨rfl, rfl, rfl, rfl, rfl⟩ rfl rfl rfl rfl rfl (by kernel_rfl) Try.func5 (by kernel_rfl)
    (of_decide_eq_true (by kernel_rfl)) (by unfold Func.isWrapper; first | (rw [if_pos (by decide +kernel)]; kernel_rfl) | (rw [if_neg (by decide +kernel)]; exact ⟨rfl, rfl⟩))
    (fun os started H enc _ => lifted hP os started H enc)
end largeSums

end Go.Proofs.Ytpfcijgcjghgeaa

/- The law LargeSums. (Own work of this repo.) -/
namespace Go.Proofs.Ytpfcijgcjghgeaa
open Vm
set_option maxRecDepth 10000

theorem valid_raw (q : Raw) (h : q.2.2.length < 2 ^ 60) : denP E 24 [ivr q] = some (.ret (.bool (validW q.1 q.2.2))) := valid24 _ _ _ h
theorem rvalid_raw (q : Raw) (h : q.2.2.length < 2 ^ 60) : denP E 25 [ivr q] = some (.ret (.bool (rvalidW q.1 q.2.2))) := rValid_walk _ _ _ h
theorem valid_same (neg : Bool) (l : List Nat) : validW neg l = rvalidW neg l := by
  unfold validW rvalidW
  by_cases h : l.length = 0
  · simp [h]
  · by_cases h1 : l.length ≤ 4096 <;> by_cases h2 : l.getD (l.length - 1) 0 = 0 <;> simp [h, h1, h2] <;> omega
/-- Sums of what is not valid. -/
theorem badAdd (q r : Raw) (hq : q.2.2.length < 2 ^ 60) (hr : r.2.2.length < 2 ^ 60) (h : (rvalidW q.1 q.2.2 && rvalidW r.1 r.2.2) = false) : denP E 21 [ivr q, ivr r] = some (.ret (.tup [I true 0, .int .i64 1])) := by
  refine denP_eq E21 rfl (by simp [AV.pureL, AV.pure, pure_wd]) ?_
  have h1 := valid54 q.1 q.2.1 q.2.2 r.1 r.2.1 r.2.2 hq hr
  rw [valid_same, valid_same, h] at h1
  simp (maxSteps := 4000000) (disch := omega) only [go_sem, ↓reduceIte, Nat.reduceAdd, Nat.reduceSub, Nat.reduceMul, Nat.reduceEqDiff, reduceCtorEq, Int.reduceAdd, Int.reduceLT, Int.reduceLE, Int.reduceToNat, Int.reduceNeg, Int.reduceSub, ← List.map_take, ← List.map_drop, wrap64, wrapu64, wrapu32, Try.f21, ivr, h1, fillAll, reps, refP, elems, places, ng_zero, dg_zero]
theorem badSub (q r : Raw) (hq : q.2.2.length < 2 ^ 60) (hr : r.2.2.length < 2 ^ 60) (h : (rvalidW q.1 q.2.2 && rvalidW r.1 r.2.2) = false) : denP E 22 [ivr q, ivr r] = some (.ret (.tup [I true 0, .int .i64 1])) := by
  refine denP_eq E22 rfl (by simp [AV.pureL, AV.pure, pure_wd]) ?_
  have h1 := valid54 q.1 q.2.1 q.2.2 r.1 r.2.1 r.2.2 hq hr
  rw [valid_same, valid_same, h] at h1
  simp (maxSteps := 4000000) (disch := omega) only [go_sem, ↓reduceIte, Nat.reduceAdd, Nat.reduceSub, Nat.reduceMul, Nat.reduceEqDiff, reduceCtorEq, Int.reduceAdd, Int.reduceLT, Int.reduceLE, Int.reduceToNat, Int.reduceNeg, Int.reduceSub, ← List.map_take, ← List.map_drop, wrap64, wrapu64, wrapu32, Try.f22, ivr, h1, fillAll, reps, refP, elems, places, ng_zero, dg_zero]
theorem badMul (q r : Raw) (hq : q.2.2.length < 2 ^ 60) (hr : r.2.2.length < 2 ^ 60) (h : (rvalidW q.1 q.2.2 && rvalidW r.1 r.2.2) = false) : denP E 23 [ivr q, ivr r] = some (.ret (.tup [I true 0, .int .i64 1])) := by
  refine denP_eq E23 rfl (by simp [AV.pureL, AV.pure, pure_wd]) ?_
  have h1 := valid54 q.1 q.2.1 q.2.2 r.1 r.2.1 r.2.2 hq hr
  rw [valid_same, valid_same, h] at h1
  simp (maxSteps := 4000000) (disch := omega) only [go_sem, ↓reduceIte, Nat.reduceAdd, Nat.reduceSub, Nat.reduceMul, Nat.reduceEqDiff, reduceCtorEq, Int.reduceAdd, Int.reduceLT, Int.reduceLE, Int.reduceToNat, Int.reduceNeg, Int.reduceSub, ← List.map_take, ← List.map_drop, wrap64, wrapu64, wrapu32, Try.f23, ivr, h1, fillAll, reps, refP, elems, places, ng_zero, dg_zero]
theorem badCmp (q r : Raw) (hq : q.2.2.length < 2 ^ 60) (hr : r.2.2.length < 2 ^ 60) (h : (rvalidW q.1 q.2.2 && rvalidW r.1 r.2.2) = false) : denP E 20 [ivr q, ivr r] = some (.ret (.tup [.int .i64 0, .int .i64 1])) := by
  refine denP_eq E20 rfl (by simp [AV.pureL, AV.pure, pure_wd]) ?_
  have h1 := valid54 q.1 q.2.1 q.2.2 r.1 r.2.1 r.2.2 hq hr
  rw [valid_same, valid_same, h] at h1
  simp (maxSteps := 4000000) (disch := omega) only [go_sem, ↓reduceIte, Nat.reduceAdd, Nat.reduceSub, Nat.reduceMul, Nat.reduceEqDiff, reduceCtorEq, Int.reduceAdd, Int.reduceLT, Int.reduceLE, Int.reduceToNat, Int.reduceNeg, Int.reduceSub, ← List.map_take, ← List.map_drop, wrap64, wrapu64, wrapu32, Try.f20, ivr, h1, fillAll, reps, refP, elems, places, ng_zero, dg_zero]
theorem no_spec (m : Bool) (z : Int) (e w : Int) (hz : (dg z).length < 2 ^ 60) : denP E 26 [I m z, .int .i64 e, .int .i64 w] = some (.ret (.bool (decide (e = w) && decide (z = 0)))) := by
  refine denP_eq E26 rfl (by simp [AV.pureL, AV.pure, pure_wd]) ?_
  have h1 := rSame_spec m z true 0 hz (by rw [dg_zero]; simp)
  simp only [I, ng_zero, dg_zero, List.map_nil] at h1
  by_cases he : e = w
  · simp (maxSteps := 4000000) (disch := omega) only [go_sem, ↓reduceIte, Nat.reduceAdd, Nat.reduceSub, Nat.reduceMul, Nat.reduceEqDiff, reduceCtorEq, Int.reduceAdd, Int.reduceLT, Int.reduceLE, Int.reduceToNat, Int.reduceNeg, Int.reduceSub, ← List.map_take, ← List.map_drop, wrap64, wrapu64, wrapu32, Try.f26, h1, he, fillAll, places]
  · simp (maxSteps := 4000000) (disch := omega) only [go_sem, ↓reduceIte, Nat.reduceAdd, Nat.reduceSub, Nat.reduceMul, Nat.reduceEqDiff, reduceCtorEq, Int.reduceAdd, Int.reduceLT, Int.reduceLE, Int.reduceToNat, Int.reduceNeg, Int.reduceSub, ← List.map_take, ← List.map_drop, wrap64, wrapu64, wrapu32, Try.f26, h1, he, fillAll, places]
/-- 'is', of a number that was made: it is as wanted. -/
theorem is_made (m m' : Bool) (z : Int) (hz : (dg z).length < 2 ^ 60) : denP E 28 [I (fm m z) (fit z), .int .i64 (er z), I m' z] = some (.ret (.bool true)) := by
  refine denP_eq E28 rfl (by simp [AV.pureL, AV.pure, pure_wd]) ?_
  have h0 := rFits_spec m' z
  by_cases h : (dg z).length ≤ 4096
  · have h1 := rSame_spec m z m' z hz hz
    rw [decide_eq_true rfl] at h1
    rw [decide_eq_true h] at h0
    rw [fm_of h, fit_of h, er_of h]
    simp (maxSteps := 4000000) (disch := omega) only [go_sem, ↓reduceIte, Nat.reduceAdd, Nat.reduceSub, Nat.reduceMul, Nat.reduceEqDiff, reduceCtorEq, Int.reduceAdd, Int.reduceLT, Int.reduceLE, Int.reduceToNat, Int.reduceNeg, Int.reduceSub, ← List.map_take, ← List.map_drop, wrap64, wrapu64, wrapu32, Try.f28, h0, h1]
  · have h1 := rSame_spec true 0 true 0 (by rw [dg_zero]; simp) (by rw [dg_zero]; simp)
    rw [decide_eq_true rfl] at h1
    rw [decide_eq_false h] at h0
    rw [fm_no h, fit_no h, er_no h]
    simp only [I, ng_zero, dg_zero, List.map_nil] at h1
    simp (maxSteps := 4000000) (disch := omega) only [go_sem, ↓reduceIte, Nat.reduceAdd, Nat.reduceSub, Nat.reduceMul, Nat.reduceEqDiff, reduceCtorEq, Int.reduceAdd, Int.reduceLT, Int.reduceLE, Int.reduceToNat, Int.reduceNeg, Int.reduceSub, ← List.map_take, ← List.map_drop, wrap64, wrapu64, wrapu32, Try.f28, h0, h1, ng_zero, dg_zero, fillAll, places]

set_option maxHeartbeats 4000000 in
theorem largeSums_walk (qa qb : Raw) (ra : InR qa.2.2) (rb : InR qb.2.2) (la : qa.2.2.length ≤ 4200) (lb : qb.2.2.length ≤ 4200) :
    denP E 5 [ivr qa, ivr qb] = some (.ret (.bool true)) := by
  have v1 := valid_raw qa (by omega)
  have v2 := rvalid_raw qa (by omega)
  have v3 := valid_raw qb (by omega)
  have v4 := rvalid_raw qb (by omega)
  rw [valid_same] at v1 v3
  refine denP_eq E5 rfl (by simp [AV.pureL, AV.pure, pure_wd]) ?_
  cases hab : rvalidW qa.1 qa.2.2 && rvalidW qb.1 qb.2.2 with
  | true =>
    rw [Bool.and_eq_true] at hab
    rw [hab.1] at v1 v2
    rw [hab.2] at v3 v4
    obtain ⟨ka, a, sa, da⟩ := rvalid_norm ra hab.1
    obtain ⟨kb, b, sb, db⟩ := rvalid_norm rb hab.2
    rw [← da] at ka la; rw [← db] at kb lb
    have ea : ivr qa = I qa.2.1 a := by rw [I, sa, da]
    have eb : ivr qb = I qb.2.1 b := by rw [I, sb, db]
    rw [ea] at v1 v2 ⊢
    rw [eb] at v3 v4 ⊢
    generalize qa.2.1 = ma at *
    generalize qb.2.1 = mb at *
    clear ea eb da db ra rb hab sa sb
    have l1 := dg_add a b
    have l2 := dg_sub a b
    have l3 := dg_mul a b
    have c1 := cmp_spec ma a mb b ka kb
    have a1 := add_spec ma a mb b ka kb
    have a2 := sub_spec ma a mb b ka kb
    have a3 := mul_spec ma a mb b ka kb
    have c2 := rCmp_spec ma a mb b (by omega) (by omega)
    have b1 := rAdd_spec ma a mb b (by omega) (by omega)
    have b2 := rSub_spec ma a mb b (by omega) (by omega)
    have b3 := rMul_spec ma a mb b (by omega) (by omega)
    have i1 := is_made false (decide (a + b = 0)) (a + b) (by omega)
    have i2 := is_made false (decide (a - b = 0)) (a - b) (by omega)
    have i3 := is_made (mz a b) (decide (a * b = 0)) (a * b) (by omega)
    clear l1 l2 l3
    simp (maxSteps := 4000000) (disch := omega) only [go_sem, ↓reduceIte, Nat.reduceAdd, Nat.reduceSub, Nat.reduceMul, Nat.reduceEqDiff, reduceCtorEq, Int.reduceAdd, Int.reduceLT, Int.reduceLE, Int.reduceToNat, Int.reduceNeg, Int.reduceSub, ← List.map_take, ← List.map_drop, wrap64, wrapu64, wrapu32, Try.f5, c1, a1, a2, a3]
    refine W_drawn ?_
    simp (maxSteps := 4000000) (disch := omega) only [go_sem, ↓reduceIte, Nat.reduceAdd, Nat.reduceSub, Nat.reduceMul, Nat.reduceEqDiff, reduceCtorEq, Int.reduceAdd, Int.reduceLT, Int.reduceLE, Int.reduceToNat, Int.reduceNeg, Int.reduceSub, ← List.map_take, ← List.map_drop, wrap64, wrapu64, wrapu32, v1, v2, v3, v4]
    refine ⟨by rfl, ?_⟩
    refine W_drawn ?_
    simp (maxSteps := 4000000) (disch := omega) only [go_sem, ↓reduceIte, Nat.reduceAdd, Nat.reduceSub, Nat.reduceMul, Nat.reduceEqDiff, reduceCtorEq, Int.reduceAdd, Int.reduceLT, Int.reduceLE, Int.reduceToNat, Int.reduceNeg, Int.reduceSub, ← List.map_take, ← List.map_drop, wrap64, wrapu64, wrapu32, c2, b1, b2, b3, i1, i2, i3, awake14]
    rfl
  | false =>
    have c1 := badCmp qa qb (by omega) (by omega) hab
    have a1 := badAdd qa qb (by omega) (by omega) hab
    have a2 := badSub qa qb (by omega) (by omega) hab
    have a3 := badMul qa qb (by omega) (by omega) hab
    have n1 := no_spec true 0 1 1 (by rw [dg_zero]; simp)
    simp only [ivr, iv] at *
    simp (maxSteps := 4000000) (disch := omega) only [go_sem, ↓reduceIte, Nat.reduceAdd, Nat.reduceSub, Nat.reduceMul, Nat.reduceEqDiff, reduceCtorEq, Int.reduceAdd, Int.reduceLT, Int.reduceLE, Int.reduceToNat, Int.reduceNeg, Int.reduceSub, ← List.map_take, ← List.map_drop, wrap64, wrapu64, wrapu32, Try.f5, c1, a1, a2, a3]
    refine W_drawn ?_
    cases h1 : rvalidW qa.1 qa.2.2 with
    | false =>
      rw [h1] at v1 v2
      cases h2 : rvalidW qb.1 qb.2.2 with
      | false =>
        rw [h2] at v3 v4
        simp (maxSteps := 4000000) (disch := omega) only [go_sem, ↓reduceIte, Nat.reduceAdd, Nat.reduceSub, Nat.reduceMul, Nat.reduceEqDiff, reduceCtorEq, Int.reduceAdd, Int.reduceLT, Int.reduceLE, Int.reduceToNat, Int.reduceNeg, Int.reduceSub, ← List.map_take, ← List.map_drop, wrap64, wrapu64, wrapu32, v1, v2, v3, v4]
        refine ⟨by rfl, ?_⟩
        simp (maxSteps := 4000000) (disch := omega) only [go_sem, ↓reduceIte, Nat.reduceAdd, Nat.reduceSub, Nat.reduceMul, Nat.reduceEqDiff, reduceCtorEq, Int.reduceAdd, Int.reduceLT, Int.reduceLE, Int.reduceToNat, Int.reduceNeg, Int.reduceSub, ← List.map_take, ← List.map_drop, wrap64, wrapu64, wrapu32, v2, v4, n1, awake14]
      | true =>
        rw [h2] at v3 v4
        simp (maxSteps := 4000000) (disch := omega) only [go_sem, ↓reduceIte, Nat.reduceAdd, Nat.reduceSub, Nat.reduceMul, Nat.reduceEqDiff, reduceCtorEq, Int.reduceAdd, Int.reduceLT, Int.reduceLE, Int.reduceToNat, Int.reduceNeg, Int.reduceSub, ← List.map_take, ← List.map_drop, wrap64, wrapu64, wrapu32, v1, v2, v3, v4]
        refine ⟨by rfl, ?_⟩
        simp (maxSteps := 4000000) (disch := omega) only [go_sem, ↓reduceIte, Nat.reduceAdd, Nat.reduceSub, Nat.reduceMul, Nat.reduceEqDiff, reduceCtorEq, Int.reduceAdd, Int.reduceLT, Int.reduceLE, Int.reduceToNat, Int.reduceNeg, Int.reduceSub, ← List.map_take, ← List.map_drop, wrap64, wrapu64, wrapu32, v2, v4, n1, awake14]
    | true =>
      rw [h1] at v1 v2 hab
      rw [Bool.true_and] at hab
      rw [hab] at v3 v4
      simp (maxSteps := 4000000) (disch := omega) only [go_sem, ↓reduceIte, Nat.reduceAdd, Nat.reduceSub, Nat.reduceMul, Nat.reduceEqDiff, reduceCtorEq, Int.reduceAdd, Int.reduceLT, Int.reduceLE, Int.reduceToNat, Int.reduceNeg, Int.reduceSub, ← List.map_take, ← List.map_drop, wrap64, wrapu64, wrapu32, v1, v2, v3, v4]
      refine ⟨by rfl, ?_⟩
      simp (maxSteps := 4000000) (disch := omega) only [go_sem, ↓reduceIte, Nat.reduceAdd, Nat.reduceSub, Nat.reduceMul, Nat.reduceEqDiff, reduceCtorEq, Int.reduceAdd, Int.reduceLT, Int.reduceLE, Int.reduceToNat, Int.reduceNeg, Int.reduceSub, ← List.map_take, ← List.map_drop, wrap64, wrapu64, wrapu32, v2, v4, n1, awake14]
theorem largeSums_pure : largeSums.Pure := by
  intro xs h
  simp only [FitArgs, opn_eq, T1, T2, T3, T4, T5, T6, T7, T8, T9, T10, T11, T12, T13, T14, T15, T16, T17, T18, T19, T20, T21, T22, T23, T25, T26, T27, T28, T29, T30, T31, T32, T33, T35, T36, T37, T39, T41, T42, T43, T44, T45, T46, T47, T48, T49, T50, T51, T52, T54, T56, T58, T59, T61, T62, T64, T65, T66, T67, T68, T69, T70, T71, T72, T73, T74, T76, T77, T78, T79, T80, T81, T82, T83, T84, T85, T87, T88, T89, T91, T92, T93, T95, T97, T98, T100, T101, T102, T103, T104, T105, T106, T107, T108, T109, T110, T111, T112, T113, T114, T115, T116, T117, T118, T119, T120, T121, T122, elm] at h
  obtain ⟨c1, x1, y1, rfl, ⟨rfl, h1⟩, c2, x2, y2, rfl, ⟨rfl, h2⟩, rfl⟩ := h
  obtain ⟨qa, rfl, ra, na, la⟩ := fit_raw (m := 3) h1
  obtain ⟨qb, rfl, rb, nb, lb⟩ := fit_raw (m := 3) h2
  show denP E 5 [ivr qa, ivr qb] = _
  by_cases ha : qa.2.2.length ≤ 4200
  · by_cases hb : qb.2.2.length ≤ 4200
    · exact largeSums_walk qa qb ra rb ha hb
    · refine denP_eq E5 rfl (by simp [AV.pureL, AV.pure, pure_wd]) ?_
      simp (maxSteps := 4000000) (disch := omega) only [go_sem, ↓reduceIte, Nat.reduceAdd, Nat.reduceSub, Nat.reduceMul, Nat.reduceEqDiff, reduceCtorEq, Int.reduceAdd, Int.reduceLT, Int.reduceLE, Int.reduceToNat, Int.reduceNeg, Int.reduceSub, ← List.map_take, ← List.map_drop, wrap64, wrapu64, wrapu32, Try.f5, ivr, awake14]
  · refine denP_eq E5 rfl (by simp [AV.pureL, AV.pure, pure_wd]) ?_
    simp (maxSteps := 4000000) (disch := omega) only [go_sem, ↓reduceIte, Nat.reduceAdd, Nat.reduceSub, Nat.reduceMul, Nat.reduceEqDiff, reduceCtorEq, Int.reduceAdd, Int.reduceLT, Int.reduceLE, Int.reduceToNat, Int.reduceNeg, Int.reduceSub, ← List.map_take, ← List.map_drop, wrap64, wrapu64, wrapu32, Try.f5, ivr, awake14]
theorem largeSums_holds : Rows.LargeSumsSaid := largeSums.over largeSums_pure
#print axioms largeSums_holds
end Go.Proofs.Ytpfcijgcjghgeaa

/- The row of LargeDivides, out of what the machine over pure values says. (Own work of this repo.) -/
namespace Go.Proofs.Ytpfcijgcjghgeaa
namespace largeDivides
open Go.ChangeShapes Go.WideShapes Go.ChangeAt Go.RowKit
def Pure : Prop := ∀ xs, Vm.FitArgs E [28, 28] xs → Vm.denP E 9 xs = some (.ret (.bool true))
theorem own : ownKnob Try.prog.godebug = none := by kernel_rfl
set_option maxRecDepth 100000 in
theorem lifted (hP : Pure) (os : Os) (started : os.Started) (H : Type) (enc : TypeId × Value → H) :
    ReturnsInHanded {} Try.checked os 9 .any (Rows.largeDividesSpec.pre6 enc Try.prog Try.f9 Rows.largeDividesRow.domain false) (Rows.largeDividesSpec.post enc Try.prog Try.f9 false true false false) := by
  refine returnsInHanded_of_change_sized (C := Try.checked) own started (by kernel_rfl) Try.func9
    (ChangeSpec.witness6 (enc := enc) (C := Try.checked) false ⟨#[], #[(.agg #[.bool false, .slice none 0 0]), (.agg #[.bool false, .slice none 0 0])], []⟩ 8 (by kernel_rfl) (by kernel_rfl) (by kernel_rfl) (by kernel_rfl)) ?_
  intro W base args ds gs before hval0 hW hcnd hsz0 _
  have hval : ∀ (j : Nat) t v, Try.f9.params[j]? = some t → args[j]? = some v → Value.okWide Try.prog W .any base t v := hval0
  have hW' := hW
  obtain ⟨p, q, hA0, hV, rfl, hfz, hnd⟩ := hW
  have hA : DataW.TrodAll enc Try.prog W 0 (fun _ => true) true Try.f9.params.toList args.toList ds p := hA0
  have hpar : Try.f9.params.toList = [28, 28] := by rw [Try.params9]
  rw [hpar] at hA
  obtain ⟨xs, hfit, hrep, hpure, hst⟩ := Vm.open_args eok.toEOk (by kernel_rfl) _ _ _ _ (by kernel_rfl) hA (fun j t v ht hv => ⟨_, _, hval j t v (by rw [← Array.getElem?_toList, hpar]; exact ht) (by rw [← Array.getElem?_toList]; exact hv)⟩)
  have hlen := Vm.trodAll_len hA
  obtain ⟨rfl, rfl⟩ := trodVars_none hV
  clear hA0 hval0 hsz0 hval hA hcnd
  match ds, hlen, hst, hW' with
  | [d0, d1], _, hst, hW =>
    refine (Vm.denP_calls eok (hP xs hfit) W args hrep hpure).mono fun e W' ⟨bel, v, he, hv⟩ => ?_
    subst he
    obtain rfl := Vm.rep_bool hv
    exact ⟨_, rfl, _, _, _, [], _, [], hW, trodAll_mk1 (shut_bool Try.underlying4 _), (by rw [hpar]; exact hst W' bel), rfl, bel.frame _, fun h => by cases h⟩
theorem over (hP : Pure) : Rows.largeDividesRow.holds Try.pinned (OpenSpec.ofChange Rows.largeDividesSpec) :=
  OpenClaim.holds_of_wide 9 Try.f9 rfl rfl rfl rfl rfl rfl rfl ⟨rfl, rfl, rfl, rfl, rfl⟩ rfl rfl rfl rfl rfl (by kernel_rfl) Try.func9 (by kernel_rfl)
    (of_decide_eq_true (by kernel_rfl)) (by unfold Func.isWrapper; first | (rw [if_pos (by decide +kernel)]; kernel_rfl) | (rw [if_neg (by decide +kernel)]; exact ⟨rfl, rfl⟩))
    (fun os started H enc _ => lifted hP os started H enc)
end largeDivides

end Go.Proofs.Ytpfcijgcjghgeaa

/- The law LargeDivides. (Own work of this repo.) -/
namespace Go.Proofs.Ytpfcijgcjghgeaa
open Vm
set_option maxRecDepth 100000

theorem is_fit (m m' : Bool) (z : Int) (hz : (dg z).length ≤ 4096) : denP E 28 [I m z, .int .i64 0, I m' z] = some (.ret (.bool true)) := by
  have := is_made m m' z (by omega)
  rwa [fm_of hz, fit_of hz, er_of hz] at this
theorem badRoot (q : Raw) (hq : q.2.2.length < 2 ^ 60) (h : rvalidW q.1 q.2.2 = false) : denP E 56 [ivr q] = some (.ret (.tup [I true 0, .bool false, .int .i64 1])) := by
  refine denP_eq E56 rfl (by simp [AV.pureL, AV.pure, pure_wd]) ?_
  have h1 := valid_raw q hq
  rw [valid_same, h] at h1
  simp only [ivr, iv] at h1
  simp (maxSteps := 4000000) (disch := omega) only [go_sem, ↓reduceIte, Nat.reduceAdd, Nat.reduceSub, Nat.reduceMul, Nat.reduceEqDiff, reduceCtorEq, Int.reduceAdd, Int.reduceLT, Int.reduceLE, Int.reduceToNat, Int.reduceNeg, Int.reduceSub, ← List.map_take, ← List.map_drop, wrap64, wrapu64, wrapu32, Try.f56, ivr, h1, fillAll, reps, refP, elems, places, ng_zero, dg_zero, List.map_nil]
theorem root_neg (m : Bool) (x : Int) (hx : (dg x).length ≤ 4096) (hn : ng x = true) : denP E 56 [I m x] = some (.ret (.tup [I true 0, .bool false, .int .i64 2])) := by
  refine denP_eq E56 rfl (by simp [AV.pureL, AV.pure, pure_wd]) ?_
  have h1 := valid_I m x hx
  simp only [I, hn] at h1
  simp (maxSteps := 4000000) (disch := omega) only [go_sem, ↓reduceIte, Nat.reduceAdd, Nat.reduceSub, Nat.reduceMul, Nat.reduceEqDiff, reduceCtorEq, Int.reduceAdd, Int.reduceLT, Int.reduceLE, Int.reduceToNat, Int.reduceNeg, Int.reduceSub, ← List.map_take, ← List.map_drop, wrap64, wrapu64, wrapu32, Try.f56, h1, hn, fillAll, reps, refP, elems, places, ng_zero, dg_zero, List.map_nil]
theorem badDiv (q r : Raw) (hq : q.2.2.length < 2 ^ 60) (hr : r.2.2.length < 2 ^ 60) (h : (rvalidW q.1 q.2.2 && rvalidW r.1 r.2.2) = false) : denP E 40 [ivr q, ivr r] = some (.ret (.tup [I true 0, I true 0, .int .i64 1])) := by
  refine denP_eq E40 rfl (by simp [AV.pureL, AV.pure, pure_wd]) ?_
  have h1 := valid54 q.1 q.2.1 q.2.2 r.1 r.2.1 r.2.2 hq hr
  rw [valid_same, valid_same, h] at h1
  simp (maxSteps := 4000000) (disch := omega) only [go_sem, ↓reduceIte, Nat.reduceAdd, Nat.reduceSub, Nat.reduceMul, Nat.reduceEqDiff, reduceCtorEq, Int.reduceAdd, Int.reduceLT, Int.reduceLE, Int.reduceToNat, Int.reduceNeg, Int.reduceSub, ← List.map_take, ← List.map_drop, wrap64, wrapu64, wrapu32, Try.f40, ivr, h1, fillAll, reps, refP, elems, places, ng_zero, dg_zero, List.map_nil]
theorem badGcd (q r : Raw) (hq : q.2.2.length < 2 ^ 60) (hr : r.2.2.length < 2 ^ 60) (h : (rvalidW q.1 q.2.2 && rvalidW r.1 r.2.2) = false) : denP E 41 [ivr q, ivr r] = some (.ret (.tup [I true 0, I true 0, I true 0, .int .i64 1])) := by
  refine denP_eq E41 rfl (by simp [AV.pureL, AV.pure, pure_wd]) ?_
  have h1 := valid54 q.1 q.2.1 q.2.2 r.1 r.2.1 r.2.2 hq hr
  rw [valid_same, valid_same, h] at h1
  simp (maxSteps := 4000000) (disch := omega) only [go_sem, ↓reduceIte, Nat.reduceAdd, Nat.reduceSub, Nat.reduceMul, Nat.reduceEqDiff, reduceCtorEq, Int.reduceAdd, Int.reduceLT, Int.reduceLE, Int.reduceToNat, Int.reduceNeg, Int.reduceSub, ← List.map_take, ← List.map_drop, wrap64, wrapu64, wrapu32, Try.f41, ivr, h1, fillAll, reps, refP, elems, places, ng_zero, dg_zero, List.map_nil]
set_option maxHeartbeats 2000000 in
theorem root_law (q : Raw) (hq : q.2.2.length ≤ 4200) (hr : InR q.2.2) (hn : q.2.1 = true → q.2.2 = []) : denP E 42 [ivr q] = some (.ret (.bool true)) := by
  have v1 := rvalid_raw q (by omega)
  refine denP_eq E42 rfl (by simp [AV.pureL, AV.pure, pure_wd]) ?_
  cases hv : rvalidW q.1 q.2.2 with
  | false =>
    have r1 := badRoot q (by omega) hv
    have n1 := no_spec true 0 1 1 (by rw [dg_zero]; simp)
    rw [hv] at v1
    simp only [ivr, iv] at *
    simp (maxSteps := 4000000) (disch := omega) only [go_sem, ↓reduceIte, Nat.reduceAdd, Nat.reduceSub, Nat.reduceMul, Nat.reduceEqDiff, reduceCtorEq, Int.reduceAdd, Int.reduceLT, Int.reduceLE, Int.reduceToNat, Int.reduceNeg, Int.reduceSub, ← List.map_take, ← List.map_drop, wrap64, wrapu64, wrapu32, Try.f42, r1, v1, n1]
  | true =>
    rw [hv] at v1
    obtain ⟨ka, a, sa, da⟩ := rvalid_norm hr hv
    rw [← da] at ka
    have ea : ivr q = I q.2.1 a := by rw [I, sa, da]
    have hm : q.2.1 = true → a = 0 := fun h => by have := hn h; rw [← da] at this; exact dg_nil.1 this
    rw [ea] at v1 ⊢
    generalize q.2.1 = m at *
    clear sa da ea hv hr hn hq
    cases hs : ng a with
    | true =>
      have r1 := root_neg m a ka hs
      have n1 := no_spec true 0 2 2 (by rw [dg_zero]; simp)
      simp only [I, hs] at v1 r1 n1
      simp (maxSteps := 4000000) (disch := omega) only [go_sem, ↓reduceIte, Nat.reduceAdd, Nat.reduceSub, Nat.reduceMul, Nat.reduceEqDiff, reduceCtorEq, Int.reduceAdd, Int.reduceLT, Int.reduceLE, Int.reduceToNat, Int.reduceNeg, Int.reduceSub, ← List.map_take, ← List.map_drop, wrap64, wrapu64, wrapu32, Try.f42, r1, v1, n1, hs]
    | false =>
      have h0 := ng_false.1 hs
      obtain ⟨o, r1, i1⟩ := root_spec m a ka h0 hm
      obtain ⟨p, r2, i2⟩ := rRoot_spec m a ka h0
      have e := i1.uniq i2
      rw [← e] at r2
      have lo : (dg ((o.2 : Nat) : Int)).length ≤ 4096 := by
        rw [dg_nat]
        refine dig_le (b := a.natAbs) ?_ ka
        rcases Nat.eq_zero_or_pos o.2 with h | h
        · omega
        · exact Nat.le_trans (Nat.le_mul_of_pos_left _ h) i1.1
      have s1 := rSame_spec o.1 ((o.2 : Nat) : Int) p.1 ((o.2 : Nat) : Int) (by omega) (by omega)
      rw [decide_eq_true rfl] at s1
      have m1 := rMul_spec p.1 ((o.2 : Nat) : Int) p.1 ((o.2 : Nat) : Int) (by omega) (by omega)
      have lm := dg_mul ((o.2 : Nat) : Int) ((o.2 : Nat) : Int)
      have s2 := rSame_spec (decide (((o.2 : Nat) : Int) * ((o.2 : Nat) : Int) = 0)) (((o.2 : Nat) : Int) * ((o.2 : Nat) : Int)) m a (by omega) (by omega)
      have hd : decide (((o.2 : Nat) : Int) * ((o.2 : Nat) : Int) = a) = decide (o.2 * o.2 = a.natAbs) := by
        rw [decide_eq_decide, ← Int.natCast_mul]; omega
      rw [hd] at s2
      clear i1 i2 e lo lm hd
      simp only [I, RM, hs] at v1 r1 r2 s1 m1 s2
      generalize decide (o.2 * o.2 = a.natAbs) = w at *
      generalize decide (((o.2 : Nat) : Int) * ((o.2 : Nat) : Int) = 0) = w2 at *
      generalize ((o.2 : Nat) : Int) * ((o.2 : Nat) : Int) = sq at *
      generalize ((o.2 : Nat) : Int) = z at *
      simp (maxSteps := 4000000) (disch := omega) only [go_sem, ↓reduceIte, Nat.reduceAdd, Nat.reduceSub, Nat.reduceMul, Nat.reduceEqDiff, reduceCtorEq, Int.reduceAdd, Int.reduceLT, Int.reduceLE, Int.reduceToNat, Int.reduceNeg, Int.reduceSub, ← List.map_take, ← List.map_drop, wrap64, wrapu64, wrapu32, Try.f42, r1, r2, v1, hs]
      refine W_drawn ?_
      simp (maxSteps := 4000000) (disch := omega) only [go_sem, ↓reduceIte, Nat.reduceAdd, Nat.reduceSub, Nat.reduceMul, Nat.reduceEqDiff, reduceCtorEq, Int.reduceAdd, Int.reduceLT, Int.reduceLE, Int.reduceToNat, Int.reduceNeg, Int.reduceSub, ← List.map_take, ← List.map_drop, wrap64, wrapu64, wrapu32, r2, s1, m1, s2, hs, beq_self_eq_true]
      first | rfl | exact ⟨by rfl, rfl⟩ | skip
set_option maxHeartbeats 8000000 in
theorem divides_tail (ma : Bool) (a : Int) (mb : Bool) (b : Int) (ka : (dg a).length ≤ 700) (kb : (dg b).length ≤ 700) (hma : ma = true → a = 0) (hmb : mb = true → b = 0)
    (rl : denP E 42 [I ma a] = some (.ret (.bool true))) :
    denP E 9 [I ma a, I mb b] = some (.ret (.bool true)) := by
  obtain ⟨⟨⟨gf, xf, yf⟩, X, Y⟩, g1, hbez, hxl, hyl⟩ := gcd_spec ma a mb b (by omega) (by omega) hma hmb
  dsimp only at g1 hbez hxl hyl
  obtain ⟨rf, g2, _⟩ := rGcd_spec ma a mb b (by omega) (by omega)
  have v1 := rValid_spec ma a (by omega)
  rw [decide_eq_true (show (dg a).length ≤ 4096 by omega)] at v1
  have v2 := rValid_spec mb b (by omega)
  rw [decide_eq_true (show (dg b).length ≤ 4096 by omega)] at v2
  have z1 := rZero_spec mb b
  have l1 : (dig 1).length ≤ 1 := dig_len.2 (by decide)
  have lX : (dg X).length ≤ 701 := by
    have h := dig_add b.natAbs 1
    exact dig_le hxl (by have : (dig b.natAbs).length ≤ 700 := kb; omega)
  have lY : (dg Y).length ≤ 701 := by
    have h := dig_add a.natAbs 1
    exact dig_le hyl (by have : (dig a.natAbs).length ≤ 700 := ka; omega)
  obtain ⟨G, hG⟩ : ∃ G : Int, G = ((Nat.gcd a.natAbs b.natAbs : Nat) : Int) := ⟨_, rfl⟩
  have lG : (dg G).length ≤ 4000 := by
    have h1 := dg_add (a * X) (b * Y)
    have h2 := dg_mul a X
    have h3 := dg_mul b Y
    rw [hG, ← hbez]; omega
  rw [← hG] at g1 g2 hbez
  clear hG
  have s1 := rSame_spec gf G rf G (by omega) (by omega)
  rw [decide_eq_true rfl] at s1
  have v3 := rValid_spec xf X (by omega)
  rw [decide_eq_true (show (dg X).length ≤ 4096 by omega)] at v3
  have v4 := rValid_spec yf Y (by omega)
  rw [decide_eq_true (show (dg Y).length ≤ 4096 by omega)] at v4
  have o1 := rOf_spec 1 (by decide) (by decide)
  have a1 := rAbs_spec xf X (by omega)
  have a2 := rAbs_spec mb b (by omega)
  have a3 := rAbs_spec yf Y (by omega)
  have a4 := rAbs_spec ma a (by omega)
  have l2 : (dg (1 : Int)).length ≤ 1 := l1
  have b1 := rAdd_spec (decide ((b.natAbs : Int) = 0)) (b.natAbs : Int) (decide ((1 : Int) = 0)) 1 (by rw [dg_abs]; omega) (by omega)
  have b2 := rAdd_spec (decide ((a.natAbs : Int) = 0)) (a.natAbs : Int) (decide ((1 : Int) = 0)) 1 (by rw [dg_abs]; omega) (by omega)
  have lb1 := dg_add (b.natAbs : Int) 1
  have lb2 := dg_add (a.natAbs : Int) 1
  rw [dg_abs] at lb1 lb2
  have c1 := rCmp_spec (decide ((X.natAbs : Int) = 0)) (X.natAbs : Int) (decide ((b.natAbs : Int) + 1 = 0)) ((b.natAbs : Int) + 1) (by rw [dg_abs]; omega) (by omega)
  have c2 := rCmp_spec (decide ((Y.natAbs : Int) = 0)) (Y.natAbs : Int) (decide ((a.natAbs : Int) + 1 = 0)) ((a.natAbs : Int) + 1) (by rw [dg_abs]; omega) (by omega)
  have n1 : ¬ 0 < cmpI (X.natAbs : Int) ((b.natAbs : Int) + 1) := by unfold cmpI; split <;> (try split) <;> omega
  have n2 : ¬ 0 < cmpI (Y.natAbs : Int) ((a.natAbs : Int) + 1) := by unfold cmpI; split <;> (try split) <;> omega
  have m1 := rMul_spec ma a xf X (by omega) (by omega)
  have m2 := rMul_spec mb b yf Y (by omega) (by omega)
  have lm1 := dg_mul a X
  have lm2 := dg_mul b Y
  have m3 := rAdd_spec (decide (a * X = 0)) (a * X) (decide (b * Y = 0)) (b * Y) (by omega) (by omega)
  rw [hbez] at m3
  have s2 := rSame_spec (decide (G = 0)) G gf G (by omega) (by omega)
  rw [decide_eq_true rfl] at s2
  generalize cmpI (X.natAbs : Int) ((b.natAbs : Int) + 1) = cv1 at *
  generalize cmpI (Y.natAbs : Int) ((a.natAbs : Int) + 1) = cv2 at *
  refine denP_eq E9 rfl (by simp [AV.pureL, AV.pure, pure_wd]) ?_
  by_cases hb0 : b = 0
  · subst hb0
    have d1 := div_zero ma a mb (by omega)
    have e1 := no_spec true 0 2 2 (by rw [dg_zero]; simp)
    clear hbez hxl hyl lX lY lG lb1 lb2 lm1 lm2 hma hmb l1 l2
    generalize a * X = w1 at *
    generalize (0 : Int) * Y = w2 at *
    generalize hw3 : ((Int.natAbs 0 : Nat) : Int) = w3 at *
    generalize hw4 : ((X.natAbs : Nat) : Int) = w4 at *
    generalize hw5 : ((Y.natAbs : Nat) : Int) = w5 at *
    generalize hw6 : ((a.natAbs : Nat) : Int) = w6 at *
    generalize hw7 : w3 + 1 = w7 at *
    generalize hw8 : w6 + 1 = w8 at *
    clear hw3 hw4 hw5 hw6 hw7 hw8
    rw [decide_eq_true rfl] at z1
    simp only [RM] at *
    generalize decide ((1 : Int) = 0) = q0 at *
    generalize decide (w1 = 0) = q1 at *
    generalize decide (w2 = 0) = q2 at *
    generalize decide (w3 = 0) = q3 at *
    generalize decide (w4 = 0) = q4 at *
    generalize decide (w5 = 0) = q5 at *
    generalize decide (w6 = 0) = q6 at *
    generalize decide (w7 = 0) = q7 at *
    generalize decide (w8 = 0) = q8 at *
    generalize decide (G = 0) = q9 at *
    simp (maxSteps := 4000000) (disch := omega) only [go_sem, ↓reduceIte, Nat.reduceAdd, Nat.reduceSub, Nat.reduceMul, Nat.reduceEqDiff, reduceCtorEq, Int.reduceAdd, Int.reduceLT, Int.reduceLE, Int.reduceToNat, Int.reduceNeg, Int.reduceSub, ← List.map_take, ← List.map_drop, wrap64, wrapu64, wrapu32, Try.f9, v1, v2, d1, g1, z1, e1]
    refine W_drawn ?_
    simp (maxSteps := 4000000) (disch := omega) only [go_sem, ↓reduceIte, Nat.reduceAdd, Nat.reduceSub, Nat.reduceMul, Nat.reduceEqDiff, reduceCtorEq, Int.reduceAdd, Int.reduceLT, Int.reduceLE, Int.reduceToNat, Int.reduceNeg, Int.reduceSub, ← List.map_take, ← List.map_drop, wrap64, wrapu64, wrapu32, g2, s1, v3, v4]
    refine ⟨by rfl, ?_⟩
    simp (maxSteps := 4000000) (disch := omega) only [go_sem, ↓reduceIte, Nat.reduceAdd, Nat.reduceSub, Nat.reduceMul, Nat.reduceEqDiff, reduceCtorEq, Int.reduceAdd, Int.reduceLT, Int.reduceLE, Int.reduceToNat, Int.reduceNeg, Int.reduceSub, ← List.map_take, ← List.map_drop, wrap64, wrapu64, wrapu32, o1]
    refine W_drawn ?_
    simp (maxSteps := 4000000) (disch := omega) only [go_sem, ↓reduceIte, Nat.reduceAdd, Nat.reduceSub, Nat.reduceMul, Nat.reduceEqDiff, reduceCtorEq, Int.reduceAdd, Int.reduceLT, Int.reduceLE, Int.reduceToNat, Int.reduceNeg, Int.reduceSub, ← List.map_take, ← List.map_drop, wrap64, wrapu64, wrapu32, a1, a2, a3, a4, b1, b2, c1, c2]
    refine ⟨by rfl, ?_⟩
    refine W_drawn ?_
    simp (maxSteps := 4000000) (disch := omega) only [go_sem, ↓reduceIte, Nat.reduceAdd, Nat.reduceSub, Nat.reduceMul, Nat.reduceEqDiff, reduceCtorEq, Int.reduceAdd, Int.reduceLT, Int.reduceLE, Int.reduceToNat, Int.reduceNeg, Int.reduceSub, ← List.map_take, ← List.map_drop, wrap64, wrapu64, wrapu32, m1, m2, m3, s2, rl, awake14]
    rfl
  · obtain ⟨md, d1, _, _⟩ := div_spec ma a mb b (by omega) (by omega) hb0 hma
    obtain ⟨me, d2, _, _⟩ := rDiv_spec ma a mb b (by omega) (by omega) hb0
    have lq := dg_ediv a b
    have lr := dg_emod a b hb0
    have e1 := is_fit md.1 me.1 (a / b) (by omega)
    have e2 := is_fit md.2 me.2 (a % b) (by omega)
    clear lq lr
    generalize a / b = qq at *
    generalize a % b = rr at *
    clear hbez hxl hyl lX lY lG lb1 lb2 lm1 lm2 hma hmb l1 l2
    generalize a * X = w1 at *
    generalize b * Y = w2 at *
    generalize hw3 : ((b.natAbs : Nat) : Int) = w3 at *
    generalize hw4 : ((X.natAbs : Nat) : Int) = w4 at *
    generalize hw5 : ((Y.natAbs : Nat) : Int) = w5 at *
    generalize hw6 : ((a.natAbs : Nat) : Int) = w6 at *
    generalize hw7 : w3 + 1 = w7 at *
    generalize hw8 : w6 + 1 = w8 at *
    clear hw3 hw4 hw5 hw6 hw7 hw8
    rw [decide_eq_false hb0] at z1
    simp only [RM] at *
    generalize decide ((1 : Int) = 0) = q0 at *
    generalize decide (w1 = 0) = q1 at *
    generalize decide (w2 = 0) = q2 at *
    generalize decide (w3 = 0) = q3 at *
    generalize decide (w4 = 0) = q4 at *
    generalize decide (w5 = 0) = q5 at *
    generalize decide (w6 = 0) = q6 at *
    generalize decide (w7 = 0) = q7 at *
    generalize decide (w8 = 0) = q8 at *
    generalize decide (G = 0) = q9 at *
    simp (maxSteps := 4000000) (disch := omega) only [go_sem, ↓reduceIte, Nat.reduceAdd, Nat.reduceSub, Nat.reduceMul, Nat.reduceEqDiff, reduceCtorEq, Int.reduceAdd, Int.reduceLT, Int.reduceLE, Int.reduceToNat, Int.reduceNeg, Int.reduceSub, ← List.map_take, ← List.map_drop, wrap64, wrapu64, wrapu32, Try.f9, v1, v2, d1, g1, z1, d2, e1, e2]
    refine W_drawn ?_
    simp (maxSteps := 4000000) (disch := omega) only [go_sem, ↓reduceIte, Nat.reduceAdd, Nat.reduceSub, Nat.reduceMul, Nat.reduceEqDiff, reduceCtorEq, Int.reduceAdd, Int.reduceLT, Int.reduceLE, Int.reduceToNat, Int.reduceNeg, Int.reduceSub, ← List.map_take, ← List.map_drop, wrap64, wrapu64, wrapu32, g2, s1, v3, v4]
    refine ⟨by rfl, ?_⟩
    simp (maxSteps := 4000000) (disch := omega) only [go_sem, ↓reduceIte, Nat.reduceAdd, Nat.reduceSub, Nat.reduceMul, Nat.reduceEqDiff, reduceCtorEq, Int.reduceAdd, Int.reduceLT, Int.reduceLE, Int.reduceToNat, Int.reduceNeg, Int.reduceSub, ← List.map_take, ← List.map_drop, wrap64, wrapu64, wrapu32, o1]
    refine W_drawn ?_
    simp (maxSteps := 4000000) (disch := omega) only [go_sem, ↓reduceIte, Nat.reduceAdd, Nat.reduceSub, Nat.reduceMul, Nat.reduceEqDiff, reduceCtorEq, Int.reduceAdd, Int.reduceLT, Int.reduceLE, Int.reduceToNat, Int.reduceNeg, Int.reduceSub, ← List.map_take, ← List.map_drop, wrap64, wrapu64, wrapu32, a1, a2, a3, a4, b1, b2, c1, c2]
    refine ⟨by rfl, ?_⟩
    refine W_drawn ?_
    simp (maxSteps := 4000000) (disch := omega) only [go_sem, ↓reduceIte, Nat.reduceAdd, Nat.reduceSub, Nat.reduceMul, Nat.reduceEqDiff, reduceCtorEq, Int.reduceAdd, Int.reduceLT, Int.reduceLE, Int.reduceToNat, Int.reduceNeg, Int.reduceSub, ← List.map_take, ← List.map_drop, wrap64, wrapu64, wrapu32, m1, m2, m3, s2, rl, awake14]
    rfl
theorem largeDivides_walk (qa qb : Raw) (ra : InR qa.2.2) (rb : InR qb.2.2) (na : qa.2.1 = true → qa.2.2 = []) (nb : qb.2.1 = true → qb.2.2 = []) (la : qa.2.2.length ≤ 4200) (lb : qb.2.2.length ≤ 4200) :
    denP E 9 [ivr qa, ivr qb] = some (.ret (.bool true)) := by
  have v1 := rvalid_raw qa (by omega)
  have v2 := rvalid_raw qb (by omega)
  have rl := root_law qa la ra na
  cases hab : rvalidW qa.1 qa.2.2 && rvalidW qb.1 qb.2.2 with
  | false =>
    have d1 := badDiv qa qb (by omega) (by omega) hab
    have g1 := badGcd qa qb (by omega) (by omega) hab
    have n1 := no_spec true 0 1 1 (by rw [dg_zero]; simp)
    have z1 := rZero_spec true 0
    simp only [I, ng_zero, dg_zero, List.map_nil, decide_true, Bool.and_true] at n1 z1
    refine denP_eq E9 rfl (by simp [AV.pureL, AV.pure, pure_wd]) ?_
    simp only [ivr, iv] at *
    cases hv1 : rvalidW qa.1 qa.2.2 with
    | false =>
      rw [hv1] at v1
      simp (maxSteps := 4000000) (disch := omega) only [go_sem, ↓reduceIte, Nat.reduceAdd, Nat.reduceSub, Nat.reduceMul, Nat.reduceEqDiff, reduceCtorEq, Int.reduceAdd, Int.reduceLT, Int.reduceLE, Int.reduceToNat, Int.reduceNeg, Int.reduceSub, ← List.map_take, ← List.map_drop, wrap64, wrapu64, wrapu32, Try.f9, v1, d1, g1, n1, z1, rl, awake14, ng_zero, dg_zero, List.map_nil]
    | true =>
      rw [hv1, Bool.true_and] at hab
      rw [hv1] at v1
      rw [hab] at v2
      simp (maxSteps := 4000000) (disch := omega) only [go_sem, ↓reduceIte, Nat.reduceAdd, Nat.reduceSub, Nat.reduceMul, Nat.reduceEqDiff, reduceCtorEq, Int.reduceAdd, Int.reduceLT, Int.reduceLE, Int.reduceToNat, Int.reduceNeg, Int.reduceSub, ← List.map_take, ← List.map_drop, wrap64, wrapu64, wrapu32, Try.f9, v1, v2, d1, g1, n1, z1, rl, awake14, ng_zero, dg_zero, List.map_nil]
  | true =>
    rw [Bool.and_eq_true] at hab
    obtain ⟨ka, a, sa, da⟩ := rvalid_norm ra hab.1
    obtain ⟨kb, b, sb, db⟩ := rvalid_norm rb hab.2
    rw [← da] at ka la; rw [← db] at kb lb
    have ea : ivr qa = I qa.2.1 a := by rw [I, sa, da]
    have eb : ivr qb = I qb.2.1 b := by rw [I, sb, db]
    have hma : qa.2.1 = true → a = 0 := fun h => by have := na h; rw [← da] at this; exact dg_nil.1 this
    have hmb : qb.2.1 = true → b = 0 := fun h => by have := nb h; rw [← db] at this; exact dg_nil.1 this
    rw [hab.1, ea] at v1
    rw [hab.2, eb] at v2
    rw [ea] at rl ⊢
    rw [eb]
    generalize qa.2.1 = ma at *
    generalize qb.2.1 = mb at *
    by_cases h1 : (dg a).length ≤ 700
    · by_cases h2 : (dg b).length ≤ 700
      · exact divides_tail ma a mb b h1 h2 hma hmb rl
      · clear ea eb sa sb da db
        refine denP_eq E9 rfl (by simp [AV.pureL, AV.pure, pure_wd]) ?_
        have hmx : ¬ (dg b).length ≤ (dg a).length := by omega
        simp (maxSteps := 4000000) (disch := omega) only [go_sem, ↓reduceIte, Nat.reduceAdd, Nat.reduceSub, Nat.reduceMul, Nat.reduceEqDiff, reduceCtorEq, Int.reduceAdd, Int.reduceLT, Int.reduceLE, Int.reduceToNat, Int.reduceNeg, Int.reduceSub, ← List.map_take, ← List.map_drop, wrap64, wrapu64, wrapu32, Try.f9, v1, v2, awake14]
    · clear ea eb sa sb da db
      refine denP_eq E9 rfl (by simp [AV.pureL, AV.pure, pure_wd]) ?_
      by_cases hmx : (dg a).length < (dg b).length
      · simp (maxSteps := 4000000) (disch := omega) only [go_sem, ↓reduceIte, Nat.reduceAdd, Nat.reduceSub, Nat.reduceMul, Nat.reduceEqDiff, reduceCtorEq, Int.reduceAdd, Int.reduceLT, Int.reduceLE, Int.reduceToNat, Int.reduceNeg, Int.reduceSub, ← List.map_take, ← List.map_drop, wrap64, wrapu64, wrapu32, Try.f9, v1, v2, awake14]
      · simp (maxSteps := 4000000) (disch := omega) only [go_sem, ↓reduceIte, Nat.reduceAdd, Nat.reduceSub, Nat.reduceMul, Nat.reduceEqDiff, reduceCtorEq, Int.reduceAdd, Int.reduceLT, Int.reduceLE, Int.reduceToNat, Int.reduceNeg, Int.reduceSub, ← List.map_take, ← List.map_drop, wrap64, wrapu64, wrapu32, Try.f9, v1, v2, awake14]
theorem largeDivides_pure : largeDivides.Pure := by
  intro xs h
  simp only [FitArgs, opn_eq, T1, T2, T3, T4, T5, T6, T7, T8, T9, T10, T11, T12, T13, T14, T15, T16, T17, T18, T19, T20, T21, T22, T23, T25, T26, T27, T28, T29, T30, T31, T32, T33, T35, T36, T37, T39, T41, T42, T43, T44, T45, T46, T47, T48, T49, T50, T51, T52, T54, T56, T58, T59, T61, T62, T64, T65, T66, T67, T68, T69, T70, T71, T72, T73, T74, T76, T77, T78, T79, T80, T81, T82, T83, T84, T85, T87, T88, T89, T91, T92, T93, T95, T97, T98, T100, T101, T102, T103, T104, T105, T106, T107, T108, T109, T110, T111, T112, T113, T114, T115, T116, T117, T118, T119, T120, T121, T122, elm] at h
  obtain ⟨c1, x1, y1, rfl, ⟨rfl, h1⟩, c2, x2, y2, rfl, ⟨rfl, h2⟩, rfl⟩ := h
  obtain ⟨qa, rfl, ra, na, la⟩ := fit_raw (m := 3) h1
  obtain ⟨qb, rfl, rb, nb, lb⟩ := fit_raw (m := 3) h2
  show denP E 9 [ivr qa, ivr qb] = _
  by_cases ha : qa.2.2.length ≤ 4200
  · by_cases hb : qb.2.2.length ≤ 4200
    · exact largeDivides_walk qa qb ra rb na nb ha hb
    · refine denP_eq E9 rfl (by simp [AV.pureL, AV.pure, pure_wd]) ?_
      simp (maxSteps := 4000000) (disch := omega) only [go_sem, ↓reduceIte, Nat.reduceAdd, Nat.reduceSub, Nat.reduceMul, Nat.reduceEqDiff, reduceCtorEq, Int.reduceAdd, Int.reduceLT, Int.reduceLE, Int.reduceToNat, Int.reduceNeg, Int.reduceSub, ← List.map_take, ← List.map_drop, wrap64, wrapu64, wrapu32, Try.f9, ivr, awake14]
  · refine denP_eq E9 rfl (by simp [AV.pureL, AV.pure, pure_wd]) ?_
    simp (maxSteps := 4000000) (disch := omega) only [go_sem, ↓reduceIte, Nat.reduceAdd, Nat.reduceSub, Nat.reduceMul, Nat.reduceEqDiff, reduceCtorEq, Int.reduceAdd, Int.reduceLT, Int.reduceLE, Int.reduceToNat, Int.reduceNeg, Int.reduceSub, ← List.map_take, ← List.map_drop, wrap64, wrapu64, wrapu32, Try.f9, ivr, awake14]
theorem largeDivides_holds : Rows.LargeDividesSaid := largeDivides.over largeDivides_pure
#print axioms largeDivides_holds
end Go.Proofs.Ytpfcijgcjghgeaa
