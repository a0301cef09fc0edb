/- Part 5 of a proof about this seat: RLargeSums, LSums, RLargePowers, LPowers, RLargeBits, LBits, Small, RLargeTexts, LTexts. (Own work of this repo.) -/
import Derived.Test.YtpfcijgcjghgeaaZLargeTexts4
import Derived.WalkKit
import Derived.ProofKit
import Derived.OpenShut
import Derived.ShutString
import Derived.ChangeOld
import Derived.Below
import Derived.SizedLaws
set_option linter.unusedVariables false
set_option linter.unusedSimpArgs false
/- The row of LargeSums, out of what the machine over pure values says. (Own work of this repo.) -/
namespace Go.Proofs.Ytpfcijgcjghgeaa
namespace largeSums
open Go.ChangeShapes Go.WideShapes Go.ChangeAt Go.RowKit
def Pure : Prop := ∀ xs, Vm.FitArgs E [28, 28] xs → Vm.denP E 5 xs = some (.ret (.bool true))
theorem own : ownKnob Try.prog.godebug = none := by kernel_rfl
set_option maxRecDepth 100000 in
theorem lifted (hP : Pure) (os : Os) (started : os.Started) (H : Type) (enc : TypeId × Value → H) :
    ReturnsInHanded {} Try.checked os 5 .any (Rows.largeSumsSpec.pre6 enc Try.prog Try.f5 Rows.largeSumsRow.domain false) (Rows.largeSumsSpec.post enc Try.prog Try.f5 false true false false) := by
  refine returnsInHanded_of_change_sized (C := Try.checked) own started (by kernel_rfl) Try.func5
    (ChangeSpec.witness6 (enc := enc) (C := Try.checked) false ⟨#[], #[(.agg #[.bool false, .slice none 0 0]), (.agg #[.bool false, .slice none 0 0])], []⟩ 8 (by kernel_rfl) (by kernel_rfl) (by kernel_rfl) (by kernel_rfl)) ?_
  intro W base args ds gs before hval0 hW hcnd hsz0 _
  have hval : ∀ (j : Nat) t v, Try.f5.params[j]? = some t → args[j]? = some v → Value.okWide Try.prog W .any base t v := hval0
  have hW' := hW
  obtain ⟨p, q, hA0, hV, rfl, hfz, hnd⟩ := hW
  have hA : DataW.TrodAll enc Try.prog W 0 (fun _ => true) true Try.f5.params.toList args.toList ds p := hA0
  have hpar : Try.f5.params.toList = [28, 28] := by rw [Try.params5]
  rw [hpar] at hA
  obtain ⟨xs, hfit, hrep, hpure, hst⟩ := Vm.open_args eok.toEOk (by kernel_rfl) _ _ _ _ (by kernel_rfl) hA (fun j t v ht hv => ⟨_, _, hval j t v (by rw [← Array.getElem?_toList, hpar]; exact ht) (by rw [← Array.getElem?_toList]; exact hv)⟩)
  have hlen := Vm.trodAll_len hA
  obtain ⟨rfl, rfl⟩ := trodVars_none hV
  clear hA0 hval0 hsz0 hval hA hcnd
  match ds, hlen, hst, hW' with
  | [d0, d1], _, hst, hW =>
    refine (Vm.denP_calls eok (hP xs hfit) W args hrep hpure).mono fun e W' ⟨bel, v, he, hv⟩ => ?_
    subst he
    obtain rfl := Vm.rep_bool hv
    exact ⟨_, rfl, _, _, _, [], _, [], hW, trodAll_mk1 (shut_bool Try.underlying4 _), (by rw [hpar]; exact hst W' bel), rfl, bel.frame _, fun h => by cases h⟩
theorem over (hP : Pure) : Rows.largeSumsRow.holds Try.pinned (OpenSpec.ofChange Rows.largeSumsSpec) :=
  OpenClaim.holds_of_wide 5 Try.f5 rfl rfl rfl rfl rfl rfl rfl ⟨rfl, rfl, rfl, rfl, rfl⟩ rfl rfl rfl rfl rfl (by kernel_rfl) Try.func5 (by kernel_rfl)
    (of_decide_eq_true (by kernel_rfl)) (by unfold Func.isWrapper; first | (rw [if_pos (by decide +kernel)]; kernel_rfl) | (rw [if_neg (by decide +kernel)]; exact ⟨rfl, rfl⟩))
    (fun os started H enc _ => lifted hP os started H enc)
end largeSums

end Go.Proofs.Ytpfcijgcjghgeaa

/- The law LargeSums. (Own work of this repo.) -/
namespace Go.Proofs.Ytpfcijgcjghgeaa
open Vm
set_option maxRecDepth 10000

theorem valid_raw (q : Raw) (h : q.2.2.length < 2 ^ 60) : denP E 24 [ivr q] = some (.ret (.bool (validW q.1 q.2.2))) := valid24 _ _ _ h
theorem rvalid_raw (q : Raw) (h : q.2.2.length < 2 ^ 60) : denP E 25 [ivr q] = some (.ret (.bool (rvalidW q.1 q.2.2))) := rValid_walk _ _ _ h
theorem valid_same (neg : Bool) (l : List Nat) : validW neg l = rvalidW neg l := by
  unfold validW rvalidW
  by_cases h : l.length = 0
  · simp [h]
  · by_cases h1 : l.length ≤ 4096 <;> by_cases h2 : l.getD (l.length - 1) 0 = 0 <;> simp [h, h1, h2] <;> omega
/-- Sums of what is not valid. -/
theorem badAdd (q r : Raw) (hq : q.2.2.length < 2 ^ 60) (hr : r.2.2.length < 2 ^ 60) (h : (rvalidW q.1 q.2.2 && rvalidW r.1 r.2.2) = false) : denP E 21 [ivr q, ivr r] = some (.ret (.tup [I true 0, .int .i64 1])) := by
  refine denP_eq E21 rfl (by simp [AV.pureL, AV.pure, pure_wd]) ?_
  have h1 := valid54 q.1 q.2.1 q.2.2 r.1 r.2.1 r.2.2 hq hr
  rw [valid_same, valid_same, h] at h1
  simp (maxSteps := 4000000) (disch := omega) only [go_sem, ↓reduceIte, Nat.reduceAdd, Nat.reduceSub, Nat.reduceMul, Nat.reduceEqDiff, reduceCtorEq, Int.reduceAdd, Int.reduceLT, Int.reduceLE, Int.reduceToNat, Int.reduceNeg, Int.reduceSub, ← List.map_take, ← List.map_drop, wrap64, wrapu64, wrapu32, Try.f21, ivr, h1, fillAll, reps, refP, elems, places, ng_zero, dg_zero]
theorem badSub (q r : Raw) (hq : q.2.2.length < 2 ^ 60) (hr : r.2.2.length < 2 ^ 60) (h : (rvalidW q.1 q.2.2 && rvalidW r.1 r.2.2) = false) : denP E 22 [ivr q, ivr r] = some (.ret (.tup [I true 0, .int .i64 1])) := by
  refine denP_eq E22 rfl (by simp [AV.pureL, AV.pure, pure_wd]) ?_
  have h1 := valid54 q.1 q.2.1 q.2.2 r.1 r.2.1 r.2.2 hq hr
  rw [valid_same, valid_same, h] at h1
  simp (maxSteps := 4000000) (disch := omega) only [go_sem, ↓reduceIte, Nat.reduceAdd, Nat.reduceSub, Nat.reduceMul, Nat.reduceEqDiff, reduceCtorEq, Int.reduceAdd, Int.reduceLT, Int.reduceLE, Int.reduceToNat, Int.reduceNeg, Int.reduceSub, ← List.map_take, ← List.map_drop, wrap64, wrapu64, wrapu32, Try.f22, ivr, h1, fillAll, reps, refP, elems, places, ng_zero, dg_zero]
theorem badMul (q r : Raw) (hq : q.2.2.length < 2 ^ 60) (hr : r.2.2.length < 2 ^ 60) (h : (rvalidW q.1 q.2.2 && rvalidW r.1 r.2.2) = false) : denP E 23 [ivr q, ivr r] = some (.ret (.tup [I true 0, .int .i64 1])) := by
  refine denP_eq E23 rfl (by simp [AV.pureL, AV.pure, pure_wd]) ?_
  have h1 := valid54 q.1 q.2.1 q.2.2 r.1 r.2.1 r.2.2 hq hr
  rw [valid_same, valid_same, h] at h1
  simp (maxSteps := 4000000) (disch := omega) only [go_sem, ↓reduceIte, Nat.reduceAdd, Nat.reduceSub, Nat.reduceMul, Nat.reduceEqDiff, reduceCtorEq, Int.reduceAdd, Int.reduceLT, Int.reduceLE, Int.reduceToNat, Int.reduceNeg, Int.reduceSub, ← List.map_take, ← List.map_drop, wrap64, wrapu64, wrapu32, Try.f23, ivr, h1, fillAll, reps, refP, elems, places, ng_zero, dg_zero]
theorem badCmp (q r : Raw) (hq : q.2.2.length < 2 ^ 60) (hr : r.2.2.length < 2 ^ 60) (h : (rvalidW q.1 q.2.2 && rvalidW r.1 r.2.2) = false) : denP E 20 [ivr q, ivr r] = some (.ret (.tup [.int .i64 0, .int .i64 1])) := by
  refine denP_eq E20 rfl (by simp [AV.pureL, AV.pure, pure_wd]) ?_
  have h1 := valid54 q.1 q.2.1 q.2.2 r.1 r.2.1 r.2.2 hq hr
  rw [valid_same, valid_same, h] at h1
  simp (maxSteps := 4000000) (disch := omega) only [go_sem, ↓reduceIte, Nat.reduceAdd, Nat.reduceSub, Nat.reduceMul, Nat.reduceEqDiff, reduceCtorEq, Int.reduceAdd, Int.reduceLT, Int.reduceLE, Int.reduceToNat, Int.reduceNeg, Int.reduceSub, ← List.map_take, ← List.map_drop, wrap64, wrapu64, wrapu32, Try.f20, ivr, h1, fillAll, reps, refP, elems, places, ng_zero, dg_zero]
theorem no_spec (m : Bool) (z : Int) (e w : Int) (hz : (dg z).length < 2 ^ 60) : denP E 26 [I m z, .int .i64 e, .int .i64 w] = some (.ret (.bool (decide (e = w) && decide (z = 0)))) := by
  refine denP_eq E26 rfl (by simp [AV.pureL, AV.pure, pure_wd]) ?_
  have h1 := rSame_spec m z true 0 hz (by rw [dg_zero]; simp)
  simp only [I, ng_zero, dg_zero, List.map_nil] at h1
  by_cases he : e = w
  · simp (maxSteps := 4000000) (disch := omega) only [go_sem, ↓reduceIte, Nat.reduceAdd, Nat.reduceSub, Nat.reduceMul, Nat.reduceEqDiff, reduceCtorEq, Int.reduceAdd, Int.reduceLT, Int.reduceLE, Int.reduceToNat, Int.reduceNeg, Int.reduceSub, ← List.map_take, ← List.map_drop, wrap64, wrapu64, wrapu32, Try.f26, h1, he, fillAll, places]
  · simp (maxSteps := 4000000) (disch := omega) only [go_sem, ↓reduceIte, Nat.reduceAdd, Nat.reduceSub, Nat.reduceMul, Nat.reduceEqDiff, reduceCtorEq, Int.reduceAdd, Int.reduceLT, Int.reduceLE, Int.reduceToNat, Int.reduceNeg, Int.reduceSub, ← List.map_take, ← List.map_drop, wrap64, wrapu64, wrapu32, Try.f26, h1, he, fillAll, places]
/-- 'is', of a number that was made: it is as wanted. -/
theorem is_made (m m' : Bool) (z : Int) (hz : (dg z).length < 2 ^ 60) : denP E 28 [I (fm m z) (fit z), .int .i64 (er z), I m' z] = some (.ret (.bool true)) := by
  refine denP_eq E28 rfl (by simp [AV.pureL, AV.pure, pure_wd]) ?_
  have h0 := rFits_spec m' z
  by_cases h : (dg z).length ≤ 4096
  · have h1 := rSame_spec m z m' z hz hz
    rw [decide_eq_true rfl] at h1
    rw [decide_eq_true h] at h0
    rw [fm_of h, fit_of h, er_of h]
    simp (maxSteps := 4000000) (disch := omega) only [go_sem, ↓reduceIte, Nat.reduceAdd, Nat.reduceSub, Nat.reduceMul, Nat.reduceEqDiff, reduceCtorEq, Int.reduceAdd, Int.reduceLT, Int.reduceLE, Int.reduceToNat, Int.reduceNeg, Int.reduceSub, ← List.map_take, ← List.map_drop, wrap64, wrapu64, wrapu32, Try.f28, h0, h1]
  · have h1 := rSame_spec true 0 true 0 (by rw [dg_zero]; simp) (by rw [dg_zero]; simp)
    rw [decide_eq_true rfl] at h1
    rw [decide_eq_false h] at h0
    rw [fm_no h, fit_no h, er_no h]
    simp only [I, ng_zero, dg_zero, List.map_nil] at h1
    simp (maxSteps := 4000000) (disch := omega) only [go_sem, ↓reduceIte, Nat.reduceAdd, Nat.reduceSub, Nat.reduceMul, Nat.reduceEqDiff, reduceCtorEq, Int.reduceAdd, Int.reduceLT, Int.reduceLE, Int.reduceToNat, Int.reduceNeg, Int.reduceSub, ← List.map_take, ← List.map_drop, wrap64, wrapu64, wrapu32, Try.f28, h0, h1, ng_zero, dg_zero, fillAll, places]

set_option maxHeartbeats 4000000 in
theorem largeSums_walk (qa qb : Raw) (ra : InR qa.2.2) (rb : InR qb.2.2) (la : qa.2.2.length ≤ 4200) (lb : qb.2.2.length ≤ 4200) :
    denP E 5 [ivr qa, ivr qb] = some (.ret (.bool true)) := by
  have v1 := valid_raw qa (by omega)
  have v2 := rvalid_raw qa (by omega)
  have v3 := valid_raw qb (by omega)
  have v4 := rvalid_raw qb (by omega)
  rw [valid_same] at v1 v3
  refine denP_eq E5 rfl (by simp [AV.pureL, AV.pure, pure_wd]) ?_
  cases hab : rvalidW qa.1 qa.2.2 && rvalidW qb.1 qb.2.2 with
  | true =>
    rw [Bool.and_eq_true] at hab
    rw [hab.1] at v1 v2
    rw [hab.2] at v3 v4
    obtain ⟨ka, a, sa, da⟩ := rvalid_norm ra hab.1
    obtain ⟨kb, b, sb, db⟩ := rvalid_norm rb hab.2
    rw [← da] at ka la; rw [← db] at kb lb
    have ea : ivr qa = I qa.2.1 a := by rw [I, sa, da]
    have eb : ivr qb = I qb.2.1 b := by rw [I, sb, db]
    rw [ea] at v1 v2 ⊢
    rw [eb] at v3 v4 ⊢
    generalize qa.2.1 = ma at *
    generalize qb.2.1 = mb at *
    clear ea eb da db ra rb hab sa sb
    have l1 := dg_add a b
    have l2 := dg_sub a b
    have l3 := dg_mul a b
    have c1 := cmp_spec ma a mb b ka kb
    have a1 := add_spec ma a mb b ka kb
    have a2 := sub_spec ma a mb b ka kb
    have a3 := mul_spec ma a mb b ka kb
    have c2 := rCmp_spec ma a mb b (by omega) (by omega)
    have b1 := rAdd_spec ma a mb b (by omega) (by omega)
    have b2 := rSub_spec ma a mb b (by omega) (by omega)
    have b3 := rMul_spec ma a mb b (by omega) (by omega)
    have i1 := is_made false (decide (a + b = 0)) (a + b) (by omega)
    have i2 := is_made false (decide (a - b = 0)) (a - b) (by omega)
    have i3 := is_made (mz a b) (decide (a * b = 0)) (a * b) (by omega)
    clear l1 l2 l3
    simp (maxSteps := 4000000) (disch := omega) only [go_sem, ↓reduceIte, Nat.reduceAdd, Nat.reduceSub, Nat.reduceMul, Nat.reduceEqDiff, reduceCtorEq, Int.reduceAdd, Int.reduceLT, Int.reduceLE, Int.reduceToNat, Int.reduceNeg, Int.reduceSub, ← List.map_take, ← List.map_drop, wrap64, wrapu64, wrapu32, Try.f5, c1, a1, a2, a3]
    refine W_drawn ?_
    simp (maxSteps := 4000000) (disch := omega) only [go_sem, ↓reduceIte, Nat.reduceAdd, Nat.reduceSub, Nat.reduceMul, Nat.reduceEqDiff, reduceCtorEq, Int.reduceAdd, Int.reduceLT, Int.reduceLE, Int.reduceToNat, Int.reduceNeg, Int.reduceSub, ← List.map_take, ← List.map_drop, wrap64, wrapu64, wrapu32, v1, v2, v3, v4]
    refine ⟨by rfl, ?_⟩
    refine W_drawn ?_
    simp (maxSteps := 4000000) (disch := omega) only [go_sem, ↓reduceIte, Nat.reduceAdd, Nat.reduceSub, Nat.reduceMul, Nat.reduceEqDiff, reduceCtorEq, Int.reduceAdd, Int.reduceLT, Int.reduceLE, Int.reduceToNat, Int.reduceNeg, Int.reduceSub, ← List.map_take, ← List.map_drop, wrap64, wrapu64, wrapu32, c2, b1, b2, b3, i1, i2, i3, awake14]
    rfl
  | false =>
    have c1 := badCmp qa qb (by omega) (by omega) hab
    have a1 := badAdd qa qb (by omega) (by omega) hab
    have a2 := badSub qa qb (by omega) (by omega) hab
    have a3 := badMul qa qb (by omega) (by omega) hab
    have n1 := no_spec true 0 1 1 (by rw [dg_zero]; simp)
    simp only [ivr, iv] at *
    simp (maxSteps := 4000000) (disch := omega) only [go_sem, ↓reduceIte, Nat.reduceAdd, Nat.reduceSub, Nat.reduceMul, Nat.reduceEqDiff, reduceCtorEq, Int.reduceAdd, Int.reduceLT, Int.reduceLE, Int.reduceToNat, Int.reduceNeg, Int.reduceSub, ← List.map_take, ← List.map_drop, wrap64, wrapu64, wrapu32, Try.f5, c1, a1, a2, a3]
    refine W_drawn ?_
    cases h1 : rvalidW qa.1 qa.2.2 with
    | false =>
      rw [h1] at v1 v2
      cases h2 : rvalidW qb.1 qb.2.2 with
      | false =>
        rw [h2] at v3 v4
        simp (maxSteps := 4000000) (disch := omega) only [go_sem, ↓reduceIte, Nat.reduceAdd, Nat.reduceSub, Nat.reduceMul, Nat.reduceEqDiff, reduceCtorEq, Int.reduceAdd, Int.reduceLT, Int.reduceLE, Int.reduceToNat, Int.reduceNeg, Int.reduceSub, ← List.map_take, ← List.map_drop, wrap64, wrapu64, wrapu32, v1, v2, v3, v4]
        refine ⟨by rfl, ?_⟩
        simp (maxSteps := 4000000) (disch := omega) only [go_sem, ↓reduceIte, Nat.reduceAdd, Nat.reduceSub, Nat.reduceMul, Nat.reduceEqDiff, reduceCtorEq, Int.reduceAdd, Int.reduceLT, Int.reduceLE, Int.reduceToNat, Int.reduceNeg, Int.reduceSub, ← List.map_take, ← List.map_drop, wrap64, wrapu64, wrapu32, v2, v4, n1, awake14]
      | true =>
        rw [h2] at v3 v4
        simp (maxSteps := 4000000) (disch := omega) only [go_sem, ↓reduceIte, Nat.reduceAdd, Nat.reduceSub, Nat.reduceMul, Nat.reduceEqDiff, reduceCtorEq, Int.reduceAdd, Int.reduceLT, Int.reduceLE, Int.reduceToNat, Int.reduceNeg, Int.reduceSub, ← List.map_take, ← List.map_drop, wrap64, wrapu64, wrapu32, v1, v2, v3, v4]
        refine ⟨by rfl, ?_⟩
        simp (maxSteps := 4000000) (disch := omega) only [go_sem, ↓reduceIte, Nat.reduceAdd, Nat.reduceSub, Nat.reduceMul, Nat.reduceEqDiff, reduceCtorEq, Int.reduceAdd, Int.reduceLT, Int.reduceLE, Int.reduceToNat, Int.reduceNeg, Int.reduceSub, ← List.map_take, ← List.map_drop, wrap64, wrapu64, wrapu32, v2, v4, n1, awake14]
    | true =>
      rw [h1] at v1 v2 hab
      rw [Bool.true_and] at hab
      rw [hab] at v3 v4
      simp (maxSteps := 4000000) (disch := omega) only [go_sem, ↓reduceIte, Nat.reduceAdd, Nat.reduceSub, Nat.reduceMul, Nat.reduceEqDiff, reduceCtorEq, Int.reduceAdd, Int.reduceLT, Int.reduceLE, Int.reduceToNat, Int.reduceNeg, Int.reduceSub, ← List.map_take, ← List.map_drop, wrap64, wrapu64, wrapu32, v1, v2, v3, v4]
      refine ⟨by rfl, ?_⟩
      simp (maxSteps := 4000000) (disch := omega) only [go_sem, ↓reduceIte, Nat.reduceAdd, Nat.reduceSub, Nat.reduceMul, Nat.reduceEqDiff, reduceCtorEq, Int.reduceAdd, Int.reduceLT, Int.reduceLE, Int.reduceToNat, Int.reduceNeg, Int.reduceSub, ← List.map_take, ← List.map_drop, wrap64, wrapu64, wrapu32, v2, v4, n1, awake14]
theorem largeSums_pure : largeSums.Pure := by
  intro xs h
  simp only [FitArgs, opn_eq, T1, T2, T3, T4, T5, T6, T7, T8, T9, T10, T11, T12, T13, T14, T15, T16, T17, T18, T19, T20, T21, T22, T23, T25, T26, T27, T28, T29, T30, T31, T32, T33, T35, T36, T37, T39, T41, T42, T43, T44, T45, T46, T47, T48, T49, T50, T51, T52, T54, T56, T58, T59, T61, T62, T64, T65, T66, T67, T68, T69, T70, T71, T72, T73, T74, T76, T77, T78, T79, T80, T81, T82, T83, T84, T85, T87, T88, T89, T91, T92, T93, T95, T97, T98, T100, T101, T102, T103, T104, T105, T106, T107, T108, T109, T110, T111, T112, T113, T114, T115, T116, T117, T118, T119, T120, T121, T122, elm] at h
  obtain ⟨c1, x1, y1, rfl, ⟨rfl, h1⟩, c2, x2, y2, rfl, ⟨rfl, h2⟩, rfl⟩ := h
  obtain ⟨qa, rfl, ra, na, la⟩ := fit_raw (m := 3) h1
  obtain ⟨qb, rfl, rb, nb, lb⟩ := fit_raw (m := 3) h2
  show denP E 5 [ivr qa, ivr qb] = _
  by_cases ha : qa.2.2.length ≤ 4200
  · by_cases hb : qb.2.2.length ≤ 4200
    · exact largeSums_walk qa qb ra rb ha hb
    · refine denP_eq E5 rfl (by simp [AV.pureL, AV.pure, pure_wd]) ?_
      simp (maxSteps := 4000000) (disch := omega) only [go_sem, ↓reduceIte, Nat.reduceAdd, Nat.reduceSub, Nat.reduceMul, Nat.reduceEqDiff, reduceCtorEq, Int.reduceAdd, Int.reduceLT, Int.reduceLE, Int.reduceToNat, Int.reduceNeg, Int.reduceSub, ← List.map_take, ← List.map_drop, wrap64, wrapu64, wrapu32, Try.f5, ivr, awake14]
  · refine denP_eq E5 rfl (by simp [AV.pureL, AV.pure, pure_wd]) ?_
    simp (maxSteps := 4000000) (disch := omega) only [go_sem, ↓reduceIte, Nat.reduceAdd, Nat.reduceSub, Nat.reduceMul, Nat.reduceEqDiff, reduceCtorEq, Int.reduceAdd, Int.reduceLT, Int.reduceLE, Int.reduceToNat, Int.reduceNeg, Int.reduceSub, ← List.map_take, ← List.map_drop, wrap64, wrapu64, wrapu32, Try.f5, ivr, awake14]
theorem largeSums_holds : Rows.LargeSumsSaid := largeSums.over largeSums_pure
#print axioms largeSums_holds
end Go.Proofs.Ytpfcijgcjghgeaa

/- The row of LargePowers, out of what the machine over pure values says. (Own work of this repo.) -/
namespace Go.Proofs.Ytpfcijgcjghgeaa
namespace largePowers
open Go.ChangeShapes Go.WideShapes Go.ChangeAt Go.RowKit
def Pure : Prop := ∀ xs, Vm.FitArgs E [28, 5, 5] xs → Vm.denP E 7 xs = some (.ret (.bool true))
theorem own : ownKnob Try.prog.godebug = none := by kernel_rfl
set_option maxRecDepth 100000 in
theorem lifted (hP : Pure) (os : Os) (started : os.Started) (H : Type) (enc : TypeId × Value → H) :
    ReturnsInHanded {} Try.checked os 7 .any (Rows.largePowersSpec.pre6 enc Try.prog Try.f7 Rows.largePowersRow.domain false) (Rows.largePowersSpec.post enc Try.prog Try.f7 false true false false) := by
  refine returnsInHanded_of_change_sized (C := Try.checked) own started (by kernel_rfl) Try.func7
    (ChangeSpec.witness6 (enc := enc) (C := Try.checked) false ⟨#[], #[(.agg #[.bool false, .slice none 0 0]), (.int .u8 0), (.int .u8 0)], []⟩ 8 (by kernel_rfl) (by kernel_rfl) (by kernel_rfl) (by kernel_rfl)) ?_
  intro W base args ds gs before hval0 hW hcnd hsz0 _
  have hval : ∀ (j : Nat) t v, Try.f7.params[j]? = some t → args[j]? = some v → Value.okWide Try.prog W .any base t v := hval0
  have hW' := hW
  obtain ⟨p, q, hA0, hV, rfl, hfz, hnd⟩ := hW
  have hA : DataW.TrodAll enc Try.prog W 0 (fun _ => true) true Try.f7.params.toList args.toList ds p := hA0
  have hpar : Try.f7.params.toList = [28, 5, 5] := by rw [Try.params7]
  rw [hpar] at hA
  obtain ⟨xs, hfit, hrep, hpure, hst⟩ := Vm.open_args eok.toEOk (by kernel_rfl) _ _ _ _ (by kernel_rfl) hA (fun j t v ht hv => ⟨_, _, hval j t v (by rw [← Array.getElem?_toList, hpar]; exact ht) (by rw [← Array.getElem?_toList]; exact hv)⟩)
  have hlen := Vm.trodAll_len hA
  obtain ⟨rfl, rfl⟩ := trodVars_none hV
  clear hA0 hval0 hsz0 hval hA hcnd
  match ds, hlen, hst, hW' with
  | [d0, d1, d2], _, hst, hW =>
    refine (Vm.denP_calls eok (hP xs hfit) W args hrep hpure).mono fun e W' ⟨bel, v, he, hv⟩ => ?_
    subst he
    obtain rfl := Vm.rep_bool hv
    exact ⟨_, rfl, _, _, _, [], _, [], hW, trodAll_mk1 (shut_bool Try.underlying4 _), (by rw [hpar]; exact hst W' bel), rfl, bel.frame _, fun h => by cases h⟩
theorem over (hP : Pure) : Rows.largePowersRow.holds Try.pinned (OpenSpec.ofChange Rows.largePowersSpec) :=
  OpenClaim.holds_of_wide 7 Try.f7 rfl rfl rfl rfl rfl rfl rfl ⟨rfl, rfl, rfl, rfl, rfl⟩ rfl rfl rfl rfl rfl (by kernel_rfl) Try.func7 (by kernel_rfl)
    (of_decide_eq_true (by kernel_rfl)) (by unfold Func.isWrapper; first | (rw [if_pos (by decide +kernel)]; kernel_rfl) | (rw [if_neg (by decide +kernel)]; exact ⟨rfl, rfl⟩))
    (fun os started H enc _ => lifted hP os started H enc)
end largePowers

end Go.Proofs.Ytpfcijgcjghgeaa

/- The law LargePowers. (Own work of this repo.) -/
namespace Go.Proofs.Ytpfcijgcjghgeaa
open Vm
set_option maxRecDepth 10000

theorem dg_pow {x : Int} {L : Nat} (h : (dg x).length ≤ L) (e : Nat) : (dg (x ^ e)).length ≤ L * e + 1 := by
  rw [dg_len, Int.natAbs_pow, Nat.pow_succ, Nat.pow_mul]
  have h1 := dg_len.1 h
  have h2 : x.natAbs ^ e ≤ (BB ^ L) ^ e := Nat.pow_le_pow_left (Nat.le_of_lt h1) e
  have h3 : 0 < (BB ^ L) ^ e := Nat.pow_pos (Nat.pow_pos (by decide))
  have h4 : (BB ^ L) ^ e * 1 < (BB ^ L) ^ e * BB := Nat.mul_lt_mul_of_pos_left (by decide) h3
  omega
theorem dg_shl (x : Int) (n : Nat) : (dg (x * 2 ^ n)).length ≤ (dg x).length + (n / 32 + 1) := by
  have h4 := dig_shl x.natAbs n
  have h5 : dg (x * 2 ^ n) = dig (x.natAbs * 2 ^ n) := by
    unfold dg; rw [Int.natAbs_mul, Int.natAbs_pow]; rfl
  rw [h5]; exact h4
theorem shift_back (m : Bool) (x : Int) (n : Nat) (hx : (dg x).length ≤ 4096) (hn : n < 2 ^ 40) : ∃ f : Bool, denP E 34 [I m x, .int .i64 (-(n : Int))] = some (.ret (.tup [I f (x / 2 ^ n), .int .i64 0])) ∧ True := by
  by_cases h : n = 0
  · subst h
    have h1 := shift_pos m x 0 hx (by decide)
    rw [Int.pow_zero, Int.mul_one, RI, fm_of hx, fit_of hx, er_of hx] at h1
    rw [Int.pow_zero, Int.ediv_one]
    exact ⟨_, h1, trivial⟩
  · exact shift_neg m x n hx (by omega) (by omega)
set_option maxHeartbeats 4000000 in
theorem largePowers_walk (qa : Raw) (ra : InR qa.2.2) (i k : Nat) (hi : i < 256) (hk : k < 256) :
    denP E 7 [ivr qa, .int .u8 i, .int .u8 k] = some (.ret (.bool true)) := by
  have hlt := light_walk 60 [qa] (by simp) (by decide)
  simp only [List.map_cons, List.map_nil, Int.cast_ofNat_Int] at hlt
  refine denP_eq E7 rfl (by simp [AV.pureL, AV.pure, pure_wd]) ?_
  by_cases hl : [qa].all (lightW 60) = true
  · rw [hl] at hlt
    simp only [List.all_cons, List.all_nil, Bool.and_true] at hl
    obtain ⟨ka, _, a, ea, da⟩ := light_norm ra hl
    rw [← da] at ka
    rw [ea] at hlt ⊢
    generalize qa.2.1 = ma at *
    clear ea da ra hl
    by_cases h1 : 20 < i
    · simp (maxSteps := 4000000) (disch := omega) only [go_sem, ↓reduceIte, Nat.reduceAdd, Nat.reduceSub, Nat.reduceMul, Nat.reduceEqDiff, reduceCtorEq, Int.reduceAdd, Int.reduceLT, Int.reduceLE, Int.reduceToNat, Int.reduceNeg, Int.reduceSub, ← List.map_take, ← List.map_drop, wrap64, wrapu64, wrapu32, Try.f7, fillAll, reps, refP, elems, hlt, awake14]
    · by_cases h2 : 20 < k
      · simp (maxSteps := 4000000) (disch := omega) only [go_sem, ↓reduceIte, Nat.reduceAdd, Nat.reduceSub, Nat.reduceMul, Nat.reduceEqDiff, reduceCtorEq, Int.reduceAdd, Int.reduceLT, Int.reduceLE, Int.reduceToNat, Int.reduceNeg, Int.reduceSub, ← List.map_take, ← List.map_drop, wrap64, wrapu64, wrapu32, Try.f7, fillAll, reps, refP, elems, hlt, awake14]
      · obtain ⟨p, hp⟩ : ∃ p, p = 7 * i := ⟨_, rfl⟩
        obtain ⟨q, hq⟩ : ∃ q, q = 11 * k := ⟨_, rfl⟩
        have c1 : (7 : Int) * (i : Int) = (p : Int) := by omega
        have c2 : (11 : Int) * (k : Int) = (q : Int) := by omega
        have c3 : (p : Int) + (q : Int) = ((p + q : Nat) : Int) := by omega
        have c4 : (-11 : Int) * (k : Int) = -(q : Int) := by omega
        have c5 : (i : Int) + (k : Int) = ((i + k : Nat) : Int) := by omega
        have hmi : 60 * i ≤ 60 * 20 := Nat.mul_le_mul_left _ (by omega)
        have hmk : 60 * k ≤ 60 * 20 := Nat.mul_le_mul_left _ (by omega)
        have hmik : 60 * (i + k) ≤ 60 * 40 := Nat.mul_le_mul_left _ (by omega)
        have l1 := dg_pow ka i
        have l2 := dg_pow ka k
        have l3 := dg_pow ka (i + k)
        have l4 := dg_shl a p
        have l5 := dg_shl (a * 2 ^ p) q
        have l6 := dg_shl a (p + q)
        have l7 : (dg ((2 : Int) ^ (p + q))).length ≤ 1000 := by
          have := dg_pow (x := 2) (L := 1) (by rw [dg_len]; decide) (p + q); omega
        have E1 : a ^ i * a ^ k = a ^ (i + k) := (Int.pow_add a i k).symm
        have E2 : a * 2 ^ p * 2 ^ q = a * 2 ^ (p + q) := by rw [Int.pow_add, Int.mul_assoc]
        have E3 : a * 2 ^ p * 2 ^ q / 2 ^ q = a * 2 ^ p := Int.mul_ediv_cancel _ (Int.ne_of_gt (Int.pow_pos (by decide)))
        obtain ⟨f1, p1, _⟩ := power_spec ma a i (by omega) (by omega)
        obtain ⟨f2, p2, _⟩ := power_spec ma a k (by omega) (by omega)
        obtain ⟨f3, p3, _⟩ := power_spec ma a (i + k) (by omega) (by omega)
        obtain ⟨f4, p4, _⟩ := power_spec false 2 (p + q) (by have := dg_small (z := 2) (by decide); omega) (by omega)
        have s1 := shift_pos ma a p (by omega) (by omega)
        have s2 := shift_pos (decide (a = 0)) (a * 2 ^ p) q (by omega) (by omega)
        have s3 := shift_pos ma a (p + q) (by omega) (by omega)
        obtain ⟨f5, s4, _⟩ := shift_back (decide (a * 2 ^ p = 0)) (a * 2 ^ p * 2 ^ q) q (by omega) (by omega)
        rw [E3] at s4
        have m1 := lmul_spec f1 (a ^ i) f2 (a ^ k) (by omega) (by omega) (by rw [E1]; omega)
        have m2 := lmul_spec ma a f4 (2 ^ (p + q)) (by omega) (by omega) (by omega)
        have o1 := of_spec 2 (by decide) (by decide)
        simp only [RI, fit_of (show (dg (a ^ i)).length ≤ 4096 by omega), er_of (show (dg (a ^ i)).length ≤ 4096 by omega), fm_of (show (dg (a ^ i)).length ≤ 4096 by omega)] at p1
        simp only [RI, fit_of (show (dg (a ^ k)).length ≤ 4096 by omega), er_of (show (dg (a ^ k)).length ≤ 4096 by omega), fm_of (show (dg (a ^ k)).length ≤ 4096 by omega)] at p2
        simp only [RI, fit_of (show (dg (a ^ (i + k))).length ≤ 4096 by omega), er_of (show (dg (a ^ (i + k))).length ≤ 4096 by omega), fm_of (show (dg (a ^ (i + k))).length ≤ 4096 by omega)] at p3
        simp only [RI, fit_of (show (dg ((2 : Int) ^ (p + q))).length ≤ 4096 by omega), er_of (show (dg ((2 : Int) ^ (p + q))).length ≤ 4096 by omega), fm_of (show (dg ((2 : Int) ^ (p + q))).length ≤ 4096 by omega)] at p4
        simp only [RI, fit_of (show (dg (a * 2 ^ p)).length ≤ 4096 by omega), er_of (show (dg (a * 2 ^ p)).length ≤ 4096 by omega), fm_of (show (dg (a * 2 ^ p)).length ≤ 4096 by omega)] at s1
        simp only [RI, fit_of (show (dg (a * 2 ^ p * 2 ^ q)).length ≤ 4096 by omega), er_of (show (dg (a * 2 ^ p * 2 ^ q)).length ≤ 4096 by omega), fm_of (show (dg (a * 2 ^ p * 2 ^ q)).length ≤ 4096 by omega)] at s2
        simp only [RI, fit_of (show (dg (a * 2 ^ (p + q))).length ≤ 4096 by omega), er_of (show (dg (a * 2 ^ (p + q))).length ≤ 4096 by omega), fm_of (show (dg (a * 2 ^ (p + q))).length ≤ 4096 by omega)] at s3
        have r1 := rSame_spec (mz (a ^ i) (a ^ k)) (a ^ i * a ^ k) f3 (a ^ (i + k)) (by rw [E1]; omega) (by omega)
        rw [decide_eq_true E1] at r1
        have r2 := rSame_spec (decide (a * 2 ^ p = 0)) (a * 2 ^ p * 2 ^ q) (decide (a = 0)) (a * 2 ^ (p + q)) (by omega) (by omega)
        rw [decide_eq_true E2] at r2
        have r3 := rSame_spec (decide (a = 0)) (a * 2 ^ (p + q)) (mz a (2 ^ (p + q))) (a * 2 ^ (p + q)) (by omega) (by omega)
        rw [decide_eq_true rfl] at r3
        have r4 := rSame_spec f5 (a * 2 ^ p) (decide (a = 0)) (a * 2 ^ p) (by omega) (by omega)
        rw [decide_eq_true rfl] at r4
        have hp2 : p ≤ 140 := by omega
        have hq2 : q ≤ 220 := by omega
        clear E1 E2 E3 l1 l2 l3 l4 l5 l6 l7 hmi hmk hmik hp hq ka
        generalize decide (a = 0) = d0 at *
        generalize decide (a * 2 ^ p = 0) = d1 at *
        generalize mz a (2 ^ (p + q)) = d2 at *
        generalize mz (a ^ i) (a ^ k) = d3 at *
        generalize a * 2 ^ p * 2 ^ q = A1 at *
        generalize a * 2 ^ p = A2 at *
        generalize a * 2 ^ (p + q) = A3 at *
        generalize a ^ i * a ^ k = A4 at *
        generalize a ^ (i + k) = A5 at *
        generalize a ^ i = A6 at *
        generalize a ^ k = A7 at *
        generalize (2 : Int) ^ (p + q) = A8 at *
        simp (maxSteps := 4000000) (disch := omega) only [go_sem, ↓reduceIte, Nat.reduceAdd, Nat.reduceSub, Nat.reduceMul, Nat.reduceEqDiff, reduceCtorEq, Int.reduceAdd, Int.reduceLT, Int.reduceLE, Int.reduceToNat, Int.reduceNeg, Int.reduceSub, ← List.map_take, ← List.map_drop, wrap64, wrapu64, wrapu32, Try.f7, fillAll, reps, refP, elems, hlt, c1, c2, c3, c4, c5, p1, p2, p3, p4, s1, s2, s3, s4, m1, m2, o1, r1, r2, r3, r4, awake14]
  · rw [Bool.not_eq_true] at hl
    rw [hl] at hlt
    simp only [ivr, iv] at hlt
    simp (maxSteps := 4000000) (disch := omega) only [go_sem, ↓reduceIte, Nat.reduceAdd, Nat.reduceSub, Nat.reduceMul, Nat.reduceEqDiff, reduceCtorEq, Int.reduceAdd, Int.reduceLT, Int.reduceLE, Int.reduceToNat, Int.reduceNeg, Int.reduceSub, ← List.map_take, ← List.map_drop, wrap64, wrapu64, wrapu32, Try.f7, ivr, fillAll, reps, refP, elems, hlt, awake14]
theorem fit_u8 {m : Nat} {cs : List AV} {t : Nat} (ht : E.T t = some ⟨1, 1, false, .int .u8 0, .int .u8⟩) (h : Fit E (m + 1) t cs) : ∃ n : Nat, n < 256 ∧ cs = [.int .u8 n] := by
  simp only [Fit, ht, FitD] at h
  obtain ⟨_, i, rfl, hi⟩ := h
  have hi' : 0 ≤ i ∧ i < 256 := by simp [Lit.wf, IntKind.max, IntKind.min, IntKind.bits, IntKind.signed] at hi; omega
  refine ⟨i.toNat, by omega, ?_⟩
  rw [show ((i.toNat : Nat) : Int) = i by omega]
theorem largePowers_pure : largePowers.Pure := by
  intro xs h
  simp only [FitArgs, opn_eq, T1, T2, T3, T4, T5, T6, T7, T8, T9, T10, T11, T12, T13, T14, T15, T16, T17, T18, T19, T20, T21, T22, T23, T25, T26, T27, T28, T29, T30, T31, T32, T33, T35, T36, T37, T39, T41, T42, T43, T44, T45, T46, T47, T48, T49, T50, T51, T52, T54, T56, T58, T59, T61, T62, T64, T65, T66, T67, T68, T69, T70, T71, T72, T73, T74, T76, T77, T78, T79, T80, T81, T82, T83, T84, T85, T87, T88, T89, T91, T92, T93, T95, T97, T98, T100, T101, T102, T103, T104, T105, T106, T107, T108, T109, T110, T111, T112, T113, T114, T115, T116, T117, T118, T119, T120, T121, T122, elm] at h
  obtain ⟨c1, x1, y1, rfl, ⟨rfl, h1⟩, c2, x2, y2, rfl, ⟨rfl, h2⟩, c3, x3, y3, rfl, ⟨rfl, h3⟩, rfl⟩ := h
  obtain ⟨qa, rfl, ra, na, la⟩ := fit_raw (m := 3) h1
  obtain ⟨i, hi, rfl⟩ := fit_u8 (m := 5) T5 h2
  obtain ⟨k, hk, rfl⟩ := fit_u8 (m := 5) T5 h3
  exact largePowers_walk qa ra i k hi hk
theorem largePowers_holds : Rows.LargePowersSaid := largePowers.over largePowers_pure
#print axioms largePowers_holds
end Go.Proofs.Ytpfcijgcjghgeaa

/- The row of LargeBits, out of what the machine over pure values says. (Own work of this repo.) -/
namespace Go.Proofs.Ytpfcijgcjghgeaa
namespace largeBits
open Go.ChangeShapes Go.WideShapes Go.ChangeAt Go.RowKit
def Pure : Prop := ∀ xs, Vm.FitArgs E [28, 28, 3] xs → Vm.denP E 8 xs = some (.ret (.bool true))
theorem own : ownKnob Try.prog.godebug = none := by kernel_rfl
set_option maxRecDepth 100000 in
theorem lifted (hP : Pure) (os : Os) (started : os.Started) (H : Type) (enc : TypeId × Value → H) :
    ReturnsInHanded {} Try.checked os 8 .any (Rows.largeBitsSpec.pre6 enc Try.prog Try.f8 Rows.largeBitsRow.domain false) (Rows.largeBitsSpec.post enc Try.prog Try.f8 false true false false) := by
  refine returnsInHanded_of_change_sized (C := Try.checked) own started (by kernel_rfl) Try.func8
    (ChangeSpec.witness6 (enc := enc) (C := Try.checked) false ⟨#[], #[(.agg #[.bool false, .slice none 0 0]), (.agg #[.bool false, .slice none 0 0]), (.int .i64 0)], []⟩ 8 (by kernel_rfl) (by kernel_rfl) (by kernel_rfl) (by kernel_rfl)) ?_
  intro W base args ds gs before hval0 hW hcnd hsz0 _
  have hval : ∀ (j : Nat) t v, Try.f8.params[j]? = some t → args[j]? = some v → Value.okWide Try.prog W .any base t v := hval0
  have hW' := hW
  obtain ⟨p, q, hA0, hV, rfl, hfz, hnd⟩ := hW
  have hA : DataW.TrodAll enc Try.prog W 0 (fun _ => true) true Try.f8.params.toList args.toList ds p := hA0
  have hpar : Try.f8.params.toList = [28, 28, 3] := by rw [Try.params8]
  rw [hpar] at hA
  obtain ⟨xs, hfit, hrep, hpure, hst⟩ := Vm.open_args eok.toEOk (by kernel_rfl) _ _ _ _ (by kernel_rfl) hA (fun j t v ht hv => ⟨_, _, hval j t v (by rw [← Array.getElem?_toList, hpar]; exact ht) (by rw [← Array.getElem?_toList]; exact hv)⟩)
  have hlen := Vm.trodAll_len hA
  obtain ⟨rfl, rfl⟩ := trodVars_none hV
  clear hA0 hval0 hsz0 hval hA hcnd
  match ds, hlen, hst, hW' with
  | [d0, d1, d2], _, hst, hW =>
    refine (Vm.denP_calls eok (hP xs hfit) W args hrep hpure).mono fun e W' ⟨bel, v, he, hv⟩ => ?_
    subst he
    obtain rfl := Vm.rep_bool hv
    exact ⟨_, rfl, _, _, _, [], _, [], hW, trodAll_mk1 (shut_bool Try.underlying4 _), (by rw [hpar]; exact hst W' bel), rfl, bel.frame _, fun h => by cases h⟩
theorem over (hP : Pure) : Rows.largeBitsRow.holds Try.pinned (OpenSpec.ofChange Rows.largeBitsSpec) :=
  OpenClaim.holds_of_wide 8 Try.f8 rfl rfl rfl rfl rfl rfl rfl ⟨rfl, rfl, rfl, rfl, rfl⟩ rfl rfl rfl rfl rfl (by kernel_rfl) Try.func8 (by kernel_rfl)
    (of_decide_eq_true (by kernel_rfl)) (by unfold Func.isWrapper; first | (rw [if_pos (by decide +kernel)]; kernel_rfl) | (rw [if_neg (by decide +kernel)]; exact ⟨rfl, rfl⟩))
    (fun os started H enc _ => lifted hP os started H enc)
end largeBits

end Go.Proofs.Ytpfcijgcjghgeaa

/- The law LargeBits. (Own work of this repo.) -/
namespace Go.Proofs.Ytpfcijgcjghgeaa
open Vm
set_option maxRecDepth 10000

theorem badUnder (q r : Raw) (hq : q.2.2.length < 2 ^ 60) (hr : r.2.2.length < 2 ^ 60) (h : (rvalidW q.1 q.2.2 && rvalidW r.1 r.2.2) = false) : denP E 11 [ivr q, ivr r] = some (.ret (.tup [.bool false, .int .i64 1])) := by
  refine denP_eq E11 rfl (by simp [AV.pureL, AV.pure, pure_wd]) ?_
  have h1 := valid54 q.1 q.2.1 q.2.2 r.1 r.2.1 r.2.2 hq hr
  rw [valid_same, valid_same, h] at h1
  simp (maxSteps := 4000000) (disch := omega) only [go_sem, ↓reduceIte, Nat.reduceAdd, Nat.reduceSub, Nat.reduceMul, Nat.reduceEqDiff, reduceCtorEq, Int.reduceAdd, Int.reduceLT, Int.reduceLE, Int.reduceToNat, Int.reduceNeg, Int.reduceSub, ← List.map_take, ← List.map_drop, wrap64, wrapu64, wrapu32, Try.f11, ivr, h1, fillAll, reps, refP, elems, places, ng_zero, dg_zero]
theorem badPower (q : Raw) (n : Int) (hq : q.2.2.length < 2 ^ 60) (h : rvalidW q.1 q.2.2 = false) : denP E 33 [ivr q, .int .i64 n] = some (.ret (.tup [I true 0, .int .i64 1])) := by
  refine denP_eq E33 rfl (by simp [AV.pureL, AV.pure, pure_wd]) ?_
  have h1 := valid_raw q hq
  rw [valid_same, h] at h1
  simp only [ivr, iv] at h1
  simp (maxSteps := 4000000) (disch := omega) only [go_sem, ↓reduceIte, Nat.reduceAdd, Nat.reduceSub, Nat.reduceMul, Nat.reduceEqDiff, reduceCtorEq, Int.reduceAdd, Int.reduceLT, Int.reduceLE, Int.reduceToNat, Int.reduceNeg, Int.reduceSub, ← List.map_take, ← List.map_drop, wrap64, wrapu64, wrapu32, Try.f33, ivr, h1, fillAll, reps, refP, elems, places, ng_zero, dg_zero]
theorem badShift (q : Raw) (n : Int) (hq : q.2.2.length < 2 ^ 60) (h : rvalidW q.1 q.2.2 = false) : denP E 34 [ivr q, .int .i64 n] = some (.ret (.tup [I true 0, .int .i64 1])) := by
  refine denP_eq E34 rfl (by simp [AV.pureL, AV.pure, pure_wd]) ?_
  have h1 := valid_raw q hq
  rw [valid_same, h] at h1
  simp only [ivr, iv] at h1
  simp (maxSteps := 4000000) (disch := omega) only [go_sem, ↓reduceIte, Nat.reduceAdd, Nat.reduceSub, Nat.reduceMul, Nat.reduceEqDiff, reduceCtorEq, Int.reduceAdd, Int.reduceLT, Int.reduceLE, Int.reduceToNat, Int.reduceNeg, Int.reduceSub, ← List.map_take, ← List.map_drop, wrap64, wrapu64, wrapu32, Try.f34, ivr, h1, fillAll, reps, refP, elems, places, ng_zero, dg_zero]
theorem badBits (q : Raw) (hq : q.2.2.length < 2 ^ 60) (h : rvalidW q.1 q.2.2 = false) : denP E 35 [ivr q] = some (.ret (.int .i64 0)) := by
  refine denP_eq E35 rfl (by simp [AV.pureL, AV.pure, pure_wd]) ?_
  have h1 := valid_raw q hq
  rw [valid_same, h] at h1
  simp only [ivr, iv] at h1
  simp (maxSteps := 4000000) (disch := omega) only [go_sem, ↓reduceIte, Nat.reduceAdd, Nat.reduceSub, Nat.reduceMul, Nat.reduceEqDiff, reduceCtorEq, Int.reduceAdd, Int.reduceLT, Int.reduceLE, Int.reduceToNat, Int.reduceNeg, Int.reduceSub, ← List.map_take, ← List.map_drop, wrap64, wrapu64, wrapu32, Try.f35, ivr, h1]
theorem power_neg (m : Bool) (x n : Int) (hx : (dg x).length ≤ 4096) (hn : n < 0) : denP E 33 [I m x, .int .i64 n] = some (.ret (.tup [I true 0, .int .i64 2])) := by
  refine denP_eq E33 rfl (by simp [AV.pureL, AV.pure, pure_wd]) ?_
  have h1 := valid_I m x hx
  simp (maxSteps := 4000000) (disch := omega) only [go_sem, ↓reduceIte, Nat.reduceAdd, Nat.reduceSub, Nat.reduceMul, Nat.reduceEqDiff, reduceCtorEq, Int.reduceAdd, Int.reduceLT, Int.reduceLE, Int.reduceToNat, Int.reduceNeg, Int.reduceSub, ← List.map_take, ← List.map_drop, wrap64, wrapu64, wrapu32, Try.f33, ivr, h1, fillAll, reps, refP, elems, places, ng_zero, dg_zero]
theorem powNear_len {x : Int} {n : Nat} (hx : (dg x).length ≤ 4096) (h : powFar x n = false) : (dg (x ^ n)).length < 2 ^ 60 := by
  unfold powFar at h
  rw [Bool.and_eq_false_iff, decide_eq_false_iff_not, decide_eq_false_iff_not] at h
  by_cases hb1 : bl x.natAbs ≤ 1
  · have : (x ^ n).natAbs ≤ 1 := by
      rw [Int.natAbs_pow]
      have h1 := bl_le.1 hb1
      have h2 := Nat.pow_le_pow_left (show x.natAbs ≤ 1 by omega) n
      rwa [Nat.one_pow] at h2
    have := dg_small (z := x ^ n) (by omega)
    omega
  · have h3 : n ≤ 262144 / (bl x.natAbs - 1) := by omega
    obtain ⟨L, hL⟩ : ∃ L, L = 20000 := ⟨_, rfl⟩
    have : (dg (x ^ n)).length ≤ L := by
      refine dg_bits (Nat.lt_of_lt_of_le pow_bl (Nat.pow_le_pow_right (by decide) ?_))
      have h5 := Nat.mul_le_mul_left (bl x.natAbs - 1) h3
      have h6 := Nat.mul_div_le 262144 (bl x.natAbs - 1)
      have h7 : bl x.natAbs * n ≤ 2 * ((bl x.natAbs - 1) * n) := by
        rw [← Nat.mul_assoc]; exact Nat.mul_le_mul_right _ (by omega)
      omega
    omega
/-- A power that the reference gives up is too long. -/
theorem powFar_big {x : Int} {n : Nat} (h : powFar x n = true) : ¬ (dg (x ^ n)).length ≤ 4096 := by
  unfold powFar at h
  rw [Bool.and_eq_true, decide_eq_true_eq, decide_eq_true_eq] at h
  obtain ⟨h1, h2⟩ := h
  intro h3
  have h4 := valid_len h3
  rw [Int.natAbs_pow] at h4
  have hx0 : x.natAbs ≠ 0 := fun e => by rw [e, bl_zero] at h1; omega
  have h5 := Nat.pow_le_pow_left (bl_ge hx0) n
  rw [← Nat.pow_mul] at h5
  have h6 : 2 ^ ((bl x.natAbs - 1) * n) < 2 ^ (32 * 4096) := Nat.lt_of_le_of_lt h5 h4
  have h7 := (Nat.pow_lt_pow_iff_right (by decide : 1 < 2)).1 h6
  have h8 := Nat.lt_mul_of_div_lt h2 (show 0 < bl x.natAbs - 1 by omega)
  rw [Nat.mul_comm] at h8
  omega
set_option maxHeartbeats 4000000 in
/-- What is claimed of a power, a shift, a comparison of digits. -/
theorem bits_core (ma : Bool) (a : Int) (qb : Raw) (n : Int) (hn1 : -9223372036854775808 ≤ n) (hn2 : n < 9223372036854775808) (ka : (dg a).length ≤ 4096) (lb : qb.2.2.length ≤ 4200)
    (fp : Bool) (P : Int) (eP : Int) (fs : Bool) (S eS : Int) (U : Bool) (eU : Int) (VB : Bool)
    (p1 : denP E 33 [I ma a, .int .i64 n] = some (.ret (.tup [I fp P, .int .i64 eP])))
    (s1 : denP E 34 [I ma a, .int .i64 n] = some (.ret (.tup [I fs S, .int .i64 eS])))
    (u1 : denP E 11 [I ma a, ivr qb] = some (.ret (.tup [.bool U, .int .i64 eU])))
    (vb : denP E 25 [ivr qb] = some (.ret (.bool VB)))
    (hU : (VB = false ∧ eU = 1 ∧ U = false) ∨ (VB = true ∧ (ng a || qb.1) = true ∧ eU = 2 ∧ U = false) ∨ (VB = true ∧ ng a = false ∧ qb.1 = false ∧ eU = 0 ∧ denP E 37 [I ma a, ivr qb] = some (.ret (.bool U))))
    (hS : (135168 < n ∧ a ≠ 0 ∧ S = 0 ∧ eS = 4) ∨ (¬ (135168 < n ∧ a ≠ 0) ∧ ∃ fr w, denP E 38 [I ma a, .int .i64 (if 135168 < n then 135168 else n)] = some (.ret (I fr w)) ∧ denP E 28 [I fs S, .int .i64 eS, I fr w] = some (.ret (.bool true))))
    (hP : (n < 0 ∧ P = 0 ∧ eP = 2) ∨ (0 ≤ n ∧ ∃ fw w, denP E 39 [I ma a, .int .i64 n] = some (.ret (.tup [I fw w, .bool true])) ∧ denP E 28 [I fp P, .int .i64 eP, I fw w] = some (.ret (.bool true))) ∨
      (0 ≤ n ∧ denP E 39 [I ma a, .int .i64 n] = some (.ret (.tup [I true 0, .bool false])) ∧ P = 0 ∧ eP = 4)) :
    denP E 8 [I ma a, ivr qb, .int .i64 n] = some (.ret (.bool true)) := by
  refine denP_eq E8 rfl (by simp [AV.pureL, AV.pure, pure_wd]) ?_
  have v1 := rValid_spec ma a (by omega)
  rw [decide_eq_true ka] at v1
  have b1 := bits_spec ma a ka
  have b2 := rBits_spec ma a (by omega)
  have z1 := rZero_spec ma a
  have n1 := no_spec fs S eS 4
  have n2 := no_spec fp P eP 2
  have n3 := no_spec fp P eP 4
  generalize bl a.natAbs = bits at *
  simp only [ivr, iv] at *
  simp (maxSteps := 4000000) (disch := omega) only [go_sem, ↓reduceIte, Nat.reduceAdd, Nat.reduceSub, Nat.reduceMul, Nat.reduceEqDiff, reduceCtorEq, Int.reduceAdd, Int.reduceLT, Int.reduceLE, Int.reduceToNat, Int.reduceNeg, Int.reduceSub, ← List.map_take, ← List.map_drop, wrap64, wrapu64, wrapu32, Try.f8, p1, s1, u1, v1]
  refine W_drawn ?_
  simp (maxSteps := 4000000) (disch := omega) only [go_sem, ↓reduceIte, Nat.reduceAdd, Nat.reduceSub, Nat.reduceMul, Nat.reduceEqDiff, reduceCtorEq, Int.reduceAdd, Int.reduceLT, Int.reduceLE, Int.reduceToNat, Int.reduceNeg, Int.reduceSub, ← List.map_take, ← List.map_drop, wrap64, wrapu64, wrapu32, b1, b2]
  refine ⟨by rfl, ?_⟩
  simp (maxSteps := 4000000) (disch := omega) only [go_sem, ↓reduceIte, Nat.reduceAdd, Nat.reduceSub, Nat.reduceMul, Nat.reduceEqDiff, reduceCtorEq, Int.reduceAdd, Int.reduceLT, Int.reduceLE, Int.reduceToNat, Int.reduceNeg, Int.reduceSub, ← List.map_take, ← List.map_drop, wrap64, wrapu64, wrapu32, vb]
  refine condK_mono (Q := fun e σ => e = .norm ∧ (∃ g : Nat → AV, σ.sl = [g 0, g 1, .int .i64 n, .ptr 0 0, g 4, g 5, g 6, .ptr 2 0, .int .i64 eP, .ptr 3 0, .int .i64 eS, g 11, g 12, g 13, g 14, g 15, g 16, g 17, g 18, g 19, g 20, g 21, g 22, g 23, g 24, g 25, g 26, g 27, g 28, g 29, g 30, g 31, g 32, g 33, g 34, g 35, g 36, g 37, g 38, g 39, g 40, g 41, g 42, g 43, g 44, g 45, g 46, g 47, g 48, g 49, g 50, g 51, g 52, g 53, g 54, g 55, g 56, g 57, g 58, g 59, g 60, g 61, g 62, g 63, g 64, g 65, g 66, g 67, g 68, g 69, g 70, g 71, g 72, g 73, g 74, g 75, g 76, g 77, g 78, g 79, g 80, g 81, g 82, g 83, g 84, g 85, g 86, g 87, g 88, g 89, g 90, g 91, g 92, g 93, g 94, g 95, g 96, g 97, g 98, g 99, g 100, g 101, g 102, g 103, g 104, g 105, g 106, g 107, g 108, g 109, g 110, g 111, g 112, g 113, g 114, g 115, g 116, g 117, g 118, g 119, g 120, g 121, g 122, g 123, g 124, g 125, g 126, g 127, g 128, g 129, g 130, g 131, g 132, g 133, g 134, g 135, g 136, g 137, g 138, g 139, g 140, g 141, g 142, g 143, g 144, g 145, g 146, g 147, g 148, g 149, g 150, g 151, g 152]) ∧ σ.nx = 4 ∧
    σ.h 0 = some ⟨[.bool (ng a), .lst ma ((dg a).map wd)], true, 2, false⟩ ∧ σ.h 2 = some ⟨[.bool (ng P), .lst fp ((dg P).map wd)], true, 2, false⟩ ∧ σ.h 3 = some ⟨[.bool (ng S), .lst fs ((dg S).map wd)], true, 2, false⟩) ?_ ?_
  · rintro e ⟨sl, H, nx⟩ ⟨rfl, ⟨g, hs⟩, rfl, h0, h2, h3⟩
    dsimp only at hs h0 h2 h3
    subst hs
    clear p1 s1 u1 vb hU b1 b2 v1
    rcases hS with ⟨s1, s2, rfl, rfl⟩ | ⟨s1, fr, w, s2, s3⟩
    · have n1 := n1 (by rw [dg_zero]; simp)
      rw [decide_eq_false s2] at z1
      have hn0 : 0 ≤ n := by omega
      simp only [I, ng_zero, dg_zero, List.map_nil, decide_true, Bool.and_true] at n1 h3
      rcases hP with ⟨t1, rfl, rfl⟩ | ⟨t1, fw, w, t2, t3⟩ | ⟨t1, t2, rfl, rfl⟩
      · omega
      · simp (maxSteps := 4000000) (disch := omega) only [go_sem, ↓reduceIte, Nat.reduceAdd, Nat.reduceSub, Nat.reduceMul, Nat.reduceEqDiff, reduceCtorEq, Int.reduceAdd, Int.reduceLT, Int.reduceLE, Int.reduceToNat, Int.reduceNeg, Int.reduceSub, ← List.map_take, ← List.map_drop, wrap64, wrapu64, wrapu32, h0, h2, h3, z1, n1, t2, t3, awake14]
      · have n3 := n3 (by rw [dg_zero]; simp)
        simp only [I, ng_zero, dg_zero, List.map_nil, decide_true, Bool.and_true] at n3 h2 t2
        simp (maxSteps := 4000000) (disch := omega) only [go_sem, ↓reduceIte, Nat.reduceAdd, Nat.reduceSub, Nat.reduceMul, Nat.reduceEqDiff, reduceCtorEq, Int.reduceAdd, Int.reduceLT, Int.reduceLE, Int.reduceToNat, Int.reduceNeg, Int.reduceSub, ← List.map_take, ← List.map_drop, wrap64, wrapu64, wrapu32, h0, h2, h3, z1, n1, t2, n3, awake14]
    · by_cases hn : 135168 < n
      · have ha0 : a = 0 := by
          by_cases h : a = 0
          · exact h
          · exact absurd ⟨hn, h⟩ s1
        rw [if_pos hn] at s2
        rw [decide_eq_true ha0] at z1
        rcases hP with ⟨t1, rfl, rfl⟩ | ⟨t1, fw, w2, t2, t3⟩ | ⟨t1, t2, rfl, rfl⟩
        · omega
        · simp (maxSteps := 4000000) (disch := omega) only [go_sem, ↓reduceIte, Nat.reduceAdd, Nat.reduceSub, Nat.reduceMul, Nat.reduceEqDiff, reduceCtorEq, Int.reduceAdd, Int.reduceLT, Int.reduceLE, Int.reduceToNat, Int.reduceNeg, Int.reduceSub, ← List.map_take, ← List.map_drop, wrap64, wrapu64, wrapu32, h0, h2, h3, z1]
          refine W_drawn ?_
          simp (maxSteps := 4000000) (disch := omega) only [go_sem, ↓reduceIte, Nat.reduceAdd, Nat.reduceSub, Nat.reduceMul, Nat.reduceEqDiff, reduceCtorEq, Int.reduceAdd, Int.reduceLT, Int.reduceLE, Int.reduceToNat, Int.reduceNeg, Int.reduceSub, ← List.map_take, ← List.map_drop, wrap64, wrapu64, wrapu32, h0, h2, h3, s2, s3, t2, t3, awake14]
          rfl
        · have n3 := n3 (by rw [dg_zero]; simp)
          simp only [I, ng_zero, dg_zero, List.map_nil, decide_true, Bool.and_true] at n3 h2 t2
          simp (maxSteps := 4000000) (disch := omega) only [go_sem, ↓reduceIte, Nat.reduceAdd, Nat.reduceSub, Nat.reduceMul, Nat.reduceEqDiff, reduceCtorEq, Int.reduceAdd, Int.reduceLT, Int.reduceLE, Int.reduceToNat, Int.reduceNeg, Int.reduceSub, ← List.map_take, ← List.map_drop, wrap64, wrapu64, wrapu32, h0, h2, h3, z1]
          refine W_drawn ?_
          simp (maxSteps := 4000000) (disch := omega) only [go_sem, ↓reduceIte, Nat.reduceAdd, Nat.reduceSub, Nat.reduceMul, Nat.reduceEqDiff, reduceCtorEq, Int.reduceAdd, Int.reduceLT, Int.reduceLE, Int.reduceToNat, Int.reduceNeg, Int.reduceSub, ← List.map_take, ← List.map_drop, wrap64, wrapu64, wrapu32, h0, h2, h3, s2, s3, t2, n3, awake14]
          rfl
      · rw [if_neg hn] at s2
        rcases hP with ⟨t1, rfl, rfl⟩ | ⟨t1, fw, w2, t2, t3⟩ | ⟨t1, t2, rfl, rfl⟩
        · have n2 := n2 (by rw [dg_zero]; simp)
          simp only [I, ng_zero, dg_zero, List.map_nil, decide_true, Bool.and_true] at n2 h2
          simp (maxSteps := 4000000) (disch := omega) only [go_sem, ↓reduceIte, Nat.reduceAdd, Nat.reduceSub, Nat.reduceMul, Nat.reduceEqDiff, reduceCtorEq, Int.reduceAdd, Int.reduceLT, Int.reduceLE, Int.reduceToNat, Int.reduceNeg, Int.reduceSub, ← List.map_take, ← List.map_drop, wrap64, wrapu64, wrapu32, h0, h2, h3]
          refine W_drawn ?_
          simp (maxSteps := 4000000) (disch := omega) only [go_sem, ↓reduceIte, Nat.reduceAdd, Nat.reduceSub, Nat.reduceMul, Nat.reduceEqDiff, reduceCtorEq, Int.reduceAdd, Int.reduceLT, Int.reduceLE, Int.reduceToNat, Int.reduceNeg, Int.reduceSub, ← List.map_take, ← List.map_drop, wrap64, wrapu64, wrapu32, h0, h2, h3, s2, s3, n2, awake14]
          rfl
        · simp (maxSteps := 4000000) (disch := omega) only [go_sem, ↓reduceIte, Nat.reduceAdd, Nat.reduceSub, Nat.reduceMul, Nat.reduceEqDiff, reduceCtorEq, Int.reduceAdd, Int.reduceLT, Int.reduceLE, Int.reduceToNat, Int.reduceNeg, Int.reduceSub, ← List.map_take, ← List.map_drop, wrap64, wrapu64, wrapu32, h0, h2, h3]
          refine W_drawn ?_
          simp (maxSteps := 4000000) (disch := omega) only [go_sem, ↓reduceIte, Nat.reduceAdd, Nat.reduceSub, Nat.reduceMul, Nat.reduceEqDiff, reduceCtorEq, Int.reduceAdd, Int.reduceLT, Int.reduceLE, Int.reduceToNat, Int.reduceNeg, Int.reduceSub, ← List.map_take, ← List.map_drop, wrap64, wrapu64, wrapu32, h0, h2, h3, s2, s3, t2, t3, awake14]
          rfl
        · have n3 := n3 (by rw [dg_zero]; simp)
          simp only [I, ng_zero, dg_zero, List.map_nil, decide_true, Bool.and_true] at n3 h2 t2
          simp (maxSteps := 4000000) (disch := omega) only [go_sem, ↓reduceIte, Nat.reduceAdd, Nat.reduceSub, Nat.reduceMul, Nat.reduceEqDiff, reduceCtorEq, Int.reduceAdd, Int.reduceLT, Int.reduceLE, Int.reduceToNat, Int.reduceNeg, Int.reduceSub, ← List.map_take, ← List.map_drop, wrap64, wrapu64, wrapu32, h0, h2, h3]
          refine W_drawn ?_
          simp (maxSteps := 4000000) (disch := omega) only [go_sem, ↓reduceIte, Nat.reduceAdd, Nat.reduceSub, Nat.reduceMul, Nat.reduceEqDiff, reduceCtorEq, Int.reduceAdd, Int.reduceLT, Int.reduceLE, Int.reduceToNat, Int.reduceNeg, Int.reduceSub, ← List.map_take, ← List.map_drop, wrap64, wrapu64, wrapu32, h0, h2, h3, s2, s3, t2, n3, awake14]
          rfl
  · rcases hU with ⟨rfl, rfl, rfl⟩ | ⟨rfl, h5, rfl, rfl⟩ | ⟨rfl, h5, h6, rfl, h7⟩
    · simp (maxSteps := 4000000) (disch := omega) only [go_sem, ↓reduceIte, Nat.reduceAdd, Nat.reduceSub, Nat.reduceMul, Nat.reduceEqDiff, reduceCtorEq, Int.reduceAdd, Int.reduceLT, Int.reduceLE, Int.reduceToNat, Int.reduceNeg, Int.reduceSub, ← List.map_take, ← List.map_drop, wrap64, wrapu64, wrapu32]
      exact garb rfl
    · cases h6 : ng a with
      | true =>
        simp (maxSteps := 4000000) (disch := omega) only [go_sem, ↓reduceIte, Nat.reduceAdd, Nat.reduceSub, Nat.reduceMul, Nat.reduceEqDiff, reduceCtorEq, Int.reduceAdd, Int.reduceLT, Int.reduceLE, Int.reduceToNat, Int.reduceNeg, Int.reduceSub, ← List.map_take, ← List.map_drop, wrap64, wrapu64, wrapu32, h6]
        exact garb rfl
      | false =>
        rw [h6, Bool.false_or] at h5
        simp (maxSteps := 4000000) (disch := omega) only [go_sem, ↓reduceIte, Nat.reduceAdd, Nat.reduceSub, Nat.reduceMul, Nat.reduceEqDiff, reduceCtorEq, Int.reduceAdd, Int.reduceLT, Int.reduceLE, Int.reduceToNat, Int.reduceNeg, Int.reduceSub, ← List.map_take, ← List.map_drop, wrap64, wrapu64, wrapu32, h6, h5]
        exact garb rfl
    · simp only [I, h5, h6] at h7
      cases U with
      | true =>
        simp (maxSteps := 4000000) (disch := omega) only [go_sem, ↓reduceIte, Nat.reduceAdd, Nat.reduceSub, Nat.reduceMul, Nat.reduceEqDiff, reduceCtorEq, Int.reduceAdd, Int.reduceLT, Int.reduceLE, Int.reduceToNat, Int.reduceNeg, Int.reduceSub, ← List.map_take, ← List.map_drop, wrap64, wrapu64, wrapu32, h5, h6, h7]
        exact garb rfl
      | false =>
        simp (maxSteps := 4000000) (disch := omega) only [go_sem, ↓reduceIte, Nat.reduceAdd, Nat.reduceSub, Nat.reduceMul, Nat.reduceEqDiff, reduceCtorEq, Int.reduceAdd, Int.reduceLT, Int.reduceLE, Int.reduceToNat, Int.reduceNeg, Int.reduceSub, ← List.map_take, ← List.map_drop, wrap64, wrapu64, wrapu32, h5, h6, h7]
        exact garb rfl
theorem largeBits_walk (qa qb : Raw) (n : Int) (hn1 : -9223372036854775808 ≤ n) (hn2 : n < 9223372036854775808) (ra : InR qa.2.2) (rb : InR qb.2.2) (la : qa.2.2.length ≤ 4200) (lb : qb.2.2.length ≤ 4200) :
    denP E 8 [ivr qa, ivr qb, .int .i64 n] = some (.ret (.bool true)) := by
  have v2 := rvalid_raw qa (by omega)
  have v4 := rvalid_raw qb (by omega)
  cases ha : rvalidW qa.1 qa.2.2 with
  | false =>
    have p1 := badPower qa n (by omega) ha
    have s1 := badShift qa n (by omega) ha
    have u1 := badUnder qa qb (by omega) (by omega) (by rw [ha]; rfl)
    have b1 := badBits qa (by omega) ha
    have n1 := no_spec true 0 1 1 (by rw [dg_zero]; simp)
    rw [ha] at v2
    refine denP_eq E8 rfl (by simp [AV.pureL, AV.pure, pure_wd]) ?_
    simp only [ivr, iv] at *
    simp (maxSteps := 4000000) (disch := omega) only [go_sem, ↓reduceIte, Nat.reduceAdd, Nat.reduceSub, Nat.reduceMul, Nat.reduceEqDiff, reduceCtorEq, Int.reduceAdd, Int.reduceLT, Int.reduceLE, Int.reduceToNat, Int.reduceNeg, Int.reduceSub, ← List.map_take, ← List.map_drop, wrap64, wrapu64, wrapu32, Try.f8, p1, s1, u1, b1, v2, n1, awake14]
  | true =>
    obtain ⟨ka, a, sa, da⟩ := rvalid_norm ra ha
    rw [← da] at ka la
    have ea : ivr qa = I qa.2.1 a := by rw [I, sa, da]
    rw [ea] at v2 ⊢
    generalize qa.2.1 = ma at *
    have hU : ∃ (U : Bool) (eU : Int) (VB : Bool), denP E 11 [I ma a, ivr qb] = some (.ret (.tup [.bool U, .int .i64 eU])) ∧ denP E 25 [ivr qb] = some (.ret (.bool VB)) ∧
        ((VB = false ∧ eU = 1 ∧ U = false) ∨ (VB = true ∧ (ng a || qb.1) = true ∧ eU = 2 ∧ U = false) ∨ (VB = true ∧ ng a = false ∧ qb.1 = false ∧ eU = 0 ∧ denP E 37 [I ma a, ivr qb] = some (.ret (.bool U)))) := by
      cases hb : rvalidW qb.1 qb.2.2 with
      | false =>
        rw [hb] at v4
        exact ⟨false, 1, false, by rw [← ea]; exact badUnder qa qb (by rw [← da]; omega) (by omega) (by rw [hb, Bool.and_false]), v4, .inl ⟨rfl, rfl, rfl⟩⟩
      | true =>
        rw [hb] at v4
        obtain ⟨kb, b, sb, db⟩ := rvalid_norm rb hb
        rw [← db] at kb
        have eb : ivr qb = I qb.2.1 b := by rw [I, sb, db]
        rw [eb] at v4 ⊢
        rw [← sb]
        generalize qb.2.1 = mb at *
        cases hs : ng a || ng b with
        | true => exact ⟨false, 2, true, under_neg ma a mb b ka kb hs, v4, .inr (.inl ⟨rfl, rfl, rfl, rfl⟩)⟩
        | false =>
          rw [Bool.or_eq_false_iff] at hs
          exact ⟨_, 0, true, under_spec ma a mb b ka kb (ng_false.1 hs.1) (ng_false.1 hs.2), v4, .inr (.inr ⟨rfl, hs.1, hs.2, rfl, rUnder_spec ma a mb b (by omega) (by omega)⟩)⟩
    obtain ⟨U, eU, VB, u1, vb, hU⟩ := hU
    have hS : ∃ (fs : Bool) (S eS : Int), denP E 34 [I ma a, .int .i64 n] = some (.ret (.tup [I fs S, .int .i64 eS])) ∧
        ((135168 < n ∧ a ≠ 0 ∧ S = 0 ∧ eS = 4) ∨ (¬ (135168 < n ∧ a ≠ 0) ∧ ∃ fr w, denP E 38 [I ma a, .int .i64 (if 135168 < n then 135168 else n)] = some (.ret (I fr w)) ∧ denP E 28 [I fs S, .int .i64 eS, I fr w] = some (.ret (.bool true)))) := by
      by_cases hn : n < 0
      · obtain ⟨k, rfl⟩ : ∃ k : Nat, n = -(k : Int) := ⟨n.natAbs, by omega⟩
        obtain ⟨f, h1, _⟩ := shift_neg ma a k ka (by omega) (by omega)
        obtain ⟨f2, h2, _⟩ := rShift_neg ma a k (by omega) (by omega) (by omega)
        have hz : (dg (a / 2 ^ k)).length ≤ 4096 := by
          refine Nat.le_trans (dg_mono ?_) ka
          exact Int.natAbs_ediv_le_natAbs _ _
        have h3 := is_made f f2 (a / 2 ^ k) (by omega)
        rw [fm_of hz, fit_of hz, er_of hz] at h3
        exact ⟨f, _, 0, h1, .inr ⟨by omega, f2, _, by rw [if_neg (by omega)]; exact h2, h3⟩⟩
      · obtain ⟨k, rfl⟩ : ∃ k : Nat, n = (k : Int) := ⟨n.natAbs, by omega⟩
        have h1 := shift_pos ma a k ka (by omega)
        by_cases hk : 135168 < (k : Int) ∧ a ≠ 0
        · have hz := shl_no (n := k) (k := 4096) hk.2 (by omega)
          rw [RI, fm_no hz, fit_no hz, er_no hz] at h1
          exact ⟨true, 0, 4, h1, .inl ⟨hk.1, hk.2, rfl, rfl⟩⟩
        · by_cases hk2 : 135168 < (k : Int)
          · have ha0 : a = 0 := by
              by_cases h : a = 0
              · exact h
              · exact absurd ⟨hk2, h⟩ hk
            obtain ⟨f2, h2, _⟩ := rShift_pos ma a 135168 (by omega) (by omega)
            have e : a * 2 ^ k = a * 2 ^ 135168 := by rw [ha0, Int.zero_mul, Int.zero_mul]
            have hl : (dg (a * 2 ^ k)).length < 2 ^ 60 := by rw [ha0, Int.zero_mul, dg_zero]; decide
            have h3 := is_made (decide (a = 0)) f2 (a * 2 ^ k) hl
            rw [← e] at h2
            exact ⟨_, _, _, h1, .inr ⟨hk, f2, _, by rw [if_pos hk2]; exact h2, h3⟩⟩
          · obtain ⟨f2, h2, _⟩ := rShift_pos ma a k (by omega) (by omega)
            have hl := dg_shl a k
            have h3 := is_made (decide (a = 0)) f2 (a * 2 ^ k) (by omega)
            exact ⟨_, _, _, h1, .inr ⟨hk, f2, _, by rw [if_neg hk2]; exact h2, h3⟩⟩
    obtain ⟨fs, S, eS, s1, hS⟩ := hS
    have hP : ∃ (fp : Bool) (P eP : Int), denP E 33 [I ma a, .int .i64 n] = some (.ret (.tup [I fp P, .int .i64 eP])) ∧
        ((n < 0 ∧ P = 0 ∧ eP = 2) ∨ (0 ≤ n ∧ ∃ fw w, denP E 39 [I ma a, .int .i64 n] = some (.ret (.tup [I fw w, .bool true])) ∧ denP E 28 [I fp P, .int .i64 eP, I fw w] = some (.ret (.bool true))) ∨
        (0 ≤ n ∧ denP E 39 [I ma a, .int .i64 n] = some (.ret (.tup [I true 0, .bool false])) ∧ P = 0 ∧ eP = 4)) := by
      by_cases hn : n < 0
      · exact ⟨true, 0, 2, power_neg ma a n ka hn, .inl ⟨hn, rfl, rfl⟩⟩
      · obtain ⟨k, rfl⟩ : ∃ k : Nat, n = (k : Int) := ⟨n.natAbs, by omega⟩
        obtain ⟨f, h1, _⟩ := power_spec ma a k ka (by omega)
        cases hf : powFar a k with
        | true =>
          have hz := powFar_big hf
          rw [RI, fm_no hz, fit_no hz, er_no hz] at h1
          exact ⟨_, _, _, h1, .inr (.inr ⟨by omega, rPower_far ma a k ka (by omega) hf, rfl, rfl⟩)⟩
        | false =>
          obtain ⟨f2, h2, _⟩ := rPower_spec ma a k ka (by omega) hf
          have h3 := is_made f f2 (a ^ k) (powNear_len ka hf)
          exact ⟨_, _, _, h1, .inr (.inl ⟨by omega, f2, _, h2, h3⟩)⟩
    obtain ⟨fp, P, eP, p1, hP⟩ := hP
    exact bits_core ma a qb n hn1 hn2 ka lb fp P eP fs S eS U eU VB p1 s1 u1 vb hU hS hP
theorem fit_int {m : Nat} {cs : List AV} (h : Fit E (m + 1) 3 cs) : ∃ n : Int, -9223372036854775808 ≤ n ∧ n < 9223372036854775808 ∧ cs = [.int .i64 n] := by
  simp only [Fit, T3, FitD] at h
  obtain ⟨_, i, rfl, hi⟩ := h
  have hi' : -9223372036854775808 ≤ i ∧ i < 9223372036854775808 := by simp [Lit.wf, IntKind.max, IntKind.min, IntKind.bits, IntKind.signed] at hi; omega
  exact ⟨i, hi'.1, hi'.2, rfl⟩
theorem largeBits_pure : largeBits.Pure := by
  intro xs h
  simp only [FitArgs, opn_eq, T1, T2, T3, T4, T5, T6, T7, T8, T9, T10, T11, T12, T13, T14, T15, T16, T17, T18, T19, T20, T21, T22, T23, T25, T26, T27, T28, T29, T30, T31, T32, T33, T35, T36, T37, T39, T41, T42, T43, T44, T45, T46, T47, T48, T49, T50, T51, T52, T54, T56, T58, T59, T61, T62, T64, T65, T66, T67, T68, T69, T70, T71, T72, T73, T74, T76, T77, T78, T79, T80, T81, T82, T83, T84, T85, T87, T88, T89, T91, T92, T93, T95, T97, T98, T100, T101, T102, T103, T104, T105, T106, T107, T108, T109, T110, T111, T112, T113, T114, T115, T116, T117, T118, T119, T120, T121, T122, elm] at h
  obtain ⟨c1, x1, y1, rfl, ⟨rfl, h1⟩, c2, x2, y2, rfl, ⟨rfl, h2⟩, c3, x3, y3, rfl, ⟨rfl, h3⟩, rfl⟩ := h
  obtain ⟨qa, rfl, ra, na, la⟩ := fit_raw (m := 3) h1
  obtain ⟨qb, rfl, rb, nb, lb⟩ := fit_raw (m := 3) h2
  obtain ⟨n, hn1, hn2, rfl⟩ := fit_int (m := 5) h3
  show denP E 8 [ivr qa, ivr qb, .int .i64 n] = _
  by_cases ha : qa.2.2.length ≤ 4200
  · by_cases hb : qb.2.2.length ≤ 4200
    · exact largeBits_walk qa qb n hn1 hn2 ra rb ha hb
    · refine denP_eq E8 rfl (by simp [AV.pureL, AV.pure, pure_wd]) ?_
      simp (maxSteps := 4000000) (disch := omega) only [go_sem, ↓reduceIte, Nat.reduceAdd, Nat.reduceSub, Nat.reduceMul, Nat.reduceEqDiff, reduceCtorEq, Int.reduceAdd, Int.reduceLT, Int.reduceLE, Int.reduceToNat, Int.reduceNeg, Int.reduceSub, ← List.map_take, ← List.map_drop, wrap64, wrapu64, wrapu32, Try.f8, ivr, awake14]
  · refine denP_eq E8 rfl (by simp [AV.pureL, AV.pure, pure_wd]) ?_
    simp (maxSteps := 4000000) (disch := omega) only [go_sem, ↓reduceIte, Nat.reduceAdd, Nat.reduceSub, Nat.reduceMul, Nat.reduceEqDiff, reduceCtorEq, Int.reduceAdd, Int.reduceLT, Int.reduceLE, Int.reduceToNat, Int.reduceNeg, Int.reduceSub, ← List.map_take, ← List.map_drop, wrap64, wrapu64, wrapu32, Try.f8, ivr, awake14]
theorem largeBits_holds : Rows.LargeBitsSaid := largeBits.over largeBits_pure
#print axioms largeBits_holds
end Go.Proofs.Ytpfcijgcjghgeaa

/- Walks: is a number an int? (Own work of this repo.) -/
namespace Go.Proofs.Ytpfcijgcjghgeaa
open Vm
set_option maxRecDepth 100000

theorem sg_t {n : Nat} : sg true n = -(n : Int) := rfl
theorem sg_f {n : Nat} : sg false n = (n : Int) := rfl
/-- Is it an int? -/
def sm (a : Int) : Bool := decide (-9223372036854775808 ≤ a ∧ a < 9223372036854775808)
theorem dg_two {a : Int} (h : (dg a).length ≤ 2) : (dg a = [] ∧ a = 0) ∨ (∃ x : Nat, dg a = [x] ∧ x < 4294967296 ∧ a = sg (ng a) x) ∨ ∃ x y : Nat, dg a = [x, y] ∧ x < 4294967296 ∧ y < 4294967296 ∧ a = sg (ng a) (x + y * 4294967296) := by
  have hs : a = sg (ng a) (val (dg a)) := by rw [val_dg]; exact (sg_ng a).symm
  have hr : InR (dg a) := dg_inR a
  generalize dg a = l at *
  match l, h with
  | [], _ => rw [val_nil] at hs; exact .inl ⟨rfl, by rw [hs]; cases ng a <;> rfl⟩
  | [x], _ =>
    rw [val_cons, val_nil] at hs
    exact .inr (.inl ⟨x, rfl, hr x (by simp), hs.trans (congrArg (sg (ng a)) (by rw [show BB = 4294967296 from rfl]; omega))⟩)
  | [x, y], _ =>
    rw [val_cons, val_cons, val_nil] at hs
    exact .inr (.inr ⟨x, y, rfl, hr x (by simp), hr y (by simp), hs.trans (congrArg (sg (ng a)) (by rw [show BB = 4294967296 from rfl]; omega))⟩)
theorem small_a {x : Nat} (hx : x < 4294967296) : IntKind.u64.wrap ((x : Int) * 2 ^ min (32 * 0 : Int).toNat (kb .u64)) = x ∧ IntKind.u64.wrap ((BitVec.ofInt (kb .u64) 0 ||| BitVec.ofInt (kb .u64) (x : Int)).toNat : Int) = x := by
  refine ⟨?_, ?_⟩
  · show IntKind.u64.wrap ((x : Int) * 2 ^ 0) = x
    rw [IntKind.wrap_u64]; omega
  · have e1 := or64 (a := 0) (b := x) (by decide) (by omega)
    rw [Nat.zero_or] at e1
    exact e1
theorem small_b {x y : Nat} (hx : x < 4294967296) (hy : y < 4294967296) : ∃ n, n = x + y * 4294967296 ∧ IntKind.u64.wrap ((y : Int) * 2 ^ min (32 * 1 : Int).toNat (kb .u64)) = ((y * 4294967296 : Nat) : Int) ∧ IntKind.u64.wrap ((BitVec.ofInt (kb .u64) (x : Int) ||| BitVec.ofInt (kb .u64) ((y * 4294967296 : Nat) : Int)).toNat : Int) = (n : Int) := by
  refine ⟨_, rfl, ?_, or_high hx hy⟩
  show IntKind.u64.wrap ((y : Int) * 2 ^ 32) = _
  rw [IntKind.wrap_u64]; omega
set_option maxHeartbeats 2000000 in
theorem small_spec (m : Bool) (a : Int) (ka : (dg a).length ≤ 4096) : denP E 49 [I m a] = some (.ret (.tup [.int .i64 (if sm a then a else 0), .bool (sm a)])) := by
  refine denP_eq E49 rfl (by simp [AV.pureL, AV.pure, pure_wd]) ?_
  have h1 := valid_I m a ka
  by_cases h2 : 2 < (dg a).length
  · have hs : sm a = false := by
      refine decide_eq_false fun h => ?_
      have := dg_small (z := a) (by omega)
      omega
    rw [hs]
    simp (maxSteps := 4000000) (disch := omega) only [go_sem, ↓reduceIte, Nat.reduceAdd, Nat.reduceSub, Nat.reduceMul, Nat.reduceEqDiff, reduceCtorEq, Int.reduceAdd, Int.reduceLT, Int.reduceLE, Int.reduceToNat, Int.reduceNeg, Int.reduceSub, ← List.map_take, ← List.map_drop, wrap64, wrapu64, wrapu32, Try.f49, h1]
  · rcases dg_two (a := a) (by omega) with ⟨hd, ha⟩ | ⟨x, hd, hx, ha⟩ | ⟨x, y, hd, hx, hy, ha⟩
    · subst ha
      simp only [I, ng_zero, dg_zero, List.map_nil] at h1
      simp (maxSteps := 4000000) (disch := omega) only [go_sem, ↓reduceIte, Nat.reduceAdd, Nat.reduceSub, Nat.reduceMul, Nat.reduceEqDiff, reduceCtorEq, Int.reduceAdd, Int.reduceLT, Int.reduceLE, Int.reduceToNat, Int.reduceNeg, Int.reduceSub, ← List.map_take, ← List.map_drop, wrap64, wrapu64, wrapu32, ← Int.natCast_add, ← Int.natCast_mul, cast_succ, wrapu32_nat, shr32, reps_wd, map_set_wd, List.length_set, zs_len, Try.f49, h1, hd, ng_zero, dg_zero, List.map_nil, refP, elems, places]
      rw [W_unroll]
      simp (maxSteps := 4000000) (disch := omega) only [go_sem, ↓reduceIte, Nat.reduceAdd, Nat.reduceSub, Nat.reduceMul, Nat.reduceEqDiff, reduceCtorEq, Int.reduceAdd, Int.reduceLT, Int.reduceLE, Int.reduceToNat, Int.reduceNeg, Int.reduceSub, ← List.map_take, ← List.map_drop, wrap64, wrapu64, wrapu32, ← Int.natCast_add, ← Int.natCast_mul, cast_succ, wrapu32_nat, shr32, reps_wd, map_set_wd, List.length_set, zs_len]
      rfl
    · obtain ⟨e0, e1⟩ := small_a hx
      have hl : (dg a).length = 1 := by rw [hd]; rfl
      have hg : (dg a).getD 0 0 = x := by rw [hd]; rfl
      clear hd
      have e4 : IntKind.i64.wrap (IntKind.u64.wrap (0 - (x : Int))) = -(x : Int) := by rw [IntKind.wrap_u64, IntKind.wrap_i64]; omega
      cases hn : ng a with
      | false =>
        rw [hn] at ha
        simp only [I, hn] at h1
        have hs : sm a = true := decide_eq_true (by rw [ha]; simp only [sg_t, sg_f]; omega)
        rw [hs]
        simp (maxSteps := 4000000) (disch := omega) only [go_sem, ↓reduceIte, Nat.reduceAdd, Nat.reduceSub, Nat.reduceMul, Nat.reduceEqDiff, reduceCtorEq, Int.reduceAdd, Int.reduceLT, Int.reduceLE, Int.reduceToNat, Int.reduceNeg, Int.reduceSub, ← List.map_take, ← List.map_drop, wrap64, wrapu64, wrapu32, ← Int.natCast_add, ← Int.natCast_mul, cast_succ, wrapu32_nat, shr32, reps_wd, map_set_wd, List.length_set, zs_len, Try.f49, h1, hn, hg]
        rw [W_unroll]
        simp (maxSteps := 4000000) (disch := omega) only [go_sem, ↓reduceIte, Nat.reduceAdd, Nat.reduceSub, Nat.reduceMul, Nat.reduceEqDiff, reduceCtorEq, Int.reduceAdd, Int.reduceLT, Int.reduceLE, Int.reduceToNat, Int.reduceNeg, Int.reduceSub, ← List.map_take, ← List.map_drop, wrap64, wrapu64, wrapu32, ← Int.natCast_add, ← Int.natCast_mul, cast_succ, wrapu32_nat, shr32, reps_wd, map_set_wd, List.length_set, zs_len, hg, e0, e1]
        rw [W_unroll]
        simp (maxSteps := 4000000) (disch := omega) only [go_sem, ↓reduceIte, Nat.reduceAdd, Nat.reduceSub, Nat.reduceMul, Nat.reduceEqDiff, reduceCtorEq, Int.reduceAdd, Int.reduceLT, Int.reduceLE, Int.reduceToNat, Int.reduceNeg, Int.reduceSub, ← List.map_take, ← List.map_drop, wrap64, wrapu64, wrapu32, ← Int.natCast_add, ← Int.natCast_mul, cast_succ, wrapu32_nat, shr32, reps_wd, map_set_wd, List.length_set, zs_len, e0, e1]
        rw [ha]; rfl
      | true =>
        rw [hn] at ha
        simp only [I, hn] at h1
        have hs : sm a = true := decide_eq_true (by rw [ha]; simp only [sg_t, sg_f]; omega)
        rw [hs]
        simp (maxSteps := 4000000) (disch := omega) only [go_sem, ↓reduceIte, Nat.reduceAdd, Nat.reduceSub, Nat.reduceMul, Nat.reduceEqDiff, reduceCtorEq, Int.reduceAdd, Int.reduceLT, Int.reduceLE, Int.reduceToNat, Int.reduceNeg, Int.reduceSub, ← List.map_take, ← List.map_drop, wrap64, wrapu64, wrapu32, ← Int.natCast_add, ← Int.natCast_mul, cast_succ, wrapu32_nat, shr32, reps_wd, map_set_wd, List.length_set, zs_len, Try.f49, h1, hn, hg]
        rw [W_unroll]
        simp (maxSteps := 4000000) (disch := omega) only [go_sem, ↓reduceIte, Nat.reduceAdd, Nat.reduceSub, Nat.reduceMul, Nat.reduceEqDiff, reduceCtorEq, Int.reduceAdd, Int.reduceLT, Int.reduceLE, Int.reduceToNat, Int.reduceNeg, Int.reduceSub, ← List.map_take, ← List.map_drop, wrap64, wrapu64, wrapu32, ← Int.natCast_add, ← Int.natCast_mul, cast_succ, wrapu32_nat, shr32, reps_wd, map_set_wd, List.length_set, zs_len, hg, e0, e1]
        rw [W_unroll]
        simp (maxSteps := 4000000) (disch := omega) only [go_sem, ↓reduceIte, Nat.reduceAdd, Nat.reduceSub, Nat.reduceMul, Nat.reduceEqDiff, reduceCtorEq, Int.reduceAdd, Int.reduceLT, Int.reduceLE, Int.reduceToNat, Int.reduceNeg, Int.reduceSub, ← List.map_take, ← List.map_drop, wrap64, wrapu64, wrapu32, ← Int.natCast_add, ← Int.natCast_mul, cast_succ, wrapu32_nat, shr32, reps_wd, map_set_wd, List.length_set, zs_len, e0, e1, e4]
        rw [ha]; rfl
    · obtain ⟨e0, e1⟩ := small_a hx
      obtain ⟨n, hnn, e2, e3⟩ := small_b hx hy
      have hl : (dg a).length = 2 := by rw [hd]; rfl
      have hg : (dg a).getD 0 0 = x := by rw [hd]; rfl
      have hg2 : (dg a).getD 1 0 = y := by rw [hd]; rfl
      clear hd
      rw [← hnn] at ha
      have hn64 : n < 18446744073709551616 := by omega
      have e4 : n ≤ 9223372036854775808 → IntKind.i64.wrap (IntKind.u64.wrap (0 - (n : Int))) = -(n : Int) := fun h => by rw [IntKind.wrap_u64, IntKind.wrap_i64]; omega
      cases hn : ng a with
      | false =>
        rw [hn] at ha
        simp only [I, hn] at h1
        by_cases hq : n < 9223372036854775808
        · have hs : sm a = true := decide_eq_true (by rw [ha]; simp only [sg_t, sg_f]; omega)
          rw [hs]
          simp (maxSteps := 4000000) (disch := omega) only [go_sem, ↓reduceIte, Nat.reduceAdd, Nat.reduceSub, Nat.reduceMul, Nat.reduceEqDiff, reduceCtorEq, Int.reduceAdd, Int.reduceLT, Int.reduceLE, Int.reduceToNat, Int.reduceNeg, Int.reduceSub, ← List.map_take, ← List.map_drop, wrap64, wrapu64, wrapu32, ← Int.natCast_add, ← Int.natCast_mul, cast_succ, wrapu32_nat, shr32, reps_wd, map_set_wd, List.length_set, zs_len, Try.f49, h1, hn, hg]
          rw [W_unroll]
          simp (maxSteps := 4000000) (disch := omega) only [go_sem, ↓reduceIte, Nat.reduceAdd, Nat.reduceSub, Nat.reduceMul, Nat.reduceEqDiff, reduceCtorEq, Int.reduceAdd, Int.reduceLT, Int.reduceLE, Int.reduceToNat, Int.reduceNeg, Int.reduceSub, ← List.map_take, ← List.map_drop, wrap64, wrapu64, wrapu32, ← Int.natCast_add, ← Int.natCast_mul, cast_succ, wrapu32_nat, shr32, reps_wd, map_set_wd, List.length_set, zs_len, hg, e0, e1]
          rw [W_unroll]
          simp (maxSteps := 4000000) (disch := omega) only [go_sem, ↓reduceIte, Nat.reduceAdd, Nat.reduceSub, Nat.reduceMul, Nat.reduceEqDiff, reduceCtorEq, Int.reduceAdd, Int.reduceLT, Int.reduceLE, Int.reduceToNat, Int.reduceNeg, Int.reduceSub, ← List.map_take, ← List.map_drop, wrap64, wrapu64, wrapu32, ← Int.natCast_add, ← Int.natCast_mul, cast_succ, wrapu32_nat, shr32, reps_wd, map_set_wd, List.length_set, zs_len, hg2, e0, e1, e2, e3]
          rw [W_unroll]
          simp (maxSteps := 4000000) (disch := omega) only [go_sem, ↓reduceIte, Nat.reduceAdd, Nat.reduceSub, Nat.reduceMul, Nat.reduceEqDiff, reduceCtorEq, Int.reduceAdd, Int.reduceLT, Int.reduceLE, Int.reduceToNat, Int.reduceNeg, Int.reduceSub, ← List.map_take, ← List.map_drop, wrap64, wrapu64, wrapu32, ← Int.natCast_add, ← Int.natCast_mul, cast_succ, wrapu32_nat, shr32, reps_wd, map_set_wd, List.length_set, zs_len, e0, e1, e2, e3]
          rw [ha]; rfl
        · have hs : sm a = false := by unfold sm; rw [decide_eq_false_iff_not, ha]; simp only [sg_t, sg_f]; omega
          rw [hs]
          simp (maxSteps := 4000000) (disch := omega) only [go_sem, ↓reduceIte, Nat.reduceAdd, Nat.reduceSub, Nat.reduceMul, Nat.reduceEqDiff, reduceCtorEq, Int.reduceAdd, Int.reduceLT, Int.reduceLE, Int.reduceToNat, Int.reduceNeg, Int.reduceSub, ← List.map_take, ← List.map_drop, wrap64, wrapu64, wrapu32, ← Int.natCast_add, ← Int.natCast_mul, cast_succ, wrapu32_nat, shr32, reps_wd, map_set_wd, List.length_set, zs_len, Try.f49, h1, hn, hg]
          rw [W_unroll]
          simp (maxSteps := 4000000) (disch := omega) only [go_sem, ↓reduceIte, Nat.reduceAdd, Nat.reduceSub, Nat.reduceMul, Nat.reduceEqDiff, reduceCtorEq, Int.reduceAdd, Int.reduceLT, Int.reduceLE, Int.reduceToNat, Int.reduceNeg, Int.reduceSub, ← List.map_take, ← List.map_drop, wrap64, wrapu64, wrapu32, ← Int.natCast_add, ← Int.natCast_mul, cast_succ, wrapu32_nat, shr32, reps_wd, map_set_wd, List.length_set, zs_len, hg, e0, e1]
          rw [W_unroll]
          simp (maxSteps := 4000000) (disch := omega) only [go_sem, ↓reduceIte, Nat.reduceAdd, Nat.reduceSub, Nat.reduceMul, Nat.reduceEqDiff, reduceCtorEq, Int.reduceAdd, Int.reduceLT, Int.reduceLE, Int.reduceToNat, Int.reduceNeg, Int.reduceSub, ← List.map_take, ← List.map_drop, wrap64, wrapu64, wrapu32, ← Int.natCast_add, ← Int.natCast_mul, cast_succ, wrapu32_nat, shr32, reps_wd, map_set_wd, List.length_set, zs_len, hg2, e0, e1, e2, e3]
          rw [W_unroll]
          simp (maxSteps := 4000000) (disch := omega) only [go_sem, ↓reduceIte, Nat.reduceAdd, Nat.reduceSub, Nat.reduceMul, Nat.reduceEqDiff, reduceCtorEq, Int.reduceAdd, Int.reduceLT, Int.reduceLE, Int.reduceToNat, Int.reduceNeg, Int.reduceSub, ← List.map_take, ← List.map_drop, wrap64, wrapu64, wrapu32, ← Int.natCast_add, ← Int.natCast_mul, cast_succ, wrapu32_nat, shr32, reps_wd, map_set_wd, List.length_set, zs_len, e0, e1, e2, e3]
      | true =>
        rw [hn] at ha
        simp only [I, hn] at h1
        by_cases hq : n ≤ 9223372036854775808
        · have hs : sm a = true := decide_eq_true (by rw [ha]; simp only [sg_t, sg_f]; omega)
          rw [hs]
          have e4 := e4 hq
          simp (maxSteps := 4000000) (disch := omega) only [go_sem, ↓reduceIte, Nat.reduceAdd, Nat.reduceSub, Nat.reduceMul, Nat.reduceEqDiff, reduceCtorEq, Int.reduceAdd, Int.reduceLT, Int.reduceLE, Int.reduceToNat, Int.reduceNeg, Int.reduceSub, ← List.map_take, ← List.map_drop, wrap64, wrapu64, wrapu32, ← Int.natCast_add, ← Int.natCast_mul, cast_succ, wrapu32_nat, shr32, reps_wd, map_set_wd, List.length_set, zs_len, Try.f49, h1, hn, hg]
          rw [W_unroll]
          simp (maxSteps := 4000000) (disch := omega) only [go_sem, ↓reduceIte, Nat.reduceAdd, Nat.reduceSub, Nat.reduceMul, Nat.reduceEqDiff, reduceCtorEq, Int.reduceAdd, Int.reduceLT, Int.reduceLE, Int.reduceToNat, Int.reduceNeg, Int.reduceSub, ← List.map_take, ← List.map_drop, wrap64, wrapu64, wrapu32, ← Int.natCast_add, ← Int.natCast_mul, cast_succ, wrapu32_nat, shr32, reps_wd, map_set_wd, List.length_set, zs_len, hg, e0, e1]
          rw [W_unroll]
          simp (maxSteps := 4000000) (disch := omega) only [go_sem, ↓reduceIte, Nat.reduceAdd, Nat.reduceSub, Nat.reduceMul, Nat.reduceEqDiff, reduceCtorEq, Int.reduceAdd, Int.reduceLT, Int.reduceLE, Int.reduceToNat, Int.reduceNeg, Int.reduceSub, ← List.map_take, ← List.map_drop, wrap64, wrapu64, wrapu32, ← Int.natCast_add, ← Int.natCast_mul, cast_succ, wrapu32_nat, shr32, reps_wd, map_set_wd, List.length_set, zs_len, hg2, e0, e1, e2, e3]
          rw [W_unroll]
          simp (maxSteps := 4000000) (disch := omega) only [go_sem, ↓reduceIte, Nat.reduceAdd, Nat.reduceSub, Nat.reduceMul, Nat.reduceEqDiff, reduceCtorEq, Int.reduceAdd, Int.reduceLT, Int.reduceLE, Int.reduceToNat, Int.reduceNeg, Int.reduceSub, ← List.map_take, ← List.map_drop, wrap64, wrapu64, wrapu32, ← Int.natCast_add, ← Int.natCast_mul, cast_succ, wrapu32_nat, shr32, reps_wd, map_set_wd, List.length_set, zs_len, e0, e1, e2, e3, e4]
          rw [ha]; rfl
        · have hs : sm a = false := by unfold sm; rw [decide_eq_false_iff_not, ha]; simp only [sg_t, sg_f]; omega
          rw [hs]
          clear e4
          simp (maxSteps := 4000000) (disch := omega) only [go_sem, ↓reduceIte, Nat.reduceAdd, Nat.reduceSub, Nat.reduceMul, Nat.reduceEqDiff, reduceCtorEq, Int.reduceAdd, Int.reduceLT, Int.reduceLE, Int.reduceToNat, Int.reduceNeg, Int.reduceSub, ← List.map_take, ← List.map_drop, wrap64, wrapu64, wrapu32, ← Int.natCast_add, ← Int.natCast_mul, cast_succ, wrapu32_nat, shr32, reps_wd, map_set_wd, List.length_set, zs_len, Try.f49, h1, hn, hg]
          rw [W_unroll]
          simp (maxSteps := 4000000) (disch := omega) only [go_sem, ↓reduceIte, Nat.reduceAdd, Nat.reduceSub, Nat.reduceMul, Nat.reduceEqDiff, reduceCtorEq, Int.reduceAdd, Int.reduceLT, Int.reduceLE, Int.reduceToNat, Int.reduceNeg, Int.reduceSub, ← List.map_take, ← List.map_drop, wrap64, wrapu64, wrapu32, ← Int.natCast_add, ← Int.natCast_mul, cast_succ, wrapu32_nat, shr32, reps_wd, map_set_wd, List.length_set, zs_len, hg, e0, e1]
          rw [W_unroll]
          simp (maxSteps := 4000000) (disch := omega) only [go_sem, ↓reduceIte, Nat.reduceAdd, Nat.reduceSub, Nat.reduceMul, Nat.reduceEqDiff, reduceCtorEq, Int.reduceAdd, Int.reduceLT, Int.reduceLE, Int.reduceToNat, Int.reduceNeg, Int.reduceSub, ← List.map_take, ← List.map_drop, wrap64, wrapu64, wrapu32, ← Int.natCast_add, ← Int.natCast_mul, cast_succ, wrapu32_nat, shr32, reps_wd, map_set_wd, List.length_set, zs_len, hg2, e0, e1, e2, e3]
          rw [W_unroll]
          simp (maxSteps := 4000000) (disch := omega) only [go_sem, ↓reduceIte, Nat.reduceAdd, Nat.reduceSub, Nat.reduceMul, Nat.reduceEqDiff, reduceCtorEq, Int.reduceAdd, Int.reduceLT, Int.reduceLE, Int.reduceToNat, Int.reduceNeg, Int.reduceSub, ← List.map_take, ← List.map_drop, wrap64, wrapu64, wrapu32, ← Int.natCast_add, ← Int.natCast_mul, cast_succ, wrapu32_nat, shr32, reps_wd, map_set_wd, List.length_set, zs_len, e0, e1, e2, e3]
theorem badSmall (q : Raw) (hq : q.2.2.length < 2 ^ 60) (h : rvalidW q.1 q.2.2 = false) : denP E 49 [ivr q] = some (.ret (.tup [.int .i64 0, .bool false])) := by
  refine denP_eq E49 rfl (by simp [AV.pureL, AV.pure, pure_wd]) ?_
  have h1 := valid_raw q hq
  rw [valid_same, h] at h1
  simp only [ivr, iv] at h1
  simp (maxSteps := 4000000) (disch := omega) only [go_sem, ↓reduceIte, Nat.reduceAdd, Nat.reduceSub, Nat.reduceMul, Nat.reduceEqDiff, reduceCtorEq, Int.reduceAdd, Int.reduceLT, Int.reduceLE, Int.reduceToNat, Int.reduceNeg, Int.reduceSub, ← List.map_take, ← List.map_drop, wrap64, wrapu64, wrapu32, Try.f49, ivr, h1]
theorem badText (q : Raw) (hq : q.2.2.length < 2 ^ 60) (h : rvalidW q.1 q.2.2 = false) : denP E 47 [ivr q] = some (.ret (.tup [.str ⟨#[]⟩, .int .i64 1])) := by
  refine denP_eq E47 rfl (by simp [AV.pureL, AV.pure, pure_wd]) ?_
  have h1 := valid_raw q hq
  rw [valid_same, h] at h1
  simp only [ivr, iv] at h1
  simp (maxSteps := 4000000) (disch := omega) only [go_sem, ↓reduceIte, Nat.reduceAdd, Nat.reduceSub, Nat.reduceMul, Nat.reduceEqDiff, reduceCtorEq, Int.reduceAdd, Int.reduceLT, Int.reduceLE, Int.reduceToNat, Int.reduceNeg, Int.reduceSub, ← List.map_take, ← List.map_drop, wrap64, wrapu64, wrapu32, Try.f47, ivr, h1]
/-- The reference's answer for a number that is no int: whatever. -/
theorem rSmall_far (m : Bool) (a : Int) (ka : (dg a).length ≤ 4096) (h2 : 2 < (dg a).length) : denP E 52 [I m a] = some (.ret (.tup [.int .i64 0, .bool false])) := by
  refine denP_eq E52 rfl (by simp [AV.pureL, AV.pure, pure_wd]) ?_
  obtain ⟨x, hx⟩ : ∃ x, x = (dg a).getD 0 0 := ⟨_, rfl⟩
  obtain ⟨y, hy⟩ : ∃ y, y = (dg a).getD 1 0 := ⟨_, rfl⟩
  simp (maxSteps := 4000000) (disch := omega) only [go_sem, ↓reduceIte, Nat.reduceAdd, Nat.reduceSub, Nat.reduceMul, Nat.reduceEqDiff, reduceCtorEq, Int.reduceAdd, Int.reduceLT, Int.reduceLE, Int.reduceToNat, Int.reduceNeg, Int.reduceSub, ← List.map_take, ← List.map_drop, wrap64, wrapu64, wrapu32, ← Int.natCast_add, ← Int.natCast_mul, cast_succ, wrapu32_nat, shr32, reps_wd, map_set_wd, List.length_set, zs_len, Try.f52]
  rw [W_unroll]
  simp (maxSteps := 4000000) (disch := omega) only [go_sem, ↓reduceIte, Nat.reduceAdd, Nat.reduceSub, Nat.reduceMul, Nat.reduceEqDiff, reduceCtorEq, Int.reduceAdd, Int.reduceLT, Int.reduceLE, Int.reduceToNat, Int.reduceNeg, Int.reduceSub, ← List.map_take, ← List.map_drop, wrap64, wrapu64, wrapu32, ← Int.natCast_add, ← Int.natCast_mul, cast_succ, wrapu32_nat, shr32, reps_wd, map_set_wd, List.length_set, zs_len]
  rw [W_unroll]
  simp (maxSteps := 4000000) (disch := omega) only [go_sem, ↓reduceIte, Nat.reduceAdd, Nat.reduceSub, Nat.reduceMul, Nat.reduceEqDiff, reduceCtorEq, Int.reduceAdd, Int.reduceLT, Int.reduceLE, Int.reduceToNat, Int.reduceNeg, Int.reduceSub, ← List.map_take, ← List.map_drop, wrap64, wrapu64, wrapu32, ← Int.natCast_add, ← Int.natCast_mul, cast_succ, wrapu32_nat, shr32, reps_wd, map_set_wd, List.length_set, zs_len]
  rw [W_unroll]
  simp (maxSteps := 4000000) (disch := omega) only [go_sem, ↓reduceIte, Nat.reduceAdd, Nat.reduceSub, Nat.reduceMul, Nat.reduceEqDiff, reduceCtorEq, Int.reduceAdd, Int.reduceLT, Int.reduceLE, Int.reduceToNat, Int.reduceNeg, Int.reduceSub, ← List.map_take, ← List.map_drop, wrap64, wrapu64, wrapu32, ← Int.natCast_add, ← Int.natCast_mul, cast_succ, wrapu32_nat, shr32, reps_wd, map_set_wd, List.length_set, zs_len]
theorem and_63 {u : Nat} (h : u < 18446744073709551616) : IntKind.u64.wrap ((BitVec.ofInt (kb .u64) (u : Int) &&& BitVec.ofInt (kb .u64) 9223372036854775807).toNat : Int) = ((u % 9223372036854775808 : Nat) : Int) := by
  have := and64 (b := 9223372036854775807) h (by decide)
  rw [show (9223372036854775807 : Int) = ((9223372036854775807 : Nat) : Int) from rfl, this, show 9223372036854775807 = 2 ^ 63 - 1 from rfl, Nat.and_two_pow_sub_one_eq_mod]
set_option maxHeartbeats 2000000 in
theorem rSmall_spec (m : Bool) (a : Int) (ka : (dg a).length ≤ 4096) : ∃ k : Int, denP E 52 [I m a] = some (.ret (.tup [.int .i64 k, .bool (sm a)])) ∧ (sm a = true → k = a) := by
  by_cases h2 : 2 < (dg a).length
  · have hs : sm a = false := by
      refine decide_eq_false fun h => ?_
      have := dg_small (z := a) (by omega)
      omega
    rw [hs]
    exact ⟨0, rSmall_far m a ka h2, fun h => by cases h⟩
  refine denP_ex E52 rfl (by simp [AV.pureL, AV.pure, pure_wd]) ?_
  rcases dg_two (a := a) (by omega) with ⟨hd, ha⟩ | ⟨x, hd, hx, ha⟩ | ⟨x, y, hd, hx, hy, ha⟩
  · subst ha
    simp (maxSteps := 4000000) (disch := omega) only [go_sem, ↓reduceIte, Nat.reduceAdd, Nat.reduceSub, Nat.reduceMul, Nat.reduceEqDiff, reduceCtorEq, Int.reduceAdd, Int.reduceLT, Int.reduceLE, Int.reduceToNat, Int.reduceNeg, Int.reduceSub, ← List.map_take, ← List.map_drop, wrap64, wrapu64, wrapu32, ← Int.natCast_add, ← Int.natCast_mul, cast_succ, wrapu32_nat, shr32, reps_wd, map_set_wd, List.length_set, zs_len, Try.f52, hd, ng_zero, dg_zero, List.map_nil, refP, elems, places]
    rw [W_unroll]
    simp (maxSteps := 4000000) (disch := omega) only [go_sem, ↓reduceIte, Nat.reduceAdd, Nat.reduceSub, Nat.reduceMul, Nat.reduceEqDiff, reduceCtorEq, Int.reduceAdd, Int.reduceLT, Int.reduceLE, Int.reduceToNat, Int.reduceNeg, Int.reduceSub, ← List.map_take, ← List.map_drop, wrap64, wrapu64, wrapu32, ← Int.natCast_add, ← Int.natCast_mul, cast_succ, wrapu32_nat, shr32, reps_wd, map_set_wd, List.length_set, zs_len]
    exact ⟨0, rfl, fun _ => rfl⟩
  · obtain ⟨e0, e1⟩ := small_a hx
    have hl : (dg a).length = 1 := by rw [hd]; rfl
    have hg : (dg a).getD 0 0 = x := by rw [hd]; rfl
    have hng := ng_false (z := a)
    have hng2 := ng_true (z := a)
    clear hd e1
    have e6 := and_63 (u := x) (by omega)
    have e5' : True = True := rfl
    have e7 : x % 9223372036854775808 = x := Nat.mod_eq_of_lt (by omega)
    rw [e7] at e6
    cases hn : ng a with
    | false =>
      rw [hn] at ha
      have hs : sm a = true := decide_eq_true (by rw [ha]; simp only [sg_t, sg_f]; omega)
      rw [hs]
      clear hng hng2
      simp (maxSteps := 4000000) (disch := omega) only [go_sem, ↓reduceIte, Nat.reduceAdd, Nat.reduceSub, Nat.reduceMul, Nat.reduceEqDiff, reduceCtorEq, Int.reduceAdd, Int.reduceLT, Int.reduceLE, Int.reduceToNat, Int.reduceNeg, Int.reduceSub, ← List.map_take, ← List.map_drop, wrap64, wrapu64, wrapu32, ← Int.natCast_add, ← Int.natCast_mul, cast_succ, wrapu32_nat, shr32, reps_wd, map_set_wd, List.length_set, zs_len, Try.f52, hn, hg]
      rw [W_unroll]
      simp (maxSteps := 4000000) (disch := omega) only [go_sem, ↓reduceIte, Nat.reduceAdd, Nat.reduceSub, Nat.reduceMul, Nat.reduceEqDiff, reduceCtorEq, Int.reduceAdd, Int.reduceLT, Int.reduceLE, Int.reduceToNat, Int.reduceNeg, Int.reduceSub, ← List.map_take, ← List.map_drop, wrap64, wrapu64, wrapu32, ← Int.natCast_add, ← Int.natCast_mul, cast_succ, wrapu32_nat, shr32, reps_wd, map_set_wd, List.length_set, zs_len, hg, e0, Int.zero_add]
      rw [W_unroll]
      simp (maxSteps := 4000000) (disch := omega) only [go_sem, ↓reduceIte, Nat.reduceAdd, Nat.reduceSub, Nat.reduceMul, Nat.reduceEqDiff, reduceCtorEq, Int.reduceAdd, Int.reduceLT, Int.reduceLE, Int.reduceToNat, Int.reduceNeg, Int.reduceSub, ← List.map_take, ← List.map_drop, wrap64, wrapu64, wrapu32, ← Int.natCast_add, ← Int.natCast_mul, cast_succ, wrapu32_nat, shr32, reps_wd, map_set_wd, List.length_set, zs_len, e0, e6, Int.zero_add, e5']
      exact ⟨x, rfl, fun _ => ha.symm⟩
    | true =>
      have h0 := hng2.1 hn
      rw [hn] at ha
      have hx1 : 1 ≤ x := by rw [ha] at h0; simp only [sg_t, sg_f] at h0; omega
      have hs : sm a = true := decide_eq_true (by rw [ha]; simp only [sg_t, sg_f]; omega)
      rw [hs]
      clear hng hng2 h0
      simp (maxSteps := 4000000) (disch := omega) only [go_sem, ↓reduceIte, Nat.reduceAdd, Nat.reduceSub, Nat.reduceMul, Nat.reduceEqDiff, reduceCtorEq, Int.reduceAdd, Int.reduceLT, Int.reduceLE, Int.reduceToNat, Int.reduceNeg, Int.reduceSub, ← List.map_take, ← List.map_drop, wrap64, wrapu64, wrapu32, ← Int.natCast_add, ← Int.natCast_mul, cast_succ, wrapu32_nat, shr32, reps_wd, map_set_wd, List.length_set, zs_len, Try.f52, hn, hg]
      rw [W_unroll]
      simp (maxSteps := 4000000) (disch := omega) only [go_sem, ↓reduceIte, Nat.reduceAdd, Nat.reduceSub, Nat.reduceMul, Nat.reduceEqDiff, reduceCtorEq, Int.reduceAdd, Int.reduceLT, Int.reduceLE, Int.reduceToNat, Int.reduceNeg, Int.reduceSub, ← List.map_take, ← List.map_drop, wrap64, wrapu64, wrapu32, ← Int.natCast_add, ← Int.natCast_mul, cast_succ, wrapu32_nat, shr32, reps_wd, map_set_wd, List.length_set, zs_len, hg, e0, Int.zero_add]
      rw [W_unroll]
      simp (maxSteps := 4000000) (disch := omega) only [go_sem, ↓reduceIte, Nat.reduceAdd, Nat.reduceSub, Nat.reduceMul, Nat.reduceEqDiff, reduceCtorEq, Int.reduceAdd, Int.reduceLT, Int.reduceLE, Int.reduceToNat, Int.reduceNeg, Int.reduceSub, ← List.map_take, ← List.map_drop, wrap64, wrapu64, wrapu32, ← Int.natCast_add, ← Int.natCast_mul, cast_succ, wrapu32_nat, shr32, reps_wd, map_set_wd, List.length_set, zs_len, e0, e6, Int.zero_add, e5']
      refine ⟨a, ?_, fun _ => rfl⟩
      rw [ha]; simp only [sg_t, sg_f]
      congr 3; omega
  · obtain ⟨e0, _⟩ := small_a hx
    obtain ⟨n, hnn, e2, _⟩ := small_b hx hy
    have hl : (dg a).length = 2 := by rw [hd]; rfl
    have hg : (dg a).getD 0 0 = x := by rw [hd]; rfl
    have hg2 : (dg a).getD 1 0 = y := by rw [hd]; rfl
    have hng2 := ng_true (z := a)
    clear hd
    rw [← hnn] at ha
    have hn64 : n < 18446744073709551616 := by omega
    have e5 : (x : Int) + ((y * 4294967296 : Nat) : Int) = (n : Int) := by omega
    have e5' : x + y * 4294967296 = n := hnn.symm
    have e6 := and_63 (u := n) hn64
    cases hn : ng a with
    | false =>
      rw [hn] at ha
      clear hng2
      by_cases hq : n < 9223372036854775808
      · have hs : sm a = true := decide_eq_true (by rw [ha]; simp only [sg_t, sg_f]; omega)
        rw [hs]
        rw [Nat.mod_eq_of_lt hq] at e6
        simp (maxSteps := 4000000) (disch := omega) only [go_sem, ↓reduceIte, Nat.reduceAdd, Nat.reduceSub, Nat.reduceMul, Nat.reduceEqDiff, reduceCtorEq, Int.reduceAdd, Int.reduceLT, Int.reduceLE, Int.reduceToNat, Int.reduceNeg, Int.reduceSub, ← List.map_take, ← List.map_drop, wrap64, wrapu64, wrapu32, ← Int.natCast_add, ← Int.natCast_mul, cast_succ, wrapu32_nat, shr32, reps_wd, map_set_wd, List.length_set, zs_len, Try.f52, hn, hg]
        rw [W_unroll]
        simp (maxSteps := 4000000) (disch := omega) only [go_sem, ↓reduceIte, Nat.reduceAdd, Nat.reduceSub, Nat.reduceMul, Nat.reduceEqDiff, reduceCtorEq, Int.reduceAdd, Int.reduceLT, Int.reduceLE, Int.reduceToNat, Int.reduceNeg, Int.reduceSub, ← List.map_take, ← List.map_drop, wrap64, wrapu64, wrapu32, ← Int.natCast_add, ← Int.natCast_mul, cast_succ, wrapu32_nat, shr32, reps_wd, map_set_wd, List.length_set, zs_len, hg, e0, Int.zero_add]
        rw [W_unroll]
        simp (maxSteps := 4000000) (disch := omega) only [go_sem, ↓reduceIte, Nat.reduceAdd, Nat.reduceSub, Nat.reduceMul, Nat.reduceEqDiff, reduceCtorEq, Int.reduceAdd, Int.reduceLT, Int.reduceLE, Int.reduceToNat, Int.reduceNeg, Int.reduceSub, ← List.map_take, ← List.map_drop, wrap64, wrapu64, wrapu32, ← Int.natCast_add, ← Int.natCast_mul, cast_succ, wrapu32_nat, shr32, reps_wd, map_set_wd, List.length_set, zs_len, hg2, e0, e2, e5', Int.zero_add]
        rw [W_unroll]
        simp (maxSteps := 4000000) (disch := omega) only [go_sem, ↓reduceIte, Nat.reduceAdd, Nat.reduceSub, Nat.reduceMul, Nat.reduceEqDiff, reduceCtorEq, Int.reduceAdd, Int.reduceLT, Int.reduceLE, Int.reduceToNat, Int.reduceNeg, Int.reduceSub, ← List.map_take, ← List.map_drop, wrap64, wrapu64, wrapu32, ← Int.natCast_add, ← Int.natCast_mul, cast_succ, wrapu32_nat, shr32, reps_wd, map_set_wd, List.length_set, zs_len, e0, e6, Int.zero_add, e5']
        exact ⟨n, rfl, fun _ => ha.symm⟩
      · have hs : sm a = false := by unfold sm; rw [decide_eq_false_iff_not, ha]; simp only [sg_t, sg_f]; omega
        rw [hs]
        have hr := Nat.mod_lt n (show 0 < 9223372036854775808 by decide)
        generalize n % 9223372036854775808 = r at *
        simp (maxSteps := 4000000) (disch := omega) only [go_sem, ↓reduceIte, Nat.reduceAdd, Nat.reduceSub, Nat.reduceMul, Nat.reduceEqDiff, reduceCtorEq, Int.reduceAdd, Int.reduceLT, Int.reduceLE, Int.reduceToNat, Int.reduceNeg, Int.reduceSub, ← List.map_take, ← List.map_drop, wrap64, wrapu64, wrapu32, ← Int.natCast_add, ← Int.natCast_mul, cast_succ, wrapu32_nat, shr32, reps_wd, map_set_wd, List.length_set, zs_len, Try.f52, hn, hg]
        rw [W_unroll]
        simp (maxSteps := 4000000) (disch := omega) only [go_sem, ↓reduceIte, Nat.reduceAdd, Nat.reduceSub, Nat.reduceMul, Nat.reduceEqDiff, reduceCtorEq, Int.reduceAdd, Int.reduceLT, Int.reduceLE, Int.reduceToNat, Int.reduceNeg, Int.reduceSub, ← List.map_take, ← List.map_drop, wrap64, wrapu64, wrapu32, ← Int.natCast_add, ← Int.natCast_mul, cast_succ, wrapu32_nat, shr32, reps_wd, map_set_wd, List.length_set, zs_len, hg, e0, Int.zero_add]
        rw [W_unroll]
        simp (maxSteps := 4000000) (disch := omega) only [go_sem, ↓reduceIte, Nat.reduceAdd, Nat.reduceSub, Nat.reduceMul, Nat.reduceEqDiff, reduceCtorEq, Int.reduceAdd, Int.reduceLT, Int.reduceLE, Int.reduceToNat, Int.reduceNeg, Int.reduceSub, ← List.map_take, ← List.map_drop, wrap64, wrapu64, wrapu32, ← Int.natCast_add, ← Int.natCast_mul, cast_succ, wrapu32_nat, shr32, reps_wd, map_set_wd, List.length_set, zs_len, hg2, e0, e2, e5', Int.zero_add]
        rw [W_unroll]
        simp (maxSteps := 4000000) (disch := omega) only [go_sem, ↓reduceIte, Nat.reduceAdd, Nat.reduceSub, Nat.reduceMul, Nat.reduceEqDiff, reduceCtorEq, Int.reduceAdd, Int.reduceLT, Int.reduceLE, Int.reduceToNat, Int.reduceNeg, Int.reduceSub, ← List.map_take, ← List.map_drop, wrap64, wrapu64, wrapu32, ← Int.natCast_add, ← Int.natCast_mul, cast_succ, wrapu32_nat, shr32, reps_wd, map_set_wd, List.length_set, zs_len, e0, e6, Int.zero_add, e5']
        exact ⟨r, rfl, fun h => by cases h⟩
    | true =>
      have h0 := hng2.1 hn
      rw [hn] at ha
      clear hng2 e6
      have hx1 : 1 ≤ n := by rw [ha] at h0; simp only [sg_t, sg_f] at h0; omega
      by_cases hq : n ≤ 9223372036854775808
      · have hs : sm a = true := decide_eq_true (by rw [ha]; simp only [sg_t, sg_f]; omega)
        rw [hs]
        simp (maxSteps := 4000000) (disch := omega) only [go_sem, ↓reduceIte, Nat.reduceAdd, Nat.reduceSub, Nat.reduceMul, Nat.reduceEqDiff, reduceCtorEq, Int.reduceAdd, Int.reduceLT, Int.reduceLE, Int.reduceToNat, Int.reduceNeg, Int.reduceSub, ← List.map_take, ← List.map_drop, wrap64, wrapu64, wrapu32, ← Int.natCast_add, ← Int.natCast_mul, cast_succ, wrapu32_nat, shr32, reps_wd, map_set_wd, List.length_set, zs_len, Try.f52, hn, hg]
        rw [W_unroll]
        simp (maxSteps := 4000000) (disch := omega) only [go_sem, ↓reduceIte, Nat.reduceAdd, Nat.reduceSub, Nat.reduceMul, Nat.reduceEqDiff, reduceCtorEq, Int.reduceAdd, Int.reduceLT, Int.reduceLE, Int.reduceToNat, Int.reduceNeg, Int.reduceSub, ← List.map_take, ← List.map_drop, wrap64, wrapu64, wrapu32, ← Int.natCast_add, ← Int.natCast_mul, cast_succ, wrapu32_nat, shr32, reps_wd, map_set_wd, List.length_set, zs_len, hg, e0, Int.zero_add]
        rw [W_unroll]
        simp (maxSteps := 4000000) (disch := omega) only [go_sem, ↓reduceIte, Nat.reduceAdd, Nat.reduceSub, Nat.reduceMul, Nat.reduceEqDiff, reduceCtorEq, Int.reduceAdd, Int.reduceLT, Int.reduceLE, Int.reduceToNat, Int.reduceNeg, Int.reduceSub, ← List.map_take, ← List.map_drop, wrap64, wrapu64, wrapu32, ← Int.natCast_add, ← Int.natCast_mul, cast_succ, wrapu32_nat, shr32, reps_wd, map_set_wd, List.length_set, zs_len, hg2, e0, e2, e5', Int.zero_add]
        rw [W_unroll]
        simp (maxSteps := 4000000) (disch := omega) only [go_sem, ↓reduceIte, Nat.reduceAdd, Nat.reduceSub, Nat.reduceMul, Nat.reduceEqDiff, reduceCtorEq, Int.reduceAdd, Int.reduceLT, Int.reduceLE, Int.reduceToNat, Int.reduceNeg, Int.reduceSub, ← List.map_take, ← List.map_drop, wrap64, wrapu64, wrapu32, ← Int.natCast_add, ← Int.natCast_mul, cast_succ, wrapu32_nat, shr32, reps_wd, map_set_wd, List.length_set, zs_len, e0, Int.zero_add, e5']
        refine ⟨a, ?_, fun _ => rfl⟩
        rw [ha]; simp only [sg_t, sg_f]
        congr 3; omega
      · have hs : sm a = false := by unfold sm; rw [decide_eq_false_iff_not, ha]; simp only [sg_t, sg_f]; omega
        rw [hs]
        simp (maxSteps := 4000000) (disch := omega) only [go_sem, ↓reduceIte, Nat.reduceAdd, Nat.reduceSub, Nat.reduceMul, Nat.reduceEqDiff, reduceCtorEq, Int.reduceAdd, Int.reduceLT, Int.reduceLE, Int.reduceToNat, Int.reduceNeg, Int.reduceSub, ← List.map_take, ← List.map_drop, wrap64, wrapu64, wrapu32, ← Int.natCast_add, ← Int.natCast_mul, cast_succ, wrapu32_nat, shr32, reps_wd, map_set_wd, List.length_set, zs_len, Try.f52, hn, hg]
        rw [W_unroll]
        simp (maxSteps := 4000000) (disch := omega) only [go_sem, ↓reduceIte, Nat.reduceAdd, Nat.reduceSub, Nat.reduceMul, Nat.reduceEqDiff, reduceCtorEq, Int.reduceAdd, Int.reduceLT, Int.reduceLE, Int.reduceToNat, Int.reduceNeg, Int.reduceSub, ← List.map_take, ← List.map_drop, wrap64, wrapu64, wrapu32, ← Int.natCast_add, ← Int.natCast_mul, cast_succ, wrapu32_nat, shr32, reps_wd, map_set_wd, List.length_set, zs_len, hg, e0, Int.zero_add]
        rw [W_unroll]
        simp (maxSteps := 4000000) (disch := omega) only [go_sem, ↓reduceIte, Nat.reduceAdd, Nat.reduceSub, Nat.reduceMul, Nat.reduceEqDiff, reduceCtorEq, Int.reduceAdd, Int.reduceLT, Int.reduceLE, Int.reduceToNat, Int.reduceNeg, Int.reduceSub, ← List.map_take, ← List.map_drop, wrap64, wrapu64, wrapu32, ← Int.natCast_add, ← Int.natCast_mul, cast_succ, wrapu32_nat, shr32, reps_wd, map_set_wd, List.length_set, zs_len, hg2, e0, e2, e5', Int.zero_add]
        rw [W_unroll]
        simp (maxSteps := 4000000) (disch := omega) only [go_sem, ↓reduceIte, Nat.reduceAdd, Nat.reduceSub, Nat.reduceMul, Nat.reduceEqDiff, reduceCtorEq, Int.reduceAdd, Int.reduceLT, Int.reduceLE, Int.reduceToNat, Int.reduceNeg, Int.reduceSub, ← List.map_take, ← List.map_drop, wrap64, wrapu64, wrapu32, ← Int.natCast_add, ← Int.natCast_mul, cast_succ, wrapu32_nat, shr32, reps_wd, map_set_wd, List.length_set, zs_len, e0, Int.zero_add, e5']
        exact ⟨0, rfl, fun h => by cases h⟩
end Go.Proofs.Ytpfcijgcjghgeaa

/- The row of LargeTexts, out of what the machine over pure values says. (Own work of this repo.) -/
namespace Go.Proofs.Ytpfcijgcjghgeaa
namespace largeTexts
open Go.ChangeShapes Go.WideShapes Go.ChangeAt Go.RowKit
def Pure : Prop := ∀ xs, Vm.FitArgs E [28, 9, 3] xs → Vm.denP E 10 xs = some (.ret (.bool true))
theorem own : ownKnob Try.prog.godebug = none := by kernel_rfl
set_option maxRecDepth 100000 in
theorem lifted (hP : Pure) (os : Os) (started : os.Started) (H : Type) (enc : TypeId × Value → H) :
    ReturnsInHanded {} Try.checked os 10 .any (Rows.largeTextsSpec.pre6 enc Try.prog Try.f10 Rows.largeTextsRow.domain false) (Rows.largeTextsSpec.post enc Try.prog Try.f10 false true false false) := by
  refine returnsInHanded_of_change_sized (C := Try.checked) own started (by kernel_rfl) Try.func10
    (ChangeSpec.witness6 (enc := enc) (C := Try.checked) false ⟨#[], #[(.agg #[.bool false, .slice none 0 0]), (.string ByteArray.empty), (.int .i64 0)], []⟩ 8 (by kernel_rfl) (by kernel_rfl) (by kernel_rfl) (by kernel_rfl)) ?_
  intro W base args ds gs before hval0 hW hcnd hsz0 _
  have hval : ∀ (j : Nat) t v, Try.f10.params[j]? = some t → args[j]? = some v → Value.okWide Try.prog W .any base t v := hval0
  have hW' := hW
  obtain ⟨p, q, hA0, hV, rfl, hfz, hnd⟩ := hW
  have hA : DataW.TrodAll enc Try.prog W 0 (fun _ => true) true Try.f10.params.toList args.toList ds p := hA0
  have hpar : Try.f10.params.toList = [28, 9, 3] := by rw [Try.params10]
  rw [hpar] at hA
  obtain ⟨xs, hfit, hrep, hpure, hst⟩ := Vm.open_args eok.toEOk (by kernel_rfl) _ _ _ _ (by kernel_rfl) hA (fun j t v ht hv => ⟨_, _, hval j t v (by rw [← Array.getElem?_toList, hpar]; exact ht) (by rw [← Array.getElem?_toList]; exact hv)⟩)
  have hlen := Vm.trodAll_len hA
  obtain ⟨rfl, rfl⟩ := trodVars_none hV
  clear hA0 hval0 hsz0 hval hA hcnd
  match ds, hlen, hst, hW' with
  | [d0, d1, d2], _, hst, hW =>
    refine (Vm.denP_calls eok (hP xs hfit) W args hrep hpure).mono fun e W' ⟨bel, v, he, hv⟩ => ?_
    subst he
    obtain rfl := Vm.rep_bool hv
    exact ⟨_, rfl, _, _, _, [], _, [], hW, trodAll_mk1 (shut_bool Try.underlying4 _), (by rw [hpar]; exact hst W' bel), rfl, bel.frame _, fun h => by cases h⟩
theorem over (hP : Pure) : Rows.largeTextsRow.holds Try.pinned (OpenSpec.ofChange Rows.largeTextsSpec) :=
  OpenClaim.holds_of_wide 10 Try.f10 rfl rfl rfl rfl rfl rfl rfl ⟨rfl, rfl, rfl, rfl, rfl⟩ rfl rfl rfl rfl rfl (by kernel_rfl) Try.func10 (by kernel_rfl)
    (of_decide_eq_true (by kernel_rfl)) (by unfold Func.isWrapper; first | (rw [if_pos (by decide +kernel)]; kernel_rfl) | (rw [if_neg (by decide +kernel)]; exact ⟨rfl, rfl⟩))
    (fun os started H enc _ => lifted hP os started H enc)
end largeTexts

end Go.Proofs.Ytpfcijgcjghgeaa

/- The law LargeTexts. (Own work of this repo.) -/
namespace Go.Proofs.Ytpfcijgcjghgeaa
open Vm
set_option maxRecDepth 100000

theorem fit_str {m : Nat} {cs : List AV} (h : Fit E (m + 1) 9 cs) : ∃ l : List Nat, InB l ∧ cs = [.str (bstr l)] := by
  simp only [Fit, T9, FitD] at h
  obtain ⟨_, s, rfl, _⟩ := h
  obtain ⟨l, rfl, hl⟩ := bstr_all s
  exact ⟨l, hl, rfl⟩
theorem str_self (l : List Nat) : ((bstr l).toList == (bstr l).toList) = true := by simp
theorem txt_len {a : Int} (ha : (dg a).length ≤ 4096) : (txt a).length ≤ 60000 := by
  obtain ⟨L, hLL⟩ : ∃ L, L = 4096 := ⟨_, rfl⟩
  obtain ⟨K, hK⟩ : ∃ K, K = 43691 := ⟨_, rfl⟩
  have h9 := valid_len (k := L) (by rw [hLL]; exact ha)
  have h1 : (dd a.natAbs).length ≤ K := dd_len (Nat.lt_of_lt_of_le h9 (Nat.pow_le_pow_right (by decide) (by omega)))
  unfold txt
  split
  · simp
  · rw [List.length_append, List.length_reverse, List.length_map]
    split <;> simp <;> omega
/-- What is claimed of the number of a text. -/
def PF (l : List Nat) (b : Bool) (z : Int) (f : Int) (ok : Bool) (w : Int) : Prop :=
  (ok = false ∧ z = 0 ∧ f = 3 ∧ b = true ∧ w = 0) ∨ (ok = true ∧ ¬ (dg w).length ≤ 4096 ∧ z = 0 ∧ f = 4 ∧ b = true) ∨ (ok = true ∧ (dg w).length ≤ 4096 ∧ z = w ∧ f = 0 ∧ txt w = l)
theorem pf_of (l : List Nat) (hI : InB l) (hl : l.length ≤ 61000) : ∃ (b : Bool) (z f : Int) (ok m : Bool) (w : Int), denP E 48 [.str (bstr l)] = some (.ret (.tup [I b z, .int .i64 f])) ∧
    denP E 50 [.str (bstr l)] = some (.ret (.tup [I m w, .bool ok])) ∧ PF l b z f ok w := by
  obtain ⟨f, h1, _⟩ := parse_spec l hI (by omega)
  have h2 := rParse_spec l hI (by omega)
  cases hp : pOk l with
  | false =>
    rw [hp] at h1 h2
    exact ⟨true, 0, 3, false, true, 0, h1, h2, .inl ⟨rfl, rfl, rfl, rfl, rfl⟩⟩
  | true =>
    rw [hp] at h1 h2
    by_cases hz : (dg (pval l)).length ≤ 4096
    · simp only [if_true, RI, fm_of hz, fit_of hz, er_of hz] at h1
      exact ⟨f, pval l, 0, true, _, pval l, h1, h2, .inr (.inr ⟨rfl, hz, rfl, rfl, txt_pval hp⟩)⟩
    · simp only [if_true, RI, fm_no hz, fit_no hz, er_no hz] at h1
      exact ⟨true, 0, 4, true, _, pval l, h1, h2, .inr (.inl ⟨rfl, hz, rfl, rfl, rfl⟩)⟩
set_option maxHeartbeats 4000000 in
theorem largeTexts_walk (qa : Raw) (l : List Nat) (n : Int) (hn1 : -9223372036854775808 ≤ n) (hn2 : n < 9223372036854775808) (ra : InR qa.2.2) (hI : InB l) (la : qa.2.2.length ≤ 4200) (ll : l.length ≤ 61000) :
    denP E 10 [ivr qa, .str (bstr l), .int .i64 n] = some (.ret (.bool true)) := by
  have v2 := rvalid_raw qa (by omega)
  obtain ⟨b, z, f, ok, m, w, p1, p2, hF⟩ := pf_of l hI ll
  have o1 := of_spec n hn1 hn2
  have o2 := rOf_spec n hn1 hn2
  have o3 := rSame_spec false n (decide (n = 0)) n (by have := dg_small (z := n) (by omega); omega) (by have := dg_small (z := n) (by omega); omega)
  have n1 := no_spec b z f 3
  have n2 := no_spec b z f 4
  have f1 := rFits_spec m w
  rw [decide_eq_true rfl] at o3
  cases ha : rvalidW qa.1 qa.2.2 with
  | false =>
    have t1 := badText qa (by omega) ha
    have s1 := badSmall qa (by omega) ha
    rw [ha] at v2
    refine denP_eq E10 rfl (by simp [AV.pureL, AV.pure, pure_wd]) ?_
    rcases hF with ⟨rfl, rfl, rfl, rfl, rfl⟩ | ⟨rfl, hw, rfl, rfl, rfl⟩ | ⟨rfl, hw, rfl, rfl, ht⟩
    · have n1 := n1 (by rw [dg_zero]; simp)
      clear n2 f1
      simp only [ivr, iv, I, ng_zero, dg_zero, List.map_nil, decide_true, Bool.and_true] at *
      simp (maxSteps := 4000000) (disch := omega) only [go_sem, ↓reduceIte, Nat.reduceAdd, Nat.reduceSub, Nat.reduceMul, Nat.reduceEqDiff, reduceCtorEq, Int.reduceAdd, Int.reduceLT, Int.reduceLE, Int.reduceToNat, Int.reduceNeg, Int.reduceSub, ← List.map_take, ← List.map_drop, wrap64, wrapu64, wrapu32, ← Int.natCast_add, ← Int.natCast_mul, cast_succ, wrapu32_nat, shr32, reps_wd, map_set_wd, List.length_set, zs_len, Try.f10, bstr_size, t1, s1, p1, p2, o1, o2, o3, v2, n1, awake14, ng_zero, dg_zero, List.map_nil]
    · have n2 := n2 (by rw [dg_zero]; simp)
      rw [decide_eq_false hw] at f1
      clear n1
      simp only [ivr, iv, I, ng_zero, dg_zero, List.map_nil, decide_true, Bool.and_true] at *
      simp (maxSteps := 4000000) (disch := omega) only [go_sem, ↓reduceIte, Nat.reduceAdd, Nat.reduceSub, Nat.reduceMul, Nat.reduceEqDiff, reduceCtorEq, Int.reduceAdd, Int.reduceLT, Int.reduceLE, Int.reduceToNat, Int.reduceNeg, Int.reduceSub, ← List.map_take, ← List.map_drop, wrap64, wrapu64, wrapu32, ← Int.natCast_add, ← Int.natCast_mul, cast_succ, wrapu32_nat, shr32, reps_wd, map_set_wd, List.length_set, zs_len, Try.f10, bstr_size, t1, s1, p1, p2, o1, o2, o3, v2, n2, f1, awake14, ng_zero, dg_zero, List.map_nil]
    · rw [decide_eq_true hw] at f1
      have t2 := text_spec b z hw
      rw [ht] at t2
      have x1 := rSame_spec b z m z (by omega) (by omega)
      rw [decide_eq_true rfl] at x1
      clear n1 n2
      simp only [ivr, iv, I, ng_zero, dg_zero, List.map_nil, decide_true, Bool.and_true] at *
      simp (maxSteps := 4000000) (disch := omega) only [go_sem, ↓reduceIte, Nat.reduceAdd, Nat.reduceSub, Nat.reduceMul, Nat.reduceEqDiff, reduceCtorEq, Int.reduceAdd, Int.reduceLT, Int.reduceLE, Int.reduceToNat, Int.reduceNeg, Int.reduceSub, ← List.map_take, ← List.map_drop, wrap64, wrapu64, wrapu32, ← Int.natCast_add, ← Int.natCast_mul, cast_succ, wrapu32_nat, shr32, reps_wd, map_set_wd, List.length_set, zs_len, Try.f10, bstr_size, t1, s1, p1, p2, o1, o2, o3, v2, f1, t2, x1, str_self, awake14, ng_zero, dg_zero, List.map_nil]
  | true =>
    obtain ⟨ka, a, sa, da⟩ := rvalid_norm ra ha
    rw [← da] at ka la
    have ea : ivr qa = I qa.2.1 a := by rw [I, sa, da]
    rw [ea] at v2 ⊢
    rw [ha] at v2
    generalize qa.2.1 = ma at *
    have t1 := text_spec ma a ka
    have t3 := rText_spec ma a ka
    have s1 := small_spec ma a ka
    obtain ⟨k, s2, hk⟩ := rSmall_spec ma a ka
    have tl := txt_len ka
    obtain ⟨f2, q1, _⟩ := parse_spec (txt a) (txt_inB a) (by omega)
    rw [pOk_txt a tl, if_pos rfl, pval_txt, RI, fm_of ka, fit_of ka, er_of ka] at q1
    have x2 := rSame_spec f2 a ma a (by omega) (by omega)
    rw [decide_eq_true rfl] at x2
    have ss := str_self (txt a)
    refine denP_eq E10 rfl (by simp [AV.pureL, AV.pure, pure_wd]) ?_
    clear ea sa da ha tl ra
    generalize txt a = ta at *
    cases hs : sm a with
    | true =>
      obtain rfl := hk hs
      rw [hs, if_pos rfl] at s1
      rw [hs] at s2
      rcases hF with ⟨rfl, rfl, rfl, rfl, rfl⟩ | ⟨rfl, hw, rfl, rfl, rfl⟩ | ⟨rfl, hw, rfl, rfl, ht⟩
      · have n1 := n1 (by rw [dg_zero]; simp)
        clear n2 f1
        simp only [ivr, iv, I, ng_zero, dg_zero, List.map_nil, decide_true, Bool.and_true] at *
        simp (maxSteps := 4000000) (disch := omega) only [go_sem, ↓reduceIte, Nat.reduceAdd, Nat.reduceSub, Nat.reduceMul, Nat.reduceEqDiff, reduceCtorEq, Int.reduceAdd, Int.reduceLT, Int.reduceLE, Int.reduceToNat, Int.reduceNeg, Int.reduceSub, ← List.map_take, ← List.map_drop, wrap64, wrapu64, wrapu32, ← Int.natCast_add, ← Int.natCast_mul, cast_succ, wrapu32_nat, shr32, reps_wd, map_set_wd, List.length_set, zs_len, Try.f10, bstr_size, t1, t3, s1, s2, q1, x2, ss, p1, p2, o1, o2, o3, v2, n1, awake14, ng_zero, dg_zero, List.map_nil]
      · have n2 := n2 (by rw [dg_zero]; simp)
        rw [decide_eq_false hw] at f1
        clear n1
        simp only [ivr, iv, I, ng_zero, dg_zero, List.map_nil, decide_true, Bool.and_true] at *
        simp (maxSteps := 4000000) (disch := omega) only [go_sem, ↓reduceIte, Nat.reduceAdd, Nat.reduceSub, Nat.reduceMul, Nat.reduceEqDiff, reduceCtorEq, Int.reduceAdd, Int.reduceLT, Int.reduceLE, Int.reduceToNat, Int.reduceNeg, Int.reduceSub, ← List.map_take, ← List.map_drop, wrap64, wrapu64, wrapu32, ← Int.natCast_add, ← Int.natCast_mul, cast_succ, wrapu32_nat, shr32, reps_wd, map_set_wd, List.length_set, zs_len, Try.f10, bstr_size, t1, t3, s1, s2, q1, x2, ss, p1, p2, o1, o2, o3, v2, n2, f1, awake14, ng_zero, dg_zero, List.map_nil]
      · rw [decide_eq_true hw] at f1
        have t2 := text_spec b z hw
        rw [ht] at t2
        have x1 := rSame_spec b z m z (by omega) (by omega)
        rw [decide_eq_true rfl] at x1
        clear n1 n2
        simp only [ivr, iv, I, ng_zero, dg_zero, List.map_nil, decide_true, Bool.and_true] at *
        simp (maxSteps := 4000000) (disch := omega) only [go_sem, ↓reduceIte, Nat.reduceAdd, Nat.reduceSub, Nat.reduceMul, Nat.reduceEqDiff, reduceCtorEq, Int.reduceAdd, Int.reduceLT, Int.reduceLE, Int.reduceToNat, Int.reduceNeg, Int.reduceSub, ← List.map_take, ← List.map_drop, wrap64, wrapu64, wrapu32, ← Int.natCast_add, ← Int.natCast_mul, cast_succ, wrapu32_nat, shr32, reps_wd, map_set_wd, List.length_set, zs_len, Try.f10, bstr_size, t1, t3, s1, s2, q1, x2, ss, p1, p2, o1, o2, o3, v2, f1, t2, x1, str_self, awake14, ng_zero, dg_zero, List.map_nil]
    | false =>
      rw [hs] at s1 s2
      simp only [Bool.false_eq_true, if_false] at s1
      rcases hF with ⟨rfl, rfl, rfl, rfl, rfl⟩ | ⟨rfl, hw, rfl, rfl, rfl⟩ | ⟨rfl, hw, rfl, rfl, ht⟩
      · have n1 := n1 (by rw [dg_zero]; simp)
        clear n2 f1
        simp only [ivr, iv, I, ng_zero, dg_zero, List.map_nil, decide_true, Bool.and_true] at *
        simp (maxSteps := 4000000) (disch := omega) only [go_sem, ↓reduceIte, Nat.reduceAdd, Nat.reduceSub, Nat.reduceMul, Nat.reduceEqDiff, reduceCtorEq, Int.reduceAdd, Int.reduceLT, Int.reduceLE, Int.reduceToNat, Int.reduceNeg, Int.reduceSub, ← List.map_take, ← List.map_drop, wrap64, wrapu64, wrapu32, ← Int.natCast_add, ← Int.natCast_mul, cast_succ, wrapu32_nat, shr32, reps_wd, map_set_wd, List.length_set, zs_len, Try.f10, bstr_size, t1, t3, s1, s2, q1, x2, ss, p1, p2, o1, o2, o3, v2, n1, awake14, ng_zero, dg_zero, List.map_nil]
      · have n2 := n2 (by rw [dg_zero]; simp)
        rw [decide_eq_false hw] at f1
        clear n1
        simp only [ivr, iv, I, ng_zero, dg_zero, List.map_nil, decide_true, Bool.and_true] at *
        simp (maxSteps := 4000000) (disch := omega) only [go_sem, ↓reduceIte, Nat.reduceAdd, Nat.reduceSub, Nat.reduceMul, Nat.reduceEqDiff, reduceCtorEq, Int.reduceAdd, Int.reduceLT, Int.reduceLE, Int.reduceToNat, Int.reduceNeg, Int.reduceSub, ← List.map_take, ← List.map_drop, wrap64, wrapu64, wrapu32, ← Int.natCast_add, ← Int.natCast_mul, cast_succ, wrapu32_nat, shr32, reps_wd, map_set_wd, List.length_set, zs_len, Try.f10, bstr_size, t1, t3, s1, s2, q1, x2, ss, p1, p2, o1, o2, o3, v2, n2, f1, awake14, ng_zero, dg_zero, List.map_nil]
      · rw [decide_eq_true hw] at f1
        have t2 := text_spec b z hw
        rw [ht] at t2
        have x1 := rSame_spec b z m z (by omega) (by omega)
        rw [decide_eq_true rfl] at x1
        clear n1 n2
        simp only [ivr, iv, I, ng_zero, dg_zero, List.map_nil, decide_true, Bool.and_true] at *
        simp (maxSteps := 4000000) (disch := omega) only [go_sem, ↓reduceIte, Nat.reduceAdd, Nat.reduceSub, Nat.reduceMul, Nat.reduceEqDiff, reduceCtorEq, Int.reduceAdd, Int.reduceLT, Int.reduceLE, Int.reduceToNat, Int.reduceNeg, Int.reduceSub, ← List.map_take, ← List.map_drop, wrap64, wrapu64, wrapu32, ← Int.natCast_add, ← Int.natCast_mul, cast_succ, wrapu32_nat, shr32, reps_wd, map_set_wd, List.length_set, zs_len, Try.f10, bstr_size, t1, t3, s1, s2, q1, x2, ss, p1, p2, o1, o2, o3, v2, f1, t2, x1, str_self, awake14, ng_zero, dg_zero, List.map_nil]
theorem largeTexts_pure : largeTexts.Pure := by
  intro xs h
  simp only [FitArgs, opn_eq, T1, T2, T3, T4, T5, T6, T7, T8, T9, T10, T11, T12, T13, T14, T15, T16, T17, T18, T19, T20, T21, T22, T23, T25, T26, T27, T28, T29, T30, T31, T32, T33, T35, T36, T37, T39, T41, T42, T43, T44, T45, T46, T47, T48, T49, T50, T51, T52, T54, T56, T58, T59, T61, T62, T64, T65, T66, T67, T68, T69, T70, T71, T72, T73, T74, T76, T77, T78, T79, T80, T81, T82, T83, T84, T85, T87, T88, T89, T91, T92, T93, T95, T97, T98, T100, T101, T102, T103, T104, T105, T106, T107, T108, T109, T110, T111, T112, T113, T114, T115, T116, T117, T118, T119, T120, T121, T122, elm] at h
  obtain ⟨c1, x1, y1, rfl, ⟨rfl, h1⟩, c2, x2, y2, rfl, ⟨rfl, h2⟩, c3, x3, y3, rfl, ⟨rfl, h3⟩, rfl⟩ := h
  obtain ⟨qa, rfl, ra, na, la⟩ := fit_raw (m := 3) h1
  obtain ⟨l, hI, rfl⟩ := fit_str (m := 5) h2
  obtain ⟨n, hn1, hn2, rfl⟩ := fit_int (m := 5) h3
  show denP E 10 [ivr qa, .str (bstr l), .int .i64 n] = _
  by_cases ha : qa.2.2.length ≤ 4200
  · by_cases hb : l.length ≤ 61000
    · exact largeTexts_walk qa l n hn1 hn2 ra hI ha hb
    · refine denP_eq E10 rfl (by simp [AV.pureL, AV.pure, pure_wd]) ?_
      simp (maxSteps := 4000000) (disch := omega) only [go_sem, ↓reduceIte, Nat.reduceAdd, Nat.reduceSub, Nat.reduceMul, Nat.reduceEqDiff, reduceCtorEq, Int.reduceAdd, Int.reduceLT, Int.reduceLE, Int.reduceToNat, Int.reduceNeg, Int.reduceSub, ← List.map_take, ← List.map_drop, wrap64, wrapu64, wrapu32, Try.f10, ivr, awake14, bstr_size]
  · refine denP_eq E10 rfl (by simp [AV.pureL, AV.pure, pure_wd]) ?_
    simp (maxSteps := 4000000) (disch := omega) only [go_sem, ↓reduceIte, Nat.reduceAdd, Nat.reduceSub, Nat.reduceMul, Nat.reduceEqDiff, reduceCtorEq, Int.reduceAdd, Int.reduceLT, Int.reduceLE, Int.reduceToNat, Int.reduceNeg, Int.reduceSub, ← List.map_take, ← List.map_drop, wrap64, wrapu64, wrapu32, Try.f10, ivr, awake14, bstr_size]
theorem largeTexts_holds : Rows.LargeTextsSaid := largeTexts.over largeTexts_pure
#print axioms largeTexts_holds
end Go.Proofs.Ytpfcijgcjghgeaa
