/- Part 6 of a proof about this seat: RLucasIndex, LIndex. (Own work of this repo.) -/
import Derived.Test.YtmgmcnoobgljpaaZLucasRank5
import Derived.WalkKit
import Derived.ProofKit
import Derived.OpenShut
import Derived.ShutString
import Derived.ChangeOld
import Derived.Below
import Derived.SizedLaws
set_option linter.unusedVariables false
set_option linter.unusedSimpArgs false
/- The row of LucasIndex, out of what the machine over pure values says. (Own work of this repo.) -/
namespace Go.Proofs.Ytmgmcnoobgljpaa
namespace lucasIndex
open Go.ChangeShapes Go.WideShapes Go.ChangeAt Go.RowKit
def Pure : Prop := ∀ xs, Vm.FitArgs E [24, 24] xs → Vm.denP E 11 xs = some (.ret (.bool true))
theorem own : ownKnob Try.prog.godebug = none := by kernel_rfl
set_option maxRecDepth 100000 in
theorem lifted (hP : Pure) (os : Os) (started : os.Started) (H : Type) (enc : TypeId × Value → H) :
    ReturnsInHanded {} Try.checked os 11 .any (Rows.lucasIndexSpec.pre6 enc Try.prog Try.f11 Rows.lucasIndexRow.domain false) (Rows.lucasIndexSpec.post enc Try.prog Try.f11 false true false false) := by
  refine returnsInHanded_of_change_sized (C := Try.checked) own started (by kernel_rfl) Try.func11
    (ChangeSpec.witness6 (enc := enc) (C := Try.checked) false ⟨#[], #[(.agg #[.bool false, .slice none 0 0]), (.agg #[.bool false, .slice none 0 0])], []⟩ 8 (by kernel_rfl) (by kernel_rfl) (by kernel_rfl) (by kernel_rfl)) ?_
  intro W base args ds gs before hval0 hW hcnd hsz0 _
  have hval : ∀ (j : Nat) t v, Try.f11.params[j]? = some t → args[j]? = some v → Value.okWide Try.prog W .any base t v := hval0
  have hW' := hW
  obtain ⟨p, q, hA0, hV, rfl, hfz, hnd⟩ := hW
  have hA : DataW.TrodAll enc Try.prog W 0 (fun _ => true) true Try.f11.params.toList args.toList ds p := hA0
  have hpar : Try.f11.params.toList = [24, 24] := by rw [Try.params11]
  rw [hpar] at hA
  obtain ⟨xs, hfit, hrep, hpure, hst⟩ := Vm.open_args eok.toEOk (by kernel_rfl) _ _ _ _ (by kernel_rfl) hA (fun j t v ht hv => ⟨_, _, hval j t v (by rw [← Array.getElem?_toList, hpar]; exact ht) (by rw [← Array.getElem?_toList]; exact hv)⟩)
  have hlen := Vm.trodAll_len hA
  obtain ⟨rfl, rfl⟩ := trodVars_none hV
  clear hA0 hval0 hsz0 hval hA hcnd
  match ds, hlen, hst, hW' with
  | [d0, d1], _, hst, hW =>
    refine (Vm.denP_calls eok (hP xs hfit) W args hrep hpure).mono fun e W' ⟨bel, v, he, hv⟩ => ?_
    subst he
    obtain rfl := Vm.rep_bool hv
    exact ⟨_, rfl, _, _, _, [], _, [], hW, trodAll_mk1 (shut_bool Try.underlying4 _), (by rw [hpar]; exact hst W' bel), rfl, bel.frame _, fun h => by cases h⟩
theorem over (hP : Pure) : Rows.lucasIndexRow.holds Try.pinned (OpenSpec.ofChange Rows.lucasIndexSpec) :=
  OpenClaim.holds_of_wide 11 Try.f11 rfl rfl rfl rfl rfl rfl rfl ⟨rfl, rfl, rfl, rfl, rfl⟩ rfl rfl rfl rfl rfl (by kernel_rfl) Try.func11 (by kernel_rfl)
    (of_decide_eq_true (by kernel_rfl)) (by unfold Func.isWrapper; first | (rw [if_pos (by decide +kernel)]; kernel_rfl) | (rw [if_neg (by decide +kernel)]; exact ⟨rfl, rfl⟩))
    (fun os started H enc _ => lifted hP os started H enc)
end lucasIndex

end Go.Proofs.Ytmgmcnoobgljpaa

/- The law LucasIndex. (Own work of this repo.) -/
namespace Go.Proofs.Ytmgmcnoobgljpaa
open Vm Luc
set_option maxRecDepth 10000

abbrev indexP (qa qy : Raw) : Prop := denP E 11 [ivr qa, ivr qy] = some (.ret (.bool true))
theorem short2 (k : Nat) (hk : k < 2 ^ 50) (q r : Raw) : denP E 13 [.int .i64 k, .lst false [ivr q, ivr r]] = some (.ret (.bool (shortW k q && shortW k r))) := by
  have hs := short_walk k [q, r] (by simp) hk
  simp only [List.map_cons, List.map_nil, List.all_cons, List.all_nil, Bool.and_true, Int.cast_ofNat_Int] at hs
  exact hs
theorem ix_far (qa qy : Raw) (h : (shortW 100 qa && shortW 100 qy) = false) : indexP qa qy := by
  have hs := short2 100 (by decide) qa qy
  rw [h] at hs
  refine denP_eq E11 rfl (by simp [AV.pureL, AV.pure, pure_wd]) ?_
  simp only [ivr, iv] at hs ⊢
  simp only [Int.cast_ofNat_Int] at hs
  simp (maxSteps := 4000000) only [go_sem, ↓reduceIte, Nat.reduceAdd, Nat.reduceSub, Nat.reduceMul, Nat.reduceEqDiff, reduceCtorEq, Int.reduceAdd, Int.reduceLT, Int.reduceLE, Int.reduceToNat, Int.reduceNeg, Int.reduceSub, ← List.map_take, ← List.map_drop, ne_eq, Nat.reduceLeDiff, Nat.reduceLT, Nat.zero_le, Nat.le_refl, wrap64, wrapu64, wrapu32, ← Int.natCast_add, ← Int.natCast_mul, cast_succ, wrapu32_nat, shr32, reps_wd, map_set_wd, List.length_set, zs_len, Try.f11, hs, awake8, places, fillAll, reps, refP, elems]
theorem ix_no (qa qy : Raw) (hs : (shortW 100 qa && shortW 100 qy) = true) (w c : Int) (v : Bool) (hw : w ≠ 0) (hr : denP E 41 [ivr qa, ivr qy] = some (.ret (RK 0 w)))
    (hc : denP E 17 [ivr qa] = some (.ret (.int .i64 c))) (hv : denP E 22 [ivr qy] = some (.ret (.bool v))) (h : (v = false ∧ w = 1) ∨ (v = true ∧ c = w)) : indexP qa qy := by
  have hs' := short2 100 (by decide) qa qy
  rw [hs] at hs'
  refine denP_eq E11 rfl (by simp [AV.pureL, AV.pure, pure_wd]) ?_
  simp only [ivr, iv] at hs' hr hc hv ⊢
  simp only [Int.cast_ofNat_Int] at hs'
  have z0 : (w = 0) = False := eq_false hw
  rcases h with ⟨rfl, rfl⟩ | ⟨rfl, rfl⟩ <;>
    simp (maxSteps := 4000000) only [go_sem, ↓reduceIte, Nat.reduceAdd, Nat.reduceSub, Nat.reduceMul, Nat.reduceEqDiff, reduceCtorEq, Int.reduceAdd, Int.reduceLT, Int.reduceLE, Int.reduceToNat, Int.reduceNeg, Int.reduceSub, ← List.map_take, ← List.map_drop, ne_eq, Nat.reduceLeDiff, Nat.reduceLT, Nat.zero_le, Nat.le_refl, wrap64, wrapu64, wrapu32, ← Int.natCast_add, ← Int.natCast_mul, cast_succ, wrapu32_nat, shr32, reps_wd, map_set_wd, List.length_set, zs_len, Try.f11, hs', hr, hc, hv, z0, Int.reduceEq, awake8, places, fillAll, reps, refP, elems]
theorem ix_yes (fa : Bool) (a : Int) (fy : Bool) (y : Int) (ha : (dg a).length ≤ 100) (hy : (dg y).length ≤ 100) (h2 : 2 ≤ a) : denP E 11 [I fa a, I fy y] = some (.ret (.bool true)) := by
  have hs := short2 100 (by decide) (ng a, fa, dg a) (ng y, fy, dg y)
  rw [show shortW 100 (ng a, fa, dg a) = true from decide_eq_true ha, show shortW 100 (ng y, fy, dg y) = true from decide_eq_true hy] at hs
  have hby := bl_le32 hy
  have hbn : bl y.natAbs / (bl a.natAbs - 1) + 2 ≤ 3202 := by have := Nat.div_le_self (bl y.natAbs) (bl a.natAbs - 1); omega
  have hl := last_reached (a := a) (y := y) h2
  obtain ⟨n0, hn0, hleast⟩ := first_reached (a := a) (y := y) h2 ⟨_, hl⟩
  have hn : n0 ≤ 3202 := by
    rcases Nat.lt_or_ge 3202 n0 with h | h
    · exact absurd hl (by have := hleast _ (Nat.lt_of_le_of_lt hbn h); omega)
    · exact h
  have hr := lucIndex_walk a y fa fy (by omega) (by omega) h2 n0 hn0 hleast (by omega)
  have hk := rIndex_spec a y fa fy (by omega) (by omega) h2 n0 hn0 hleast (by omega)
  have hc := code_ok fa a (by omega)
  rw [if_pos h2] at hc
  have hv := rValid_spec fy y (by omega)
  rw [decide_eq_true (show (dg y).length ≤ 4096 by omega)] at hv
  refine denP_eq E11 rfl (by simp [AV.pureL, AV.pure, pure_wd]) ?_
  simp only [ivr, iv] at hs
  simp only [Int.cast_ofNat_Int] at hs
  unfold IX at hr
  clear hl hleast hn0
  by_cases h : psi a n0 = y
  · rw [if_pos h] at hr
    rw [decide_eq_true h] at hk
    simp (maxSteps := 4000000) only [go_sem, ↓reduceIte, Nat.reduceAdd, Nat.reduceSub, Nat.reduceMul, Nat.reduceEqDiff, reduceCtorEq, Int.reduceAdd, Int.reduceLT, Int.reduceLE, Int.reduceToNat, Int.reduceNeg, Int.reduceSub, ← List.map_take, ← List.map_drop, ne_eq, Nat.reduceLeDiff, Nat.reduceLT, Nat.zero_le, Nat.le_refl, wrap64, wrapu64, wrapu32, ← Int.natCast_add, ← Int.natCast_mul, cast_succ, wrapu32_nat, shr32, reps_wd, map_set_wd, List.length_set, zs_len, Try.f11, hs, hr, hc, hv, hk, Int.reduceEq, Bool.and_self, awake8, places, fillAll, reps, refP, elems]
  · rw [if_neg h] at hr
    rw [decide_eq_false h] at hk
    simp (maxSteps := 4000000) only [go_sem, ↓reduceIte, Nat.reduceAdd, Nat.reduceSub, Nat.reduceMul, Nat.reduceEqDiff, reduceCtorEq, Int.reduceAdd, Int.reduceLT, Int.reduceLE, Int.reduceToNat, Int.reduceNeg, Int.reduceSub, ← List.map_take, ← List.map_drop, ne_eq, Nat.reduceLeDiff, Nat.reduceLT, Nat.zero_le, Nat.le_refl, wrap64, wrapu64, wrapu32, ← Int.natCast_add, ← Int.natCast_mul, cast_succ, wrapu32_nat, shr32, reps_wd, map_set_wd, List.length_set, zs_len, Try.f11, hs, hr, hc, hv, hk, Int.reduceEq, Bool.and_self, awake8, places, fillAll, reps, refP, elems]
theorem lucasIndex_walk (qa qy : Raw) (ra : InR qa.2.2) (ry : InR qy.2.2) (la : qa.2.2.length < 9223372036854775808) (ly : qy.2.2.length < 9223372036854775808) : indexP qa qy := by
  cases hs : (shortW 100 qa && shortW 100 qy) with
  | false => exact ix_far qa qy hs
  | true =>
    have hs2 := Bool.and_eq_true_iff.1 hs
    have la' : qa.2.2.length ≤ 100 := of_decide_eq_true hs2.1
    have ly' : qy.2.2.length ≤ 100 := of_decide_eq_true hs2.2
    have hv := rValid_any qy.1 qy.2.1 qy.2.2 ly
    rw [valid_same] at hv
    cases hva : rvl qa with
    | false =>
      have hc := code_bad qa (by omega) hva
      have hr := index_form qa qy la ly (by unfold fitW; rw [hva]; rfl)
      cases hvm : rvl qy with
      | false => exact ix_no qa qy hs 1 1 false (by decide) hr hc (by rw [← hvm]; exact hv) (.inl ⟨rfl, rfl⟩)
      | true => exact ix_no qa qy hs 1 1 true (by decide) hr hc (by rw [← hvm]; exact hv) (.inr ⟨rfl, rfl⟩)
    | true =>
      obtain ⟨hl', a, h4, h5⟩ := rvalid_norm (neg := qa.1) ra (by rw [valid_same]; exact hva)
      obtain ⟨neg, fa, l⟩ := qa
      dsimp only at h4 h5 la'
      subst h4 h5
      have hc := code_ok fa a (by omega)
      cases hvm : rvl qy with
      | false =>
        have hr := index_form (ng a, fa, dg a) qy la ly (by unfold fitW; rw [hva]; simp [hvm])
        exact ix_no _ qy hs 1 _ false (by decide) hr hc (by rw [← hvm]; exact hv) (.inl ⟨rfl, rfl⟩)
      | true =>
        obtain ⟨hl2, y, h6, h7⟩ := rvalid_norm (neg := qy.1) ry (by rw [valid_same]; exact hvm)
        obtain ⟨neg', fy, l'⟩ := qy
        dsimp only at h6 h7 ly'
        subst h6 h7
        by_cases h2 : 2 ≤ a
        · exact ix_yes fa a fy y la' ly' h2
        · rw [if_neg h2] at hc
          exact ix_no (ng a, fa, dg a) (ng y, fy, dg y) hs 2 2 true (by decide) (index_small a y fa fy (by omega) (by omega) (by omega)) hc (by rw [← hvm]; exact hv) (.inr ⟨rfl, rfl⟩)
theorem lucasIndex_pure : lucasIndex.Pure := by
  intro xs h
  simp only [FitArgs, opn_eq, T1, T2, T3, T4, T5, T6, T7, T8, T9, T10, T11, T12, T13, T14, T15, T16, T17, T18, T19, T20, T21, T22, T23, T24, T25, T26, T27, T29, T30, T31, T33, T34, T35, T37, T38, T39, T40, T42, T43, T44, T45, T46, T47, T48, T50, T51, T53, T55, T56, T57, T58, T59, T60, T61, T62, T63, T64, T65, T66, T67, T68, T69, T70, T71, T72, T73, T74, T75, T76, T77, T78, T79, T80, T81, T82, T83, T84, T85, T86, T87, T88, T89, T90, T92, T94, T95, T96, T97, T98, T99, T100, T101, T102, T104, T105, T106, T107, T108, T109, T111, T112, T113, T115, T116, T117, T118, T119, T120, T121, T122, T123, T124, T125, T126, T127, T128, T129, T130, T131, T132, T133, elm] at h
  obtain ⟨c1, x1, y1, rfl, ⟨rfl, h1⟩, c2, x2, y2, rfl, ⟨rfl, h2⟩, rfl⟩ := h
  obtain ⟨qa, rfl, ra, na, la⟩ := fit_raw (m := 3) h1
  obtain ⟨qy, rfl, ry, ny, ly⟩ := fit_raw (m := 3) h2
  unfold maxLen at la ly
  exact lucasIndex_walk qa qy ra ry (by omega) (by omega)
theorem lucasIndex_holds : Rows.LucasIndexSaid := lucasIndex.over lucasIndex_pure
#print axioms lucasIndex_holds
end Go.Proofs.Ytmgmcnoobgljpaa
