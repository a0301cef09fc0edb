/- Part 5 of a proof about this seat: RPellPeriods, LPer. (Own work of this repo.) -/
import Derived.Test.YtiglncbaomoceaaZPellPeriods4
import Derived.WalkKit
import Derived.ProofKit
import Derived.OpenShut
import Derived.ShutString
import Derived.ChangeOld
import Derived.Below
import Derived.SizedLaws
set_option linter.unusedVariables false
set_option linter.unusedSimpArgs false
/- The row of PellPeriods, out of what the machine over pure values says. (Own work of this repo.) -/
namespace Go.Proofs.Ytiglncbaomoceaa
namespace pellPeriods
open Go.ChangeShapes Go.WideShapes Go.ChangeAt Go.RowKit
def Pure : Prop := ∀ xs, Vm.FitArgs E [3] xs → Vm.denP E 3 xs = some (.ret (.bool true))
theorem own : ownKnob Try.prog.godebug = none := by kernel_rfl
set_option maxRecDepth 100000 in
theorem lifted (hP : Pure) (os : Os) (started : os.Started) (H : Type) (enc : TypeId × Value → H) :
    ReturnsInHanded {} Try.checked os 3 .any (Rows.pellPeriodsSpec.pre6 enc Try.prog Try.f3 Rows.pellPeriodsRow.domain false) (Rows.pellPeriodsSpec.post enc Try.prog Try.f3 false true false false) := by
  refine returnsInHanded_of_change_sized (C := Try.checked) own started (by kernel_rfl) Try.func3
    (ChangeSpec.witness6 (enc := enc) (C := Try.checked) false ⟨#[], #[(.int .i64 0)], []⟩ 8 (by kernel_rfl) (by kernel_rfl) (by kernel_rfl) (by kernel_rfl)) ?_
  intro W base args ds gs before hval0 hW hcnd hsz0 _
  have hval : ∀ (j : Nat) t v, Try.f3.params[j]? = some t → args[j]? = some v → Value.okWide Try.prog W .any base t v := hval0
  have hW' := hW
  obtain ⟨p, q, hA0, hV, rfl, hfz, hnd⟩ := hW
  have hA : DataW.TrodAll enc Try.prog W 0 (fun _ => true) true Try.f3.params.toList args.toList ds p := hA0
  have hpar : Try.f3.params.toList = [3] := by rw [Try.params3]
  rw [hpar] at hA
  obtain ⟨xs, hfit, hrep, hpure, hst⟩ := Vm.open_args eok.toEOk (by kernel_rfl) _ _ _ _ (by kernel_rfl) hA (fun j t v ht hv => ⟨_, _, hval j t v (by rw [← Array.getElem?_toList, hpar]; exact ht) (by rw [← Array.getElem?_toList]; exact hv)⟩)
  have hlen := Vm.trodAll_len hA
  obtain ⟨rfl, rfl⟩ := trodVars_none hV
  clear hA0 hval0 hsz0 hval hA hcnd
  match ds, hlen, hst, hW' with
  | [d0], _, hst, hW =>
    refine (Vm.denP_calls eok (hP xs hfit) W args hrep hpure).mono fun e W' ⟨bel, v, he, hv⟩ => ?_
    subst he
    obtain rfl := Vm.rep_bool hv
    exact ⟨_, rfl, _, _, _, [], _, [], hW, trodAll_mk1 (shut_bool Try.underlying4 _), (by rw [hpar]; exact hst W' bel), rfl, bel.frame _, fun h => by cases h⟩
theorem over (hP : Pure) : Rows.pellPeriodsRow.holds Try.pinned (OpenSpec.ofChange Rows.pellPeriodsSpec) :=
  OpenClaim.holds_of_wide 3 Try.f3 rfl rfl rfl rfl rfl rfl rfl ⟨rfl, rfl, rfl, rfl, rfl⟩ rfl rfl rfl rfl rfl (by kernel_rfl) Try.func3 (by kernel_rfl)
    (of_decide_eq_true (by kernel_rfl)) (by unfold Func.isWrapper; first | (rw [if_pos (by decide +kernel)]; kernel_rfl) | (rw [if_neg (by decide +kernel)]; exact ⟨rfl, rfl⟩))
    (fun os started H enc _ => lifted hP os started H enc)
end pellPeriods

end Go.Proofs.Ytiglncbaomoceaa

/- The law PellPeriods. (Own work of this repo.) -/
namespace Go.Proofs.Ytiglncbaomoceaa
open Vm
open Pel hiding allS
set_option maxRecDepth 10000

abbrev drow (f : Bool) (z : Int) : Blk := ⟨[.bool (ng z), .lst f ((dg z).map wd)], true, 2, false⟩
/-- Either both say no, or the root is irrational. -/
theorem fits_cases (D : Int) : (denP E 36 [.int .i64 D] = some (.ret (.bool false)) ∧ denP E 12 [.int .i64 D] = some (.ret (.bool false))) ∨
    (D ≤ 1000000 ∧ ∃ r L, Rt D r ∧ Per D r L ∧ denP E 36 [.int .i64 D] = some (.ret (.bool true)) ∧ denP E 12 [.int .i64 D] = some (.ret (.bool true))) := by
  by_cases h0 : D < 0
  · exact .inl ⟨pell_fits_neg D h0, rpell_fits_neg D h0⟩
  · obtain ⟨r, h1, h2, h3⟩ := root_ex D (by omega)
    have f1 := pell_fits D r h1 h2 h3
    have f2 := rpell_fits D r h1 h2 h3
    by_cases h : 2 ≤ D ∧ D ≤ 1000000 ∧ r * r ≠ D
    · rw [decide_eq_true h] at f1 f2
      have hr : Rt D r := ⟨by
        rcases Int.lt_or_le r 1 with g | g
        · obtain rfl : r = 0 := by omega
          omega
        · exact g, by omega, h3⟩
      obtain ⟨L, hL⟩ := per_ex hr
      exact .inr ⟨h.2.1, r, L, hr, hL, f1, f2⟩
    · rw [decide_eq_false h] at f1 f2
      exact .inl ⟨f1, f2⟩
theorem periods_no (D : Int) (f1 : denP E 36 [.int .i64 D] = some (.ret (.bool false))) (f2 : denP E 12 [.int .i64 D] = some (.ret (.bool false))) : denP E 3 [.int .i64 D] = some (.ret (.bool true)) := by
  refine denP_eq E3 rfl (by simp [AV.pureL, AV.pure, pure_wd]) ?_
  have p1 := Period_no D f1
  have p2 := Least_no D f1
  have p3 := Minus_no D f1
  have n1 := no_spec true true 0 0 2 2
  simp only [decide_true, Bool.and_true, I, ng_zero, dg_zero, List.map_nil] at n1
  simp (maxSteps := 4000000) only [go_sem, ↓reduceIte, Nat.reduceAdd, Nat.reduceSub, Nat.reduceMul, Nat.reduceEqDiff, reduceCtorEq, Int.reduceAdd, Int.reduceLT, Int.reduceLE, Int.reduceToNat, Int.reduceNeg, Int.reduceSub, ← List.map_take, ← List.map_drop, ne_eq, Nat.reduceLeDiff, Nat.reduceLT, Nat.zero_le, Nat.le_refl, wrap64, wrapu64, wrapu32, ← Int.natCast_add, ← Int.natCast_mul, cast_succ, wrapu32_nat, shr32, reps_wd, map_set_wd, List.length_set, zs_len, Try.f3, p1, p2, p3, f2, n1, awake7, Int.reduceEq, places, fillAll, reps, refP, elems, ng_zero, dg_zero, List.map_nil]
set_option maxHeartbeats 4000000 in
theorem periods_walk (D r : Int) (hr : Rt D r) (hD : D ≤ 1000000) (L : Nat) (hL : Per D r L) (f1 : denP E 36 [.int .i64 D] = some (.ret (.bool true))) (f2 : denP E 12 [.int .i64 D] = some (.ret (.bool true)))
    (fu fv : Bool) (U V ge : Int) (p3 : denP E 11 [.int .i64 D] = some (.ret (RP3 (I fu U) (I fv V) ge))) (hend : (L % 2 = 1 ∧ ge = 0 ∧ U = (H D r (L - 1)).1.1 ∧ V = (H D r (L - 1)).1.2 ∧ U * U - D * (V * V) = -1) ∨ (L % 2 = 0 ∧ ge = 6 ∧ U = 0 ∧ V = 0))
    (hX : LX D r L * LX D r L - D * (LY D r L * LY D r L) = 1) (lX : (dg (LX D r L)).length ≤ 4096) (lY : (dg (LY D r L)).length ≤ 4096) : denP E 3 [.int .i64 D] = some (.ret (.bool true)) := by
  have hr2 := (A_small hr hD 0).1
  have hp := hr.pos
  have hlo := hr.lo
  have hrr : 1 ≤ r * r := Int.mul_le_mul (a := 1) (b := 1) (c := r) (d := r) hp hp (by omega) (by omega)
  have hlen := per_len hr hr2 hL
  have hL1 := hL.1
  have hl := H_len hr hr2 hL (L - 1) (by omega)
  have p1 := Period_yes D r hr hD L hL f1
  have p2 := Least_yes D r hr hD L hL
  have q1 := rPeriod D r hr hD L hL
  have q2 := rLeast D r hr hD L hL
  have q3 := rUnit D r hr hD L hL
  have hpos := LXY_pos hr L
  have hlA := As_len D r L
  have w1 : IntKind.i64.wrap ((L : Int).tmod 2) = (L : Int).tmod 2 := wrap64 (by have := odd_int L; omega) (by have := odd_int L; omega)
  have n1 := rNorm D (LX D r L) (LY D r L) false false (by omega) (by omega) (by omega)
  rw [hX] at n1
  have o1 := rOf_spec 1 (by decide) (by decide)
  have om := rOf_spec (-1) (by decide) (by decide)
  rw [RM, show decide ((1 : Int) = 0) = false from rfl] at o1 n1
  rw [RM, show decide ((-1 : Int) = 0) = false from rfl] at om
  have s1 := rSame_spec false 1 false 1 (by have := dg_small (z := 1) (by decide); omega) (by have := dg_small (z := 1) (by decide); omega)
  have sm := rSame_spec false (-1) false (-1) (by have := dg_small (z := -1) (by decide); omega) (by have := dg_small (z := -1) (by decide); omega)
  have sX := rSame_spec false (LX D r L) (decide (LX D r L = 0)) (LX D r L) (by omega) (by omega)
  have sY := rSame_spec false (LY D r L) (decide (LY D r L = 0)) (LY D r L) (by omega) (by omega)
  rw [decide_eq_true rfl] at s1 sm sX sY
  simp only [RM] at q2
  refine denP_eq E3 rfl (by simp [AV.pureL, AV.pure, pure_wd]) ?_
  have hdX : (dg (H D r (L - 1)).1.1).length ≤ 4096 ∧ (dg (H D r (L - 1)).1.2).length ≤ 4096 := by omega
  have hpal : ∀ i, i + 1 < L → (As D r L)[L - 2 - i]? = some (.int .i64 (A D r (i + 1))) := fun i hi => by
    rw [As_get D r L (L - 2 - i) (by omega), palin hr hL (i := i + 1) (by omega) hi, show L - 2 - i + 1 = L - (i + 1) by omega]
  have hget := As_get D r L
  generalize decide (LX D r L = 0) = fx2 at *
  generalize decide (LY D r L = 0) = fy2 at *
  generalize LX D r L = X at *
  generalize LY D r L = Y at *
  simp (maxSteps := 4000000) only [go_sem, ↓reduceIte, Nat.reduceAdd, Nat.reduceSub, Nat.reduceMul, Nat.reduceEqDiff, reduceCtorEq, Int.reduceAdd, Int.reduceLT, Int.reduceLE, Int.reduceToNat, Int.reduceNeg, Int.reduceSub, ← List.map_take, ← List.map_drop, ne_eq, Nat.reduceLeDiff, Nat.reduceLT, Nat.zero_le, Nat.le_refl, wrap64, wrapu64, wrapu32, ← Int.natCast_add, ← Int.natCast_mul, cast_succ, wrapu32_nat, shr32, reps_wd, map_set_wd, List.length_set, zs_len, Try.f3, p1, p2, p3, f2, q1, hlA, Int.reduceEq, places, fillAll, reps, refP, elems]
  clear p1 p2 p3 f1 f2 q1
  refine W_loopS (fun k sl h nn => ∃ i : Nat, (∃ g : Nat → AV, sl = [.int .i64 D, g 1, g 2, .lst false (As D r L), g 4, .ptr 0 0, .ptr 1 0, .int .i64 0, .ptr 2 0, .ptr 3 0, .int .i64 ge, .lst false (As D r L), .int .i64 (i : Int), g 13, g 14, g 15, g 16, g 17, g 18, g 19, g 20, g 21, g 22, g 23, g 24, g 25, g 26, g 27, g 28, g 29, g 30, g 31, g 32, g 33, g 34, g 35, g 36, g 37, g 38, g 39, g 40, g 41, g 42, g 43, g 44, g 45, g 46, g 47, g 48, g 49, g 50, g 51, g 52, g 53, g 54, g 55, g 56, g 57, g 58, g 59, g 60, g 61, g 62, g 63, g 64, g 65, g 66, g 67, g 68, g 69, g 70, g 71, g 72, g 73, g 74, g 75, g 76, g 77, g 78, g 79, g 80, g 81, g 82, g 83, g 84, g 85, g 86, g 87, g 88, g 89, g 90, g 91, g 92, g 93, g 94, g 95, g 96, g 97, g 98, g 99, g 100, g 101, g 102, g 103, g 104, g 105, g 106, g 107, g 108, g 109, g 110, g 111, g 112, g 113, g 114, g 115, g 116, g 117, g 118, g 119, g 120, g 121, g 122, g 123, g 124, g 125, g 126, g 127, g 128, g 129, g 130, g 131, g 132, g 133, g 134, g 135, g 136, g 137, g 138, g 139, g 140, g 141, g 142, g 143, g 144, g 145, g 146, g 147, g 148, g 149, g 150, g 151, g 152, g 153, g 154, g 155, g 156, g 157, g 158, g 159, g 160, g 161, g 162, g 163, g 164, g 165, g 166, g 167, g 168, g 169, g 170, g 171]) ∧ nn = 4 ∧
    h 0 = some (drow false X) ∧ h 1 = some (drow false Y) ∧ h 2 = some (drow fu U) ∧ h 3 = some (drow fv V) ∧ i + k = L) L ⟨0, by refine garb ?_; rfl, rfl, ?_, ?_, ?_, ?_, by omega⟩ ?_
  · simp only [upd_apply, ↓reduceIte, Nat.reduceEqDiff, if_pos]
  · simp only [upd_apply, ↓reduceIte, Nat.reduceEqDiff, if_pos]
  · simp only [upd_apply, ↓reduceIte, Nat.reduceEqDiff, if_pos]
  · simp only [upd_apply, ↓reduceIte, Nat.reduceEqDiff, if_pos]
  rintro k _ h _ ⟨i, ⟨g, rfl⟩, rfl, e0, e1, e2, e3, hk⟩
  by_cases hk0 : k = 0
  · obtain rfl : i = L := by omega
    have z1 : ((i : Int) < (i : Int)) = False := eq_false (by omega)
    clear hget hpal
    have hod := odd_int i
    simp only [drow] at e0 e1 e2 e3
    rcases hend with ⟨a1, rfl, rfl, rfl, a5⟩ | ⟨a1, rfl, rfl, rfl⟩
    · have z5 : ((i : Int).tmod 2 = 0) = False := eq_false (by omega)
      have sU := rSame_spec fu (H D r (i - 1)).1.1 false (H D r (i - 1)).1.1 (by omega) (by omega)
      have sV := rSame_spec fv (H D r (i - 1)).1.2 false (H D r (i - 1)).1.2 (by omega) (by omega)
      rw [decide_eq_true rfl] at sU sV
      have n2 := rNorm D (H D r (i - 1)).1.1 (H D r (i - 1)).1.2 fu fv (by omega) (by omega) (by omega)
      rw [a5, RM, show decide ((-1 : Int) = 0) = false from rfl] at n2
      clear hl hdX a5 hod a1 hX lX lY hpos hrr hlo hp hlen hL
      generalize (H D r (i - 1)).1.1 = U at *
      generalize (H D r (i - 1)).1.2 = V at *
      simp (maxSteps := 4000000) only [go_sem, ↓reduceIte, Nat.reduceAdd, Nat.reduceSub, Nat.reduceMul, Nat.reduceEqDiff, reduceCtorEq, Int.reduceAdd, Int.reduceLT, Int.reduceLE, Int.reduceToNat, Int.reduceNeg, Int.reduceSub, ← List.map_take, ← List.map_drop, ne_eq, Nat.reduceLeDiff, Nat.reduceLT, Nat.zero_le, Nat.le_refl, wrap64, wrapu64, wrapu32, ← Int.natCast_add, ← Int.natCast_mul, cast_succ, wrapu32_nat, shr32, reps_wd, map_set_wd, List.length_set, zs_len, hlA, z1, q2, q3, e0, e1, e2, e3, sX, sY, n1, o1, s1, w1, z5, sU, sV, n2, om, sm, awake7, Int.reduceEq, places, fillAll]
    · have z5 : ((i : Int).tmod 2 = 0) = True := eq_true (by omega)
      have n2 := no_spec fu fv 0 0 6 6
      simp only [decide_true, Bool.and_true, I] at n2
      clear hl hdX hod a1 hX lX lY hpos hrr hlo hp hlen hL
      simp (maxSteps := 4000000) only [go_sem, ↓reduceIte, Nat.reduceAdd, Nat.reduceSub, Nat.reduceMul, Nat.reduceEqDiff, reduceCtorEq, Int.reduceAdd, Int.reduceLT, Int.reduceLE, Int.reduceToNat, Int.reduceNeg, Int.reduceSub, ← List.map_take, ← List.map_drop, ne_eq, Nat.reduceLeDiff, Nat.reduceLT, Nat.zero_le, Nat.le_refl, wrap64, wrapu64, wrapu32, ← Int.natCast_add, ← Int.natCast_mul, cast_succ, wrapu32_nat, shr32, reps_wd, map_set_wd, List.length_set, zs_len, hlA, z1, q2, q3, e0, e1, e2, e3, sX, sY, n1, o1, s1, w1, z5, n2, awake7, Int.reduceEq, places, fillAll]
  · have z1 : ((i : Int) < (L : Int)) = True := eq_true (by omega)
    have zi : ((0 : Int) ≤ (i : Int)) = True := eq_true (by omega)
    have hgi := hget i (by omega)
    have wa : IntKind.i64.wrap ((L : Int) - 1) = (L : Int) - 1 := wrap64 (by omega) (by omega)
    have wb : IntKind.i64.wrap ((L : Int) - 2) = (L : Int) - 2 := wrap64 (by omega) (by omega)
    have wi : IntKind.i64.wrap ((i + 1 : Nat) : Int) = ((i + 1 : Nat) : Int) := wrap64 (by omega) (by omega)
    by_cases hi : i + 1 < L
    · have z2 : ((i : Int) < (L : Int) - 1) = True := eq_true (by omega)
      have wc : IntKind.i64.wrap ((L : Int) - 2 - (i : Int)) = ((L - 2 - i : Nat) : Int) := by rw [wrap64 (by omega) (by omega)]; omega
      have zj : ((0 : Int) ≤ ((L - 2 - i : Nat) : Int)) = True := eq_true (by omega)
      have hgj := hpal i hi
      clear hget hpal
      generalize A D r (i + 1) = a at *
      generalize L - 2 - i = j at *
      simp (maxSteps := 4000000) only [go_sem, ↓reduceIte, Nat.reduceAdd, Nat.reduceSub, Nat.reduceMul, Nat.reduceEqDiff, reduceCtorEq, Int.reduceAdd, Int.reduceLT, Int.reduceLE, Int.reduceToNat, Int.reduceNeg, Int.reduceSub, ← List.map_take, ← List.map_drop, ne_eq, Nat.reduceLeDiff, Nat.reduceLT, Nat.zero_le, Nat.le_refl, wrap64, wrapu64, wrapu32, ← Int.natCast_add, ← Int.natCast_mul, cast_succ, wrapu32_nat, shr32, reps_wd, map_set_wd, List.length_set, zs_len, hlA, z1, places, fillAll]
      refine W_drawn ?_
      simp (maxSteps := 4000000) only [go_sem, ↓reduceIte, Nat.reduceAdd, Nat.reduceSub, Nat.reduceMul, Nat.reduceEqDiff, reduceCtorEq, Int.reduceAdd, Int.reduceLT, Int.reduceLE, Int.reduceToNat, Int.reduceNeg, Int.reduceSub, ← List.map_take, ← List.map_drop, ne_eq, Nat.reduceLeDiff, Nat.reduceLT, Nat.zero_le, Nat.le_refl, wrap64, wrapu64, wrapu32, ← Int.natCast_add, ← Int.natCast_mul, cast_succ, wrapu32_nat, shr32, reps_wd, map_set_wd, List.length_set, zs_len, hlA, z2, zi, zj, wa, wb, wc, wi, hgi, hgj, places, fillAll]
      refine ⟨by refine okR_pairs ?_; (repeat ((with_unfolding_all refine And.intro ?_ ?_); (focus (rw [free_mk] <;> (try simp) <;> (try omega))))); (with_unfolding_all exact True.intro), k - 1, by omega, i + 1, by refine garb ?_; rfl, e0, e1, e2, e3, by omega⟩
    · have z2 : ((i : Int) < (L : Int) - 1) = False := eq_false (by omega)
      clear hget hpal
      generalize A D r (i + 1) = a at *
      simp (maxSteps := 4000000) only [go_sem, ↓reduceIte, Nat.reduceAdd, Nat.reduceSub, Nat.reduceMul, Nat.reduceEqDiff, reduceCtorEq, Int.reduceAdd, Int.reduceLT, Int.reduceLE, Int.reduceToNat, Int.reduceNeg, Int.reduceSub, ← List.map_take, ← List.map_drop, ne_eq, Nat.reduceLeDiff, Nat.reduceLT, Nat.zero_le, Nat.le_refl, wrap64, wrapu64, wrapu32, ← Int.natCast_add, ← Int.natCast_mul, cast_succ, wrapu32_nat, shr32, reps_wd, map_set_wd, List.length_set, zs_len, hlA, z1, places, fillAll]
      refine W_drawn ?_
      simp (maxSteps := 4000000) only [go_sem, ↓reduceIte, Nat.reduceAdd, Nat.reduceSub, Nat.reduceMul, Nat.reduceEqDiff, reduceCtorEq, Int.reduceAdd, Int.reduceLT, Int.reduceLE, Int.reduceToNat, Int.reduceNeg, Int.reduceSub, ← List.map_take, ← List.map_drop, ne_eq, Nat.reduceLeDiff, Nat.reduceLT, Nat.zero_le, Nat.le_refl, wrap64, wrapu64, wrapu32, ← Int.natCast_add, ← Int.natCast_mul, cast_succ, wrapu32_nat, shr32, reps_wd, map_set_wd, List.length_set, zs_len, hlA, z2, zi, wa, wb, wi, hgi, places, fillAll]
      refine ⟨by refine okR_pairs ?_; (repeat ((with_unfolding_all refine And.intro ?_ ?_); (focus (rw [free_mk] <;> (try simp) <;> (try omega))))); (with_unfolding_all exact True.intro), k - 1, by omega, i + 1, by refine garb ?_; rfl, e0, e1, e2, e3, by omega⟩
theorem LXY_norm {D r : Int} (hr : Rt D r) {L : Nat} (hL : Per D r L) : LX D r L * LX D r L - D * (LY D r L * LY D r L) = 1 := by
  have h := unit_norm hr hL
  have hs := sgn_cases L
  unfold LX LY
  generalize (H D r (L - 1)).1.1 = x at *
  generalize (H D r (L - 1)).1.2 = y at *
  by_cases ho : L % 2 = 1
  · rw [if_pos ho, if_pos ho]
    have h1 : x * x - D * (y * y) = -1 := by
      rcases hs with ⟨h1, h2⟩ | ⟨h1, h2⟩
      · omega
      · rw [h, h2]
    have e : (x * x + D * (y * y)) * (x * x + D * (y * y)) - D * ((x * y + y * x) * (x * y + y * x)) = (x * x - D * (y * y)) * (x * x - D * (y * y)) := by grind
    rw [e, h1]
    rfl
  · rw [if_neg ho, if_neg ho, h]
    rcases hs with ⟨h1, h2⟩ | ⟨h1, h2⟩
    · exact h2
    · omega
theorem LXY_len {D r : Int} (hr : Rt D r) (hD : D ≤ 1000000) {L : Nat} (hL : Per D r L) : (dg (LX D r L)).length ≤ 3300 ∧ (dg (LY D r L)).length ≤ 3300 := by
  have hr2 := (A_small hr hD 0).1
  have hl := H_len hr hr2 hL (L - 1) (by omega)
  have hp := hr.pos
  have hlo := hr.lo
  have hrr : 1 ≤ r * r := Int.mul_le_mul (a := 1) (b := 1) (c := r) (d := r) hp hp (by omega) (by omega)
  unfold LX LY
  generalize (H D r (L - 1)).1.1 = x at *
  generalize (H D r (L - 1)).1.2 = y at *
  have a1 := dg_mul x x
  have a2 := dg_mul y y
  have a3 := dg_mul D (y * y)
  have a4 := dg_add (x * x) (D * (y * y))
  have a5 := dg_mul x y
  have a6 := dg_mul y x
  have a7 := dg_add (x * y) (y * x)
  have lD := dg_small (z := D) (by omega)
  split <;> omega
theorem periods_all (D : Int) : denP E 3 [.int .i64 D] = some (.ret (.bool true)) := by
  rcases fits_cases D with ⟨f1, f2⟩ | ⟨hD, r, L, hr, hL, f1, f2⟩
  · exact periods_no D f1 f2
  · have hl := LXY_len hr hD hL
    by_cases ho : L % 2 = 1
    · refine periods_walk D r hr hD L hL f1 f2 _ _ _ _ _ (Minus_odd D r hr hD L hL ho) (.inl ⟨ho, rfl, rfl, rfl, ?_⟩) (LXY_norm hr hL) (by omega) (by omega)
      rw [unit_norm hr hL]
      rcases sgn_cases L with ⟨h1, h2⟩ | ⟨h1, h2⟩
      · omega
      · exact h2
    · exact periods_walk D r hr hD L hL f1 f2 _ _ _ _ _ (Minus_even D r hr hD L hL (by omega)) (.inr ⟨by omega, rfl, rfl, rfl⟩) (LXY_norm hr hL) (by omega) (by omega)
theorem pellPeriods_pure : pellPeriods.Pure := by
  intro xs h
  simp only [FitArgs, opn_eq, T1, T2, T3, T4, T5, T6, T9, T10, T11, T12, T15, T16, T17, T20, T21, T22, T23, T25, T26, T27, T28, T30, T31, T32, T33, T34, T36, T37, T38, T39, T40, T41, T43, T44, T46, T47, T48, T49, T50, T51, T52, T53, T54, T55, T56, T57, T58, T59, T60, T61, T62, T63, T64, T65, T67, T68, T69, T70, T71, T72, T73, T74, T75, T76, T77, T78, T80, T81, T83, T84, T86, T87, T88, T89, T90, T91, T93, T94, T95, T96, T98, T99, T100, T101, T103, T105, T106, T107, T108, T109, T110, T111, T112, T113, T114, T117, T120, T121, T122, T123, T124, T125, T126, elm] at h
  obtain ⟨c1, x1, y1, rfl, ⟨rfl, h1⟩, rfl⟩ := h
  obtain ⟨n, hn1, hn2, rfl⟩ := fit_int8 (m := 5) h1
  exact periods_all n
theorem pellPeriods_holds : Rows.PellPeriodsSaid := pellPeriods.over pellPeriods_pure
#print axioms pellPeriods_holds
end Go.Proofs.Ytiglncbaomoceaa
