/- Part 6 of a proof about this seat: RLucasNear, LNear. (Own work of this repo.) -/
import Derived.Test.YtmgmcnoobgljpaaZLucasTells5
import Derived.WalkKit
import Derived.ProofKit
import Derived.OpenShut
import Derived.ShutString
import Derived.ChangeOld
import Derived.Below
import Derived.SizedLaws
set_option linter.unusedVariables false
set_option linter.unusedSimpArgs false
/- The row of LucasNear, out of what the machine over pure values says. (Own work of this repo.) -/
namespace Go.Proofs.Ytmgmcnoobgljpaa
namespace lucasNear
open Go.ChangeShapes Go.WideShapes Go.ChangeAt Go.RowKit
def Pure : Prop := ∀ xs, Vm.FitArgs E [24, 24, 5] xs → Vm.denP E 7 xs = some (.ret (.bool true))
theorem own : ownKnob Try.prog.godebug = none := by kernel_rfl
set_option maxRecDepth 100000 in
theorem lifted (hP : Pure) (os : Os) (started : os.Started) (H : Type) (enc : TypeId × Value → H) :
    ReturnsInHanded {} Try.checked os 7 .any (Rows.lucasNearSpec.pre6 enc Try.prog Try.f7 Rows.lucasNearRow.domain false) (Rows.lucasNearSpec.post enc Try.prog Try.f7 false true false false) := by
  refine returnsInHanded_of_change_sized (C := Try.checked) own started (by kernel_rfl) Try.func7
    (ChangeSpec.witness6 (enc := enc) (C := Try.checked) false ⟨#[], #[(.agg #[.bool false, .slice none 0 0]), (.agg #[.bool false, .slice none 0 0]), (.int .u8 0)], []⟩ 8 (by kernel_rfl) (by kernel_rfl) (by kernel_rfl) (by kernel_rfl)) ?_
  intro W base args ds gs before hval0 hW hcnd hsz0 _
  have hval : ∀ (j : Nat) t v, Try.f7.params[j]? = some t → args[j]? = some v → Value.okWide Try.prog W .any base t v := hval0
  have hW' := hW
  obtain ⟨p, q, hA0, hV, rfl, hfz, hnd⟩ := hW
  have hA : DataW.TrodAll enc Try.prog W 0 (fun _ => true) true Try.f7.params.toList args.toList ds p := hA0
  have hpar : Try.f7.params.toList = [24, 24, 5] := by rw [Try.params7]
  rw [hpar] at hA
  obtain ⟨xs, hfit, hrep, hpure, hst⟩ := Vm.open_args eok.toEOk (by kernel_rfl) _ _ _ _ (by kernel_rfl) hA (fun j t v ht hv => ⟨_, _, hval j t v (by rw [← Array.getElem?_toList, hpar]; exact ht) (by rw [← Array.getElem?_toList]; exact hv)⟩)
  have hlen := Vm.trodAll_len hA
  obtain ⟨rfl, rfl⟩ := trodVars_none hV
  clear hA0 hval0 hsz0 hval hA hcnd
  match ds, hlen, hst, hW' with
  | [d0, d1, d2], _, hst, hW =>
    refine (Vm.denP_calls eok (hP xs hfit) W args hrep hpure).mono fun e W' ⟨bel, v, he, hv⟩ => ?_
    subst he
    obtain rfl := Vm.rep_bool hv
    exact ⟨_, rfl, _, _, _, [], _, [], hW, trodAll_mk1 (shut_bool Try.underlying4 _), (by rw [hpar]; exact hst W' bel), rfl, bel.frame _, fun h => by cases h⟩
theorem over (hP : Pure) : Rows.lucasNearRow.holds Try.pinned (OpenSpec.ofChange Rows.lucasNearSpec) :=
  OpenClaim.holds_of_wide 7 Try.f7 rfl rfl rfl rfl rfl rfl rfl ⟨rfl, rfl, rfl, rfl, rfl⟩ rfl rfl rfl rfl rfl (by kernel_rfl) Try.func7 (by kernel_rfl)
    (of_decide_eq_true (by kernel_rfl)) (by unfold Func.isWrapper; first | (rw [if_pos (by decide +kernel)]; kernel_rfl) | (rw [if_neg (by decide +kernel)]; exact ⟨rfl, rfl⟩))
    (fun os started H enc _ => lifted hP os started H enc)
end lucasNear

end Go.Proofs.Ytmgmcnoobgljpaa

/- The law LucasNear. (Own work of this repo.) -/
namespace Go.Proofs.Ytmgmcnoobgljpaa
open Vm Luc
set_option maxRecDepth 10000

theorem bl_lim {z : Int} {j : Nat} (h : (dg z).length ≤ j) : bl z.natAbs ≤ 32 * j := by
  refine bl_le.2 (Nat.lt_of_lt_of_le (dg_len.1 h) (Nat.le_of_eq ?_))
  rw [show BB = 2 ^ 32 from rfl, ← Nat.pow_mul]
theorem far_no {z : Int} (h : (dg z).length ≤ 9) {k : Nat} (hk : k ≤ 61) : powFar z k = false := by
  have h0 : bl z.natAbs ≤ 32 * 9 := bl_lim h
  unfold powFar
  by_cases h1 : 1 < bl z.natAbs
  · have h2 : 61 ≤ 262144 / (bl z.natAbs - 1) := (Nat.le_div_iff_mul_le (by omega)).2 (by omega)
    rw [decide_eq_false (show ¬ 262144 / (bl z.natAbs - 1) < k by omega), Bool.and_false]
  · rw [decide_eq_false h1]; rfl
set_option maxHeartbeats 4000000 in
theorem near_ge (q r : Raw) (A B : Int) (fA fB : Bool) (hB : 2 ≤ B) (hAB : B ≤ A) (lA : (dg A).length ≤ 7) (lB : (dg B).length ≤ 7) (s1 : denP E 27 [ivr q] = some (.ret (I fA A))) (s2 : denP E 27 [ivr r] = some (.ret (I fB B)))
    (hc : (cmpI A B < 0) = False) (n : Nat) (hn : n < 256) : denP E 7 [ivr q, ivr r, .int .u8 n] = some (.ret (.bool true)) := by
  refine denP_eq E7 rfl (by simp [AV.pureL, AV.pure, pure_wd]) ?_
  have hA : 2 ≤ A := by omega
  have c0 := rCmp_spec fA A fB B (by omega) (by omega)
  obtain ⟨k, hk⟩ : ∃ k, k = n % 61 := ⟨_, rfl⟩
  have e1 : (n : Int).tmod 61 = (k : Int) := by rw [Int.tmod_eq_emod_of_nonneg (by omega)]; omega
  have w1 : IntKind.i64.wrap (n : Int) = (n : Int) := wrap64 (by omega) (by omega)
  have w2 : IntKind.i64.wrap ((k + 1 : Nat) : Int) = ((k + 1 : Nat) : Int) := wrap64 (by omega) (by omega)
  obtain ⟨⟨f1, f2⟩, b1, _⟩ := both_spec A fA hA lA k (by omega)
  obtain ⟨⟨f3, f4⟩, b2, _⟩ := both_spec B fB hB lB k (by omega)
  obtain ⟨⟨f5, f6⟩, b3, _⟩ := both_spec A fA hA lA (k + 1) (by omega)
  dsimp only at b1 b2 b3
  have r1 := rOf_spec 1 (by decide) (by decide)
  rw [RM, show decide ((1 : Int) = 0) = false from rfl] at r1
  have rk := rOf_spec (k : Int) (by omega) (by omega)
  have l1 := dg_small (z := 1) (by decide)
  have lk := dg_small (z := (k : Int)) (by omega)
  have x1 := chi_len hA lA k
  have x2 := psi_len hA lA k
  have x3 := chi_len hB lB k
  have x4 := psi_len hB lB k
  have x5 := psi_len hA lA (k + 1)
  have n1 := (near (a := A) B k).1
  have n2 := (near (a := A) B k).2
  have n3 := psi_mod (a := A) k
  have n4 := psi_low (a := A) (by omega) k
  have n5 := psi_high (a := A) (by omega) k
  have y1 := dg_add A A
  have y2 := dg_sub (A + A) 1
  obtain ⟨f7, p1, _⟩ := rPower_spec (decide (A + A - 1 = 0)) (A + A - 1) k (by omega) (by omega) (far_no (by omega) (by omega))
  obtain ⟨f8, p2, _⟩ := rPower_spec (decide (A + A = 0)) (A + A) k (by omega) (by omega) (far_no (by omega) (by omega))
  rw [show 2 * A - 1 = A + A - 1 by omega] at n4
  rw [Int.two_mul] at n5
  have hlow : 0 ≤ (A + A - 1) ^ k := Int.pow_nonneg (by omega)
  have lhi : (dg ((A + A) ^ k)).length ≤ 2000 := by
    have h1 : ∀ j : Nat, (dg ((A + A) ^ j)).length ≤ 9 * j + 2 := fun j => by
      induction j with
      | zero => rw [Int.pow_zero]; exact l1
      | succ j ih => rw [Int.pow_succ]; have := dg_mul ((A + A) ^ j) (A + A); omega
    have := h1 k
    omega
  generalize (A + A - 1) ^ k = lo at *
  generalize (A + A) ^ k = hi at *
  generalize chi A k = x at *
  generalize psi A k = y at *
  generalize chi B k = u at *
  generalize psi B k = v at *
  generalize chi A (k + 1) = z0 at *
  generalize psi A (k + 1) = z at *
  have y3 := dg_sub A B
  have y4 := dg_sub x u
  have y5 := dg_sub y v
  have y6 := dg_sub A 1
  have y7 := dg_sub y (k : Int)
  have y8 := dg_mono (a := lo) (b := z) (by omega)
  have m1 := rSub_spec fA A fB B (by omega) (by omega)
  have m2 := rSub_spec f1 x f3 u (by omega) (by omega)
  have m3 := rDivides_spec (decide (A - B = 0)) (A - B) (decide (x - u = 0)) (x - u) (by omega) (by omega)
  rw [decide_eq_true n1] at m3
  have m4 := rSub_spec f2 y f4 v (by omega) (by omega)
  have m5 := rDivides_spec (decide (A - B = 0)) (A - B) (decide (y - v = 0)) (y - v) (by omega) (by omega)
  rw [decide_eq_true n2] at m5
  have m6 := rSub_spec fA A false 1 (by omega) (by omega)
  have m7 := rSub_spec f2 y (decide ((k : Int) = 0)) (k : Int) (by omega) (by omega)
  have m8 := rDivides_spec (decide (A - 1 = 0)) (A - 1) (decide (y - (k : Int) = 0)) (y - (k : Int)) (by omega) (by omega)
  rw [decide_eq_true n3] at m8
  have m9 := rAdd_spec fA A fA A (by omega) (by omega)
  have m10 := rSub_spec (decide (A + A = 0)) (A + A) false 1 (by omega) (by omega)
  have m11 := rCmp_spec f7 lo f6 z (by omega) (by omega)
  have m12 := rCmp_spec f6 z f8 hi (by omega) (by omega)
  have c1 : (cmpI lo z ≤ 0) = True := eq_true (by unfold cmpI; split <;> (try split) <;> omega)
  have c2 : (cmpI z hi ≤ 0) = True := eq_true (by unfold cmpI; split <;> (try split) <;> omega)
  clear y1 y2 y3 y4 y5 y6 y7 y8 n1 n2 n3 n4 n5 x1 x2 x3 x4 x5 hA hB hAB lA lB hlow lhi
  simp only [RM] at m1 m2 m4 m6 m7 m9 m10 rk
  generalize decide (A - B = 0) = d1 at *
  generalize decide (x - u = 0) = d2 at *
  generalize decide (y - v = 0) = d3 at *
  generalize decide (A - 1 = 0) = d4 at *
  generalize decide (y - (k : Int) = 0) = d5 at *
  generalize decide (A + A - 1 = 0) = d6 at *
  generalize decide (A + A = 0) = d7 at *
  generalize decide ((k : Int) = 0) = d8 at *
  generalize cmpI lo z = cc1 at *
  generalize cmpI z hi = cc2 at *
  generalize cmpI A B = cc0 at *
  generalize A - B = v1 at *
  generalize x - u = v2 at *
  generalize y - v = v3 at *
  generalize A - 1 = v4 at *
  generalize y - (k : Int) = v5 at *
  generalize A + A - 1 = v6 at *
  generalize A + A = v7 at *
  simp only [ivr, iv] at s1 s2 ⊢
  simp (maxSteps := 4000000) only [go_sem, ↓reduceIte, Nat.reduceAdd, Nat.reduceSub, Nat.reduceMul, Nat.reduceEqDiff, reduceCtorEq, Int.reduceAdd, Int.reduceLT, Int.reduceLE, Int.reduceToNat, Int.reduceNeg, Int.reduceSub, ← List.map_take, ← List.map_drop, ne_eq, Nat.reduceLeDiff, Nat.reduceLT, Nat.zero_le, Nat.le_refl, wrap64, wrapu64, wrapu32, ← Int.natCast_add, ← Int.natCast_mul, cast_succ, wrapu32_nat, shr32, reps_wd, map_set_wd, List.length_set, zs_len, Try.f7]
  refine W_drawn ?_
  simp (maxSteps := 4000000) only [go_sem, ↓reduceIte, Nat.reduceAdd, Nat.reduceSub, Nat.reduceMul, Nat.reduceEqDiff, reduceCtorEq, Int.reduceAdd, Int.reduceLT, Int.reduceLE, Int.reduceToNat, Int.reduceNeg, Int.reduceSub, ← List.map_take, ← List.map_drop, ne_eq, Nat.reduceLeDiff, Nat.reduceLT, Nat.zero_le, Nat.le_refl, wrap64, wrapu64, wrapu32, ← Int.natCast_add, ← Int.natCast_mul, cast_succ, wrapu32_nat, shr32, reps_wd, map_set_wd, List.length_set, zs_len, s1, s2]
  refine ⟨by refine okR_pairs ?_; (repeat ((with_unfolding_all refine And.intro ?_ ?_); (focus (rw [free_mk] <;> (try simp) <;> (try omega))))); (with_unfolding_all exact True.intro), ?_⟩
  simp (maxSteps := 4000000) only [go_sem, ↓reduceIte, Nat.reduceAdd, Nat.reduceSub, Nat.reduceMul, Nat.reduceEqDiff, reduceCtorEq, Int.reduceAdd, Int.reduceLT, Int.reduceLE, Int.reduceToNat, Int.reduceNeg, Int.reduceSub, ← List.map_take, ← List.map_drop, ne_eq, Nat.reduceLeDiff, Nat.reduceLT, Nat.zero_le, Nat.le_refl, wrap64, wrapu64, wrapu32, ← Int.natCast_add, ← Int.natCast_mul, cast_succ, wrapu32_nat, shr32, reps_wd, map_set_wd, List.length_set, zs_len, c0, hc, w1, e1, w2, b1, b2, b3, Int.reduceEq, m1]
  refine W_drawn ?_
  simp (maxSteps := 4000000) only [go_sem, ↓reduceIte, Nat.reduceAdd, Nat.reduceSub, Nat.reduceMul, Nat.reduceEqDiff, reduceCtorEq, Int.reduceAdd, Int.reduceLT, Int.reduceLE, Int.reduceToNat, Int.reduceNeg, Int.reduceSub, ← List.map_take, ← List.map_drop, ne_eq, Nat.reduceLeDiff, Nat.reduceLT, Nat.zero_le, Nat.le_refl, wrap64, wrapu64, wrapu32, ← Int.natCast_add, ← Int.natCast_mul, cast_succ, wrapu32_nat, shr32, reps_wd, map_set_wd, List.length_set, zs_len, m2, m3, m4, m5, m6, m7, m8, r1, rk]
  refine ⟨by refine okR_pairs ?_; (repeat ((with_unfolding_all refine And.intro ?_ ?_); (focus (rw [free_mk] <;> (try simp) <;> (try omega))))); (with_unfolding_all exact True.intro), ?_⟩
  simp (maxSteps := 4000000) only [go_sem, ↓reduceIte, Nat.reduceAdd, Nat.reduceSub, Nat.reduceMul, Nat.reduceEqDiff, reduceCtorEq, Int.reduceAdd, Int.reduceLT, Int.reduceLE, Int.reduceToNat, Int.reduceNeg, Int.reduceSub, ← List.map_take, ← List.map_drop, ne_eq, Nat.reduceLeDiff, Nat.reduceLT, Nat.zero_le, Nat.le_refl, wrap64, wrapu64, wrapu32, ← Int.natCast_add, ← Int.natCast_mul, cast_succ, wrapu32_nat, shr32, reps_wd, map_set_wd, List.length_set, zs_len, m9]
  refine W_drawn ?_
  simp (maxSteps := 4000000) only [go_sem, ↓reduceIte, Nat.reduceAdd, Nat.reduceSub, Nat.reduceMul, Nat.reduceEqDiff, reduceCtorEq, Int.reduceAdd, Int.reduceLT, Int.reduceLE, Int.reduceToNat, Int.reduceNeg, Int.reduceSub, ← List.map_take, ← List.map_drop, ne_eq, Nat.reduceLeDiff, Nat.reduceLT, Nat.zero_le, Nat.le_refl, wrap64, wrapu64, wrapu32, ← Int.natCast_add, ← Int.natCast_mul, cast_succ, wrapu32_nat, shr32, reps_wd, map_set_wd, List.length_set, zs_len, r1, m10, p1]
  refine ⟨by refine okR_pairs ?_; (repeat ((with_unfolding_all refine And.intro ?_ ?_); (focus (rw [free_mk] <;> (try simp) <;> (try omega))))); (with_unfolding_all exact True.intro), ?_⟩
  simp (maxSteps := 4000000) only [go_sem, ↓reduceIte, Nat.reduceAdd, Nat.reduceSub, Nat.reduceMul, Nat.reduceEqDiff, reduceCtorEq, Int.reduceAdd, Int.reduceLT, Int.reduceLE, Int.reduceToNat, Int.reduceNeg, Int.reduceSub, ← List.map_take, ← List.map_drop, ne_eq, Nat.reduceLeDiff, Nat.reduceLT, Nat.zero_le, Nat.le_refl, wrap64, wrapu64, wrapu32, ← Int.natCast_add, ← Int.natCast_mul, cast_succ, wrapu32_nat, shr32, reps_wd, map_set_wd, List.length_set, zs_len, p2, m11, c1, m12, c2, awake8]
set_option maxHeartbeats 4000000 in
theorem near_lt (q r : Raw) (A B : Int) (fA fB : Bool) (hB : 2 ≤ B) (hAB : B ≤ A) (lA : (dg A).length ≤ 7) (lB : (dg B).length ≤ 7) (s1 : denP E 27 [ivr q] = some (.ret (I fB B))) (s2 : denP E 27 [ivr r] = some (.ret (I fA A)))
    (hc : (cmpI B A < 0) = True) (n : Nat) (hn : n < 256) : denP E 7 [ivr q, ivr r, .int .u8 n] = some (.ret (.bool true)) := by
  refine denP_eq E7 rfl (by simp [AV.pureL, AV.pure, pure_wd]) ?_
  have hA : 2 ≤ A := by omega
  have c0 := rCmp_spec fB B fA A (by omega) (by omega)
  obtain ⟨k, hk⟩ : ∃ k, k = n % 61 := ⟨_, rfl⟩
  have e1 : (n : Int).tmod 61 = (k : Int) := by rw [Int.tmod_eq_emod_of_nonneg (by omega)]; omega
  have w1 : IntKind.i64.wrap (n : Int) = (n : Int) := wrap64 (by omega) (by omega)
  have w2 : IntKind.i64.wrap ((k + 1 : Nat) : Int) = ((k + 1 : Nat) : Int) := wrap64 (by omega) (by omega)
  obtain ⟨⟨f1, f2⟩, b1, _⟩ := both_spec A fA hA lA k (by omega)
  obtain ⟨⟨f3, f4⟩, b2, _⟩ := both_spec B fB hB lB k (by omega)
  obtain ⟨⟨f5, f6⟩, b3, _⟩ := both_spec A fA hA lA (k + 1) (by omega)
  dsimp only at b1 b2 b3
  have r1 := rOf_spec 1 (by decide) (by decide)
  rw [RM, show decide ((1 : Int) = 0) = false from rfl] at r1
  have rk := rOf_spec (k : Int) (by omega) (by omega)
  have l1 := dg_small (z := 1) (by decide)
  have lk := dg_small (z := (k : Int)) (by omega)
  have x1 := chi_len hA lA k
  have x2 := psi_len hA lA k
  have x3 := chi_len hB lB k
  have x4 := psi_len hB lB k
  have x5 := psi_len hA lA (k + 1)
  have n1 := (near (a := A) B k).1
  have n2 := (near (a := A) B k).2
  have n3 := psi_mod (a := A) k
  have n4 := psi_low (a := A) (by omega) k
  have n5 := psi_high (a := A) (by omega) k
  have y1 := dg_add A A
  have y2 := dg_sub (A + A) 1
  obtain ⟨f7, p1, _⟩ := rPower_spec (decide (A + A - 1 = 0)) (A + A - 1) k (by omega) (by omega) (far_no (by omega) (by omega))
  obtain ⟨f8, p2, _⟩ := rPower_spec (decide (A + A = 0)) (A + A) k (by omega) (by omega) (far_no (by omega) (by omega))
  rw [show 2 * A - 1 = A + A - 1 by omega] at n4
  rw [Int.two_mul] at n5
  have hlow : 0 ≤ (A + A - 1) ^ k := Int.pow_nonneg (by omega)
  have lhi : (dg ((A + A) ^ k)).length ≤ 2000 := by
    have h1 : ∀ j : Nat, (dg ((A + A) ^ j)).length ≤ 9 * j + 2 := fun j => by
      induction j with
      | zero => rw [Int.pow_zero]; exact l1
      | succ j ih => rw [Int.pow_succ]; have := dg_mul ((A + A) ^ j) (A + A); omega
    have := h1 k
    omega
  generalize (A + A - 1) ^ k = lo at *
  generalize (A + A) ^ k = hi at *
  generalize chi A k = x at *
  generalize psi A k = y at *
  generalize chi B k = u at *
  generalize psi B k = v at *
  generalize chi A (k + 1) = z0 at *
  generalize psi A (k + 1) = z at *
  have y3 := dg_sub A B
  have y4 := dg_sub x u
  have y5 := dg_sub y v
  have y6 := dg_sub A 1
  have y7 := dg_sub y (k : Int)
  have y8 := dg_mono (a := lo) (b := z) (by omega)
  have m1 := rSub_spec fA A fB B (by omega) (by omega)
  have m2 := rSub_spec f1 x f3 u (by omega) (by omega)
  have m3 := rDivides_spec (decide (A - B = 0)) (A - B) (decide (x - u = 0)) (x - u) (by omega) (by omega)
  rw [decide_eq_true n1] at m3
  have m4 := rSub_spec f2 y f4 v (by omega) (by omega)
  have m5 := rDivides_spec (decide (A - B = 0)) (A - B) (decide (y - v = 0)) (y - v) (by omega) (by omega)
  rw [decide_eq_true n2] at m5
  have m6 := rSub_spec fA A false 1 (by omega) (by omega)
  have m7 := rSub_spec f2 y (decide ((k : Int) = 0)) (k : Int) (by omega) (by omega)
  have m8 := rDivides_spec (decide (A - 1 = 0)) (A - 1) (decide (y - (k : Int) = 0)) (y - (k : Int)) (by omega) (by omega)
  rw [decide_eq_true n3] at m8
  have m9 := rAdd_spec fA A fA A (by omega) (by omega)
  have m10 := rSub_spec (decide (A + A = 0)) (A + A) false 1 (by omega) (by omega)
  have m11 := rCmp_spec f7 lo f6 z (by omega) (by omega)
  have m12 := rCmp_spec f6 z f8 hi (by omega) (by omega)
  have c1 : (cmpI lo z ≤ 0) = True := eq_true (by unfold cmpI; split <;> (try split) <;> omega)
  have c2 : (cmpI z hi ≤ 0) = True := eq_true (by unfold cmpI; split <;> (try split) <;> omega)
  clear y1 y2 y3 y4 y5 y6 y7 y8 n1 n2 n3 n4 n5 x1 x2 x3 x4 x5 hA hB hAB lA lB hlow lhi
  simp only [RM] at m1 m2 m4 m6 m7 m9 m10 rk
  generalize decide (A - B = 0) = d1 at *
  generalize decide (x - u = 0) = d2 at *
  generalize decide (y - v = 0) = d3 at *
  generalize decide (A - 1 = 0) = d4 at *
  generalize decide (y - (k : Int) = 0) = d5 at *
  generalize decide (A + A - 1 = 0) = d6 at *
  generalize decide (A + A = 0) = d7 at *
  generalize decide ((k : Int) = 0) = d8 at *
  generalize cmpI lo z = cc1 at *
  generalize cmpI z hi = cc2 at *
  generalize cmpI B A = cc0 at *
  generalize A - B = v1 at *
  generalize x - u = v2 at *
  generalize y - v = v3 at *
  generalize A - 1 = v4 at *
  generalize y - (k : Int) = v5 at *
  generalize A + A - 1 = v6 at *
  generalize A + A = v7 at *
  simp only [ivr, iv] at s1 s2 ⊢
  simp (maxSteps := 4000000) only [go_sem, ↓reduceIte, Nat.reduceAdd, Nat.reduceSub, Nat.reduceMul, Nat.reduceEqDiff, reduceCtorEq, Int.reduceAdd, Int.reduceLT, Int.reduceLE, Int.reduceToNat, Int.reduceNeg, Int.reduceSub, ← List.map_take, ← List.map_drop, ne_eq, Nat.reduceLeDiff, Nat.reduceLT, Nat.zero_le, Nat.le_refl, wrap64, wrapu64, wrapu32, ← Int.natCast_add, ← Int.natCast_mul, cast_succ, wrapu32_nat, shr32, reps_wd, map_set_wd, List.length_set, zs_len, Try.f7]
  refine W_drawn ?_
  simp (maxSteps := 4000000) only [go_sem, ↓reduceIte, Nat.reduceAdd, Nat.reduceSub, Nat.reduceMul, Nat.reduceEqDiff, reduceCtorEq, Int.reduceAdd, Int.reduceLT, Int.reduceLE, Int.reduceToNat, Int.reduceNeg, Int.reduceSub, ← List.map_take, ← List.map_drop, ne_eq, Nat.reduceLeDiff, Nat.reduceLT, Nat.zero_le, Nat.le_refl, wrap64, wrapu64, wrapu32, ← Int.natCast_add, ← Int.natCast_mul, cast_succ, wrapu32_nat, shr32, reps_wd, map_set_wd, List.length_set, zs_len, s1, s2]
  refine ⟨by refine okR_pairs ?_; (repeat ((with_unfolding_all refine And.intro ?_ ?_); (focus (rw [free_mk] <;> (try simp) <;> (try omega))))); (with_unfolding_all exact True.intro), ?_⟩
  simp (maxSteps := 4000000) only [go_sem, ↓reduceIte, Nat.reduceAdd, Nat.reduceSub, Nat.reduceMul, Nat.reduceEqDiff, reduceCtorEq, Int.reduceAdd, Int.reduceLT, Int.reduceLE, Int.reduceToNat, Int.reduceNeg, Int.reduceSub, ← List.map_take, ← List.map_drop, ne_eq, Nat.reduceLeDiff, Nat.reduceLT, Nat.zero_le, Nat.le_refl, wrap64, wrapu64, wrapu32, ← Int.natCast_add, ← Int.natCast_mul, cast_succ, wrapu32_nat, shr32, reps_wd, map_set_wd, List.length_set, zs_len, c0, hc, w1, e1, w2, b1, b2, b3, Int.reduceEq, m1]
  refine W_drawn ?_
  simp (maxSteps := 4000000) only [go_sem, ↓reduceIte, Nat.reduceAdd, Nat.reduceSub, Nat.reduceMul, Nat.reduceEqDiff, reduceCtorEq, Int.reduceAdd, Int.reduceLT, Int.reduceLE, Int.reduceToNat, Int.reduceNeg, Int.reduceSub, ← List.map_take, ← List.map_drop, ne_eq, Nat.reduceLeDiff, Nat.reduceLT, Nat.zero_le, Nat.le_refl, wrap64, wrapu64, wrapu32, ← Int.natCast_add, ← Int.natCast_mul, cast_succ, wrapu32_nat, shr32, reps_wd, map_set_wd, List.length_set, zs_len, m2, m3, m4, m5, m6, m7, m8, r1, rk]
  refine ⟨by refine okR_pairs ?_; (repeat ((with_unfolding_all refine And.intro ?_ ?_); (focus (rw [free_mk] <;> (try simp) <;> (try omega))))); (with_unfolding_all exact True.intro), ?_⟩
  simp (maxSteps := 4000000) only [go_sem, ↓reduceIte, Nat.reduceAdd, Nat.reduceSub, Nat.reduceMul, Nat.reduceEqDiff, reduceCtorEq, Int.reduceAdd, Int.reduceLT, Int.reduceLE, Int.reduceToNat, Int.reduceNeg, Int.reduceSub, ← List.map_take, ← List.map_drop, ne_eq, Nat.reduceLeDiff, Nat.reduceLT, Nat.zero_le, Nat.le_refl, wrap64, wrapu64, wrapu32, ← Int.natCast_add, ← Int.natCast_mul, cast_succ, wrapu32_nat, shr32, reps_wd, map_set_wd, List.length_set, zs_len, m9]
  refine W_drawn ?_
  simp (maxSteps := 4000000) only [go_sem, ↓reduceIte, Nat.reduceAdd, Nat.reduceSub, Nat.reduceMul, Nat.reduceEqDiff, reduceCtorEq, Int.reduceAdd, Int.reduceLT, Int.reduceLE, Int.reduceToNat, Int.reduceNeg, Int.reduceSub, ← List.map_take, ← List.map_drop, ne_eq, Nat.reduceLeDiff, Nat.reduceLT, Nat.zero_le, Nat.le_refl, wrap64, wrapu64, wrapu32, ← Int.natCast_add, ← Int.natCast_mul, cast_succ, wrapu32_nat, shr32, reps_wd, map_set_wd, List.length_set, zs_len, r1, m10, p1]
  refine ⟨by refine okR_pairs ?_; (repeat ((with_unfolding_all refine And.intro ?_ ?_); (focus (rw [free_mk] <;> (try simp) <;> (try omega))))); (with_unfolding_all exact True.intro), ?_⟩
  simp (maxSteps := 4000000) only [go_sem, ↓reduceIte, Nat.reduceAdd, Nat.reduceSub, Nat.reduceMul, Nat.reduceEqDiff, reduceCtorEq, Int.reduceAdd, Int.reduceLT, Int.reduceLE, Int.reduceToNat, Int.reduceNeg, Int.reduceSub, ← List.map_take, ← List.map_drop, ne_eq, Nat.reduceLeDiff, Nat.reduceLT, Nat.zero_le, Nat.le_refl, wrap64, wrapu64, wrapu32, ← Int.natCast_add, ← Int.natCast_mul, cast_succ, wrapu32_nat, shr32, reps_wd, map_set_wd, List.length_set, zs_len, p2, m11, c1, m12, c2, awake8]
theorem lucasNear_pure : lucasNear.Pure := by
  intro xs h
  simp only [FitArgs, opn_eq, T1, T2, T3, T4, T5, T6, T7, T8, T9, T10, T11, T12, T13, T14, T15, T16, T17, T18, T19, T20, T21, T22, T23, T24, T25, T26, T27, T29, T30, T31, T33, T34, T35, T37, T38, T39, T40, T42, T43, T44, T45, T46, T47, T48, T50, T51, T53, T55, T56, T57, T58, T59, T60, T61, T62, T63, T64, T65, T66, T67, T68, T69, T70, T71, T72, T73, T74, T75, T76, T77, T78, T79, T80, T81, T82, T83, T84, T85, T86, T87, T88, T89, T90, T92, T94, T95, T96, T97, T98, T99, T100, T101, T102, T104, T105, T106, T107, T108, T109, T111, T112, T113, T115, T116, T117, T118, T119, T120, T121, T122, T123, T124, T125, T126, T127, T128, T129, T130, T131, T132, T133, elm] at h
  obtain ⟨c1, x1, y1, rfl, ⟨rfl, h1⟩, c2, x2, y2, rfl, ⟨rfl, h2⟩, c3, x3, y3, rfl, ⟨rfl, h3⟩, rfl⟩ := h
  obtain ⟨qa, rfl, ra, na, la⟩ := fit_raw (m := 3) h1
  obtain ⟨qb, rfl, rb, nb, lb⟩ := fit_raw (m := 3) h2
  obtain ⟨k, hk, rfl⟩ := fit_u8 (m := 5) T5 h3
  obtain ⟨⟨fa, a⟩, s1, a2, a3, _⟩ := small_walk qa ra (Nat.lt_of_le_of_lt la (by decide))
  obtain ⟨⟨fb, b⟩, s2, b2, b3, _⟩ := small_walk qb rb (Nat.lt_of_le_of_lt lb (by decide))
  dsimp only at s1 a2 a3 s2 b2 b3
  by_cases h : a < b
  · exact near_lt qa qb b a fb fa a2 (by omega) b3 a3 s1 s2 (eq_true (by unfold cmpI; rw [if_pos h]; decide)) k hk
  · exact near_ge qa qb a b fa fb b2 (by omega) a3 b3 s1 s2 (eq_false (by unfold cmpI; rw [if_neg h]; split <;> decide)) k hk
theorem lucasNear_holds : Rows.LucasNearSaid := lucasNear.over lucasNear_pure
#print axioms lucasNear_holds
end Go.Proofs.Ytmgmcnoobgljpaa
