/- Part 6 of a proof about this seat: RLucasPower, LPower. (Own work of this repo.) -/
import Derived.Test.YtmgmcnoobgljpaaZLucasTells5
import Derived.WalkKit
import Derived.ProofKit
import Derived.OpenShut
import Derived.ShutString
import Derived.ChangeOld
import Derived.Below
import Derived.SizedLaws
set_option linter.unusedVariables false
set_option linter.unusedSimpArgs false
/- The row of LucasPower, out of what the machine over pure values says. (Own work of this repo.) -/
namespace Go.Proofs.Ytmgmcnoobgljpaa
namespace lucasPower
open Go.ChangeShapes Go.WideShapes Go.ChangeAt Go.RowKit
def Pure : Prop := ∀ xs, Vm.FitArgs E [24, 24, 5] xs → Vm.denP E 8 xs = some (.ret (.bool true))
theorem own : ownKnob Try.prog.godebug = none := by kernel_rfl
set_option maxRecDepth 100000 in
theorem lifted (hP : Pure) (os : Os) (started : os.Started) (H : Type) (enc : TypeId × Value → H) :
    ReturnsInHanded {} Try.checked os 8 .any (Rows.lucasPowerSpec.pre6 enc Try.prog Try.f8 Rows.lucasPowerRow.domain false) (Rows.lucasPowerSpec.post enc Try.prog Try.f8 false true false false) := by
  refine returnsInHanded_of_change_sized (C := Try.checked) own started (by kernel_rfl) Try.func8
    (ChangeSpec.witness6 (enc := enc) (C := Try.checked) false ⟨#[], #[(.agg #[.bool false, .slice none 0 0]), (.agg #[.bool false, .slice none 0 0]), (.int .u8 0)], []⟩ 8 (by kernel_rfl) (by kernel_rfl) (by kernel_rfl) (by kernel_rfl)) ?_
  intro W base args ds gs before hval0 hW hcnd hsz0 _
  have hval : ∀ (j : Nat) t v, Try.f8.params[j]? = some t → args[j]? = some v → Value.okWide Try.prog W .any base t v := hval0
  have hW' := hW
  obtain ⟨p, q, hA0, hV, rfl, hfz, hnd⟩ := hW
  have hA : DataW.TrodAll enc Try.prog W 0 (fun _ => true) true Try.f8.params.toList args.toList ds p := hA0
  have hpar : Try.f8.params.toList = [24, 24, 5] := by rw [Try.params8]
  rw [hpar] at hA
  obtain ⟨xs, hfit, hrep, hpure, hst⟩ := Vm.open_args eok.toEOk (by kernel_rfl) _ _ _ _ (by kernel_rfl) hA (fun j t v ht hv => ⟨_, _, hval j t v (by rw [← Array.getElem?_toList, hpar]; exact ht) (by rw [← Array.getElem?_toList]; exact hv)⟩)
  have hlen := Vm.trodAll_len hA
  obtain ⟨rfl, rfl⟩ := trodVars_none hV
  clear hA0 hval0 hsz0 hval hA hcnd
  match ds, hlen, hst, hW' with
  | [d0, d1, d2], _, hst, hW =>
    refine (Vm.denP_calls eok (hP xs hfit) W args hrep hpure).mono fun e W' ⟨bel, v, he, hv⟩ => ?_
    subst he
    obtain rfl := Vm.rep_bool hv
    exact ⟨_, rfl, _, _, _, [], _, [], hW, trodAll_mk1 (shut_bool Try.underlying4 _), (by rw [hpar]; exact hst W' bel), rfl, bel.frame _, fun h => by cases h⟩
theorem over (hP : Pure) : Rows.lucasPowerRow.holds Try.pinned (OpenSpec.ofChange Rows.lucasPowerSpec) :=
  OpenClaim.holds_of_wide 8 Try.f8 rfl rfl rfl rfl rfl rfl rfl ⟨rfl, rfl, rfl, rfl, rfl⟩ rfl rfl rfl rfl rfl (by kernel_rfl) Try.func8 (by kernel_rfl)
    (of_decide_eq_true (by kernel_rfl)) (by unfold Func.isWrapper; first | (rw [if_pos (by decide +kernel)]; kernel_rfl) | (rw [if_neg (by decide +kernel)]; exact ⟨rfl, rfl⟩))
    (fun os started H enc _ => lifted hP os started H enc)
end lucasPower

end Go.Proofs.Ytmgmcnoobgljpaa

/- The law LucasPower. (Own work of this repo.) -/
namespace Go.Proofs.Ytmgmcnoobgljpaa
open Vm Luc
set_option maxRecDepth 10000

set_option maxHeartbeats 2000000 in
theorem lucasPower_walk (q r : Raw) (rq : InR q.2.2) (rr : InR r.2.2) (lq : q.2.2.length < 9223372036854775808) (lr : r.2.2.length < 9223372036854775808) (n : Nat) (hn : n < 256) : denP E 8 [ivr q, ivr r, .int .u8 n] = some (.ret (.bool true)) := by
  obtain ⟨⟨fa, a⟩, s1, h2, ha, hf⟩ := small_walk q rq lq
  dsimp only at s1 h2 ha hf
  refine denP_eq E8 rfl (by simp [AV.pureL, AV.pure, pure_wd]) ?_
  have v1 := rValid_any r.1 r.2.1 r.2.2 lr
  cases hv : rvalidW r.1 r.2.2 with
  | false =>
    rw [hv] at v1
    simp only [ivr, iv] at s1 v1 ⊢
    simp (maxSteps := 4000000) only [go_sem, ↓reduceIte, Nat.reduceAdd, Nat.reduceSub, Nat.reduceMul, Nat.reduceEqDiff, reduceCtorEq, Int.reduceAdd, Int.reduceLT, Int.reduceLE, Int.reduceToNat, Int.reduceNeg, Int.reduceSub, ← List.map_take, ← List.map_drop, ne_eq, Nat.reduceLeDiff, Nat.reduceLT, Nat.zero_le, Nat.le_refl, wrap64, wrapu64, wrapu32, ← Int.natCast_add, ← Int.natCast_mul, cast_succ, wrapu32_nat, shr32, reps_wd, map_set_wd, List.length_set, zs_len, Try.f8, s1, v1, awake8]
  | true =>
    rw [hv] at v1
    obtain ⟨hl', b, h3, h4⟩ := rvalid_norm (neg := r.1) rr hv
    obtain ⟨neg, fb, l⟩ := r
    dsimp only at h3 h4 v1 ⊢
    subst h3 h4
    have z1 := rZero_spec fb b
    have c1 := rCmp_spec fb b fa a (by dsimp only at hl'; omega) (by omega)
    cases hng : ng b with
    | true =>
      simp only [ivr, iv, hng] at s1 v1 ⊢
      simp (maxSteps := 4000000) only [go_sem, ↓reduceIte, Nat.reduceAdd, Nat.reduceSub, Nat.reduceMul, Nat.reduceEqDiff, reduceCtorEq, Int.reduceAdd, Int.reduceLT, Int.reduceLE, Int.reduceToNat, Int.reduceNeg, Int.reduceSub, ← List.map_take, ← List.map_drop, ne_eq, Nat.reduceLeDiff, Nat.reduceLT, Nat.zero_le, Nat.le_refl, wrap64, wrapu64, wrapu32, ← Int.natCast_add, ← Int.natCast_mul, cast_succ, wrapu32_nat, shr32, reps_wd, map_set_wd, List.length_set, zs_len, Try.f8, s1, v1, awake8]
    | false =>
      by_cases hb0 : b = 0
      · rw [decide_eq_true hb0] at z1
        simp only [ivr, iv, I, hng] at s1 v1 z1 ⊢
        simp (maxSteps := 4000000) only [go_sem, ↓reduceIte, Nat.reduceAdd, Nat.reduceSub, Nat.reduceMul, Nat.reduceEqDiff, reduceCtorEq, Int.reduceAdd, Int.reduceLT, Int.reduceLE, Int.reduceToNat, Int.reduceNeg, Int.reduceSub, ← List.map_take, ← List.map_drop, ne_eq, Nat.reduceLeDiff, Nat.reduceLT, Nat.zero_le, Nat.le_refl, wrap64, wrapu64, wrapu32, ← Int.natCast_add, ← Int.natCast_mul, cast_succ, wrapu32_nat, shr32, reps_wd, map_set_wd, List.length_set, zs_len, Try.f8, s1, v1, z1, awake8]
      · rw [decide_eq_false hb0] at z1
        by_cases hba : 0 < cmpI b a
        · have w0 : (0 < cmpI b a) = True := eq_true hba
          simp only [ivr, iv, I, hng] at s1 v1 z1 c1 ⊢
          simp (maxSteps := 4000000) only [go_sem, ↓reduceIte, Nat.reduceAdd, Nat.reduceSub, Nat.reduceMul, Nat.reduceEqDiff, reduceCtorEq, Int.reduceAdd, Int.reduceLT, Int.reduceLE, Int.reduceToNat, Int.reduceNeg, Int.reduceSub, ← List.map_take, ← List.map_drop, ne_eq, Nat.reduceLeDiff, Nat.reduceLT, Nat.zero_le, Nat.le_refl, wrap64, wrapu64, wrapu32, ← Int.natCast_add, ← Int.natCast_mul, cast_succ, wrapu32_nat, shr32, reps_wd, map_set_wd, List.length_set, zs_len, Try.f8, s1, v1, z1, c1, w0, awake8]
        · have hab : b ≤ a := by unfold cmpI at hba; split at hba <;> (try split at hba) <;> omega
          have hb1 : 1 ≤ b := by
            have : ¬ b < 0 := fun h => by unfold ng at hng; simp at hng; omega
            omega
          have w0 : (0 < cmpI b a) = False := eq_false hba
          have lb : (dg b).length ≤ 7 := Nat.le_trans (dg_mono (by omega)) ha
          obtain ⟨k, hk⟩ : ∃ k, k = n % 61 := ⟨_, rfl⟩
          have e1 : (n : Int).tmod 61 = (k : Int) := by rw [Int.tmod_eq_emod_of_nonneg (by omega)]; omega
          have w1 : IntKind.i64.wrap (n : Int) = (n : Int) := wrap64 (by omega) (by omega)
          obtain ⟨⟨f1, f2⟩, b1, _⟩ := both_spec a fa h2 ha k (by omega)
          dsimp only at b1
          have hpf : powFar b k = false := by
            have h0 : bl b.natAbs ≤ 224 := bl_le.2 (Nat.lt_of_lt_of_le (dg_len.1 lb) (by decide))
            unfold powFar
            by_cases h1 : 1 < bl b.natAbs
            · have h2 : 61 ≤ 262144 / (bl b.natAbs - 1) := (Nat.le_div_iff_mul_le (by omega)).2 (by omega)
              rw [decide_eq_false (show ¬ 262144 / (bl b.natAbs - 1) < k by omega), Bool.and_false]
            · rw [decide_eq_false h1]; rfl
          obtain ⟨f3, p1, _⟩ := rPower_spec fb b k (by omega) (by omega) hpf
          have hmod := power_mod (a := a) b k
          have hge := (power_ge (a := a) b hb1 hab k).1
          have x1 := chi_len h2 ha k
          have x2 := psi_len h2 ha k
          have hlow : 0 ≤ b ^ k := Int.pow_nonneg (by omega)
          have r1 := rOf_spec 1 (by decide) (by decide)
          rw [RM, show decide ((1 : Int) = 0) = false from rfl] at r1
          have r2 := rOf_spec 2 (by decide) (by decide)
          rw [RM, show decide ((2 : Int) = 0) = false from rfl] at r2
          have l1 := dg_small (z := 1) (by decide)
          have l2 := dg_small (z := 2) (by decide)
          generalize chi a k = x at *
          generalize psi a k = y at *
          generalize b ^ k = p at *
          have y1 := dg_mul a b
          have y2 := dg_mul 2 (a * b)
          have y3 := dg_mul b b
          have y4 := dg_sub (2 * (a * b)) (b * b)
          have y5 := dg_sub (2 * (a * b) - b * b) 1
          have y6 := dg_sub a b
          have y7 := dg_mul (a - b) y
          have y8 := dg_sub x ((a - b) * y)
          have y9 := dg_mono (a := p) (b := x - (a - b) * y) (by omega)
          have y10 := dg_sub (x - (a - b) * y) p
          have m1 := rMul_spec fa a fb b (by omega) (by omega)
          have m2 := rMul_spec false 2 (decide (a * b = 0)) (a * b) (by omega) (by omega)
          have m3 := rMul_spec fb b fb b (by omega) (by omega)
          have m4 := rSub_spec (decide (2 * (a * b) = 0)) (2 * (a * b)) (decide (b * b = 0)) (b * b) (by omega) (by omega)
          have m5 := rSub_spec (decide (2 * (a * b) - b * b = 0)) (2 * (a * b) - b * b) false 1 (by omega) (by omega)
          have m6 := rSub_spec fa a fb b (by omega) (by omega)
          have m7 := rMul_spec (decide (a - b = 0)) (a - b) f2 y (by omega) (by omega)
          have m8 := rSub_spec f1 x (decide ((a - b) * y = 0)) ((a - b) * y) (by omega) (by omega)
          have m9 := rCmp_spec (decide (x - (a - b) * y = 0)) (x - (a - b) * y) f3 p (by omega) (by omega)
          have m10 := rSub_spec (decide (x - (a - b) * y = 0)) (x - (a - b) * y) f3 p (by omega) (by omega)
          have m11 := rDivides_spec (decide (2 * (a * b) - b * b - 1 = 0)) (2 * (a * b) - b * b - 1) (decide (x - (a - b) * y - p = 0)) (x - (a - b) * y - p) (by omega) (by omega)
          rw [decide_eq_true hmod] at m11
          have hc : (0 ≤ cmpI (x - (a - b) * y) p) = True := eq_true (by unfold cmpI; split <;> (try split) <;> omega)
          clear y1 y2 y3 y4 y5 y6 y7 y8 y9 y10 hmod hge x1 x2 h2 ha hf hpf hlow lb hba hab hb1 hv hl' rr lr
          simp only [RM] at m1 m2 m3 m4 m5 m6 m7 m8 m10
          generalize decide (2 * (a * b) - b * b - 1 = 0) = d1 at *
          generalize decide (2 * (a * b) - b * b = 0) = d2 at *
          generalize decide (2 * (a * b) = 0) = d3 at *
          generalize decide (a * b = 0) = d4 at *
          generalize decide (b * b = 0) = d5 at *
          generalize decide (x - (a - b) * y - p = 0) = d6 at *
          generalize decide (x - (a - b) * y = 0) = d7 at *
          generalize decide ((a - b) * y = 0) = d8 at *
          generalize decide (a - b = 0) = d9 at *
          generalize cmpI (x - (a - b) * y) p = cc at *
          generalize 2 * (a * b) - b * b - 1 = v1' at *
          generalize 2 * (a * b) - b * b = v2 at *
          generalize 2 * (a * b) = v3 at *
          generalize a * b = v4 at *
          generalize b * b = v5 at *
          generalize x - (a - b) * y - p = v6 at *
          generalize x - (a - b) * y = v7 at *
          generalize (a - b) * y = v8 at *
          generalize a - b = v9 at *
          simp only [ivr, iv, I, hng] at *
          simp (maxSteps := 4000000) only [go_sem, ↓reduceIte, Nat.reduceAdd, Nat.reduceSub, Nat.reduceMul, Nat.reduceEqDiff, reduceCtorEq, Int.reduceAdd, Int.reduceLT, Int.reduceLE, Int.reduceToNat, Int.reduceNeg, Int.reduceSub, ← List.map_take, ← List.map_drop, ne_eq, Nat.reduceLeDiff, Nat.reduceLT, Nat.zero_le, Nat.le_refl, wrap64, wrapu64, wrapu32, ← Int.natCast_add, ← Int.natCast_mul, cast_succ, wrapu32_nat, shr32, reps_wd, map_set_wd, List.length_set, zs_len, Try.f8, s1, v1, z1, c1, w0, w1, e1, b1, p1, Int.reduceEq, r1, r2]
          refine W_drawn ?_
          simp (maxSteps := 4000000) only [go_sem, ↓reduceIte, Nat.reduceAdd, Nat.reduceSub, Nat.reduceMul, Nat.reduceEqDiff, reduceCtorEq, Int.reduceAdd, Int.reduceLT, Int.reduceLE, Int.reduceToNat, Int.reduceNeg, Int.reduceSub, ← List.map_take, ← List.map_drop, ne_eq, Nat.reduceLeDiff, Nat.reduceLT, Nat.zero_le, Nat.le_refl, wrap64, wrapu64, wrapu32, ← Int.natCast_add, ← Int.natCast_mul, cast_succ, wrapu32_nat, shr32, reps_wd, map_set_wd, List.length_set, zs_len, r1, r2, m1, m2, m3, m4, m5]
          refine ⟨by refine okR_pairs ?_; (repeat ((with_unfolding_all refine And.intro ?_ ?_); (focus (rw [free_mk] <;> (try simp) <;> (try omega))))); (with_unfolding_all exact True.intro), ?_⟩
          refine W_drawn ?_
          simp (maxSteps := 4000000) only [go_sem, ↓reduceIte, Nat.reduceAdd, Nat.reduceSub, Nat.reduceMul, Nat.reduceEqDiff, reduceCtorEq, Int.reduceAdd, Int.reduceLT, Int.reduceLE, Int.reduceToNat, Int.reduceNeg, Int.reduceSub, ← List.map_take, ← List.map_drop, ne_eq, Nat.reduceLeDiff, Nat.reduceLT, Nat.zero_le, Nat.le_refl, wrap64, wrapu64, wrapu32, ← Int.natCast_add, ← Int.natCast_mul, cast_succ, wrapu32_nat, shr32, reps_wd, map_set_wd, List.length_set, zs_len, m6, m7, m8]
          refine ⟨by refine okR_pairs ?_; (repeat ((with_unfolding_all refine And.intro ?_ ?_); (focus (rw [free_mk] <;> (try simp) <;> (try omega))))); (with_unfolding_all exact True.intro), ?_⟩
          refine W_drawn ?_
          simp (maxSteps := 4000000) only [go_sem, ↓reduceIte, Nat.reduceAdd, Nat.reduceSub, Nat.reduceMul, Nat.reduceEqDiff, reduceCtorEq, Int.reduceAdd, Int.reduceLT, Int.reduceLE, Int.reduceToNat, Int.reduceNeg, Int.reduceSub, ← List.map_take, ← List.map_drop, ne_eq, Nat.reduceLeDiff, Nat.reduceLT, Nat.zero_le, Nat.le_refl, wrap64, wrapu64, wrapu32, ← Int.natCast_add, ← Int.natCast_mul, cast_succ, wrapu32_nat, shr32, reps_wd, map_set_wd, List.length_set, zs_len, m9, m10, m11, hc, awake8]
          refine okR_pairs ?_; (repeat ((with_unfolding_all refine And.intro ?_ ?_); (focus (rw [free_mk] <;> (try simp) <;> (try omega))))); (with_unfolding_all exact True.intro)
theorem lucasPower_pure : lucasPower.Pure := by
  intro xs h
  simp only [FitArgs, opn_eq, T1, T2, T3, T4, T5, T6, T7, T8, T9, T10, T11, T12, T13, T14, T15, T16, T17, T18, T19, T20, T21, T22, T23, T24, T25, T26, T27, T29, T30, T31, T33, T34, T35, T37, T38, T39, T40, T42, T43, T44, T45, T46, T47, T48, T50, T51, T53, T55, T56, T57, T58, T59, T60, T61, T62, T63, T64, T65, T66, T67, T68, T69, T70, T71, T72, T73, T74, T75, T76, T77, T78, T79, T80, T81, T82, T83, T84, T85, T86, T87, T88, T89, T90, T92, T94, T95, T96, T97, T98, T99, T100, T101, T102, T104, T105, T106, T107, T108, T109, T111, T112, T113, T115, T116, T117, T118, T119, T120, T121, T122, T123, T124, T125, T126, T127, T128, T129, T130, T131, T132, T133, elm] at h
  obtain ⟨c1, x1, y1, rfl, ⟨rfl, h1⟩, c2, x2, y2, rfl, ⟨rfl, h2⟩, c3, x3, y3, rfl, ⟨rfl, h3⟩, rfl⟩ := h
  obtain ⟨qa, rfl, ra, na, la⟩ := fit_raw (m := 3) h1
  obtain ⟨qb, rfl, rb, nb, lb⟩ := fit_raw (m := 3) h2
  obtain ⟨k, hk, rfl⟩ := fit_u8 (m := 5) T5 h3
  exact lucasPower_walk qa qb ra rb (Nat.lt_of_le_of_lt la (by decide)) (Nat.lt_of_le_of_lt lb (by decide)) k hk
theorem lucasPower_holds : Rows.LucasPowerSaid := lucasPower.over lucasPower_pure
#print axioms lucasPower_holds
end Go.Proofs.Ytmgmcnoobgljpaa
