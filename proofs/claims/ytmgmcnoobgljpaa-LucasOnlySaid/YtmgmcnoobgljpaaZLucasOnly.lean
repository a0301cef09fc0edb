/- Part 6 of a proof about this seat: RLucasOnly, LOnly. (Own work of this repo.) -/
import Derived.Test.YtmgmcnoobgljpaaZLucasRank5
import Derived.WalkKit
import Derived.ProofKit
import Derived.OpenShut
import Derived.ShutString
import Derived.ChangeOld
import Derived.Below
import Derived.SizedLaws
set_option linter.unusedVariables false
set_option linter.unusedSimpArgs false
/- The row of LucasOnly, out of what the machine over pure values says. (Own work of this repo.) -/
namespace Go.Proofs.Ytmgmcnoobgljpaa
namespace lucasOnly
open Go.ChangeShapes Go.WideShapes Go.ChangeAt Go.RowKit
def Pure : Prop := ∀ xs, Vm.FitArgs E [24, 24, 24] xs → Vm.denP E 12 xs = some (.ret (.bool true))
theorem own : ownKnob Try.prog.godebug = none := by kernel_rfl
set_option maxRecDepth 100000 in
theorem lifted (hP : Pure) (os : Os) (started : os.Started) (H : Type) (enc : TypeId × Value → H) :
    ReturnsInHanded {} Try.checked os 12 .any (Rows.lucasOnlySpec.pre6 enc Try.prog Try.f12 Rows.lucasOnlyRow.domain false) (Rows.lucasOnlySpec.post enc Try.prog Try.f12 false true false false) := by
  refine returnsInHanded_of_change_sized (C := Try.checked) own started (by kernel_rfl) Try.func12
    (ChangeSpec.witness6 (enc := enc) (C := Try.checked) false ⟨#[], #[(.agg #[.bool false, .slice none 0 0]), (.agg #[.bool false, .slice none 0 0]), (.agg #[.bool false, .slice none 0 0])], []⟩ 8 (by kernel_rfl) (by kernel_rfl) (by kernel_rfl) (by kernel_rfl)) ?_
  intro W base args ds gs before hval0 hW hcnd hsz0 _
  have hval : ∀ (j : Nat) t v, Try.f12.params[j]? = some t → args[j]? = some v → Value.okWide Try.prog W .any base t v := hval0
  have hW' := hW
  obtain ⟨p, q, hA0, hV, rfl, hfz, hnd⟩ := hW
  have hA : DataW.TrodAll enc Try.prog W 0 (fun _ => true) true Try.f12.params.toList args.toList ds p := hA0
  have hpar : Try.f12.params.toList = [24, 24, 24] := by rw [Try.params12]
  rw [hpar] at hA
  obtain ⟨xs, hfit, hrep, hpure, hst⟩ := Vm.open_args eok.toEOk (by kernel_rfl) _ _ _ _ (by kernel_rfl) hA (fun j t v ht hv => ⟨_, _, hval j t v (by rw [← Array.getElem?_toList, hpar]; exact ht) (by rw [← Array.getElem?_toList]; exact hv)⟩)
  have hlen := Vm.trodAll_len hA
  obtain ⟨rfl, rfl⟩ := trodVars_none hV
  clear hA0 hval0 hsz0 hval hA hcnd
  match ds, hlen, hst, hW' with
  | [d0, d1, d2], _, hst, hW =>
    refine (Vm.denP_calls eok (hP xs hfit) W args hrep hpure).mono fun e W' ⟨bel, v, he, hv⟩ => ?_
    subst he
    obtain rfl := Vm.rep_bool hv
    exact ⟨_, rfl, _, _, _, [], _, [], hW, trodAll_mk1 (shut_bool Try.underlying4 _), (by rw [hpar]; exact hst W' bel), rfl, bel.frame _, fun h => by cases h⟩
theorem over (hP : Pure) : Rows.lucasOnlyRow.holds Try.pinned (OpenSpec.ofChange Rows.lucasOnlySpec) :=
  OpenClaim.holds_of_wide 12 Try.f12 rfl rfl rfl rfl rfl rfl rfl ⟨rfl, rfl, rfl, rfl, rfl⟩ rfl rfl rfl rfl rfl (by kernel_rfl) Try.func12 (by kernel_rfl)
    (of_decide_eq_true (by kernel_rfl)) (by unfold Func.isWrapper; first | (rw [if_pos (by decide +kernel)]; kernel_rfl) | (rw [if_neg (by decide +kernel)]; exact ⟨rfl, rfl⟩))
    (fun os started H enc _ => lifted hP os started H enc)
end lucasOnly

end Go.Proofs.Ytmgmcnoobgljpaa

/- The law LucasOnly. (Own work of this repo.) -/
namespace Go.Proofs.Ytmgmcnoobgljpaa
open Vm Luc
set_option maxRecDepth 10000

abbrev onlyP (qa qx qy : Raw) : Prop := denP E 12 [ivr qa, ivr qx, ivr qy] = some (.ret (.bool true))
theorem short3 (k : Nat) (hk : k < 2 ^ 50) (q r s : Raw) : denP E 13 [.int .i64 k, .lst false [ivr q, ivr r, ivr s]] = some (.ret (.bool (shortW k q && (shortW k r && shortW k s)))) := by
  have hs := short_walk k [q, r, s] (by simp) hk
  simp only [List.map_cons, List.map_nil, List.all_cons, List.all_nil, Bool.and_true, Int.cast_ofNat_Int] at hs
  exact hs
set_option maxHeartbeats 4000000 in
/-- Numbers of which nothing is said. -/
theorem only_invalid (qa qx qy : Raw) (la : qa.2.2.length < 9223372036854775808) (lx : qx.2.2.length < 9223372036854775808) (ly : qy.2.2.length < 9223372036854775808) (h : rvl qa = false ∨ (rvl qa = true ∧ rvl qx = false) ∨ (rvl qa = true ∧ rvl qx = true ∧ rvl qy = false) ∨ (rvl qa = true ∧ rvl qx = true ∧ rvl qy = true ∧ (shortW 60 qa && (shortW 60 qx && shortW 60 qy)) = false)) : onlyP qa qx qy := by
  have va := rValid_any qa.1 qa.2.1 qa.2.2 la
  have vx := rValid_any qx.1 qx.2.1 qx.2.2 lx
  have vy := rValid_any qy.1 qy.2.1 qy.2.2 ly
  rw [valid_same, show validW qa.1 qa.2.2 = rvl qa from rfl] at va
  rw [valid_same, show validW qx.1 qx.2.2 = rvl qx from rfl] at vx
  rw [valid_same, show validW qy.1 qy.2.2 = rvl qy from rfl] at vy
  have hs := short3 60 (by decide) qa qx qy
  refine denP_eq E12 rfl (by simp [AV.pureL, AV.pure, pure_wd]) ?_
  generalize rvl qa = v1 at *
  generalize rvl qx = v2 at *
  generalize rvl qy = v3 at *
  generalize (shortW 60 qa && (shortW 60 qx && shortW 60 qy)) = s at *
  simp only [ivr, iv] at va vx vy hs ⊢
  simp only [Int.cast_ofNat_Int] at hs
  rcases h with rfl | ⟨rfl, rfl⟩ | ⟨rfl, rfl, rfl⟩ | ⟨rfl, rfl, rfl, rfl⟩ <;> (
    simp (maxSteps := 4000000) only [go_sem, ↓reduceIte, Nat.reduceAdd, Nat.reduceSub, Nat.reduceMul, Nat.reduceEqDiff, reduceCtorEq, Int.reduceAdd, Int.reduceLT, Int.reduceLE, Int.reduceToNat, Int.reduceNeg, Int.reduceSub, ← List.map_take, ← List.map_drop, ne_eq, Nat.reduceLeDiff, Nat.reduceLT, Nat.zero_le, Nat.le_refl, wrap64, wrapu64, wrapu32, ← Int.natCast_add, ← Int.natCast_mul, cast_succ, wrapu32_nat, shr32, reps_wd, map_set_wd, List.length_set, zs_len, Try.f12]
    refine W_drawn ?_
    simp (maxSteps := 4000000) only [go_sem, ↓reduceIte, Nat.reduceAdd, Nat.reduceSub, Nat.reduceMul, Nat.reduceEqDiff, reduceCtorEq, Int.reduceAdd, Int.reduceLT, Int.reduceLE, Int.reduceToNat, Int.reduceNeg, Int.reduceSub, ← List.map_take, ← List.map_drop, ne_eq, Nat.reduceLeDiff, Nat.reduceLT, Nat.zero_le, Nat.le_refl, wrap64, wrapu64, wrapu32, ← Int.natCast_add, ← Int.natCast_mul, cast_succ, wrapu32_nat, shr32, reps_wd, map_set_wd, List.length_set, zs_len, va, vx, vy, hs, places, fillAll, reps, refP, elems]
    refine ⟨by refine okR_pairs ?_; (repeat ((with_unfolding_all refine And.intro ?_ ?_); (focus (rw [free_mk] <;> (try simp) <;> (try omega))))); (with_unfolding_all exact True.intro), ?_⟩
    simp (maxSteps := 4000000) only [go_sem, ↓reduceIte, Nat.reduceAdd, Nat.reduceSub, Nat.reduceMul, Nat.reduceEqDiff, reduceCtorEq, Int.reduceAdd, Int.reduceLT, Int.reduceLE, Int.reduceToNat, Int.reduceNeg, Int.reduceSub, ← List.map_take, ← List.map_drop, ne_eq, Nat.reduceLeDiff, Nat.reduceLT, Nat.zero_le, Nat.le_refl, wrap64, wrapu64, wrapu32, ← Int.natCast_add, ← Int.natCast_mul, cast_succ, wrapu32_nat, shr32, reps_wd, map_set_wd, List.length_set, zs_len, awake8])
theorem bl_two (n : Nat) : bl (2 ^ n) = n + 1 := bl_eq (Nat.pow_lt_pow_right (by decide) (by omega)) (.inr (by simp))
theorem psi_growth2 {a : Int} (h2 : 2 ≤ a) : ∀ n : Nat, n = 0 ∨ 2 ^ (n - 1) ≤ (psi a n).natAbs
  | 0 => .inl rfl
  | n + 1 => by
    right
    rw [Nat.add_sub_cancel]
    have h1 := psi_low (a := a) (by omega) n
    have h3 : 2 ^ n ≤ (2 * a - 1).natAbs ^ n := Nat.pow_le_pow_left (by omega) _
    have h4 : (((2 * a - 1).natAbs ^ n : Nat) : Int) = (2 * a - 1) ^ n := by rw [Int.natCast_pow, show ((2 * a - 1).natAbs : Int) = 2 * a - 1 by omega]
    rw [← h4] at h1
    omega
theorem bothBig (a : Int) (fa : Bool) (h2 : 2 ≤ a) (ha : (dg a).length ≤ 4096) (n : Nat) (hn : n ≤ 131072) (l1 : (dg (chi a n)).length ≤ 4096) (l2 : (dg (psi a n)).length ≤ 4096) : ∃ p : Bool × Bool, denP E 28 [I fa a, .int .i64 n] = some (.ret ((fun p : Bool × Bool => .tup [I p.1 (chi a n), I p.2 (psi a n), .bool true]) p)) ∧ True := by
  refine denP_ex E28 rfl (by simp [AV.pureL, AV.pure, pure_wd]) ?_
  obtain ⟨fp, p1⟩ := psi_el a fa (by omega) h2 n (by omega)
  obtain ⟨fc, c1⟩ := chi_el a fa (by omega) h2 n (by omega)
  have p2 := psi_of _ _ _ _ _ _ p1
  have c2 := chi_of _ _ _ _ _ _ c1
  rw [fit_of (by omega), er_of (by omega)] at p2 c2
  clear p1 c1
  simp (maxSteps := 4000000) only [go_sem, ↓reduceIte, Nat.reduceAdd, Nat.reduceSub, Nat.reduceMul, Nat.reduceEqDiff, reduceCtorEq, Int.reduceAdd, Int.reduceLT, Int.reduceLE, Int.reduceToNat, Int.reduceNeg, Int.reduceSub, ← List.map_take, ← List.map_drop, ne_eq, Nat.reduceLeDiff, Nat.reduceLT, Nat.zero_le, Nat.le_refl, wrap64, wrapu64, wrapu32, ← Int.natCast_add, ← Int.natCast_mul, cast_succ, wrapu32_nat, shr32, reps_wd, map_set_wd, List.length_set, zs_len, Try.f28, p2, c2]
  refine W_drawn ?_
  simp (maxSteps := 4000000) only [go_sem, ↓reduceIte, Nat.reduceAdd, Nat.reduceSub, Nat.reduceMul, Nat.reduceEqDiff, reduceCtorEq, Int.reduceAdd, Int.reduceLT, Int.reduceLE, Int.reduceToNat, Int.reduceNeg, Int.reduceSub, ← List.map_take, ← List.map_drop, ne_eq, Nat.reduceLeDiff, Nat.reduceLT, Nat.zero_le, Nat.le_refl, wrap64, wrapu64, wrapu32, ← Int.natCast_add, ← Int.natCast_mul, cast_succ, wrapu32_nat, shr32, reps_wd, map_set_wd, List.length_set, zs_len, p2, c2, Int.reduceEq]
  exact ⟨by refine okR_pairs ?_; (repeat ((with_unfolding_all refine And.intro ?_ ?_); (focus (rw [free_mk] <;> (try simp) <;> (try omega))))); (with_unfolding_all exact True.intro), (fc, fp), rfl⟩
set_option maxHeartbeats 8000000 in
theorem only_valid (fa : Bool) (a : Int) (fx : Bool) (x : Int) (fy : Bool) (y : Int) (ha : (dg a).length ≤ 60) (hx : (dg x).length ≤ 60) (hy : (dg y).length ≤ 60) : denP E 12 [I fa a, I fx x, I fy y] = some (.ret (.bool true)) := by
  have va := rValid_spec fa a (by omega)
  have vx := rValid_spec fx x (by omega)
  have vy := rValid_spec fy y (by omega)
  rw [decide_eq_true (by omega)] at va vx vy
  have hs := short3 60 (by decide) (ng a, fa, dg a) (ng x, fx, dg x) (ng y, fy, dg y)
  rw [show shortW 60 (ng a, fa, dg a) = true from decide_eq_true ha, show shortW 60 (ng x, fx, dg x) = true from decide_eq_true hx, show shortW 60 (ng y, fy, dg y) = true from decide_eq_true hy] at hs
  have o2 := rOf_spec 2 (by decide) (by decide)
  rw [RM, show decide ((2 : Int) = 0) = false from rfl] at o2
  have l2 := dg_small (z := 2) (by decide)
  have c1 := rCmp_spec fa a false 2 (by omega) (by omega)
  have c2 : (cmpI a 2 < 0) = (a < 2) := by unfold cmpI; (repeat' split) <;> simp <;> omega
  simp only [ivr, iv] at hs
  simp only [Int.cast_ofNat_Int] at hs
  have hq : ∃ (p q : Bool) (P : Prop), ng x = p ∧ ng y = q ∧ (a < 2) = P ∧ (p = true ∨ (p = false ∧ q = true) ∨ (p = false ∧ q = false ∧ P = True) ∨ (p = false ∧ q = false ∧ P = False ∧ 0 ≤ x ∧ 0 ≤ y ∧ 2 ≤ a)) := by
    refine ⟨_, _, _, rfl, rfl, rfl, ?_⟩
    by_cases h1 : x < 0
    · exact .inl (ng_true.2 h1)
    have h1' := ng_false.2 (show 0 ≤ x by omega)
    by_cases h3 : y < 0
    · exact .inr (.inl ⟨h1', ng_true.2 h3⟩)
    have h3' := ng_false.2 (show 0 ≤ y by omega)
    by_cases h4 : a < 2
    · exact .inr (.inr (.inl ⟨h1', h3', eq_true h4⟩))
    · exact .inr (.inr (.inr ⟨h1', h3', eq_false h4, by omega, by omega, by omega⟩))
  obtain ⟨p, q, P, e1, e2, e3, hc⟩ := hq
  rw [e3] at c2
  refine denP_eq E12 rfl (by simp [AV.pureL, AV.pure, pure_wd]) ?_
  simp only [I, e1, e2] at vx vy hs
  rcases hc with rfl | ⟨rfl, rfl⟩ | ⟨rfl, rfl, rfl⟩ | ⟨rfl, rfl, rfl, hx0, hy0, h2⟩
  · simp (maxSteps := 4000000) only [go_sem, ↓reduceIte, Nat.reduceAdd, Nat.reduceSub, Nat.reduceMul, Nat.reduceEqDiff, reduceCtorEq, Int.reduceAdd, Int.reduceLT, Int.reduceLE, Int.reduceToNat, Int.reduceNeg, Int.reduceSub, ← List.map_take, ← List.map_drop, ne_eq, Nat.reduceLeDiff, Nat.reduceLT, Nat.zero_le, Nat.le_refl, wrap64, wrapu64, wrapu32, ← Int.natCast_add, ← Int.natCast_mul, cast_succ, wrapu32_nat, shr32, reps_wd, map_set_wd, List.length_set, zs_len, Try.f12]
    refine W_drawn ?_
    simp (maxSteps := 4000000) only [go_sem, ↓reduceIte, Nat.reduceAdd, Nat.reduceSub, Nat.reduceMul, Nat.reduceEqDiff, reduceCtorEq, Int.reduceAdd, Int.reduceLT, Int.reduceLE, Int.reduceToNat, Int.reduceNeg, Int.reduceSub, ← List.map_take, ← List.map_drop, ne_eq, Nat.reduceLeDiff, Nat.reduceLT, Nat.zero_le, Nat.le_refl, wrap64, wrapu64, wrapu32, ← Int.natCast_add, ← Int.natCast_mul, cast_succ, wrapu32_nat, shr32, reps_wd, map_set_wd, List.length_set, zs_len, va, vx, vy, hs, e1, e2, o2, c1, c2, places, fillAll, reps, refP, elems]
    refine ⟨by refine okR_pairs ?_; (repeat ((with_unfolding_all refine And.intro ?_ ?_); (focus (rw [free_mk] <;> (try simp) <;> (try omega))))); (with_unfolding_all exact True.intro), ?_⟩
    simp (maxSteps := 4000000) only [go_sem, ↓reduceIte, Nat.reduceAdd, Nat.reduceSub, Nat.reduceMul, Nat.reduceEqDiff, reduceCtorEq, Int.reduceAdd, Int.reduceLT, Int.reduceLE, Int.reduceToNat, Int.reduceNeg, Int.reduceSub, ← List.map_take, ← List.map_drop, ne_eq, Nat.reduceLeDiff, Nat.reduceLT, Nat.zero_le, Nat.le_refl, wrap64, wrapu64, wrapu32, ← Int.natCast_add, ← Int.natCast_mul, cast_succ, wrapu32_nat, shr32, reps_wd, map_set_wd, List.length_set, zs_len, awake8]
  · simp (maxSteps := 4000000) only [go_sem, ↓reduceIte, Nat.reduceAdd, Nat.reduceSub, Nat.reduceMul, Nat.reduceEqDiff, reduceCtorEq, Int.reduceAdd, Int.reduceLT, Int.reduceLE, Int.reduceToNat, Int.reduceNeg, Int.reduceSub, ← List.map_take, ← List.map_drop, ne_eq, Nat.reduceLeDiff, Nat.reduceLT, Nat.zero_le, Nat.le_refl, wrap64, wrapu64, wrapu32, ← Int.natCast_add, ← Int.natCast_mul, cast_succ, wrapu32_nat, shr32, reps_wd, map_set_wd, List.length_set, zs_len, Try.f12]
    refine W_drawn ?_
    simp (maxSteps := 4000000) only [go_sem, ↓reduceIte, Nat.reduceAdd, Nat.reduceSub, Nat.reduceMul, Nat.reduceEqDiff, reduceCtorEq, Int.reduceAdd, Int.reduceLT, Int.reduceLE, Int.reduceToNat, Int.reduceNeg, Int.reduceSub, ← List.map_take, ← List.map_drop, ne_eq, Nat.reduceLeDiff, Nat.reduceLT, Nat.zero_le, Nat.le_refl, wrap64, wrapu64, wrapu32, ← Int.natCast_add, ← Int.natCast_mul, cast_succ, wrapu32_nat, shr32, reps_wd, map_set_wd, List.length_set, zs_len, va, vx, vy, hs, e1, e2, o2, c1, c2, places, fillAll, reps, refP, elems]
    refine ⟨by refine okR_pairs ?_; (repeat ((with_unfolding_all refine And.intro ?_ ?_); (focus (rw [free_mk] <;> (try simp) <;> (try omega))))); (with_unfolding_all exact True.intro), ?_⟩
    simp (maxSteps := 4000000) only [go_sem, ↓reduceIte, Nat.reduceAdd, Nat.reduceSub, Nat.reduceMul, Nat.reduceEqDiff, reduceCtorEq, Int.reduceAdd, Int.reduceLT, Int.reduceLE, Int.reduceToNat, Int.reduceNeg, Int.reduceSub, ← List.map_take, ← List.map_drop, ne_eq, Nat.reduceLeDiff, Nat.reduceLT, Nat.zero_le, Nat.le_refl, wrap64, wrapu64, wrapu32, ← Int.natCast_add, ← Int.natCast_mul, cast_succ, wrapu32_nat, shr32, reps_wd, map_set_wd, List.length_set, zs_len, awake8]
  · simp (maxSteps := 4000000) only [go_sem, ↓reduceIte, Nat.reduceAdd, Nat.reduceSub, Nat.reduceMul, Nat.reduceEqDiff, reduceCtorEq, Int.reduceAdd, Int.reduceLT, Int.reduceLE, Int.reduceToNat, Int.reduceNeg, Int.reduceSub, ← List.map_take, ← List.map_drop, ne_eq, Nat.reduceLeDiff, Nat.reduceLT, Nat.zero_le, Nat.le_refl, wrap64, wrapu64, wrapu32, ← Int.natCast_add, ← Int.natCast_mul, cast_succ, wrapu32_nat, shr32, reps_wd, map_set_wd, List.length_set, zs_len, Try.f12]
    refine W_drawn ?_
    simp (maxSteps := 4000000) only [go_sem, ↓reduceIte, Nat.reduceAdd, Nat.reduceSub, Nat.reduceMul, Nat.reduceEqDiff, reduceCtorEq, Int.reduceAdd, Int.reduceLT, Int.reduceLE, Int.reduceToNat, Int.reduceNeg, Int.reduceSub, ← List.map_take, ← List.map_drop, ne_eq, Nat.reduceLeDiff, Nat.reduceLT, Nat.zero_le, Nat.le_refl, wrap64, wrapu64, wrapu32, ← Int.natCast_add, ← Int.natCast_mul, cast_succ, wrapu32_nat, shr32, reps_wd, map_set_wd, List.length_set, zs_len, va, vx, vy, hs, e1, e2, o2, c1, c2, places, fillAll, reps, refP, elems]
    refine ⟨by refine okR_pairs ?_; (repeat ((with_unfolding_all refine And.intro ?_ ?_); (focus (rw [free_mk] <;> (try simp) <;> (try omega))))); (with_unfolding_all exact True.intro), ?_⟩
    simp (maxSteps := 4000000) only [go_sem, ↓reduceIte, Nat.reduceAdd, Nat.reduceSub, Nat.reduceMul, Nat.reduceEqDiff, reduceCtorEq, Int.reduceAdd, Int.reduceLT, Int.reduceLE, Int.reduceToNat, Int.reduceNeg, Int.reduceSub, ← List.map_take, ← List.map_drop, ne_eq, Nat.reduceLeDiff, Nat.reduceLT, Nat.zero_le, Nat.le_refl, wrap64, wrapu64, wrapu32, ← Int.natCast_add, ← Int.natCast_mul, cast_succ, wrapu32_nat, shr32, reps_wd, map_set_wd, List.length_set, zs_len, awake8]
  · have m0 := rMul_spec fa a fa a (by omega) (by omega)
    have o1 := rOf_spec 1 (by decide) (by decide)
    rw [RM, show decide ((1 : Int) = 0) = false from rfl] at o1
    have l1 := dg_small (z := 1) (by decide)
    have k0 := dg_mul a a
    rw [RM] at m0
    generalize decide (a * a = 0) = d0 at *
    have m1 := rSub_spec d0 (a * a) false 1 (by omega) (by omega)
    have k1 := dg_sub (a * a) 1
    rw [RM] at m1
    generalize decide (a * a - 1 = 0) = d1 at *
    have m2 := rMul_spec fx x fx x (by omega) (by omega)
    have m3 := rMul_spec fy y fy y (by omega) (by omega)
    have k2 := dg_mul x x
    have k3 := dg_mul y y
    rw [RM] at m2 m3
    generalize decide (x * x = 0) = d2 at *
    generalize decide (y * y = 0) = d3 at *
    have m4 := rMul_spec d1 (a * a - 1) d3 (y * y) (by omega) (by omega)
    have k4 := dg_mul (a * a - 1) (y * y)
    rw [RM] at m4
    generalize decide ((a * a - 1) * (y * y) = 0) = d4 at *
    have m5 := rSub_spec d2 (x * x) d4 ((a * a - 1) * (y * y)) (by omega) (by omega)
    have k5 := dg_sub (x * x) ((a * a - 1) * (y * y))
    rw [RM] at m5
    generalize decide (x * x - (a * a - 1) * (y * y) = 0) = d5 at *
    have m6 := rSame_spec d5 (x * x - (a * a - 1) * (y * y)) false 1 (by omega) (by omega)
    by_cases hp : x * x - (a * a - 1) * (y * y) = 1
    · rw [decide_eq_true hp] at m6
      obtain ⟨n, hxn, hyn⟩ := complete h2 _ x y rfl hx0 hy0 hp
      have hn : n ≤ 3000 := by
        have g1 := psi_growth2 h2 n
        have g2 := bl_le32 hy
        rw [← hyn] at g1
        rcases g1 with g1 | g1
        · omega
        · have g3 := bl_mono g1
          rw [bl_two] at g3
          omega
      have hix := lucIndex_walk a y fa fy (by omega) (by omega) h2 n (by omega) (fun k hk => by rw [hyn]; exact psi_strict (by omega) hk) (by have := bl_le32 hy; omega)
      unfold IX at hix
      rw [if_pos hyn.symm] at hix
      obtain ⟨⟨g1, g2⟩, hb, _⟩ := bothBig a fa h2 (by omega) n (by omega) (by rw [← hxn]; omega) (by rw [← hyn]; omega)
      dsimp only at hb
      rw [← hxn, ← hyn] at hb
      have s1 := rSame_spec g1 x fx x (by omega) (by omega)
      have s2 := rSame_spec g2 y fy y (by omega) (by omega)
      rw [decide_eq_true rfl] at s1 s2
      simp only [I, e1, e2] at m2 m3 hix hb s1 s2
      clear k0 k1 k2 k3 k4 k5 hp hxn hyn
      generalize x * x - (a * a - 1) * (y * y) = q5 at *
      generalize (a * a - 1) * (y * y) = q4 at *
      generalize x * x = q3 at *
      generalize y * y = q2 at *
      generalize a * a - 1 = q1 at *
      generalize a * a = q0 at *
      simp (maxSteps := 4000000) only [go_sem, ↓reduceIte, Nat.reduceAdd, Nat.reduceSub, Nat.reduceMul, Nat.reduceEqDiff, reduceCtorEq, Int.reduceAdd, Int.reduceLT, Int.reduceLE, Int.reduceToNat, Int.reduceNeg, Int.reduceSub, ← List.map_take, ← List.map_drop, ne_eq, Nat.reduceLeDiff, Nat.reduceLT, Nat.zero_le, Nat.le_refl, wrap64, wrapu64, wrapu32, ← Int.natCast_add, ← Int.natCast_mul, cast_succ, wrapu32_nat, shr32, reps_wd, map_set_wd, List.length_set, zs_len, Try.f12]
      refine W_drawn ?_
      simp (maxSteps := 4000000) only [go_sem, ↓reduceIte, Nat.reduceAdd, Nat.reduceSub, Nat.reduceMul, Nat.reduceEqDiff, reduceCtorEq, Int.reduceAdd, Int.reduceLT, Int.reduceLE, Int.reduceToNat, Int.reduceNeg, Int.reduceSub, ← List.map_take, ← List.map_drop, ne_eq, Nat.reduceLeDiff, Nat.reduceLT, Nat.zero_le, Nat.le_refl, wrap64, wrapu64, wrapu32, ← Int.natCast_add, ← Int.natCast_mul, cast_succ, wrapu32_nat, shr32, reps_wd, map_set_wd, List.length_set, zs_len, va, vx, vy, hs, e1, e2, o2, c1, c2, places, fillAll, reps, refP, elems]
      refine ⟨by refine okR_pairs ?_; (repeat ((with_unfolding_all refine And.intro ?_ ?_); (focus (rw [free_mk] <;> (try simp) <;> (try omega))))); (with_unfolding_all exact True.intro), ?_⟩
      simp (maxSteps := 4000000) only [go_sem, ↓reduceIte, Nat.reduceAdd, Nat.reduceSub, Nat.reduceMul, Nat.reduceEqDiff, reduceCtorEq, Int.reduceAdd, Int.reduceLT, Int.reduceLE, Int.reduceToNat, Int.reduceNeg, Int.reduceSub, ← List.map_take, ← List.map_drop, ne_eq, Nat.reduceLeDiff, Nat.reduceLT, Nat.zero_le, Nat.le_refl, wrap64, wrapu64, wrapu32, ← Int.natCast_add, ← Int.natCast_mul, cast_succ, wrapu32_nat, shr32, reps_wd, map_set_wd, List.length_set, zs_len, m0, o1, m1, places, fillAll, reps]
      refine W_drawn ?_
      simp (maxSteps := 4000000) only [go_sem, ↓reduceIte, Nat.reduceAdd, Nat.reduceSub, Nat.reduceMul, Nat.reduceEqDiff, reduceCtorEq, Int.reduceAdd, Int.reduceLT, Int.reduceLE, Int.reduceToNat, Int.reduceNeg, Int.reduceSub, ← List.map_take, ← List.map_drop, ne_eq, Nat.reduceLeDiff, Nat.reduceLT, Nat.zero_le, Nat.le_refl, wrap64, wrapu64, wrapu32, ← Int.natCast_add, ← Int.natCast_mul, cast_succ, wrapu32_nat, shr32, reps_wd, map_set_wd, List.length_set, zs_len, m2, m3, m4, m5, o1, m6, places, fillAll, reps]
      refine ⟨by refine okR_pairs ?_; (repeat ((with_unfolding_all refine And.intro ?_ ?_); (focus (rw [free_mk] <;> (try simp) <;> (try omega))))); (with_unfolding_all exact True.intro), ?_⟩
      simp (maxSteps := 4000000) only [go_sem, ↓reduceIte, Nat.reduceAdd, Nat.reduceSub, Nat.reduceMul, Nat.reduceEqDiff, reduceCtorEq, Int.reduceAdd, Int.reduceLT, Int.reduceLE, Int.reduceToNat, Int.reduceNeg, Int.reduceSub, ← List.map_take, ← List.map_drop, ne_eq, Nat.reduceLeDiff, Nat.reduceLT, Nat.zero_le, Nat.le_refl, wrap64, wrapu64, wrapu32, ← Int.natCast_add, ← Int.natCast_mul, cast_succ, wrapu32_nat, shr32, reps_wd, map_set_wd, List.length_set, zs_len, hix, hb, s1, s2, awake8, Int.reduceEq, places, fillAll, reps]
    · rw [decide_eq_false hp] at m6
      simp only [I, e1, e2] at m2 m3
      clear k0 k1 k2 k3 k4 k5 hp
      generalize x * x - (a * a - 1) * (y * y) = q5 at *
      generalize (a * a - 1) * (y * y) = q4 at *
      generalize x * x = q3 at *
      generalize y * y = q2 at *
      generalize a * a - 1 = q1 at *
      generalize a * a = q0 at *
      simp (maxSteps := 4000000) only [go_sem, ↓reduceIte, Nat.reduceAdd, Nat.reduceSub, Nat.reduceMul, Nat.reduceEqDiff, reduceCtorEq, Int.reduceAdd, Int.reduceLT, Int.reduceLE, Int.reduceToNat, Int.reduceNeg, Int.reduceSub, ← List.map_take, ← List.map_drop, ne_eq, Nat.reduceLeDiff, Nat.reduceLT, Nat.zero_le, Nat.le_refl, wrap64, wrapu64, wrapu32, ← Int.natCast_add, ← Int.natCast_mul, cast_succ, wrapu32_nat, shr32, reps_wd, map_set_wd, List.length_set, zs_len, Try.f12]
      refine W_drawn ?_
      simp (maxSteps := 4000000) only [go_sem, ↓reduceIte, Nat.reduceAdd, Nat.reduceSub, Nat.reduceMul, Nat.reduceEqDiff, reduceCtorEq, Int.reduceAdd, Int.reduceLT, Int.reduceLE, Int.reduceToNat, Int.reduceNeg, Int.reduceSub, ← List.map_take, ← List.map_drop, ne_eq, Nat.reduceLeDiff, Nat.reduceLT, Nat.zero_le, Nat.le_refl, wrap64, wrapu64, wrapu32, ← Int.natCast_add, ← Int.natCast_mul, cast_succ, wrapu32_nat, shr32, reps_wd, map_set_wd, List.length_set, zs_len, va, vx, vy, hs, e1, e2, o2, c1, c2, places, fillAll, reps, refP, elems]
      refine ⟨by refine okR_pairs ?_; (repeat ((with_unfolding_all refine And.intro ?_ ?_); (focus (rw [free_mk] <;> (try simp) <;> (try omega))))); (with_unfolding_all exact True.intro), ?_⟩
      simp (maxSteps := 4000000) only [go_sem, ↓reduceIte, Nat.reduceAdd, Nat.reduceSub, Nat.reduceMul, Nat.reduceEqDiff, reduceCtorEq, Int.reduceAdd, Int.reduceLT, Int.reduceLE, Int.reduceToNat, Int.reduceNeg, Int.reduceSub, ← List.map_take, ← List.map_drop, ne_eq, Nat.reduceLeDiff, Nat.reduceLT, Nat.zero_le, Nat.le_refl, wrap64, wrapu64, wrapu32, ← Int.natCast_add, ← Int.natCast_mul, cast_succ, wrapu32_nat, shr32, reps_wd, map_set_wd, List.length_set, zs_len, m0, o1, m1, places, fillAll, reps]
      refine W_drawn ?_
      simp (maxSteps := 4000000) only [go_sem, ↓reduceIte, Nat.reduceAdd, Nat.reduceSub, Nat.reduceMul, Nat.reduceEqDiff, reduceCtorEq, Int.reduceAdd, Int.reduceLT, Int.reduceLE, Int.reduceToNat, Int.reduceNeg, Int.reduceSub, ← List.map_take, ← List.map_drop, ne_eq, Nat.reduceLeDiff, Nat.reduceLT, Nat.zero_le, Nat.le_refl, wrap64, wrapu64, wrapu32, ← Int.natCast_add, ← Int.natCast_mul, cast_succ, wrapu32_nat, shr32, reps_wd, map_set_wd, List.length_set, zs_len, m2, m3, m4, m5, o1, m6, places, fillAll, reps]
      refine ⟨by refine okR_pairs ?_; (repeat ((with_unfolding_all refine And.intro ?_ ?_); (focus (rw [free_mk] <;> (try simp) <;> (try omega))))); (with_unfolding_all exact True.intro), ?_⟩
      simp (maxSteps := 4000000) only [go_sem, ↓reduceIte, Nat.reduceAdd, Nat.reduceSub, Nat.reduceMul, Nat.reduceEqDiff, reduceCtorEq, Int.reduceAdd, Int.reduceLT, Int.reduceLE, Int.reduceToNat, Int.reduceNeg, Int.reduceSub, ← List.map_take, ← List.map_drop, ne_eq, Nat.reduceLeDiff, Nat.reduceLT, Nat.zero_le, Nat.le_refl, wrap64, wrapu64, wrapu32, ← Int.natCast_add, ← Int.natCast_mul, cast_succ, wrapu32_nat, shr32, reps_wd, map_set_wd, List.length_set, zs_len, awake8]
theorem lucasOnly_walk (qa qx qy : Raw) (ra : InR qa.2.2) (rx : InR qx.2.2) (ry : InR qy.2.2) (la : qa.2.2.length < 9223372036854775808) (lx : qx.2.2.length < 9223372036854775808) (ly : qy.2.2.length < 9223372036854775808) : onlyP qa qx qy := by
  cases hva : rvl qa with
  | false => exact only_invalid qa qx qy la lx ly (.inl hva)
  | true =>
    cases hvx : rvl qx with
    | false => exact only_invalid qa qx qy la lx ly (.inr (.inl ⟨hva, hvx⟩))
    | true =>
      cases hvy : rvl qy with
      | false => exact only_invalid qa qx qy la lx ly (.inr (.inr (.inl ⟨hva, hvx, hvy⟩)))
      | true =>
        cases hs : (shortW 60 qa && (shortW 60 qx && shortW 60 qy)) with
        | false => exact only_invalid qa qx qy la lx ly (.inr (.inr (.inr ⟨hva, hvx, hvy, hs⟩)))
        | true =>
          simp only [Bool.and_eq_true] at hs
          have h1 : qa.2.2.length ≤ 60 := of_decide_eq_true hs.1
          have h2 : qx.2.2.length ≤ 60 := of_decide_eq_true hs.2.1
          have h3 : qy.2.2.length ≤ 60 := of_decide_eq_true hs.2.2
          obtain ⟨_, a, a1, a2⟩ := rvalid_norm (neg := qa.1) ra (by rw [valid_same]; exact hva)
          obtain ⟨_, x, x1, x2⟩ := rvalid_norm (neg := qx.1) rx (by rw [valid_same]; exact hvx)
          obtain ⟨_, y, y1, y2⟩ := rvalid_norm (neg := qy.1) ry (by rw [valid_same]; exact hvy)
          obtain ⟨n1, fa, l1⟩ := qa
          obtain ⟨n2, fx, l2⟩ := qx
          obtain ⟨n3, fy, l3⟩ := qy
          dsimp only at a1 a2 x1 x2 y1 y2 h1 h2 h3
          subst a1 a2 x1 x2 y1 y2
          exact only_valid fa a fx x fy y h1 h2 h3
theorem lucasOnly_pure : lucasOnly.Pure := by
  intro xs h
  simp only [FitArgs, opn_eq, T1, T2, T3, T4, T5, T6, T7, T8, T9, T10, T11, T12, T13, T14, T15, T16, T17, T18, T19, T20, T21, T22, T23, T24, T25, T26, T27, T29, T30, T31, T33, T34, T35, T37, T38, T39, T40, T42, T43, T44, T45, T46, T47, T48, T50, T51, T53, T55, T56, T57, T58, T59, T60, T61, T62, T63, T64, T65, T66, T67, T68, T69, T70, T71, T72, T73, T74, T75, T76, T77, T78, T79, T80, T81, T82, T83, T84, T85, T86, T87, T88, T89, T90, T92, T94, T95, T96, T97, T98, T99, T100, T101, T102, T104, T105, T106, T107, T108, T109, T111, T112, T113, T115, T116, T117, T118, T119, T120, T121, T122, T123, T124, T125, T126, T127, T128, T129, T130, T131, T132, T133, elm] at h
  obtain ⟨c1, x1, y1, rfl, ⟨rfl, h1⟩, c2, x2, y2, rfl, ⟨rfl, h2⟩, c3, x3, y3, rfl, ⟨rfl, h3⟩, rfl⟩ := h
  obtain ⟨qa, rfl, ra, na, la⟩ := fit_raw (m := 3) h1
  obtain ⟨qx, rfl, rx, nx, lx⟩ := fit_raw (m := 3) h2
  obtain ⟨qy, rfl, ry, ny, ly⟩ := fit_raw (m := 3) h3
  unfold maxLen at la lx ly
  exact lucasOnly_walk qa qx qy ra rx ry (by omega) (by omega) (by omega)
theorem lucasOnly_holds : Rows.LucasOnlySaid := lucasOnly.over lucasOnly_pure
#print axioms lucasOnly_holds
end Go.Proofs.Ytmgmcnoobgljpaa
