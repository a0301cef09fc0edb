/- Part 6 of a proof about this seat: Sml, Gcd. (Own work of this repo.) -/
import Derived.Test.YtmgmcnoobgljpaaZLucasTells5
set_option linter.unusedVariables false
set_option linter.unusedSimpArgs false
/- Walks: is a number an int? (Own work of this repo.) -/
namespace Go.Proofs.Ytmgmcnoobgljpaa
open Vm
set_option maxRecDepth 100000

theorem sg_t {n : Nat} : sg true n = -(n : Int) := rfl
theorem sg_f {n : Nat} : sg false n = (n : Int) := rfl
/-- Is it an int? -/
def sm (a : Int) : Bool := decide (-9223372036854775808 ≤ a ∧ a < 9223372036854775808)
theorem dg_two {a : Int} (h : (dg a).length ≤ 2) : (dg a = [] ∧ a = 0) ∨ (∃ x : Nat, dg a = [x] ∧ x < 4294967296 ∧ a = sg (ng a) x) ∨ ∃ x y : Nat, dg a = [x, y] ∧ x < 4294967296 ∧ y < 4294967296 ∧ a = sg (ng a) (x + y * 4294967296) := by
  have hs : a = sg (ng a) (val (dg a)) := by rw [val_dg]; exact (sg_ng a).symm
  have hr : InR (dg a) := dg_inR a
  generalize dg a = l at *
  match l, h with
  | [], _ => rw [val_nil] at hs; exact .inl ⟨rfl, by rw [hs]; cases ng a <;> rfl⟩
  | [x], _ =>
    rw [val_cons, val_nil] at hs
    exact .inr (.inl ⟨x, rfl, hr x (by simp), hs.trans (congrArg (sg (ng a)) (by rw [show BB = 4294967296 from rfl]; omega))⟩)
  | [x, y], _ =>
    rw [val_cons, val_cons, val_nil] at hs
    exact .inr (.inr ⟨x, y, rfl, hr x (by simp), hr y (by simp), hs.trans (congrArg (sg (ng a)) (by rw [show BB = 4294967296 from rfl]; omega))⟩)
theorem small_a {x : Nat} (hx : x < 4294967296) : IntKind.u64.wrap ((x : Int) * 2 ^ min (32 * 0 : Int).toNat (kb .u64)) = x ∧ IntKind.u64.wrap ((BitVec.ofInt (kb .u64) 0 ||| BitVec.ofInt (kb .u64) (x : Int)).toNat : Int) = x := by
  refine ⟨?_, ?_⟩
  · show IntKind.u64.wrap ((x : Int) * 2 ^ 0) = x
    rw [IntKind.wrap_u64]; omega
  · have e1 := or64 (a := 0) (b := x) (by decide) (by omega)
    rw [Nat.zero_or] at e1
    exact e1
theorem small_b {x y : Nat} (hx : x < 4294967296) (hy : y < 4294967296) : ∃ n, n = x + y * 4294967296 ∧ IntKind.u64.wrap ((y : Int) * 2 ^ min (32 * 1 : Int).toNat (kb .u64)) = ((y * 4294967296 : Nat) : Int) ∧ IntKind.u64.wrap ((BitVec.ofInt (kb .u64) (x : Int) ||| BitVec.ofInt (kb .u64) ((y * 4294967296 : Nat) : Int)).toNat : Int) = (n : Int) := by
  refine ⟨_, rfl, ?_, or_high hx hy⟩
  show IntKind.u64.wrap ((y : Int) * 2 ^ 32) = _
  rw [IntKind.wrap_u64]; omega
theorem rSmall_far (m : Bool) (a : Int) (ka : (dg a).length ≤ 4096) (h2 : 2 < (dg a).length) : denP E 34 [I m a] = some (.ret (.tup [.int .i64 0, .bool false])) := by
  refine denP_eq E34 rfl (by simp [AV.pureL, AV.pure, pure_wd]) ?_
  obtain ⟨x, hx⟩ : ∃ x, x = (dg a).getD 0 0 := ⟨_, rfl⟩
  obtain ⟨y, hy⟩ : ∃ y, y = (dg a).getD 1 0 := ⟨_, rfl⟩
  simp (maxSteps := 4000000) (disch := omega) only [go_sem, ↓reduceIte, Nat.reduceAdd, Nat.reduceSub, Nat.reduceMul, Nat.reduceEqDiff, reduceCtorEq, Int.reduceAdd, Int.reduceLT, Int.reduceLE, Int.reduceToNat, Int.reduceNeg, Int.reduceSub, ← List.map_take, ← List.map_drop, wrap64, wrapu64, wrapu32, ← Int.natCast_add, ← Int.natCast_mul, cast_succ, wrapu32_nat, shr32, reps_wd, map_set_wd, List.length_set, zs_len, Try.f34]
  rw [W_unroll]
  simp (maxSteps := 4000000) (disch := omega) only [go_sem, ↓reduceIte, Nat.reduceAdd, Nat.reduceSub, Nat.reduceMul, Nat.reduceEqDiff, reduceCtorEq, Int.reduceAdd, Int.reduceLT, Int.reduceLE, Int.reduceToNat, Int.reduceNeg, Int.reduceSub, ← List.map_take, ← List.map_drop, wrap64, wrapu64, wrapu32, ← Int.natCast_add, ← Int.natCast_mul, cast_succ, wrapu32_nat, shr32, reps_wd, map_set_wd, List.length_set, zs_len]
  rw [W_unroll]
  simp (maxSteps := 4000000) (disch := omega) only [go_sem, ↓reduceIte, Nat.reduceAdd, Nat.reduceSub, Nat.reduceMul, Nat.reduceEqDiff, reduceCtorEq, Int.reduceAdd, Int.reduceLT, Int.reduceLE, Int.reduceToNat, Int.reduceNeg, Int.reduceSub, ← List.map_take, ← List.map_drop, wrap64, wrapu64, wrapu32, ← Int.natCast_add, ← Int.natCast_mul, cast_succ, wrapu32_nat, shr32, reps_wd, map_set_wd, List.length_set, zs_len]
  rw [W_unroll]
  simp (maxSteps := 4000000) (disch := omega) only [go_sem, ↓reduceIte, Nat.reduceAdd, Nat.reduceSub, Nat.reduceMul, Nat.reduceEqDiff, reduceCtorEq, Int.reduceAdd, Int.reduceLT, Int.reduceLE, Int.reduceToNat, Int.reduceNeg, Int.reduceSub, ← List.map_take, ← List.map_drop, wrap64, wrapu64, wrapu32, ← Int.natCast_add, ← Int.natCast_mul, cast_succ, wrapu32_nat, shr32, reps_wd, map_set_wd, List.length_set, zs_len]
theorem and_63 {u : Nat} (h : u < 18446744073709551616) : IntKind.u64.wrap ((BitVec.ofInt (kb .u64) (u : Int) &&& BitVec.ofInt (kb .u64) 9223372036854775807).toNat : Int) = ((u % 9223372036854775808 : Nat) : Int) := by
  have := and64 (b := 9223372036854775807) h (by decide)
  rw [show (9223372036854775807 : Int) = ((9223372036854775807 : Nat) : Int) from rfl, this, show 9223372036854775807 = 2 ^ 63 - 1 from rfl, Nat.and_two_pow_sub_one_eq_mod]
set_option maxHeartbeats 2000000 in
theorem rSmall_spec (m : Bool) (a : Int) (ka : (dg a).length ≤ 4096) : ∃ k : Int, denP E 34 [I m a] = some (.ret (.tup [.int .i64 k, .bool (sm a)])) ∧ (sm a = true → k = a) := by
  by_cases h2 : 2 < (dg a).length
  · have hs : sm a = false := by
      refine decide_eq_false fun h => ?_
      have := dg_small (z := a) (by omega)
      omega
    rw [hs]
    exact ⟨0, rSmall_far m a ka h2, fun h => by cases h⟩
  refine denP_ex E34 rfl (by simp [AV.pureL, AV.pure, pure_wd]) ?_
  rcases dg_two (a := a) (by omega) with ⟨hd, ha⟩ | ⟨x, hd, hx, ha⟩ | ⟨x, y, hd, hx, hy, ha⟩
  · subst ha
    simp (maxSteps := 4000000) (disch := omega) only [go_sem, ↓reduceIte, Nat.reduceAdd, Nat.reduceSub, Nat.reduceMul, Nat.reduceEqDiff, reduceCtorEq, Int.reduceAdd, Int.reduceLT, Int.reduceLE, Int.reduceToNat, Int.reduceNeg, Int.reduceSub, ← List.map_take, ← List.map_drop, wrap64, wrapu64, wrapu32, ← Int.natCast_add, ← Int.natCast_mul, cast_succ, wrapu32_nat, shr32, reps_wd, map_set_wd, List.length_set, zs_len, Try.f34, hd, ng_zero, dg_zero, List.map_nil, refP, elems, places]
    rw [W_unroll]
    simp (maxSteps := 4000000) (disch := omega) only [go_sem, ↓reduceIte, Nat.reduceAdd, Nat.reduceSub, Nat.reduceMul, Nat.reduceEqDiff, reduceCtorEq, Int.reduceAdd, Int.reduceLT, Int.reduceLE, Int.reduceToNat, Int.reduceNeg, Int.reduceSub, ← List.map_take, ← List.map_drop, wrap64, wrapu64, wrapu32, ← Int.natCast_add, ← Int.natCast_mul, cast_succ, wrapu32_nat, shr32, reps_wd, map_set_wd, List.length_set, zs_len]
    exact ⟨0, rfl, fun _ => rfl⟩
  · obtain ⟨e0, e1⟩ := small_a hx
    have hl : (dg a).length = 1 := by rw [hd]; rfl
    have hg : (dg a).getD 0 0 = x := by rw [hd]; rfl
    have hng := ng_false (z := a)
    have hng2 := ng_true (z := a)
    clear hd e1
    have e6 := and_63 (u := x) (by omega)
    have e5' : True = True := rfl
    have e7 : x % 9223372036854775808 = x := Nat.mod_eq_of_lt (by omega)
    rw [e7] at e6
    cases hn : ng a with
    | false =>
      rw [hn] at ha
      have hs : sm a = true := decide_eq_true (by rw [ha]; simp only [sg_t, sg_f]; omega)
      rw [hs]
      clear hng hng2
      simp (maxSteps := 4000000) (disch := omega) only [go_sem, ↓reduceIte, Nat.reduceAdd, Nat.reduceSub, Nat.reduceMul, Nat.reduceEqDiff, reduceCtorEq, Int.reduceAdd, Int.reduceLT, Int.reduceLE, Int.reduceToNat, Int.reduceNeg, Int.reduceSub, ← List.map_take, ← List.map_drop, wrap64, wrapu64, wrapu32, ← Int.natCast_add, ← Int.natCast_mul, cast_succ, wrapu32_nat, shr32, reps_wd, map_set_wd, List.length_set, zs_len, Try.f34, hn, hg]
      rw [W_unroll]
      simp (maxSteps := 4000000) (disch := omega) only [go_sem, ↓reduceIte, Nat.reduceAdd, Nat.reduceSub, Nat.reduceMul, Nat.reduceEqDiff, reduceCtorEq, Int.reduceAdd, Int.reduceLT, Int.reduceLE, Int.reduceToNat, Int.reduceNeg, Int.reduceSub, ← List.map_take, ← List.map_drop, wrap64, wrapu64, wrapu32, ← Int.natCast_add, ← Int.natCast_mul, cast_succ, wrapu32_nat, shr32, reps_wd, map_set_wd, List.length_set, zs_len, hg, e0, Int.zero_add]
      rw [W_unroll]
      simp (maxSteps := 4000000) (disch := omega) only [go_sem, ↓reduceIte, Nat.reduceAdd, Nat.reduceSub, Nat.reduceMul, Nat.reduceEqDiff, reduceCtorEq, Int.reduceAdd, Int.reduceLT, Int.reduceLE, Int.reduceToNat, Int.reduceNeg, Int.reduceSub, ← List.map_take, ← List.map_drop, wrap64, wrapu64, wrapu32, ← Int.natCast_add, ← Int.natCast_mul, cast_succ, wrapu32_nat, shr32, reps_wd, map_set_wd, List.length_set, zs_len, e0, e6, Int.zero_add, e5']
      exact ⟨x, rfl, fun _ => ha.symm⟩
    | true =>
      have h0 := hng2.1 hn
      rw [hn] at ha
      have hx1 : 1 ≤ x := by rw [ha] at h0; simp only [sg_t, sg_f] at h0; omega
      have hs : sm a = true := decide_eq_true (by rw [ha]; simp only [sg_t, sg_f]; omega)
      rw [hs]
      clear hng hng2 h0
      simp (maxSteps := 4000000) (disch := omega) only [go_sem, ↓reduceIte, Nat.reduceAdd, Nat.reduceSub, Nat.reduceMul, Nat.reduceEqDiff, reduceCtorEq, Int.reduceAdd, Int.reduceLT, Int.reduceLE, Int.reduceToNat, Int.reduceNeg, Int.reduceSub, ← List.map_take, ← List.map_drop, wrap64, wrapu64, wrapu32, ← Int.natCast_add, ← Int.natCast_mul, cast_succ, wrapu32_nat, shr32, reps_wd, map_set_wd, List.length_set, zs_len, Try.f34, hn, hg]
      rw [W_unroll]
      simp (maxSteps := 4000000) (disch := omega) only [go_sem, ↓reduceIte, Nat.reduceAdd, Nat.reduceSub, Nat.reduceMul, Nat.reduceEqDiff, reduceCtorEq, Int.reduceAdd, Int.reduceLT, Int.reduceLE, Int.reduceToNat, Int.reduceNeg, Int.reduceSub, ← List.map_take, ← List.map_drop, wrap64, wrapu64, wrapu32, ← Int.natCast_add, ← Int.natCast_mul, cast_succ, wrapu32_nat, shr32, reps_wd, map_set_wd, List.length_set, zs_len, hg, e0, Int.zero_add]
      rw [W_unroll]
      simp (maxSteps := 4000000) (disch := omega) only [go_sem, ↓reduceIte, Nat.reduceAdd, Nat.reduceSub, Nat.reduceMul, Nat.reduceEqDiff, reduceCtorEq, Int.reduceAdd, Int.reduceLT, Int.reduceLE, Int.reduceToNat, Int.reduceNeg, Int.reduceSub, ← List.map_take, ← List.map_drop, wrap64, wrapu64, wrapu32, ← Int.natCast_add, ← Int.natCast_mul, cast_succ, wrapu32_nat, shr32, reps_wd, map_set_wd, List.length_set, zs_len, e0, e6, Int.zero_add, e5']
      refine ⟨a, ?_, fun _ => rfl⟩
      rw [ha]; simp only [sg_t, sg_f]
      congr 3; omega
  · obtain ⟨e0, _⟩ := small_a hx
    obtain ⟨n, hnn, e2, _⟩ := small_b hx hy
    have hl : (dg a).length = 2 := by rw [hd]; rfl
    have hg : (dg a).getD 0 0 = x := by rw [hd]; rfl
    have hg2 : (dg a).getD 1 0 = y := by rw [hd]; rfl
    have hng2 := ng_true (z := a)
    clear hd
    rw [← hnn] at ha
    have hn64 : n < 18446744073709551616 := by omega
    have e5 : (x : Int) + ((y * 4294967296 : Nat) : Int) = (n : Int) := by omega
    have e5' : x + y * 4294967296 = n := hnn.symm
    have e6 := and_63 (u := n) hn64
    cases hn : ng a with
    | false =>
      rw [hn] at ha
      clear hng2
      by_cases hq : n < 9223372036854775808
      · have hs : sm a = true := decide_eq_true (by rw [ha]; simp only [sg_t, sg_f]; omega)
        rw [hs]
        rw [Nat.mod_eq_of_lt hq] at e6
        simp (maxSteps := 4000000) (disch := omega) only [go_sem, ↓reduceIte, Nat.reduceAdd, Nat.reduceSub, Nat.reduceMul, Nat.reduceEqDiff, reduceCtorEq, Int.reduceAdd, Int.reduceLT, Int.reduceLE, Int.reduceToNat, Int.reduceNeg, Int.reduceSub, ← List.map_take, ← List.map_drop, wrap64, wrapu64, wrapu32, ← Int.natCast_add, ← Int.natCast_mul, cast_succ, wrapu32_nat, shr32, reps_wd, map_set_wd, List.length_set, zs_len, Try.f34, hn, hg]
        rw [W_unroll]
        simp (maxSteps := 4000000) (disch := omega) only [go_sem, ↓reduceIte, Nat.reduceAdd, Nat.reduceSub, Nat.reduceMul, Nat.reduceEqDiff, reduceCtorEq, Int.reduceAdd, Int.reduceLT, Int.reduceLE, Int.reduceToNat, Int.reduceNeg, Int.reduceSub, ← List.map_take, ← List.map_drop, wrap64, wrapu64, wrapu32, ← Int.natCast_add, ← Int.natCast_mul, cast_succ, wrapu32_nat, shr32, reps_wd, map_set_wd, List.length_set, zs_len, hg, e0, Int.zero_add]
        rw [W_unroll]
        simp (maxSteps := 4000000) (disch := omega) only [go_sem, ↓reduceIte, Nat.reduceAdd, Nat.reduceSub, Nat.reduceMul, Nat.reduceEqDiff, reduceCtorEq, Int.reduceAdd, Int.reduceLT, Int.reduceLE, Int.reduceToNat, Int.reduceNeg, Int.reduceSub, ← List.map_take, ← List.map_drop, wrap64, wrapu64, wrapu32, ← Int.natCast_add, ← Int.natCast_mul, cast_succ, wrapu32_nat, shr32, reps_wd, map_set_wd, List.length_set, zs_len, hg2, e0, e2, e5', Int.zero_add]
        rw [W_unroll]
        simp (maxSteps := 4000000) (disch := omega) only [go_sem, ↓reduceIte, Nat.reduceAdd, Nat.reduceSub, Nat.reduceMul, Nat.reduceEqDiff, reduceCtorEq, Int.reduceAdd, Int.reduceLT, Int.reduceLE, Int.reduceToNat, Int.reduceNeg, Int.reduceSub, ← List.map_take, ← List.map_drop, wrap64, wrapu64, wrapu32, ← Int.natCast_add, ← Int.natCast_mul, cast_succ, wrapu32_nat, shr32, reps_wd, map_set_wd, List.length_set, zs_len, e0, e6, Int.zero_add, e5']
        exact ⟨n, rfl, fun _ => ha.symm⟩
      · have hs : sm a = false := by unfold sm; rw [decide_eq_false_iff_not, ha]; simp only [sg_t, sg_f]; omega
        rw [hs]
        have hr := Nat.mod_lt n (show 0 < 9223372036854775808 by decide)
        generalize n % 9223372036854775808 = r at *
        simp (maxSteps := 4000000) (disch := omega) only [go_sem, ↓reduceIte, Nat.reduceAdd, Nat.reduceSub, Nat.reduceMul, Nat.reduceEqDiff, reduceCtorEq, Int.reduceAdd, Int.reduceLT, Int.reduceLE, Int.reduceToNat, Int.reduceNeg, Int.reduceSub, ← List.map_take, ← List.map_drop, wrap64, wrapu64, wrapu32, ← Int.natCast_add, ← Int.natCast_mul, cast_succ, wrapu32_nat, shr32, reps_wd, map_set_wd, List.length_set, zs_len, Try.f34, hn, hg]
        rw [W_unroll]
        simp (maxSteps := 4000000) (disch := omega) only [go_sem, ↓reduceIte, Nat.reduceAdd, Nat.reduceSub, Nat.reduceMul, Nat.reduceEqDiff, reduceCtorEq, Int.reduceAdd, Int.reduceLT, Int.reduceLE, Int.reduceToNat, Int.reduceNeg, Int.reduceSub, ← List.map_take, ← List.map_drop, wrap64, wrapu64, wrapu32, ← Int.natCast_add, ← Int.natCast_mul, cast_succ, wrapu32_nat, shr32, reps_wd, map_set_wd, List.length_set, zs_len, hg, e0, Int.zero_add]
        rw [W_unroll]
        simp (maxSteps := 4000000) (disch := omega) only [go_sem, ↓reduceIte, Nat.reduceAdd, Nat.reduceSub, Nat.reduceMul, Nat.reduceEqDiff, reduceCtorEq, Int.reduceAdd, Int.reduceLT, Int.reduceLE, Int.reduceToNat, Int.reduceNeg, Int.reduceSub, ← List.map_take, ← List.map_drop, wrap64, wrapu64, wrapu32, ← Int.natCast_add, ← Int.natCast_mul, cast_succ, wrapu32_nat, shr32, reps_wd, map_set_wd, List.length_set, zs_len, hg2, e0, e2, e5', Int.zero_add]
        rw [W_unroll]
        simp (maxSteps := 4000000) (disch := omega) only [go_sem, ↓reduceIte, Nat.reduceAdd, Nat.reduceSub, Nat.reduceMul, Nat.reduceEqDiff, reduceCtorEq, Int.reduceAdd, Int.reduceLT, Int.reduceLE, Int.reduceToNat, Int.reduceNeg, Int.reduceSub, ← List.map_take, ← List.map_drop, wrap64, wrapu64, wrapu32, ← Int.natCast_add, ← Int.natCast_mul, cast_succ, wrapu32_nat, shr32, reps_wd, map_set_wd, List.length_set, zs_len, e0, e6, Int.zero_add, e5']
        exact ⟨r, rfl, fun h => by cases h⟩
    | true =>
      have h0 := hng2.1 hn
      rw [hn] at ha
      clear hng2 e6
      have hx1 : 1 ≤ n := by rw [ha] at h0; simp only [sg_t, sg_f] at h0; omega
      by_cases hq : n ≤ 9223372036854775808
      · have hs : sm a = true := decide_eq_true (by rw [ha]; simp only [sg_t, sg_f]; omega)
        rw [hs]
        simp (maxSteps := 4000000) (disch := omega) only [go_sem, ↓reduceIte, Nat.reduceAdd, Nat.reduceSub, Nat.reduceMul, Nat.reduceEqDiff, reduceCtorEq, Int.reduceAdd, Int.reduceLT, Int.reduceLE, Int.reduceToNat, Int.reduceNeg, Int.reduceSub, ← List.map_take, ← List.map_drop, wrap64, wrapu64, wrapu32, ← Int.natCast_add, ← Int.natCast_mul, cast_succ, wrapu32_nat, shr32, reps_wd, map_set_wd, List.length_set, zs_len, Try.f34, hn, hg]
        rw [W_unroll]
        simp (maxSteps := 4000000) (disch := omega) only [go_sem, ↓reduceIte, Nat.reduceAdd, Nat.reduceSub, Nat.reduceMul, Nat.reduceEqDiff, reduceCtorEq, Int.reduceAdd, Int.reduceLT, Int.reduceLE, Int.reduceToNat, Int.reduceNeg, Int.reduceSub, ← List.map_take, ← List.map_drop, wrap64, wrapu64, wrapu32, ← Int.natCast_add, ← Int.natCast_mul, cast_succ, wrapu32_nat, shr32, reps_wd, map_set_wd, List.length_set, zs_len, hg, e0, Int.zero_add]
        rw [W_unroll]
        simp (maxSteps := 4000000) (disch := omega) only [go_sem, ↓reduceIte, Nat.reduceAdd, Nat.reduceSub, Nat.reduceMul, Nat.reduceEqDiff, reduceCtorEq, Int.reduceAdd, Int.reduceLT, Int.reduceLE, Int.reduceToNat, Int.reduceNeg, Int.reduceSub, ← List.map_take, ← List.map_drop, wrap64, wrapu64, wrapu32, ← Int.natCast_add, ← Int.natCast_mul, cast_succ, wrapu32_nat, shr32, reps_wd, map_set_wd, List.length_set, zs_len, hg2, e0, e2, e5', Int.zero_add]
        rw [W_unroll]
        simp (maxSteps := 4000000) (disch := omega) only [go_sem, ↓reduceIte, Nat.reduceAdd, Nat.reduceSub, Nat.reduceMul, Nat.reduceEqDiff, reduceCtorEq, Int.reduceAdd, Int.reduceLT, Int.reduceLE, Int.reduceToNat, Int.reduceNeg, Int.reduceSub, ← List.map_take, ← List.map_drop, wrap64, wrapu64, wrapu32, ← Int.natCast_add, ← Int.natCast_mul, cast_succ, wrapu32_nat, shr32, reps_wd, map_set_wd, List.length_set, zs_len, e0, Int.zero_add, e5']
        refine ⟨a, ?_, fun _ => rfl⟩
        rw [ha]; simp only [sg_t, sg_f]
        congr 3; omega
      · have hs : sm a = false := by unfold sm; rw [decide_eq_false_iff_not, ha]; simp only [sg_t, sg_f]; omega
        rw [hs]
        simp (maxSteps := 4000000) (disch := omega) only [go_sem, ↓reduceIte, Nat.reduceAdd, Nat.reduceSub, Nat.reduceMul, Nat.reduceEqDiff, reduceCtorEq, Int.reduceAdd, Int.reduceLT, Int.reduceLE, Int.reduceToNat, Int.reduceNeg, Int.reduceSub, ← List.map_take, ← List.map_drop, wrap64, wrapu64, wrapu32, ← Int.natCast_add, ← Int.natCast_mul, cast_succ, wrapu32_nat, shr32, reps_wd, map_set_wd, List.length_set, zs_len, Try.f34, hn, hg]
        rw [W_unroll]
        simp (maxSteps := 4000000) (disch := omega) only [go_sem, ↓reduceIte, Nat.reduceAdd, Nat.reduceSub, Nat.reduceMul, Nat.reduceEqDiff, reduceCtorEq, Int.reduceAdd, Int.reduceLT, Int.reduceLE, Int.reduceToNat, Int.reduceNeg, Int.reduceSub, ← List.map_take, ← List.map_drop, wrap64, wrapu64, wrapu32, ← Int.natCast_add, ← Int.natCast_mul, cast_succ, wrapu32_nat, shr32, reps_wd, map_set_wd, List.length_set, zs_len, hg, e0, Int.zero_add]
        rw [W_unroll]
        simp (maxSteps := 4000000) (disch := omega) only [go_sem, ↓reduceIte, Nat.reduceAdd, Nat.reduceSub, Nat.reduceMul, Nat.reduceEqDiff, reduceCtorEq, Int.reduceAdd, Int.reduceLT, Int.reduceLE, Int.reduceToNat, Int.reduceNeg, Int.reduceSub, ← List.map_take, ← List.map_drop, wrap64, wrapu64, wrapu32, ← Int.natCast_add, ← Int.natCast_mul, cast_succ, wrapu32_nat, shr32, reps_wd, map_set_wd, List.length_set, zs_len, hg2, e0, e2, e5', Int.zero_add]
        rw [W_unroll]
        simp (maxSteps := 4000000) (disch := omega) only [go_sem, ↓reduceIte, Nat.reduceAdd, Nat.reduceSub, Nat.reduceMul, Nat.reduceEqDiff, reduceCtorEq, Int.reduceAdd, Int.reduceLT, Int.reduceLE, Int.reduceToNat, Int.reduceNeg, Int.reduceSub, ← List.map_take, ← List.map_drop, wrap64, wrapu64, wrapu32, ← Int.natCast_add, ← Int.natCast_mul, cast_succ, wrapu32_nat, shr32, reps_wd, map_set_wd, List.length_set, zs_len, e0, Int.zero_add, e5']
        exact ⟨0, rfl, fun h => by cases h⟩
end Go.Proofs.Ytmgmcnoobgljpaa

/- Walks: the greatest common divisor. (Own work of this repo.) -/
namespace Go.Proofs.Ytmgmcnoobgljpaa
open Vm
set_option maxRecDepth 100000

theorem dig_le {a b : Nat} {k : Nat} (h : a ≤ b) (hb : (dig b).length ≤ k) : (dig a).length ≤ k := Nat.le_trans (dig_mono h) hb
set_option maxHeartbeats 2000000 in
theorem rGcd_spec (ma : Bool) (x : Int) (mb : Bool) (y : Int) (hx : (dg x).length < 2 ^ 30) (hy : (dg y).length < 2 ^ 30) :
    ∃ f : Bool, denP E 33 [I ma x, I mb y] = some (.ret (I f (Nat.gcd x.natAbs y.natAbs : Nat))) ∧ True := by
  refine denP_ex E33 rfl (by simp [AV.pureL, AV.pure, pure_wd]) ?_
  have a1 := rAbs_spec ma x (by omega)
  have a2 := rAbs_spec mb y (by omega)
  simp only [RM, I, ng_nat, dg_nat] at a1 a2
  simp (maxSteps := 4000000) (disch := omega) only [go_sem, ↓reduceIte, Nat.reduceAdd, Nat.reduceSub, Nat.reduceMul, Nat.reduceEqDiff, reduceCtorEq, Int.reduceAdd, Int.reduceLT, Int.reduceLE, Int.reduceToNat, Int.reduceNeg, Int.reduceSub, ← List.map_take, ← List.map_drop, wrap64, wrapu64, wrapu32, ← Int.natCast_add, ← Int.natCast_mul, cast_succ, wrapu32_nat, shr32, reps_wd, map_set_wd, List.length_set, zs_len, Try.f33]
  refine W_drawn ?_
  simp (maxSteps := 4000000) (disch := omega) only [go_sem, ↓reduceIte, Nat.reduceAdd, Nat.reduceSub, Nat.reduceMul, Nat.reduceEqDiff, reduceCtorEq, Int.reduceAdd, Int.reduceLT, Int.reduceLE, Int.reduceToNat, Int.reduceNeg, Int.reduceSub, ← List.map_take, ← List.map_drop, wrap64, wrapu64, wrapu32, ← Int.natCast_add, ← Int.natCast_mul, cast_succ, wrapu32_nat, shr32, reps_wd, map_set_wd, List.length_set, zs_len, a1, a2]
  refine ⟨by rfl, ?_⟩
  have hx' : (dig x.natAbs).length < 2 ^ 30 := hx
  have hy' : (dig y.natAbs).length < 2 ^ 30 := hy
  generalize x.natAbs = A0 at *
  generalize y.natAbs = B0 at *
  refine W_loopS (fun k sl H nx => ∃ (A : Nat) (fa fb : Bool), (∃ g : Nat → AV, sl = [g 0, g 1, .ptr 0 0, .ptr 1 0, .ptr 2 0, g 5, g 6, g 7, g 8, g 9, g 10, g 11, g 12, g 13, g 14, g 15, g 16, g 17, g 18, g 19, g 20, g 21, g 22]) ∧ 3 ≤ nx ∧
    H 0 = some ⟨[.bool false, .lst fa ((dig A).map wd)], true, 2, false⟩ ∧ H 1 = some ⟨[.bool false, .lst fb ((dig k).map wd)], true, 2, false⟩ ∧ H 2 = some ⟨[.bool false, .lst true []], true, 2, false⟩ ∧
    (dig A).length < 2 ^ 30 ∧ (dig k).length < 2 ^ 30 ∧ Hd (Nat.gcd A k = Nat.gcd A0 B0)) B0 ⟨A0, _, _, garb rfl, Nat.le_refl 3, rfl, rfl, rfl, hx', hy', ⟨rfl⟩⟩ ?_
  clear a1 a2
  rintro B _ H nx ⟨A, fa, fb, ⟨g, rfl⟩, hnx, h0, h1, h2, hA, hB, hg⟩
  have hZ := rZero_spec fb (B : Int)
  simp only [I, ng_nat, dg_nat] at hZ
  by_cases hB0 : B = 0
  · have hfin : A = Nat.gcd A0 B0 := by rw [← hg.out, hB0, Nat.gcd_zero_right]
    rw [← hfin]
    clear hg hfin
    simp (maxSteps := 4000000) (disch := omega) only [go_sem, ↓reduceIte, Nat.reduceAdd, Nat.reduceSub, Nat.reduceMul, Nat.reduceEqDiff, reduceCtorEq, Int.reduceAdd, Int.reduceLT, Int.reduceLE, Int.reduceToNat, Int.reduceNeg, Int.reduceSub, ← List.map_take, ← List.map_drop, wrap64, wrapu64, wrapu32, ← Int.natCast_add, ← Int.natCast_mul, cast_succ, wrapu32_nat, shr32, reps_wd, map_set_wd, List.length_set, zs_len, h0, h1, h2, hZ, ng_nat, dg_nat]
    exact ⟨fa, rfl⟩
  · obtain ⟨m, hd, hm1, hm2⟩ := rDiv_spec fa (A : Int) fb (B : Int) hA hB (by omega)
    have e1 : (A : Int) % (B : Int) = ((A % B : Nat) : Int) := rfl
    have e2 : (A : Int) / (B : Int) = ((A / B : Nat) : Int) := rfl
    rw [e1, e2] at hd
    simp only [I, ng_nat, dg_nat] at hd
    have hlt := Nat.mod_lt A (show 0 < B by omega)
    have hst : Nat.gcd B (A % B) = Nat.gcd A0 B0 := by rw [← hg.out, Nat.gcd_comm B, Nat.gcd_comm A, ← Nat.gcd_rec]
    have hl := dig_mono (Nat.le_of_lt hlt)
    clear hg hm1 hm2 e1 e2
    generalize A / B = q at *
    generalize A % B = r at *
    simp (maxSteps := 4000000) (disch := omega) only [go_sem, ↓reduceIte, Nat.reduceAdd, Nat.reduceSub, Nat.reduceMul, Nat.reduceEqDiff, reduceCtorEq, Int.reduceAdd, Int.reduceLT, Int.reduceLE, Int.reduceToNat, Int.reduceNeg, Int.reduceSub, ← List.map_take, ← List.map_drop, wrap64, wrapu64, wrapu32, ← Int.natCast_add, ← Int.natCast_mul, cast_succ, wrapu32_nat, shr32, reps_wd, map_set_wd, List.length_set, zs_len, h0, h1, h2, hZ, hd]
    refine W_drawn ?_
    simp (maxSteps := 4000000) (disch := omega) only [go_sem, ↓reduceIte, Nat.reduceAdd, Nat.reduceSub, Nat.reduceMul, Nat.reduceEqDiff, reduceCtorEq, Int.reduceAdd, Int.reduceLT, Int.reduceLE, Int.reduceToNat, Int.reduceNeg, Int.reduceSub, ← List.map_take, ← List.map_drop, wrap64, wrapu64, wrapu32, ← Int.natCast_add, ← Int.natCast_mul, cast_succ, wrapu32_nat, shr32, reps_wd, map_set_wd, List.length_set, zs_len, h0, h1, h2]
    exact ⟨(by refine okR_pairs ?_; (repeat ((with_unfolding_all refine And.intro ?_ ?_); (focus (rw [free_mk] <;> (try simp) <;> (try omega))))); (with_unfolding_all exact True.intro)), r, hlt, B, fb, m.2, garb rfl, by omega, rfl, rfl, hB, by omega, ⟨hst⟩⟩
end Go.Proofs.Ytmgmcnoobgljpaa
