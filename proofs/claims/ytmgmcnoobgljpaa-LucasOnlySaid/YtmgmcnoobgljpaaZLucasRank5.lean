/- Part 5 of a proof about this seat: Both8, Sh3, Sh4, Long, Ref4, Pow2, Pdiv, Rnk, Wide8, Idx, Idx2. (Own work of this repo.) -/
import Derived.Test.YtmgmcnoobgljpaaZLucasRank4
set_option linter.unusedVariables false
set_option linter.unusedSimpArgs false
/- Walks: small numbers' sequences. (Own work of this repo.) -/
namespace Go.Proofs.Ytmgmcnoobgljpaa
open Vm Luc
set_option maxRecDepth 10000

theorem rValid_any (neg nl : Bool) (l : List Nat) (hl : l.length < 9223372036854775808) : denP E 22 [iv neg nl l] = some (.ret (.bool (rvalidW neg l))) := by
  refine denP_eq E22 rfl (by simp [AV.pureL, AV.pure, pure_wd]) ?_
  unfold rvalidW
  by_cases h2 : l.length = 0
  · simp (maxSteps := 4000000) (disch := omega) only [go_sem, ↓reduceIte, Nat.reduceAdd, Nat.reduceSub, Nat.reduceMul, Nat.reduceEqDiff, reduceCtorEq, Int.reduceAdd, Int.reduceLT, Int.reduceLE, Int.reduceToNat, Int.reduceNeg, Int.reduceSub, ← List.map_take, ← List.map_drop, wrap64, wrapu64, wrapu32, Try.f22]
  · have e : (l.length : Int) - 1 = (l.length - 1 : Nat) := by omega
    by_cases h1 : l.length ≤ 4096
    · by_cases h3 : l.getD (l.length - 1) 0 = 0
      · simp (maxSteps := 4000000) (disch := omega) only [go_sem, ↓reduceIte, Nat.reduceAdd, Nat.reduceSub, Nat.reduceMul, Nat.reduceEqDiff, reduceCtorEq, Int.reduceAdd, Int.reduceLT, Int.reduceLE, Int.reduceToNat, Int.reduceNeg, Int.reduceSub, ← List.map_take, ← List.map_drop, wrap64, wrapu64, wrapu32, Try.f22, e, ne_eq]
      · simp (maxSteps := 4000000) (disch := omega) only [go_sem, ↓reduceIte, Nat.reduceAdd, Nat.reduceSub, Nat.reduceMul, Nat.reduceEqDiff, reduceCtorEq, Int.reduceAdd, Int.reduceLT, Int.reduceLE, Int.reduceToNat, Int.reduceNeg, Int.reduceSub, ← List.map_take, ← List.map_drop, wrap64, wrapu64, wrapu32, Try.f22, e, ne_eq]
    · simp (maxSteps := 4000000) (disch := omega) only [go_sem, ↓reduceIte, Nat.reduceAdd, Nat.reduceSub, Nat.reduceMul, Nat.reduceEqDiff, reduceCtorEq, Int.reduceAdd, Int.reduceLT, Int.reduceLE, Int.reduceToNat, Int.reduceNeg, Int.reduceSub, ← List.map_take, ← List.map_drop, wrap64, wrapu64, wrapu32, Try.f22]
/-- What 'small' makes of a number. -/
theorem small_walk (q : Raw) (rq : InR q.2.2) (lq : q.2.2.length < 9223372036854775808) : ∃ p : Bool × Int, denP E 27 [ivr q] = some (.ret ((fun p : Bool × Int => I p.1 p.2) p)) ∧ (2 ≤ p.2 ∧ (dg p.2).length ≤ 7 ∧ (p.1 = true → p.2 = 0)) := by
  refine denP_ex E27 rfl (by simp [AV.pureL, AV.pure, pure_wd]) ?_
  have h1 := rValid_any q.1 q.2.1 q.2.2 lq
  have r2 := rOf_spec 2 (by decide) (by decide)
  rw [RM, show decide ((2 : Int) = 0) = false from rfl] at r2
  have l2 := dg_small (z := 2) (by decide)
  cases hv : rvalidW q.1 q.2.2 with
  | false =>
    rw [hv] at h1
    simp only [ivr, iv] at h1 ⊢
    simp (maxSteps := 4000000) only [go_sem, ↓reduceIte, Nat.reduceAdd, Nat.reduceSub, Nat.reduceMul, Nat.reduceEqDiff, reduceCtorEq, Int.reduceAdd, Int.reduceLT, Int.reduceLE, Int.reduceToNat, Int.reduceNeg, Int.reduceSub, ← List.map_take, ← List.map_drop, ne_eq, Nat.reduceLeDiff, Nat.reduceLT, Nat.zero_le, Nat.le_refl, wrap64, wrapu64, wrapu32, ← Int.natCast_add, ← Int.natCast_mul, cast_succ, wrapu32_nat, shr32, reps_wd, map_set_wd, List.length_set, zs_len, Try.f27, h1, r2]
    exact ⟨(false, 2), rfl, by decide, by dsimp only; omega, by intro h; cases h⟩
  | true =>
    rw [hv] at h1
    by_cases h6 : 6 < q.2.2.length
    · have z1 : ((6 : Int) < (q.2.2.length : Int)) = True := eq_true (by omega)
      simp only [ivr, iv] at h1 ⊢
      simp (maxSteps := 4000000) only [go_sem, ↓reduceIte, Nat.reduceAdd, Nat.reduceSub, Nat.reduceMul, Nat.reduceEqDiff, reduceCtorEq, Int.reduceAdd, Int.reduceLT, Int.reduceLE, Int.reduceToNat, Int.reduceNeg, Int.reduceSub, ← List.map_take, ← List.map_drop, ne_eq, Nat.reduceLeDiff, Nat.reduceLT, Nat.zero_le, Nat.le_refl, wrap64, wrapu64, wrapu32, ← Int.natCast_add, ← Int.natCast_mul, cast_succ, wrapu32_nat, shr32, reps_wd, map_set_wd, List.length_set, zs_len, Try.f27, h1, r2, z1]
      exact ⟨(false, 2), rfl, by decide, by dsimp only; omega, by intro h; cases h⟩
    · obtain ⟨hl', a, h3, h4⟩ := rvalid_norm (neg := q.1) rq hv
      obtain ⟨neg, fa, l⟩ := q
      dsimp only at h3 h4 h1 h6 ⊢
      subst h3 h4
      have z1 : ((6 : Int) < ((dg a).length : Int)) = False := eq_false (by omega)
      have a1 := rAbs_spec fa a (by omega)
      have la : (dg (a.natAbs : Int)).length ≤ 6 := by rw [dg_nat]; exact Nat.not_lt.1 h6
      have a2 := rAdd_spec (decide ((a.natAbs : Int) = 0)) (a.natAbs : Int) false 2 (by omega) (by omega)
      have ls := dg_add (a.natAbs : Int) 2
      have hz : decide ((a.natAbs : Int) + 2 = 0) = false := decide_eq_false (by omega)
      simp only [ivr, iv] at h1 ⊢
      rw [RM] at a1 a2
      rw [hz] at a2
      have h2 : 2 ≤ (a.natAbs : Int) + 2 := by omega
      generalize (a.natAbs : Int) + 2 = s at *
      generalize decide ((a.natAbs : Int) = 0) = d at *
      generalize (a.natAbs : Int) = t at *
      simp (maxSteps := 4000000) only [go_sem, ↓reduceIte, Nat.reduceAdd, Nat.reduceSub, Nat.reduceMul, Nat.reduceEqDiff, reduceCtorEq, Int.reduceAdd, Int.reduceLT, Int.reduceLE, Int.reduceToNat, Int.reduceNeg, Int.reduceSub, ← List.map_take, ← List.map_drop, ne_eq, Nat.reduceLeDiff, Nat.reduceLT, Nat.zero_le, Nat.le_refl, wrap64, wrapu64, wrapu32, ← Int.natCast_add, ← Int.natCast_mul, cast_succ, wrapu32_nat, shr32, reps_wd, map_set_wd, List.length_set, zs_len, Try.f27, h1, r2, z1, a1, a2]
      exact ⟨(false, s), rfl, h2, by dsimp only; omega, by intro h; cases h⟩
theorem chi_len {a : Int} (h2 : 2 ≤ a) (ha : (dg a).length ≤ 7) : ∀ n : Nat, (dg (chi a n)).length ≤ 9 * n + 2
  | 0 => by rw [chi_zero]; exact dg_small (by decide)
  | 1 => by rw [chi_one]; omega
  | n + 2 => by
    have ih := chi_len h2 ha (n + 1)
    have h3 := dg_mul (2 * a) (chi a (n + 1))
    have h4 := dg_mul 2 a
    have h5 := dg_small (z := 2) (by decide)
    have h6 := chi_rec (a := a) n
    have h7 := nonneg (a := a) (by omega) n
    have h8 := nonneg (a := a) (by omega) (n + 2)
    have h9 := dg_mono (a := chi a (n + 2)) (b := 2 * a * chi a (n + 1)) (by omega)
    omega
theorem psi_len {a : Int} (h2 : 2 ≤ a) (ha : (dg a).length ≤ 7) (n : Nat) : (dg (psi a n)).length ≤ 9 * n + 2 := by
  refine Nat.le_trans (dg_mono ?_) (chi_len h2 ha n)
  have q1 := psi_lt_chi (a := a) h2 n
  have q2 := (nonneg (a := a) (by omega) n).2
  omega
theorem both_spec (a : Int) (fa : Bool) (h2 : 2 ≤ a) (ha : (dg a).length ≤ 7) (n : Nat) (hn : n ≤ 300) : ∃ p : Bool × Bool, denP E 28 [I fa a, .int .i64 n] = some (.ret ((fun p : Bool × Bool => .tup [I p.1 (chi a n), I p.2 (psi a n), .bool true]) p)) ∧ True := by
  refine denP_ex E28 rfl (by simp [AV.pureL, AV.pure, pure_wd]) ?_
  obtain ⟨fp, p1⟩ := psi_el a fa (by omega) h2 n (by omega)
  obtain ⟨fc, c1⟩ := chi_el a fa (by omega) h2 n (by omega)
  have p2 := psi_of _ _ _ _ _ _ p1
  have c2 := chi_of _ _ _ _ _ _ c1
  have l1 := chi_len h2 ha n
  have l2 := psi_len h2 ha n
  rw [fit_of (by omega), er_of (by omega)] at p2 c2
  clear p1 c1
  simp (maxSteps := 4000000) only [go_sem, ↓reduceIte, Nat.reduceAdd, Nat.reduceSub, Nat.reduceMul, Nat.reduceEqDiff, reduceCtorEq, Int.reduceAdd, Int.reduceLT, Int.reduceLE, Int.reduceToNat, Int.reduceNeg, Int.reduceSub, ← List.map_take, ← List.map_drop, ne_eq, Nat.reduceLeDiff, Nat.reduceLT, Nat.zero_le, Nat.le_refl, wrap64, wrapu64, wrapu32, ← Int.natCast_add, ← Int.natCast_mul, cast_succ, wrapu32_nat, shr32, reps_wd, map_set_wd, List.length_set, zs_len, Try.f28, p2, c2]
  refine W_drawn ?_
  simp (maxSteps := 4000000) only [go_sem, ↓reduceIte, Nat.reduceAdd, Nat.reduceSub, Nat.reduceMul, Nat.reduceEqDiff, reduceCtorEq, Int.reduceAdd, Int.reduceLT, Int.reduceLE, Int.reduceToNat, Int.reduceNeg, Int.reduceSub, ← List.map_take, ← List.map_drop, ne_eq, Nat.reduceLeDiff, Nat.reduceLT, Nat.zero_le, Nat.le_refl, wrap64, wrapu64, wrapu32, ← Int.natCast_add, ← Int.natCast_mul, cast_succ, wrapu32_nat, shr32, reps_wd, map_set_wd, List.length_set, zs_len, p2, c2, Int.reduceEq]
  exact ⟨by refine okR_pairs ?_; (repeat ((with_unfolding_all refine And.intro ?_ ?_); (focus (rw [free_mk] <;> (try simp) <;> (try omega))))); (with_unfolding_all exact True.intro), (fc, fp), rfl⟩
theorem fit_u8 {m : Nat} {cs : List AV} {t : Nat} (ht : E.T t = some ⟨1, 1, false, .int .u8 0, .int .u8⟩) (h : Fit E (m + 1) t cs) : ∃ n : Nat, n < 256 ∧ cs = [.int .u8 n] := by
  simp only [Fit, ht, FitD] at h
  obtain ⟨_, i, rfl, hi⟩ := h
  have hi' : 0 ≤ i ∧ i < 256 := by simp [Lit.wf, IntKind.max, IntKind.min, IntKind.bits, IntKind.signed] at hi; omega
  refine ⟨i.toNat, by omega, ?_⟩
  rw [show ((i.toNat : Nat) : Int) = i by omega]
end Go.Proofs.Ytmgmcnoobgljpaa

/- Walks: Shift. (Own work of this repo.) -/
namespace Go.Proofs.Ytmgmcnoobgljpaa
open Vm
set_option maxRecDepth 10000

theorem floor_neg (y c : Nat) (hc : 0 < c) : (-(y : Int)) / (c : Int) = -((y / c + (if y % c = 0 then 0 else 1) : Nat) : Int) := by
  have h := Nat.div_add_mod y c
  have hm := Nat.mod_lt y hc
  generalize y / c = q at *
  generalize y % c = r at *
  have hy : (y : Int) = c * q + r := by rw [← h]; push_cast; rfl
  have hc' : (0 : Int) < c := by omega
  by_cases h0 : r = 0
  · rw [if_pos h0, hy, h0]
    rw [show -((c : Int) * q + ((0 : Nat) : Int)) = (c : Int) * (-(q : Int)) by rw [Int.mul_neg]; simp, Int.mul_ediv_cancel_left _ (by omega)]
    simp
  · rw [if_neg h0, hy]
    rw [show -((c : Int) * q + r) = (c - r) + (c : Int) * (-(q : Int) - 1) by rw [Int.mul_sub, Int.mul_neg]; omega, Int.add_mul_ediv_left _ _ (by omega), Int.ediv_eq_zero_of_lt (by omega) (by omega)]
    push_cast
    omega
theorem floor_pos (y c : Nat) : (y : Int) / (c : Int) = ((y / c : Nat) : Int) := by push_cast; rfl
theorem shl_abs (x : Int) (n : Nat) : sg (ng x) (x.natAbs * 2 ^ n) = x * 2 ^ n := by
  have e : ((2 ^ n : Nat) : Int) = 2 ^ n := by push_cast; rfl
  unfold sg
  by_cases h : x < 0
  · rw [if_pos (ng_true.2 h)]
    rw [show x * 2 ^ n = -(-x * 2 ^ n) by rw [Int.neg_mul, Int.neg_neg], show -x = ((x.natAbs : Nat) : Int) by omega]
    push_cast; rfl
  · rw [if_neg (by rw [Bool.not_eq_true]; exact ng_false.2 (by omega))]
    rw [show x * 2 ^ n = ((x.natAbs : Nat) : Int) * 2 ^ n by rw [show ((x.natAbs : Nat) : Int) = x by omega]]
    push_cast; rfl
theorem valid_len {x : Int} {k : Nat} (h : (dg x).length ≤ k) : x.natAbs < 2 ^ (32 * k) := by
  have := dg_len.1 h
  rwa [show BB = 2 ^ 32 from rfl, ← Nat.pow_mul] at this
theorem shl_no {x : Int} {n k : Nat} (hx : x ≠ 0) (h : 32 * k ≤ n) : ¬ (dg (x * 2 ^ n)).length ≤ k := by
  intro hl
  have h1 := valid_len hl
  rw [Int.natAbs_mul, Int.natAbs_pow] at h1
  have h4 : 2 ^ (32 * k) ≤ 2 ^ n := Nat.pow_le_pow_right (by decide) h
  have h5 : 1 * 2 ^ n ≤ x.natAbs * 2 ^ n := Nat.mul_le_mul_right _ (by omega)
  rw [Nat.one_mul] at h5
  exact absurd (Nat.lt_of_le_of_lt (Nat.le_trans h4 h5) h1) (Nat.lt_irrefl _)
theorem floor_far {x : Int} {n m k : Nat} (hx : (dg x).length ≤ k) (hn : 32 * k ≤ n) (hm : 32 * k ≤ m) : x / 2 ^ n = x / 2 ^ m := by
  have hv := valid_len hx
  have hv2 : x.natAbs < 2 ^ n := Nat.lt_of_lt_of_le hv (Nat.pow_le_pow_right (by decide) hn)
  have hv1 : x.natAbs < 2 ^ m := Nat.lt_of_lt_of_le hv (Nat.pow_le_pow_right (by decide) hm)
  have p1 : ((2 ^ n : Nat) : Int) = 2 ^ n := by push_cast; rfl
  have p2 : ((2 ^ m : Nat) : Int) = 2 ^ m := by push_cast; rfl
  rw [← p1, ← p2]
  rcases Int.natAbs_eq x with h | h
  · rw [h, floor_pos, floor_pos, Nat.div_eq_of_lt hv1, Nat.div_eq_of_lt hv2]
  · rw [h, floor_neg _ _ (Nat.pow_pos (by decide)), floor_neg _ _ (Nat.pow_pos (by decide)), Nat.div_eq_of_lt hv1, Nat.div_eq_of_lt hv2, Nat.mod_eq_of_lt hv1, Nat.mod_eq_of_lt hv2]
theorem len_ge {x : Int} {k : Nat} (h : BB ^ k ≤ x.natAbs) : k < (dg x).length := by
  rcases Nat.lt_or_ge k (dg x).length with h1 | h1
  · exact h1
  · have := dg_len.1 h1; omega
theorem dig_shl (a n : Nat) : (dig (a * 2 ^ n)).length ≤ (dig a).length + (n / 32 + 1) := by
  have h := dig_mul a (2 ^ n)
  have h2 : (dig (2 ^ n)).length ≤ n / 32 + 1 := by
    rw [dig_len, show BB = 2 ^ 32 from rfl, ← Nat.pow_mul]
    exact Nat.pow_lt_pow_right (by decide) (by omega)
  omega
end Go.Proofs.Ytmgmcnoobgljpaa

/- Walks of the reference of chapter 1: Shift. (Own work of this repo.) -/
namespace Go.Proofs.Ytmgmcnoobgljpaa
open Vm
set_option maxRecDepth 10000

theorem vp_app_lo (a b : List Nat) : ∀ n, n ≤ a.length → vp (a ++ b) n = vp a n := by
  intro n h
  refine vp_congr n fun i hi => ?_
  rw [List.getD_eq_getElem?_getD, List.getD_eq_getElem?_getD, List.getElem?_append_left (by omega)]
theorem val_app (a b : List Nat) : val (a ++ b) = val a + BB ^ a.length * val b := by
  have h := val_split (a := a ++ b) (q := a.length) (by rw [List.length_append]; omega)
  rw [vp_app_lo a b _ (Nat.le_refl _), List.drop_left] at h
  exact h
theorem inR_app {a b : List Nat} (ha : InR a) (hb : InR b) : InR (a ++ b) := fun x hx => by
  rcases List.mem_append.1 hx with h | h
  · exact ha x h
  · exact hb x h
theorem rShift_pos (m : Bool) (x : Int) (n : Nat) (hx : (dg x).length < 2 ^ 36) (hn : n < 2 ^ 37) : ∃ f : Bool, denP E 87 [I m x, .int .i64 n] = some (.ret (I f (x * 2 ^ n))) ∧ True := by
  refine denP_ex E87 rfl (by simp [AV.pureL, AV.pure, pure_wd]) ?_
  have h1 := rZero_spec m x
  by_cases h0 : x = 0
  · rw [decide_eq_true h0] at h1
    have e3 : x * 2 ^ n = x := by rw [h0, Int.zero_mul]
    rw [e3]
    simp (maxSteps := 4000000) (disch := omega) only [go_sem, ↓reduceIte, Nat.reduceAdd, Nat.reduceSub, Nat.reduceMul, Nat.reduceEqDiff, reduceCtorEq, Int.reduceAdd, Int.reduceLT, Int.reduceLE, Int.reduceToNat, Int.reduceNeg, Int.reduceSub, ← List.map_take, ← List.map_drop, wrap64, wrapu64, wrapu32, Try.f87, h1]
    exact ⟨m, rfl⟩
  · rw [decide_eq_false h0] at h1
    have e1 : (n : Int).tdiv 32 = ((n / 32 : Nat) : Int) := rfl
    have e2 : (n : Int).tmod 32 = ((n % 32 : Nat) : Int) := rfl
    have hpow := pow32 n
    have hsh := shl_abs x n
    generalize hq : n / 32 = q at *
    generalize hk : n % 32 = k at *
    obtain ⟨o, h2, hor, hol, hov⟩ := shifted_walk m (dg x) k (dg_inR x) (by omega) (by omega)
    rw [val_dg] at hov
    have hv : val (zs q ++ o) = x.natAbs * 2 ^ n := by
      rw [val_app, zs_len, hov, show val (zs q) = 0 from zs_vp _ _, hpow]; generalize BB ^ q = w; generalize 2 ^ k = v; grind
    have hlen : (zs q ++ o).length = q + o.length := by rw [List.length_append, zs_len]
    have h3 := rMake_z (neg := ng x) (nl := false) (w := zs q ++ o) (z := x * 2 ^ n) (inR_app (zs_inR q) hor) (by omega) (by rw [hv, hsh])
    clear hv hov hpow hsh
    simp (maxSteps := 4000000) (disch := omega) only [go_sem, ↓reduceIte, Nat.reduceAdd, Nat.reduceSub, Nat.reduceMul, Nat.reduceEqDiff, reduceCtorEq, Int.reduceAdd, Int.reduceLT, Int.reduceLE, Int.reduceToNat, Int.reduceNeg, Int.reduceSub, ← List.map_take, ← List.map_drop, wrap64, wrapu64, wrapu32, ← Int.natCast_add, ← Int.natCast_mul, cast_succ, wrapu32_nat, shr32, reps_wd, map_set_wd, List.length_set, zs_len, Try.f87, h1]
    refine W_drawn ?_
    simp (maxSteps := 4000000) (disch := omega) only [go_sem, ↓reduceIte, Nat.reduceAdd, Nat.reduceSub, Nat.reduceMul, Nat.reduceEqDiff, reduceCtorEq, Int.reduceAdd, Int.reduceLT, Int.reduceLE, Int.reduceToNat, Int.reduceNeg, Int.reduceSub, ← List.map_take, ← List.map_drop, wrap64, wrapu64, wrapu32, ← Int.natCast_add, ← Int.natCast_mul, cast_succ, wrapu32_nat, shr32, reps_wd, map_set_wd, List.length_set, zs_len, e1, e2, appendEff, srcCells, h2, zs_len, ← List.map_append, hlen, List.take_of_length_le, h3]
    exact ⟨by rfl, _, rfl⟩
/-- In place: each word with the low part of the next one. -/
theorem top_zero {o : List Nat} {k : Nat} (hl : o.length = k + 1) (h : val o < BB ^ k) : o.getD k 0 = 0 := by
  rw [val, hl, vp] at h
  rcases Nat.eq_zero_or_pos (o.getD k 0) with h0 | h0
  · exact h0
  · have : 1 * BB ^ k ≤ o.getD k 0 * BB ^ k := Nat.mul_le_mul_right _ h0
    omega
/-- A word with the low part of the next one. -/
def rwd (s : Nat) (o : List Nat) (t : Nat) : Nat := (o.getD t 0 + o.getD (t + 1) 0 * 4294967296) / 2 ^ s % 4294967296
theorem rShift_neg (m : Bool) (x : Int) (n : Nat) (hx : (dg x).length < 2 ^ 31) (hn : 0 < n) (hn2 : n ≤ 2 ^ 63) : ∃ f : Bool, denP E 87 [I m x, .int .i64 (-(n : Int))] = some (.ret (I f (x / 2 ^ n))) ∧ True := by
  obtain ⟨k, hk⟩ : ∃ k : Nat, k = min n (32 * (dg x).length + 1) := ⟨_, rfl⟩
  have hfl : x / 2 ^ n = x / 2 ^ k := by
    by_cases hnk : n ≤ 32 * (dg x).length
    · rw [show k = n by omega]
    · exact floor_far (Nat.le_refl _) (by omega) (by omega)
  have hk0 : 0 < k := by omega
  have hk1 : k ≤ 32 * (dg x).length + 1 := by omega
  have p2 : ((2 ^ k : Nat) : Int) = 2 ^ k := by push_cast; rfl
  have hc : 0 < 2 ^ k := Nat.pow_pos (by decide)
  have e1 : (k : Int).tdiv 32 = ((k / 32 : Nat) : Int) := rfl
  have e2 : (k : Int).tmod 32 = ((k % 32 : Nat) : Int) := rfl
  -- what is out
  obtain ⟨w, hw⟩ : ∃ w : Int, w = sg (ng x) (x.natAbs / 2 ^ k) := ⟨_, rfl⟩
  have hwl : (dg w).length ≤ (dg x).length := by
    rw [hw, dg_sg]; exact dig_mono (Nat.div_le_self _ _)
  refine denP_ex E87 rfl (by simp [AV.pureL, AV.pure, pure_wd]) ?_
  rw [hfl]
  simp (maxSteps := 4000000) (disch := omega) only [go_sem, ↓reduceIte, Nat.reduceAdd, Nat.reduceSub, Nat.reduceMul, Nat.reduceEqDiff, reduceCtorEq, Int.reduceAdd, Int.reduceLT, Int.reduceLE, Int.reduceToNat, Int.reduceNeg, Int.reduceSub, ← List.map_take, ← List.map_drop, wrap64, wrapu64, wrapu32, ← Int.natCast_add, ← Int.natCast_mul, cast_succ, wrapu32_nat, shr32, reps_wd, map_set_wd, List.length_set, zs_len, Try.f87]
  refine condK_mono (Q := fun e σ => e = .norm ∧ (∃ g : Nat → AV, σ.sl = [g 0, .int .i64 (-(k : Int)), .ptr 0 0, g 3, .ptr 1 0, g 5, g 6, g 7, g 8, g 9, g 10, g 11, g 12, g 13, g 14, g 15, g 16, g 17, g 18, g 19, g 20, g 21, g 22, g 23, g 24, g 25, g 26, g 27, g 28, g 29, g 30, g 31, g 32, g 33, g 34, g 35, g 36, g 37, g 38, g 39, g 40, g 41, g 42, g 43, g 44, g 45, g 46, g 47, g 48, g 49, g 50, g 51, g 52, g 53, g 54, g 55, g 56, g 57, g 58, g 59, g 60, g 61, g 62, g 63, g 64, g 65, g 66, g 67, g 68, g 69, g 70, g 71, g 72, g 73, g 74, g 75, g 76, g 77, g 78, g 79, g 80, g 81, g 82, g 83, g 84, g 85, g 86, g 87, g 88, g 89, g 90, g 91, g 92, g 93, g 94, g 95, g 96]) ∧ σ.nx = 2 ∧
    σ.h 0 = some ⟨[.bool (ng x), .lst m ((dg x).map wd)], true, 2, false⟩ ∧ σ.h 1 = some ⟨[.bool false, .lst true []], true, 2, false⟩) ?_ ?_
  · rintro e ⟨sl, H, nx⟩ ⟨rfl, ⟨g, hs⟩, rfl, h0, h1⟩
    dsimp only at hs h0 h1
    subst hs
    have e3 : (0 : Int) - -(k : Int) = (k : Int) := by omega
    simp (maxSteps := 4000000) (disch := omega) only [go_sem, ↓reduceIte, Nat.reduceAdd, Nat.reduceSub, Nat.reduceMul, Nat.reduceEqDiff, reduceCtorEq, Int.reduceAdd, Int.reduceLT, Int.reduceLE, Int.reduceToNat, Int.reduceNeg, Int.reduceSub, ← List.map_take, ← List.map_drop, wrap64, wrapu64, wrapu32, ← Int.natCast_add, ← Int.natCast_mul, cast_succ, wrapu32_nat, shr32, reps_wd, map_set_wd, List.length_set, zs_len, h0, h1, e3, e1, places, fillAll]
    refine condK_mono (Q := fun e σ => e = .norm ∧ ∃ f N, (∃ g : Nat → AV, σ.sl = [g 0, .int .i64 k, .ptr 0 0, g 3, .ptr 1 0, .ptr 2 0, g 6, g 7, g 8, g 9, g 10, g 11, g 12, g 13, g 14, g 15, g 16, g 17, g 18, g 19, g 20, g 21, g 22, g 23, g 24, g 25, g 26, g 27, g 28, g 29, g 30, g 31, g 32, g 33, g 34, g 35, g 36, g 37, g 38, g 39, g 40, g 41, g 42, g 43, g 44, g 45, g 46, g 47, g 48, g 49, g 50, g 51, g 52, g 53, g 54, g 55, g 56, g 57, g 58, g 59, g 60, g 61, g 62, g 63, g 64, g 65, g 66, g 67, g 68, g 69, g 70, g 71, g 72, g 73, g 74, g 75, g 76, g 77, g 78, g 79, g 80, g 81, g 82, g 83, g 84, g 85, g 86, g 87, g 88, g 89, g 90, g 91, g 92, g 93, g 94, g 95, g 96]) ∧ σ.nx = N ∧
      σ.h 0 = some ⟨[.bool (ng x), .lst m ((dg x).map wd)], true, 2, false⟩ ∧ σ.h 1 = some ⟨[.bool false, .lst true []], true, 2, false⟩ ∧ σ.h 2 = some ⟨[.bool (ng w), .lst f ((dg w).map wd)], true, 2, false⟩) ?_ ?_
    · rintro e ⟨sl, H, nx⟩ ⟨rfl, f, N, ⟨g, hs⟩, rfl, h0, h1, h2⟩
      dsimp only at hs h0 h1 h2
      subst hs
      simp (maxSteps := 4000000) (disch := omega) only [go_sem, ↓reduceIte, Nat.reduceAdd, Nat.reduceSub, Nat.reduceMul, Nat.reduceEqDiff, reduceCtorEq, Int.reduceAdd, Int.reduceLT, Int.reduceLE, Int.reduceToNat, Int.reduceNeg, Int.reduceSub, ← List.map_take, ← List.map_drop, wrap64, wrapu64, wrapu32, ← Int.natCast_add, ← Int.natCast_mul, cast_succ, wrapu32_nat, shr32, reps_wd, map_set_wd, List.length_set, zs_len]
      refine W_drawn ?_
      cases hng : ng x with
      | false =>
        have hwx : w = x / ((2 ^ k : Nat) : Int) := by
          have hx0 := ng_false.1 hng
          rw [hw, hng]
          conv => rhs; rw [show x = ((x.natAbs : Nat) : Int) by omega, floor_pos]
          rfl
        rw [hng] at h0
        rw [← p2, ← hwx]
        clear hw hwx p2 hfl hc
        simp (maxSteps := 4000000) (disch := omega) only [go_sem, ↓reduceIte, Nat.reduceAdd, Nat.reduceSub, Nat.reduceMul, Nat.reduceEqDiff, reduceCtorEq, Int.reduceAdd, Int.reduceLT, Int.reduceLE, Int.reduceToNat, Int.reduceNeg, Int.reduceSub, ← List.map_take, ← List.map_drop, wrap64, wrapu64, wrapu32, ← Int.natCast_add, ← Int.natCast_mul, cast_succ, wrapu32_nat, shr32, reps_wd, map_set_wd, List.length_set, zs_len, h0, h1, h2]
        refine ⟨by rfl, f, rfl⟩
      | true =>
        have hx0 := ng_true.1 hng
        have hwn : w = -((x.natAbs / 2 ^ k : Nat) : Int) := by rw [hw, hng]; rfl
        have ex : x / ((2 ^ k : Nat) : Int) = -((x.natAbs / 2 ^ k + (if x.natAbs % 2 ^ k = 0 then 0 else 1) : Nat) : Int) := by
          conv => lhs; rw [show x = -((x.natAbs : Nat) : Int) by omega, floor_neg _ _ hc]
        have hdm := Nat.div_add_mod x.natAbs (2 ^ k)
        have hwx : w * 2 ^ k = x ↔ x.natAbs % 2 ^ k = 0 := by
          rw [← p2, hwn]
          have e : -((x.natAbs / 2 ^ k : Nat) : Int) * ((2 ^ k : Nat) : Int) = -(((2 ^ k) * (x.natAbs / 2 ^ k) : Nat) : Int) := by
            rw [Int.neg_mul, Int.natCast_mul, Int.mul_comm]
          rw [e]
          generalize 2 ^ k * (x.natAbs / 2 ^ k) = d at *
          omega
        obtain ⟨f2, h3, _⟩ := rShift_pos f w k (by omega) (by omega)
        have hwl2 : (dg (w * 2 ^ k)).length < 2 ^ 40 := by
          have h4 := dig_shl w.natAbs k
          have h5 : dg (w * 2 ^ k) = dig (w.natAbs * 2 ^ k) := by
            unfold dg; rw [Int.natAbs_mul, Int.natAbs_pow]; rfl
          have h6 : (dig w.natAbs).length ≤ (dg x).length := hwl
          rw [h5]; omega
        have h4 := rCmp_spec f2 (w * 2 ^ k) m x hwl2 (by omega)
        simp only [I, hng] at h4
        rw [hng] at h0
        by_cases hr : x.natAbs % 2 ^ k = 0
        · have hcm : cmpI (w * 2 ^ k) x = 0 := by rw [hwx.2 hr]; unfold cmpI; rw [if_neg (by omega), if_neg (by omega)]
          rw [hcm] at h4
          have hres : w = x / ((2 ^ k : Nat) : Int) := by rw [ex, if_pos hr, hwn]; rfl
          rw [← p2, ← hres]
          clear hw hwn ex hdm hwx hres p2 hfl hc hr
          simp (maxSteps := 4000000) (disch := omega) only [go_sem, ↓reduceIte, Nat.reduceAdd, Nat.reduceSub, Nat.reduceMul, Nat.reduceEqDiff, reduceCtorEq, Int.reduceAdd, Int.reduceLT, Int.reduceLE, Int.reduceToNat, Int.reduceNeg, Int.reduceSub, ← List.map_take, ← List.map_drop, wrap64, wrapu64, wrapu32, ← Int.natCast_add, ← Int.natCast_mul, cast_succ, wrapu32_nat, shr32, reps_wd, map_set_wd, List.length_set, zs_len, h0, h1, h2, h3, h4]
          exact ⟨by rfl, f, rfl⟩
        · have hcm : cmpI (w * 2 ^ k) x ≠ 0 := by
            intro h
            unfold cmpI at h
            refine hr (hwx.1 ?_)
            split at h
            · omega
            · split at h
              · omega
              · omega
          have hres : w - 1 = x / ((2 ^ k : Nat) : Int) := by rw [ex, if_neg hr, hwn]; omega
          have h5 := rOf_spec 1 (by decide) (by decide)
          have h6 := rSub_spec f w false 1 (by omega) (by have := dg_small (z := 1) (by decide); omega)
          rw [← p2, ← hres]
          generalize cmpI (w * 2 ^ k) x = cv at *
          clear hw hwn ex hdm hwx hres p2 hfl hc hr
          simp (maxSteps := 4000000) (disch := omega) only [go_sem, ↓reduceIte, Nat.reduceAdd, Nat.reduceSub, Nat.reduceMul, Nat.reduceEqDiff, reduceCtorEq, Int.reduceAdd, Int.reduceLT, Int.reduceLE, Int.reduceToNat, Int.reduceNeg, Int.reduceSub, ← List.map_take, ← List.map_drop, wrap64, wrapu64, wrapu32, ← Int.natCast_add, ← Int.natCast_mul, cast_succ, wrapu32_nat, shr32, reps_wd, map_set_wd, List.length_set, zs_len, h0, h1, h2, h3, h4]
          refine ⟨by rfl, ?_⟩
          refine W_drawn ?_
          simp (maxSteps := 4000000) (disch := omega) only [go_sem, ↓reduceIte, Nat.reduceAdd, Nat.reduceSub, Nat.reduceMul, Nat.reduceEqDiff, reduceCtorEq, Int.reduceAdd, Int.reduceLT, Int.reduceLE, Int.reduceToNat, Int.reduceNeg, Int.reduceSub, ← List.map_take, ← List.map_drop, wrap64, wrapu64, wrapu32, ← Int.natCast_add, ← Int.natCast_mul, cast_succ, wrapu32_nat, shr32, reps_wd, map_set_wd, List.length_set, zs_len, h0, h1, h2, h5, h6]
          exact ⟨by rfl, _, rfl⟩
    · by_cases hql : (dg x).length ≤ k / 32
      · have hw0 : w = 0 := by
          have h4 : x.natAbs < BB ^ (k / 32) := dg_len.1 hql
          have h5 : x.natAbs < 2 ^ k := by
            refine Nat.lt_of_lt_of_le h4 ?_
            rw [show BB = 2 ^ 32 from rfl, ← Nat.pow_mul]
            exact Nat.pow_le_pow_right (by decide) (by omega)
          rw [hw, Nat.div_eq_of_lt h5]; unfold sg; split <;> rfl
        subst hw0
        clear hw p2 hfl hc
        simp (maxSteps := 4000000) (disch := omega) only [go_sem, ↓reduceIte, Nat.reduceAdd, Nat.reduceSub, Nat.reduceMul, Nat.reduceEqDiff, reduceCtorEq, Int.reduceAdd, Int.reduceLT, Int.reduceLE, Int.reduceToNat, Int.reduceNeg, Int.reduceSub, ← List.map_take, ← List.map_drop, wrap64, wrapu64, wrapu32, ← Int.natCast_add, ← Int.natCast_mul, cast_succ, wrapu32_nat, shr32, reps_wd, map_set_wd, List.length_set, zs_len, h0, h1, ng_zero, dg_zero]
        exact ⟨true, 3, garb rfl, rfl, rfl⟩
      · have hlx : k / 32 < (dg x).length := by omega
        have hpow := pow32 k
        have hsr : k % 32 < 32 := Nat.mod_lt _ (by decide)
        obtain ⟨b, hb⟩ : ∃ b, b = (dg x).drop (k / 32) := ⟨_, rfl⟩
        generalize k / 32 = q at *
        generalize hs : k % 32 = s at *
        have hbl : b.length = (dg x).length - q := by rw [hb, List.length_drop]
        have hbr : InR b := by rw [hb]; exact (dg_inR x).drop q
        have hwb : w = sg (ng x) (val b / 2 ^ s) := by
          have hsplit := val_split (a := dg x) (q := q) (by omega)
          rw [← hb, val_dg] at hsplit
          have hvq := vp_lt (dg_inR x) q
          rw [hw, hsplit, hpow, Nat.mul_comm (2 ^ s), ← Nat.div_div_eq_div_mul, Nat.add_mul_div_left _ _ (Nat.pow_pos (by decide)), Nat.div_eq_of_lt hvq, Nat.zero_add]
        have hb' : (dg x).drop q = b := hb.symm
        have e5 : ((dg x).length : Int) - q = (b.length : Int) := by omega
        have hsh := shifted_open m b 0 hbr (by omega) (by decide)
        simp only [show (((0 : Nat) : Int)) = 0 from rfl] at hsh
        obtain ⟨L, hL⟩ : ∃ L, L = b.length + 1 := ⟨_, rfl⟩
        rw [← hL] at hsh
        clear hw p2 hfl hc hpow hwl hb
        simp (maxSteps := 4000000) (disch := omega) only [go_sem, ↓reduceIte, Nat.reduceAdd, Nat.reduceSub, Nat.reduceMul, Nat.reduceEqDiff, reduceCtorEq, Int.reduceAdd, Int.reduceLT, Int.reduceLE, Int.reduceToNat, Int.reduceNeg, Int.reduceSub, ← List.map_take, ← List.map_drop, wrap64, wrapu64, wrapu32, ← Int.natCast_add, ← Int.natCast_mul, cast_succ, wrapu32_nat, shr32, reps_wd, map_set_wd, List.length_set, zs_len, h0, h1, cutBounds, List.take_of_length_le, e1, hb']
        refine openK_ex (hsh _ _) ?_
        rintro o H' ⟨ho2, ho3, hor, hol, hov⟩
        clear hsh
        have h0' := ho3 0 (by decide)
        have h1' := ho3 1 (by decide)
        have h2' := ho3 2 (by decide)
        rw [upd_ne (by decide), upd_ne (by decide)] at h0' h1'
        rw [upd_same] at h2'
        rw [h0] at h0'
        rw [h1] at h1'
        clear ho3 h0 h1
        rw [Nat.pow_zero, Nat.mul_one] at hov
        have htop : o.getD b.length 0 = 0 := top_zero (hol.trans hL) (by rw [hov]; exact val_lt hbr)
        simp (maxSteps := 4000000) (disch := omega) only [go_sem, ↓reduceIte, Nat.reduceAdd, Nat.reduceSub, Nat.reduceMul, Nat.reduceEqDiff, reduceCtorEq, Int.reduceAdd, Int.reduceLT, Int.reduceLE, Int.reduceToNat, Int.reduceNeg, Int.reduceSub, ← List.map_take, ← List.map_drop, wrap64, wrapu64, wrapu32, ← Int.natCast_add, ← Int.natCast_mul, cast_succ, wrapu32_nat, shr32, reps_wd, map_set_wd, List.length_set, zs_len]
        refine W_loopS (fun j sl H nx => ∃ (i : Nat) (p : List Nat), (∃ g : Nat → AV, sl = [g 0, .int .i64 k, .ptr 0 0, g 3, .ptr 1 0, .ptr 2 0, .ref 3 0 L, .int .i64 i, g 8, g 9, g 10, g 11, g 12, g 13, g 14, g 15, g 16, g 17, g 18, g 19, g 20, g 21, g 22, g 23, g 24, g 25, g 26, g 27, g 28, g 29, g 30, g 31, g 32, g 33, g 34, g 35, g 36, g 37, g 38, g 39, g 40, g 41, g 42, g 43, g 44, g 45, g 46, g 47, g 48, g 49, g 50, g 51, g 52, g 53, g 54, g 55, g 56, g 57, g 58, g 59, g 60, g 61, g 62, g 63, g 64, g 65, g 66, g 67, g 68, g 69, g 70, g 71, g 72, g 73, g 74, g 75, g 76, g 77, g 78, g 79, g 80, g 81, g 82, g 83, g 84, g 85, g 86, g 87, g 88, g 89, g 90, g 91, g 92, g 93, g 94, g 95, g 96]) ∧ nx = 4 ∧
          H 0 = some ⟨[.bool (ng x), .lst m ((dg x).map wd)], true, 2, false⟩ ∧ H 1 = some ⟨[.bool false, .lst true []], true, 2, false⟩ ∧ H 2 = some ⟨[.bool false, .lst true []], true, 2, false⟩ ∧
          H 3 = some ⟨p.map wd, false, 1, false⟩ ∧ p.length = L ∧ InR p ∧ i + j = b.length ∧ Hd (∀ t, t < i → p.getD t 0 = rwd s o t) ∧ Hd (∀ t, i ≤ t → p.getD t 0 = o.getD t 0)) b.length
          ⟨0, o, garb rfl, rfl, h0', h1', h2', ho2, hol, hor, by omega, ⟨fun t ht => by omega⟩, ⟨fun t ht => rfl⟩⟩ ?_
        clear h0' h1' h2' ho2
        rintro j _ H' _ ⟨i, p, ⟨g, rfl⟩, rfl, h0, h1, h2, h3, hpl, hpr, hi, hv, hz⟩
        by_cases hj : j = 0
        · obtain rfl : i = b.length := by omega
          have hval : val p = val b / 2 ^ s := by
            have hrv := right_val (o := p) (b := o) hsr hor (by omega) (fun t ht => by
              by_cases htb : t < b.length
              · exact hv.out t htb
              · obtain rfl : t = b.length := by omega
                rw [hz.out _ (Nat.le_refl _), htop, getD_ge (by omega), Nat.zero_mul, Nat.zero_add, Nat.zero_div])
            rw [← hov, hrv, Nat.mul_add_div (Nat.pow_pos (by decide)), Nat.div_eq_of_lt (Nat.mod_lt _ (Nat.pow_pos (by decide))), Nat.add_zero]
          have hmk := rMake_z (neg := ng x) (nl := false) (w := p) (z := w) hpr (by omega) (by rw [hval, hwb])
          clear hv hz hval hwb
          simp (maxSteps := 4000000) (disch := omega) only [go_sem, ↓reduceIte, Nat.reduceAdd, Nat.reduceSub, Nat.reduceMul, Nat.reduceEqDiff, reduceCtorEq, Int.reduceAdd, Int.reduceLT, Int.reduceLE, Int.reduceToNat, Int.reduceNeg, Int.reduceSub, ← List.map_take, ← List.map_drop, wrap64, wrapu64, wrapu32, ← Int.natCast_add, ← Int.natCast_mul, cast_succ, wrapu32_nat, shr32, reps_wd, map_set_wd, List.length_set, zs_len, h0, h1, h2, h3, hpl, List.take_of_length_le, hmk]
          refine ⟨decide (w = 0), 4, ?_, rfl, rfl⟩
          exact garb rfl
        · have hbb : b.length < 2147483648 := by omega
          clear hx
          have hx := hor.get i
          have hy := hor.get (i + 1)
          have hpx := hz.out i (Nat.le_refl _)
          have hpy := hz.out (i + 1) (by omega)
          have e6 := shl32 hy
          obtain ⟨Y, hY⟩ : ∃ Y, Y = o.getD (i + 1) 0 * 4294967296 := ⟨_, rfl⟩
          have hYb : Y ≤ 18446744069414584320 := by omega
          rw [← hY] at e6
          obtain ⟨X, hX⟩ : ∃ X, X = o.getD i 0 + Y := ⟨_, rfl⟩
          have hXb : X / 2 ^ s < 18446744073709551616 := Nat.lt_of_le_of_lt (Nat.div_le_self _ _) (by omega)
          have hXb2 : X < 18446744073709551616 := by omega
          have e7 := and_low hXb
          obtain ⟨Z, hZ⟩ : ∃ Z, Z = X / 2 ^ s % 4294967296 := ⟨_, rfl⟩
          have hZb : Z < 4294967296 := by rw [hZ]; exact Nat.mod_lt _ (by decide)
          have e8 : Z % 4294967296 = Z := Nat.mod_eq_of_lt hZb
          have e9 : o.getD i 0 + Y = X := hX.symm
          rw [← hZ] at e7
          have stp : Hd (∀ t, t < i + 1 → (p.set i Z).getD t 0 = rwd s o t) := by
            refine ⟨fun t ht => ?_⟩
            by_cases hti : t = i
            · subst hti; rw [lget_set_self (by omega), hZ, hX, hY]; rfl
            · rw [lget_set_ne (by omega)]; exact hv.out t (by omega)
          have stz : Hd (∀ t, i + 1 ≤ t → (p.set i Z).getD t 0 = o.getD t 0) := ⟨fun t ht => by rw [lget_set_ne (by omega)]; exact hz.out t (by omega)⟩
          clear hv hz hX hZ hY hwb hov htop hXb e1 e3 e5 hql hlx hbl hb' hs hk hk0 hk1 hn hn2 hol hor hbr
          simp (maxSteps := 4000000) (disch := omega) only [go_sem, ↓reduceIte, Nat.reduceAdd, Nat.reduceSub, Nat.reduceMul, Nat.reduceEqDiff, reduceCtorEq, Int.reduceAdd, Int.reduceLT, Int.reduceLE, Int.reduceToNat, Int.reduceNeg, Int.reduceSub, ← List.map_take, ← List.map_drop, wrap64, wrapu64, wrapu32, ← Int.natCast_add, ← Int.natCast_mul, cast_succ, wrapu32_nat, shr32, reps_wd, map_set_wd, List.length_set, zs_len, h0, h1, h2, h3, hpl]
          refine W_mono (Q := fun e σ => e = .norm ∧ (∃ g : Nat → AV, σ.sl = [g 0, .int .i64 k, .ptr 0 0, g 3, .ptr 1 0, .ptr 2 0, .ref 3 0 L, .int .i64 i, g 8, g 9, g 10, g 11, g 12, g 13, g 14, g 15, g 16, g 17, g 18, g 19, g 20, g 21, g 22, g 23, g 24, g 25, g 26, g 27, g 28, g 29, g 30, g 31, g 32, g 33, g 34, g 35, g 36, g 37, g 38, g 39, g 40, g 41, g 42, g 43, g 44, g 45, g 46, g 47, g 48, g 49, g 50, g 51, g 52, g 53, g 54, g 55, g 56, g 57, g 58, g 59, g 60, g 61, g 62, g 63, g 64, g 65, g 66, g 67, g 68, g 69, g 70, g 71, g 72, g 73, g 74, g 75, g 76, g 77, g 78, g 79, g 80, g 81, g 82, g 83, g 84, g 85, g 86, g 87, g 88, g 89, g 90, g 91, g 92, g 93, g 94, g 95, g 96]) ∧ σ.nx = 4 ∧
            σ.h 0 = some ⟨[.bool (ng x), .lst m ((dg x).map wd)], true, 2, false⟩ ∧ σ.h 1 = some ⟨[.bool false, .lst true []], true, 2, false⟩ ∧ σ.h 2 = some ⟨[.bool false, .lst true []], true, 2, false⟩ ∧ σ.h 3 = some ⟨(p.set i Z).map wd, false, 1, false⟩) (W_drawn ?_) ?_
          · have hip1 : i < L := by omega
            have hip2 : i + 1 < L := by omega
            have hLb : L < 2147483649 := by omega
            have hin : (0 : Int) ≤ (i : Int) := by omega
            clear hi hj hbb hL stp stz hZb
            have w1 := wrapu64 (x := ((o.getD (i + 1) 0 : Nat) : Int)) (by omega) (by omega)
            have w2 := wrapu64 (x := ((o.getD i 0 : Nat) : Int)) (by omega) (by omega)
            have w3 := wrapu64 (x := ((X : Nat) : Int)) (by omega) (by omega)
            have w4 := wrap64 (x := ((i + 1 : Nat) : Int)) (by omega) (by omega)
            simp (maxSteps := 4000000) (disch := omega) only [go_sem, ↓reduceIte, Nat.reduceAdd, Nat.reduceSub, Nat.reduceMul, Nat.reduceEqDiff, reduceCtorEq, Int.reduceAdd, Int.reduceLT, Int.reduceLE, Int.reduceToNat, Int.reduceNeg, Int.reduceSub, ← List.map_take, ← List.map_drop, ← Int.natCast_add, ← Int.natCast_mul, cast_succ, wrapu32_nat, shr32, reps_wd, map_set_wd, List.length_set, zs_len, h0, h1, h2, h3, hpl, hpx, hpy, w1, w2, w3, w4, e6, e2, shr_k, e7, e8, e9]
            exact ⟨by rfl, garb rfl⟩
          · rintro e ⟨sl, H, nx⟩ ⟨rfl, ⟨g, hs⟩, rfl, h0, h1, h2, h3⟩
            dsimp only at hs h0 h1 h2 h3
            subst hs
            simp (maxSteps := 4000000) (disch := omega) only [go_sem, ↓reduceIte, Nat.reduceAdd, Nat.reduceSub, Nat.reduceMul, Nat.reduceEqDiff, reduceCtorEq, Int.reduceAdd, Int.reduceLT, Int.reduceLE, Int.reduceToNat, Int.reduceNeg, Int.reduceSub, ← List.map_take, ← List.map_drop, wrap64, wrapu64, wrapu32, ← Int.natCast_add, ← Int.natCast_mul, cast_succ, wrapu32_nat, shr32, reps_wd, map_set_wd, List.length_set, zs_len, h0, h1, h2, h3]
            exact ⟨j - 1, by omega, i + 1, p.set i Z, garb rfl, rfl, by rw [List.length_set, hpl], hpr.set hZb, by omega, stp, stz⟩
  · by_cases hcl : 32 * (dg x).length < n
    · have e4 : (-32 : Int) * ((dg x).length : Int) - 1 = -(k : Int) := by omega
      simp (maxSteps := 4000000) (disch := omega) only [go_sem, ↓reduceIte, Nat.reduceAdd, Nat.reduceSub, Nat.reduceMul, Nat.reduceEqDiff, reduceCtorEq, Int.reduceAdd, Int.reduceLT, Int.reduceLE, Int.reduceToNat, Int.reduceNeg, Int.reduceSub, ← List.map_take, ← List.map_drop, wrap64, wrapu64, wrapu32, ← Int.natCast_add, ← Int.natCast_mul, cast_succ, wrapu32_nat, shr32, reps_wd, map_set_wd, List.length_set, zs_len, e4]
      exact garb rfl
    · have e4 : -(n : Int) = -(k : Int) := by omega
      simp (maxSteps := 4000000) (disch := omega) only [go_sem, ↓reduceIte, Nat.reduceAdd, Nat.reduceSub, Nat.reduceMul, Nat.reduceEqDiff, reduceCtorEq, Int.reduceAdd, Int.reduceLT, Int.reduceLE, Int.reduceToNat, Int.reduceNeg, Int.reduceSub, ← List.map_take, ← List.map_drop, wrap64, wrapu64, wrapu32, ← Int.natCast_add, ← Int.natCast_mul, cast_succ, wrapu32_nat, shr32, reps_wd, map_set_wd, List.length_set, zs_len, e4]
      exact garb rfl
end Go.Proofs.Ytmgmcnoobgljpaa

/- Walks of the reference of chapter 1: long division. (Own work of this repo.) -/
namespace Go.Proofs.Ytmgmcnoobgljpaa
open Vm
set_option maxRecDepth 100000

theorem shl_u32 {x s : Nat} (hs : s ≤ 31) (h : x * 2 ^ s < 4294967296) : IntKind.u32.wrap ((x : Int) * 2 ^ min s (kb .u32)) = ((x * 2 ^ s : Nat) : Int) := by
  rw [show min s (kb .u32) = s from Nat.min_eq_left (show s ≤ 32 by omega), show (x : Int) * 2 ^ s = ((x * 2 ^ s : Nat) : Int) by push_cast; rfl]
  exact wrapu32 (by omega) (by omega)
theorem top_shift {x s : Nat} (h : bl x + s ≤ 31) : x * 2 ^ s < 2147483648 := by
  have h1 := Nat.mul_lt_mul_of_pos_right (bl_lt x) (show 0 < 2 ^ s from Nat.pow_pos (by decide))
  rw [← Nat.pow_add] at h1
  exact Nat.lt_of_lt_of_le h1 (Nat.pow_le_pow_right (by decide) h : 2 ^ (bl x + s) ≤ 2 ^ 31)
theorem top_shift' {x s : Nat} (h0 : x ≠ 0) (h : bl x + s = 32) : 2147483648 ≤ x * 2 ^ s ∧ x * 2 ^ s < 4294967296 := by
  have h1 := Nat.mul_lt_mul_of_pos_right (bl_lt x) (show 0 < 2 ^ s from Nat.pow_pos (by decide))
  rw [← Nat.pow_add, h] at h1
  have h2 := Nat.mul_le_mul_right (2 ^ s) (bl_ge h0)
  have h3 := bl_nz h0
  rw [← Nat.pow_add, show bl x - 1 + s = 31 by omega] at h2
  exact ⟨h2, h1⟩
set_option maxHeartbeats 8000000 in
theorem rLong_spec (ma : Bool) (a : List Nat) (mb : Bool) (b : List Nat) (ha : Norm a) (hb : Norm b) (m : Nat) (hm : b.length = m + 1 + 1) (hab : b.length ≤ a.length) (la : a.length < 2 ^ 30) :
    ∃ z : List Nat × Bool, denP E 75 [.lst ma (a.map wd), .lst mb (b.map wd)] = some (.ret (.tup [.lst false (z.1.map wd), .lst z.2 ((dig (val a % val b)).map wd)])) ∧ InR z.1 ∧ z.1.length < 2 ^ 36 ∧ val z.1 = val a / val b := by
  refine denP_ex E75 rfl (by simp [AV.pureL, AV.pure, pure_wd]) ?_
  have hb0 : b ≠ [] := fun e => by rw [e] at hm; simp at hm
  have hpos := norm_pos hb hb0
  obtain ⟨K, hK, hK32, hbl, hlo, hhi⟩ := top_pow hb hm
  have ht0 : b.getD (m + 1) 0 ≠ 0 := by
    have := hb.2.resolve_left hb0
    rwa [hm, Nat.add_sub_cancel] at this
  have hxx := hb.1.get (m + 1)
  have hst := kn_start (n := m + 1) (la := a.length) (val_lt ha.1) hlo hK32 (by omega)
  have b1 : ((m + 1 + 1 : Nat) : Int) - 1 = ((m + 1 : Nat) : Int) := by omega
  obtain ⟨x, hx⟩ : ∃ x, x = b.getD (m + 1) 0 := ⟨_, rfl⟩
  have hx' : b.getD (m + 1) 0 = x := hx.symm
  rw [← hx] at hK hbl ht0 hxx
  obtain ⟨V, hV⟩ : ∃ V, V = val b * 2 ^ K := ⟨_, rfl⟩
  obtain ⟨X, hX⟩ : ∃ X, X = val a * 2 ^ K := ⟨_, rfl⟩
  have hfin : ∀ q r, r + q * V = X → r < V → q = val a / val b ∧ r / 2 ^ K = val a % val b := fun q r h1 h2 => by
    rw [hV, hX] at h1; rw [hV] at h2; exact div_shift hpos h1 h2
  rw [← hV] at hst hlo hhi
  rw [← hX] at hst
  obtain ⟨L, hL⟩ : ∃ L, a.length = m + 1 + L := ⟨a.length - (m + 1), by omega⟩
  have hL0 : 0 < L := by omega
  rw [show a.length - (m + 1) = L by omega] at hst
  have hsa := shifted_open ma a K ha.1 (by omega) hK32
  have hsb := shifted_open mb b K hb.1 (by omega) hK32
  rw [← hV] at hsb
  rw [← hX] at hsa
  replace hfin := Hd.mk hfin
  replace hst := Hd.mk hst
  replace hlo := Hd.mk hlo
  replace hhi := Hd.mk hhi
  replace hV := Hd.mk hV
  replace hX := Hd.mk hX
  replace hpos := Hd.mk hpos
  simp (maxSteps := 4000000) (disch := omega) only [go_sem, ↓reduceIte, Nat.reduceAdd, Nat.reduceSub, Nat.reduceMul, Nat.reduceEqDiff, reduceCtorEq, Int.reduceAdd, Int.reduceLT, Int.reduceLE, Int.reduceToNat, Int.reduceNeg, Int.reduceSub, ← List.map_take, ← List.map_drop, wrap64, wrapu64, wrapu32, ← Int.natCast_add, ← Int.natCast_mul, cast_succ, wrapu32_nat, shr32, reps_wd, map_set_wd, List.length_set, zs_len, Try.f75]
  refine W_loopS (fun k sl H nx => ∃ s : Nat, (∃ g : Nat → AV, sl = [.lst ma (a.map wd), .lst mb (b.map wd), g 2, g 3, g 4, g 5, .int .i64 s, g 7, g 8, g 9, g 10, g 11, g 12, g 13, g 14, g 15, g 16, g 17, g 18, g 19, g 20, g 21, g 22, g 23, g 24, g 25, g 26, g 27, g 28, g 29, g 30, g 31, g 32, g 33, g 34, g 35, g 36, g 37, g 38, g 39, g 40, g 41, g 42, g 43, g 44, g 45, g 46, g 47, g 48, g 49, g 50, g 51, g 52, g 53, g 54, g 55, g 56, g 57, g 58, g 59, g 60, g 61, g 62, g 63, g 64, g 65, g 66, g 67, g 68, g 69, g 70, g 71, g 72, g 73, g 74, g 75, g 76, g 77, g 78, g 79, g 80, g 81, g 82, g 83, g 84, g 85, g 86, g 87, g 88, g 89, g 90, g 91, g 92, g 93, g 94, g 95, g 96, g 97, g 98, g 99, g 100, g 101, g 102, g 103, g 104, g 105, g 106, g 107, g 108, g 109, g 110, g 111, g 112, g 113, g 114, g 115, g 116, g 117, g 118, g 119, g 120, g 121, g 122, g 123, g 124, g 125, g 126, g 127, g 128, g 129, g 130, g 131, g 132, g 133, g 134, g 135, g 136, g 137, g 138, g 139, g 140, g 141, g 142, g 143, g 144, g 145, g 146, g 147, g 148, g 149, g 150, g 151, g 152, g 153, g 154, g 155, g 156, g 157, g 158, g 159, g 160, g 161, g 162, g 163, g 164, g 165, g 166, g 167, g 168, g 169, g 170, g 171, g 172, g 173, g 174, g 175, g 176, g 177, g 178, g 179, g 180, g 181, g 182, g 183, g 184, g 185, g 186, g 187, g 188, g 189, g 190, g 191, g 192, g 193, g 194, g 195, g 196, g 197, g 198, g 199, g 200, g 201, g 202, g 203, g 204, g 205, g 206, g 207, g 208, g 209, g 210, g 211, g 212, g 213, g 214, g 215, g 216, g 217, g 218, g 219, g 220, g 221, g 222]) ∧ H = Heap.empty ∧ nx = 0 ∧ s + k = K) K ⟨0, garb rfl, rfl, rfl, by omega⟩ ?_
  rintro k _ _ _ ⟨s, ⟨g, rfl⟩, rfl, rfl, hs⟩
  by_cases hk : k ≠ 0
  · have h1 := top_shift (x := x) (s := s) (by omega)
    have h2 := shl_u32 (x := x) (s := s) (by omega) (by omega)
    generalize x * 2 ^ s = y at *
    clear hsa hsb
    simp (maxSteps := 4000000) (disch := omega) only [go_sem, ↓reduceIte, Nat.reduceAdd, Nat.reduceSub, Nat.reduceMul, Nat.reduceEqDiff, reduceCtorEq, Int.reduceAdd, Int.reduceLT, Int.reduceLE, Int.reduceToNat, Int.reduceNeg, Int.reduceSub, ← List.map_take, ← List.map_drop, wrap64, wrapu64, wrapu32, ← Int.natCast_add, ← Int.natCast_mul, cast_succ, wrapu32_nat, shr32, reps_wd, map_set_wd, List.length_set, zs_len, hm, b1, hx', h2]
    exact ⟨k - 1, by omega, s + 1, garb rfl, by omega⟩
  · obtain rfl : s = K := by omega
    obtain ⟨h1, h1'⟩ := top_shift' (x := x) (s := s) ht0 (by omega)
    have h2 := shl_u32 (x := x) (s := s) (by omega) h1'
    generalize x * 2 ^ s = y at *
    clear hK hbl ht0 hxx
    simp (maxSteps := 4000000) (disch := omega) only [go_sem, ↓reduceIte, Nat.reduceAdd, Nat.reduceSub, Nat.reduceMul, Nat.reduceEqDiff, reduceCtorEq, Int.reduceAdd, Int.reduceLT, Int.reduceLE, Int.reduceToNat, Int.reduceNeg, Int.reduceSub, ← List.map_take, ← List.map_drop, wrap64, wrapu64, wrapu32, ← Int.natCast_add, ← Int.natCast_mul, cast_succ, wrapu32_nat, shr32, reps_wd, map_set_wd, List.length_set, zs_len, hm, b1, hx', h2]
    clear h1 h1' h2 hx hx'
    refine openK_ex (hsa _ _) ?_
    rintro oa H1 ⟨ha1, ha2, ra, oal, oav⟩
    clear hsa ha2
    have hpad : List.map wd oa ++ [AV.int .u32 0] = List.map wd (oa ++ zs 1) := by rw [List.map_append]; rfl
    have hcut : List.take (m + 1 + L + 1) (List.map wd oa) = List.map wd oa := by rw [List.take_of_length_le]; rw [List.length_map]; omega
    rw [hL] at oal
    simp (maxSteps := 4000000) (disch := omega) only [go_sem, ↓reduceIte, Nat.reduceAdd, Nat.reduceSub, Nat.reduceMul, Nat.reduceEqDiff, reduceCtorEq, Int.reduceAdd, Int.reduceLT, Int.reduceLE, Int.reduceToNat, Int.reduceNeg, Int.reduceSub, ← List.map_take, ← List.map_drop, wrap64, wrapu64, wrapu32, ← Int.natCast_add, ← Int.natCast_mul, cast_succ, wrapu32_nat, shr32, reps_wd, map_set_wd, List.length_set, zs_len, ha1, hL, oal, reps, fillAll, appendEff, srcCells, List.headD, hpad, List.take_of_length_le]
    refine openK_ex (hsb _ _) ?_
    rintro ob H2 ⟨hb1, hb2, rb, obl, obv⟩
    clear hsb
    have hb3 := hb2 2 (by decide)
    clear hb2
    simp only [upd_apply] at hb3
    have hb3 : H2 2 = some ⟨(oa ++ zs 1).map wd, false, 1, false⟩ := hb3
    have cl : ((m + 1 + L + 1 + 1 : Nat) : Int) - ((m + 1 + 1 : Nat) : Int) = ((L + 1 : Nat) : Int) := by omega
    have hvb : vp ob (m + 2) = V := by rw [vp_val (by rw [obv]; exact hhi.out), obv]
    have htz : ob.getD (m + 2) 0 = 0 := getD_of_lt (by rw [obv]; exact hhi.out) (Nat.le_refl _)
    have hv1 : 1 ≤ ob.getD (m + 1) 0 := by
      rcases Nat.eq_zero_or_pos (ob.getD (m + 1) 0) with h | h
      · have h2 := hvb
        rw [vp, h, Nat.zero_mul, Nat.add_zero] at h2
        have h3 := vp_lt rb (m + 1)
        have h4 := hlo.out
        have h5 : BB ^ (m + 1) * 1 ≤ BB ^ (m + 1) * 2147483648 := Nat.mul_le_mul_left _ (by decide)
        omega
      · exact h
    rw [hm] at obl
    simp (maxSteps := 4000000) (disch := omega) only [go_sem, ↓reduceIte, Nat.reduceAdd, Nat.reduceSub, Nat.reduceMul, Nat.reduceEqDiff, reduceCtorEq, Int.reduceAdd, Int.reduceLT, Int.reduceLE, Int.reduceToNat, Int.reduceNeg, Int.reduceSub, ← List.map_take, ← List.map_drop, wrap64, wrapu64, wrapu32, ← Int.natCast_add, ← Int.natCast_mul, cast_succ, wrapu32_nat, shr32, reps_wd, map_set_wd, List.length_set, zs_len, hb1, hb3, hm, obl, cutBounds, Nat.sub_zero, cl]
    refine W_loopS (fun k sl H nx => ∃ (o out : List Nat), (∃ g : Nat → AV, sl = [g 0, g 1, g 2, g 3, g 4, g 5, .int .i64 s, .ref 2 0 (m + 1 + L + 1 + 1), .ref 3 0 (m + 1 + 1), .int .i64 (m + 1 + 1 : Nat), .ref 4 0 (L + 1), .int .i64 ((k : Int) - 1), g 12, g 13, g 14, g 15, g 16, g 17, g 18, g 19, g 20, g 21, g 22, g 23, g 24, g 25, g 26, g 27, g 28, g 29, g 30, g 31, g 32, g 33, g 34, g 35, g 36, g 37, g 38, g 39, g 40, g 41, g 42, g 43, g 44, g 45, g 46, g 47, g 48, g 49, g 50, g 51, g 52, g 53, g 54, g 55, g 56, g 57, g 58, g 59, g 60, g 61, g 62, g 63, g 64, g 65, g 66, g 67, g 68, g 69, g 70, g 71, g 72, g 73, g 74, g 75, g 76, g 77, g 78, g 79, g 80, g 81, g 82, g 83, g 84, g 85, g 86, g 87, g 88, g 89, g 90, g 91, g 92, g 93, g 94, g 95, g 96, g 97, g 98, g 99, g 100, g 101, g 102, g 103, g 104, g 105, g 106, g 107, g 108, g 109, g 110, g 111, g 112, g 113, g 114, g 115, g 116, g 117, g 118, g 119, g 120, g 121, g 122, g 123, g 124, g 125, g 126, g 127, g 128, g 129, g 130, g 131, g 132, g 133, g 134, g 135, g 136, g 137, g 138, g 139, g 140, g 141, g 142, g 143, g 144, g 145, g 146, g 147, g 148, g 149, g 150, g 151, g 152, g 153, g 154, g 155, g 156, g 157, g 158, g 159, g 160, g 161, g 162, g 163, g 164, g 165, g 166, g 167, g 168, g 169, g 170, g 171, g 172, g 173, g 174, g 175, g 176, g 177, g 178, g 179, g 180, g 181, g 182, g 183, g 184, g 185, g 186, g 187, g 188, g 189, g 190, g 191, g 192, g 193, g 194, g 195, g 196, g 197, g 198, g 199, g 200, g 201, g 202, g 203, g 204, g 205, g 206, g 207, g 208, g 209, g 210, g 211, g 212, g 213, g 214, g 215, g 216, g 217, g 218, g 219, g 220, g 221, g 222]) ∧ nx = 5 ∧
      H 2 = some ⟨o.map wd, false, 1, false⟩ ∧ H 3 = some ⟨ob.map wd, false, 1, false⟩ ∧ H 4 = some ⟨out.map wd, false, 1, false⟩ ∧ o.length = m + 1 + L + 1 + 1 ∧ out.length = L + 1 ∧ InR o ∧ InR out ∧ k ≤ L + 1 ∧
      Hd (val o + val out * V = X) ∧ Hd (val o < V * BB ^ k) ∧ Hd (∀ i, i < k → out.getD i 0 = 0)) (L + 1)
      ⟨oa ++ zs 1, zs (L + 1), garb rfl, rfl, hb3, hb1, rfl, by rw [List.length_append, oal, zs_len], zs_len _, inR_pad ra 1, zs_inR _, by omega, ⟨by rw [val_pad, oav, show val (zs (L + 1)) = 0 from zs_vp _ _, Nat.zero_mul, Nat.add_zero]⟩,
        ⟨by rw [val_pad, oav, Nat.pow_succ, ← Nat.mul_assoc]; exact Nat.lt_of_lt_of_le hst.out (Nat.le_mul_of_pos_right _ (by decide))⟩, ⟨fun i _ => zs_get _ i⟩⟩ ?_
    clear hb1 hb3 ha1 hpad hcut oav oal ra hst hX hs
    rintro k _ H _ ⟨o, out, ⟨g, rfl⟩, rfl, h2, h3, h4, ol, outl, ro, rout, hk, hv, hb', hz⟩
    by_cases hk0 : k = 0
    · subst hk0
      have hvo : val o < V := by have := hb'.out; rwa [Nat.pow_zero, Nat.mul_one] at this
      have hres := hfin.out _ _ hv.out hvo
      have hmk := rMake_z (neg := false) (nl := false) (w := o) (z := ((val o : Nat) : Int)) ro (by omega) (by rfl)
      have hlo2 : (dg ((val o : Nat) : Int)).length < 2 ^ 31 := by
        rw [dg_nat]
        have : (dig (val o)).length ≤ m + 1 + 1 := dig_len.2 (Nat.lt_trans hvo hhi.out)
        omega
      have hsh : ∃ f : Bool, denP E 87 [RM ((val o : Nat) : Int), .int .i64 (0 - (s : Int))] = some (.ret (I f ((val a % val b : Nat) : Int))) ∧ True := by
        have e : ((val o : Nat) : Int) / 2 ^ s = ((val a % val b : Nat) : Int) := by rw [← hres.2]; push_cast; rfl
        by_cases hs0 : s = 0
        · subst hs0
          obtain ⟨f, h, _⟩ := rShift_pos (decide (((val o : Nat) : Int) = 0)) ((val o : Nat) : Int) 0 (by omega) (by decide)
          rw [Int.pow_zero, Int.mul_one] at h
          rw [Int.pow_zero, Int.ediv_one] at e
          rw [e] at h
          exact ⟨f, by rw [e]; exact h, trivial⟩
        · obtain ⟨f, h, _⟩ := rShift_neg (decide (((val o : Nat) : Int) = 0)) ((val o : Nat) : Int) s hlo2 (by omega) (by omega)
          rw [e] at h
          exact ⟨f, by rw [show (0 : Int) - (s : Int) = -(s : Int) by omega]; exact h, trivial⟩
      obtain ⟨f, hsh, _⟩ := hsh
      simp only [RM, I, ng_nat, dg_nat] at hsh hmk
      have hq := hres.1
      clear hv hb' hz hres hfin hvo hlo2 hV hhi hlo hvb htz hv1
      simp (maxSteps := 4000000) (disch := omega) only [go_sem, ↓reduceIte, Nat.reduceAdd, Nat.reduceSub, Nat.reduceMul, Nat.reduceEqDiff, reduceCtorEq, Int.reduceAdd, Int.reduceLT, Int.reduceLE, Int.reduceToNat, Int.reduceNeg, Int.reduceSub, ← List.map_take, ← List.map_drop, wrap64, wrapu64, wrapu32, ← Int.natCast_add, ← Int.natCast_mul, cast_succ, wrapu32_nat, shr32, reps_wd, map_set_wd, List.length_set, zs_len, h2, h3, h4, ol, outl, List.take_of_length_le, hmk, hsh, partOf]
      exact ⟨(out, f), rfl, rout, (show out.length < 2 ^ 36 by omega), hq⟩
    · obtain ⟨j, rfl⟩ : ∃ j, k = j + 1 := ⟨k - 1, by omega⟩
      have j1 : ((j + 1 : Nat) : Int) - 1 = (j : Int) := by omega
      have c1 : ((j + m + 2 : Nat) : Int) - 1 = ((j + m + 1 : Nat) : Int) := by omega
      have c2 : ((j + m + 2 : Nat) : Int) - 2 = ((j + m : Nat) : Int) := by omega
      have b2 : ((m + 1 + 1 : Nat) : Int) - 2 = ((m : Nat) : Int) := by omega
      have a3 : j + (m + 1 + 1) = j + m + 2 := by omega
      have hVn : V < BB ^ (m + 2) := hhi.out
      have hwin := kn_window (n := m + 2) (j := j) hVn hb'.out
      rw [show m + 2 + 1 = m + 3 by omega] at hwin
      have hqlt : wv o j (m + 3) / V < 4294967296 := Nat.div_lt_of_lt_mul hwin
      have hVt := vp_top rb (n := m)
      have hUt := wv_top ro (j := j) (n := m)
      rw [hvb] at hVt
      have bu2 := ro.get (j + m + 2)
      have bu1 := ro.get (j + m + 1)
      have bu0 := ro.get (j + m)
      have bv1 := rb.get (m + 1)
      have bv0 := rb.get m
      obtain ⟨T, hT⟩ : ∃ T, T = o.getD (j + m + 2) 0 * 4294967296 + o.getD (j + m + 1) 0 := ⟨_, rfl⟩
      have hT2 : o.getD (j + m + 2) 0 * 4294967296 * 4294967296 + o.getD (j + m + 1) 0 * 4294967296 + o.getD (j + m) 0 = T * 4294967296 + o.getD (j + m) 0 := by rw [hT, Nat.add_mul]
      rw [hT2] at hUt
      have e1 := shl32 bu2
      have hTb : T < 18446744073709551616 := by omega
      clear hT2
      obtain ⟨Y, hY⟩ : ∃ Y, Y = o.getD (j + m + 2) 0 * 4294967296 := ⟨_, rfl⟩
      rw [← hY] at e1 hT
      have e2 : Y + o.getD (j + m + 1) 0 = T := hT.symm
      clear hY hT
      generalize hUU : wv o j (m + 3) = U at *
      have hin := kn_init (top := T) hv1 bu0 hVt.1 hUt.2
      have htop := kn_htop bv0 hVt.2 hUt.1 hwin
      obtain ⟨Pm, hPm⟩ : ∃ Pm, Pm = BB ^ m := ⟨_, rfl⟩
      rw [← hPm] at hVt hUt
      obtain ⟨v1, hv1e⟩ : ∃ v1, v1 = ob.getD (m + 1) 0 := ⟨_, rfl⟩
      rw [← hv1e] at hVt bv1 hin htop
      have hw1 : 1 ≤ v1 := by rw [hv1e]; exact hv1
      obtain ⟨v2, hv2e⟩ : ∃ v2, v2 = ob.getD m 0 := ⟨_, rfl⟩
      rw [← hv2e] at hVt bv0
      obtain ⟨u2, hu2e⟩ : ∃ u2, u2 = o.getD (j + m) 0 := ⟨_, rfl⟩
      rw [← hu2e] at hUt bu0
      have f1 : ob.getD (m + 1) 0 = v1 := hv1e.symm
      have f2 : ob.getD m 0 = v2 := hv2e.symm
      have f3 : o.getD (j + m) 0 = u2 := hu2e.symm
      have d1 : (T : Int).tdiv (v1 : Int) = ((T / v1 : Nat) : Int) := rfl
      have d2 : (T : Int).tmod (v1 : Int) = ((T % v1 : Nat) : Int) := rfl
      have d3 : T % v1 < v1 := Nat.mod_lt _ hw1
      have d4 : T / v1 < 18446744073709551616 := Nat.lt_of_le_of_lt (Nat.div_le_self _ _) hTb
      have d5 : T / v1 * v1 + T % v1 = T := by rw [Nat.mul_comm]; exact Nat.div_add_mod T v1
      replace hin := Hd.mk hin
      replace d5 := Hd.mk d5
      replace hVt := Hd.mk hVt
      replace hUt := Hd.mk hUt
      replace hwin := Hd.mk hwin
      replace hVn := Hd.mk hVn
      replace hvb := Hd.mk hvb
      replace hUU := Hd.mk hUU
      replace hqlt := Hd.mk hqlt
      generalize T / v1 = q0 at *
      generalize T % v1 = r0 at *
      clear hv1e hv2e hu2e hPm hv1
      simp (maxSteps := 4000000) (disch := omega) only [go_sem, ↓reduceIte, Nat.reduceAdd, Nat.reduceSub, Nat.reduceMul, Nat.reduceEqDiff, reduceCtorEq, Int.reduceAdd, Int.reduceLT, Int.reduceLE, Int.reduceToNat, Int.reduceNeg, Int.reduceSub, ← List.map_take, ← List.map_drop, wrap64, wrapu64, wrapu32, ← Int.natCast_add, ← Int.natCast_mul, cast_succ, wrapu32_nat, shr32, reps_wd, map_set_wd, List.length_set, zs_len, j1]
      refine W_drawn ?_
      simp (maxSteps := 4000000) (disch := omega) only [go_sem, ↓reduceIte, Nat.reduceAdd, Nat.reduceSub, Nat.reduceMul, Nat.reduceEqDiff, reduceCtorEq, Int.reduceAdd, Int.reduceLT, Int.reduceLE, Int.reduceToNat, Int.reduceNeg, Int.reduceSub, ← List.map_take, ← List.map_drop, wrap64, wrapu64, wrapu32, ← Int.natCast_add, ← Int.natCast_mul, cast_succ, wrapu32_nat, shr32, reps_wd, map_set_wd, List.length_set, zs_len, h2, ol, a3, c1, e1, e2]
      refine ⟨by rfl, ?_⟩
      refine W_drawn ?_
      simp (maxSteps := 4000000) (disch := omega) only [go_sem, ↓reduceIte, Nat.reduceAdd, Nat.reduceSub, Nat.reduceMul, Nat.reduceEqDiff, reduceCtorEq, Int.reduceAdd, Int.reduceLT, Int.reduceLE, Int.reduceToNat, Int.reduceNeg, Int.reduceSub, ← List.map_take, ← List.map_drop, wrap64, wrapu64, wrapu32, ← Int.natCast_add, ← Int.natCast_mul, cast_succ, wrapu32_nat, shr32, reps_wd, map_set_wd, List.length_set, zs_len, h3, obl, b1, f1, d1, d2]
      refine ⟨by rfl, ?_⟩
      refine W_mono (Q := fun e σ => e = .exit 4 ∧ ∃ (q : Nat), (∃ g : Nat → AV, σ.sl = [g 0, g 1, g 2, g 3, g 4, g 5, .int .i64 s, .ref 2 0 (m + 1 + L + 1 + 1), .ref 3 0 (m + 1 + 1), .int .i64 (m + 1 + 1 : Nat), .ref 4 0 (L + 1), .int .i64 j, g 12, .int .u64 q, g 14, g 15, g 16, g 17, g 18, g 19, g 20, g 21, g 22, g 23, g 24, g 25, g 26, g 27, g 28, g 29, g 30, g 31, g 32, g 33, g 34, g 35, g 36, g 37, g 38, g 39, g 40, g 41, g 42, g 43, g 44, g 45, g 46, g 47, g 48, g 49, g 50, g 51, g 52, g 53, g 54, g 55, g 56, g 57, g 58, g 59, g 60, g 61, g 62, g 63, g 64, g 65, g 66, g 67, g 68, g 69, g 70, g 71, g 72, g 73, g 74, g 75, g 76, g 77, g 78, g 79, g 80, g 81, g 82, g 83, g 84, g 85, g 86, g 87, g 88, g 89, g 90, g 91, g 92, g 93, g 94, g 95, g 96, g 97, g 98, g 99, g 100, g 101, g 102, g 103, g 104, g 105, g 106, g 107, g 108, g 109, g 110, g 111, g 112, g 113, g 114, g 115, g 116, g 117, g 118, g 119, g 120, g 121, g 122, g 123, g 124, g 125, g 126, g 127, g 128, g 129, g 130, g 131, g 132, g 133, g 134, g 135, g 136, g 137, g 138, g 139, g 140, g 141, g 142, g 143, g 144, g 145, g 146, g 147, g 148, g 149, g 150, g 151, g 152, g 153, g 154, g 155, g 156, g 157, g 158, g 159, g 160, g 161, g 162, g 163, g 164, g 165, g 166, g 167, g 168, g 169, g 170, g 171, g 172, g 173, g 174, g 175, g 176, g 177, g 178, g 179, g 180, g 181, g 182, g 183, g 184, g 185, g 186, g 187, g 188, g 189, g 190, g 191, g 192, g 193, g 194, g 195, g 196, g 197, g 198, g 199, g 200, g 201, g 202, g 203, g 204, g 205, g 206, g 207, g 208, g 209, g 210, g 211, g 212, g 213, g 214, g 215, g 216, g 217, g 218, g 219, g 220, g 221, g 222]) ∧ σ.h = H ∧ σ.nx = 5 ∧ q < 4294967296 ∧ Hd (q * V ≤ U + V) ∧ Hd (U < (q + 1) * V)) ?_ ?_
      · refine W_loopS (fun k sl H' n => ∃ (r : Nat), (∃ g : Nat → AV, sl = [g 0, g 1, g 2, g 3, g 4, g 5, .int .i64 s, .ref 2 0 (m + 1 + L + 1 + 1), .ref 3 0 (m + 1 + 1), .int .i64 (m + 1 + 1 : Nat), .ref 4 0 (L + 1), .int .i64 j, g 12, .int .u64 k, .int .u64 r, g 15, g 16, g 17, g 18, g 19, g 20, g 21, g 22, g 23, g 24, g 25, g 26, g 27, g 28, g 29, g 30, g 31, g 32, g 33, g 34, g 35, g 36, g 37, g 38, g 39, g 40, g 41, g 42, g 43, g 44, g 45, g 46, g 47, g 48, g 49, g 50, g 51, g 52, g 53, g 54, g 55, g 56, g 57, g 58, g 59, g 60, g 61, g 62, g 63, g 64, g 65, g 66, g 67, g 68, g 69, g 70, g 71, g 72, g 73, g 74, g 75, g 76, g 77, g 78, g 79, g 80, g 81, g 82, g 83, g 84, g 85, g 86, g 87, g 88, g 89, g 90, g 91, g 92, g 93, g 94, g 95, g 96, g 97, g 98, g 99, g 100, g 101, g 102, g 103, g 104, g 105, g 106, g 107, g 108, g 109, g 110, g 111, g 112, g 113, g 114, g 115, g 116, g 117, g 118, g 119, g 120, g 121, g 122, g 123, g 124, g 125, g 126, g 127, g 128, g 129, g 130, g 131, g 132, g 133, g 134, g 135, g 136, g 137, g 138, g 139, g 140, g 141, g 142, g 143, g 144, g 145, g 146, g 147, g 148, g 149, g 150, g 151, g 152, g 153, g 154, g 155, g 156, g 157, g 158, g 159, g 160, g 161, g 162, g 163, g 164, g 165, g 166, g 167, g 168, g 169, g 170, g 171, g 172, g 173, g 174, g 175, g 176, g 177, g 178, g 179, g 180, g 181, g 182, g 183, g 184, g 185, g 186, g 187, g 188, g 189, g 190, g 191, g 192, g 193, g 194, g 195, g 196, g 197, g 198, g 199, g 200, g 201, g 202, g 203, g 204, g 205, g 206, g 207, g 208, g 209, g 210, g 211, g 212, g 213, g 214, g 215, g 216, g 217, g 218, g 219, g 220, g 221, g 222]) ∧ H' = H ∧ n = 5 ∧
          k < 18446744073709551616 ∧ r < 4294967296 ∧ Hd (k * v1 + r = T) ∧ Hd (U < (k + 1) * V)) q0 ⟨r0, garb rfl, rfl, rfl, d4, by omega, d5, hin⟩ ?_
        clear d1 d2 d3 d4 d5 hin e1 e2
        rintro q _ _ _ ⟨r, ⟨g, rfl⟩, rfl, rfl, hq, hr, ht, hb⟩
        have g1 := shl32 hr
        obtain ⟨R, hR⟩ : ∃ R, R = r * 4294967296 := ⟨_, rfl⟩
        rw [← hR] at g1
        have hR1 : R ≤ 18446744069414584320 := by omega
        by_cases hq2 : 4294967296 ≤ q
        · have hlt := kn_dec ht.out hVt.out.1 hUt.out.2 hwin.out (.inl hq2)
          have g4 : (q : Int) - 1 = ((q - 1 : Nat) : Int) := by omega
          have ht2 : (q - 1) * v1 + (r + v1) = T := by
            have e := ht.out
            obtain ⟨k, rfl⟩ : ∃ k, q = k + 1 := ⟨q - 1, by omega⟩
            rw [Nat.add_mul] at e; simp only [Nat.add_sub_cancel]; omega
          have hb2 : U < (q - 1 + 1) * V := by rw [show q - 1 + 1 = q by omega]; exact hlt
          clear hR g1
          by_cases hr2 : 4294967296 ≤ r + v1
          · have hq1 : q - 1 < 4294967296 := by
              have h1 : (q - 1) * v1 < 4294967296 * v1 := by rw [Nat.add_mul] at htop; rw [Nat.mul_comm 4294967296]; omega
              exact Nat.lt_of_mul_lt_mul_right h1
            have hend := kn_end ht2 hw1 hVt.out.1 hVt.out.2 hUt.out.1 hq1 bv0 (.inr hr2)
            replace hb2 := Hd.mk hb2
            replace hend := Hd.mk hend
            clear ht ht2 hlt htop
            simp (maxSteps := 4000000) (disch := omega) only [go_sem, ↓reduceIte, Nat.reduceAdd, Nat.reduceSub, Nat.reduceMul, Nat.reduceEqDiff, reduceCtorEq, Int.reduceAdd, Int.reduceLT, Int.reduceLE, Int.reduceToNat, Int.reduceNeg, Int.reduceSub, ← List.map_take, ← List.map_drop, wrap64, wrapu64, wrapu32, ← Int.natCast_add, ← Int.natCast_mul, cast_succ, wrapu32_nat, shr32, reps_wd, map_set_wd, List.length_set, zs_len]
            refine W_drawn ?_
            simp (maxSteps := 4000000) (disch := omega) only [go_sem, ↓reduceIte, Nat.reduceAdd, Nat.reduceSub, Nat.reduceMul, Nat.reduceEqDiff, reduceCtorEq, Int.reduceAdd, Int.reduceLT, Int.reduceLE, Int.reduceToNat, Int.reduceNeg, Int.reduceSub, ← List.map_take, ← List.map_drop, wrap64, wrapu64, wrapu32, ← Int.natCast_add, ← Int.natCast_mul, cast_succ, wrapu32_nat, shr32, reps_wd, map_set_wd, List.length_set, zs_len]
            refine ⟨by rfl, ?_⟩
            simp (maxSteps := 4000000) (disch := omega) only [go_sem, ↓reduceIte, Nat.reduceAdd, Nat.reduceSub, Nat.reduceMul, Nat.reduceEqDiff, reduceCtorEq, Int.reduceAdd, Int.reduceLT, Int.reduceLE, Int.reduceToNat, Int.reduceNeg, Int.reduceSub, ← List.map_take, ← List.map_drop, wrap64, wrapu64, wrapu32, ← Int.natCast_add, ← Int.natCast_mul, cast_succ, wrapu32_nat, shr32, reps_wd, map_set_wd, List.length_set, zs_len, h3, obl, b1, f1, g4]
            exact ⟨q - 1, garb rfl, hq1, hend, hb2⟩
          · replace hb2 := Hd.mk hb2
            replace ht2 := Hd.mk ht2
            clear ht hlt htop
            simp (maxSteps := 4000000) (disch := omega) only [go_sem, ↓reduceIte, Nat.reduceAdd, Nat.reduceSub, Nat.reduceMul, Nat.reduceEqDiff, reduceCtorEq, Int.reduceAdd, Int.reduceLT, Int.reduceLE, Int.reduceToNat, Int.reduceNeg, Int.reduceSub, ← List.map_take, ← List.map_drop, wrap64, wrapu64, wrapu32, ← Int.natCast_add, ← Int.natCast_mul, cast_succ, wrapu32_nat, shr32, reps_wd, map_set_wd, List.length_set, zs_len]
            refine W_drawn ?_
            simp (maxSteps := 4000000) (disch := omega) only [go_sem, ↓reduceIte, Nat.reduceAdd, Nat.reduceSub, Nat.reduceMul, Nat.reduceEqDiff, reduceCtorEq, Int.reduceAdd, Int.reduceLT, Int.reduceLE, Int.reduceToNat, Int.reduceNeg, Int.reduceSub, ← List.map_take, ← List.map_drop, wrap64, wrapu64, wrapu32, ← Int.natCast_add, ← Int.natCast_mul, cast_succ, wrapu32_nat, shr32, reps_wd, map_set_wd, List.length_set, zs_len]
            refine ⟨by rfl, ?_⟩
            simp (maxSteps := 4000000) (disch := omega) only [go_sem, ↓reduceIte, Nat.reduceAdd, Nat.reduceSub, Nat.reduceMul, Nat.reduceEqDiff, reduceCtorEq, Int.reduceAdd, Int.reduceLT, Int.reduceLE, Int.reduceToNat, Int.reduceNeg, Int.reduceSub, ← List.map_take, ← List.map_drop, wrap64, wrapu64, wrapu32, ← Int.natCast_add, ← Int.natCast_mul, cast_succ, wrapu32_nat, shr32, reps_wd, map_set_wd, List.length_set, zs_len, h3, obl, b1, f1, g4]
            exact ⟨q - 1, by omega, r + v1, garb rfl, by omega, by omega, ht2, hb2⟩
        · obtain ⟨Z, hZ⟩ : ∃ Z, Z = q * v2 := ⟨_, rfl⟩
          have hZ2 : q * v2 = Z := hZ.symm
          have hZb := mul_word (show q < 4294967296 by omega) bv0
          rw [hZ2] at hZb
          by_cases hc : R + u2 < Z
          · have hlt := kn_dec ht.out hVt.out.1 hUt.out.2 hwin.out (.inr (by rw [← hR, ← hZ]; exact hc))
            have hq0 : q ≠ 0 := fun e => by rw [e, Nat.zero_mul] at hlt; omega
            have g4 : (q : Int) - 1 = ((q - 1 : Nat) : Int) := by omega
            have ht2 : (q - 1) * v1 + (r + v1) = T := by
              have e := ht.out
              obtain ⟨k, rfl⟩ : ∃ k, q = k + 1 := ⟨q - 1, by omega⟩
              rw [Nat.add_mul] at e; simp only [Nat.add_sub_cancel]; omega
            have hb2 : U < (q - 1 + 1) * V := by rw [show q - 1 + 1 = q by omega]; exact hlt
            clear hR hZ
            by_cases hr2 : 4294967296 ≤ r + v1
            · have hend := kn_end ht2 hw1 hVt.out.1 hVt.out.2 hUt.out.1 (by omega) bv0 (.inr hr2)
              replace hb2 := Hd.mk hb2
              replace hend := Hd.mk hend
              clear ht ht2 hlt htop
              simp (maxSteps := 4000000) (disch := omega) only [go_sem, ↓reduceIte, Nat.reduceAdd, Nat.reduceSub, Nat.reduceMul, Nat.reduceEqDiff, reduceCtorEq, Int.reduceAdd, Int.reduceLT, Int.reduceLE, Int.reduceToNat, Int.reduceNeg, Int.reduceSub, ← List.map_take, ← List.map_drop, wrap64, wrapu64, wrapu32, ← Int.natCast_add, ← Int.natCast_mul, cast_succ, wrapu32_nat, shr32, reps_wd, map_set_wd, List.length_set, zs_len]
              refine W_drawn ?_
              simp (maxSteps := 4000000) (disch := omega) only [go_sem, ↓reduceIte, Nat.reduceAdd, Nat.reduceSub, Nat.reduceMul, Nat.reduceEqDiff, reduceCtorEq, Int.reduceAdd, Int.reduceLT, Int.reduceLE, Int.reduceToNat, Int.reduceNeg, Int.reduceSub, ← List.map_take, ← List.map_drop, wrap64, wrapu64, wrapu32, ← Int.natCast_add, ← Int.natCast_mul, cast_succ, wrapu32_nat, shr32, reps_wd, map_set_wd, List.length_set, zs_len, h2, h3, ol, obl, b2, a3, c2, f2, f3, g1, hZ2]
              refine ⟨by rfl, ?_⟩
              simp (maxSteps := 4000000) (disch := omega) only [go_sem, ↓reduceIte, Nat.reduceAdd, Nat.reduceSub, Nat.reduceMul, Nat.reduceEqDiff, reduceCtorEq, Int.reduceAdd, Int.reduceLT, Int.reduceLE, Int.reduceToNat, Int.reduceNeg, Int.reduceSub, ← List.map_take, ← List.map_drop, wrap64, wrapu64, wrapu32, ← Int.natCast_add, ← Int.natCast_mul, cast_succ, wrapu32_nat, shr32, reps_wd, map_set_wd, List.length_set, zs_len, h3, obl, b1, f1, g4]
              exact ⟨q - 1, garb rfl, by omega, hend, hb2⟩
            · replace hb2 := Hd.mk hb2
              replace ht2 := Hd.mk ht2
              clear ht hlt htop
              simp (maxSteps := 4000000) (disch := omega) only [go_sem, ↓reduceIte, Nat.reduceAdd, Nat.reduceSub, Nat.reduceMul, Nat.reduceEqDiff, reduceCtorEq, Int.reduceAdd, Int.reduceLT, Int.reduceLE, Int.reduceToNat, Int.reduceNeg, Int.reduceSub, ← List.map_take, ← List.map_drop, wrap64, wrapu64, wrapu32, ← Int.natCast_add, ← Int.natCast_mul, cast_succ, wrapu32_nat, shr32, reps_wd, map_set_wd, List.length_set, zs_len]
              refine W_drawn ?_
              simp (maxSteps := 4000000) (disch := omega) only [go_sem, ↓reduceIte, Nat.reduceAdd, Nat.reduceSub, Nat.reduceMul, Nat.reduceEqDiff, reduceCtorEq, Int.reduceAdd, Int.reduceLT, Int.reduceLE, Int.reduceToNat, Int.reduceNeg, Int.reduceSub, ← List.map_take, ← List.map_drop, wrap64, wrapu64, wrapu32, ← Int.natCast_add, ← Int.natCast_mul, cast_succ, wrapu32_nat, shr32, reps_wd, map_set_wd, List.length_set, zs_len, h2, h3, ol, obl, b2, a3, c2, f2, f3, g1, hZ2]
              refine ⟨by rfl, ?_⟩
              simp (maxSteps := 4000000) (disch := omega) only [go_sem, ↓reduceIte, Nat.reduceAdd, Nat.reduceSub, Nat.reduceMul, Nat.reduceEqDiff, reduceCtorEq, Int.reduceAdd, Int.reduceLT, Int.reduceLE, Int.reduceToNat, Int.reduceNeg, Int.reduceSub, ← List.map_take, ← List.map_drop, wrap64, wrapu64, wrapu32, ← Int.natCast_add, ← Int.natCast_mul, cast_succ, wrapu32_nat, shr32, reps_wd, map_set_wd, List.length_set, zs_len, h3, obl, b1, f1, g4]
              exact ⟨q - 1, by omega, r + v1, garb rfl, by omega, by omega, ht2, hb2⟩
          · have hend := kn_end ht.out hw1 hVt.out.1 hVt.out.2 hUt.out.1 (by omega) bv0 (.inl (by rw [← hR, ← hZ]; omega))
            replace hend := Hd.mk hend
            clear ht htop hR hZ
            simp (maxSteps := 4000000) (disch := omega) only [go_sem, ↓reduceIte, Nat.reduceAdd, Nat.reduceSub, Nat.reduceMul, Nat.reduceEqDiff, reduceCtorEq, Int.reduceAdd, Int.reduceLT, Int.reduceLE, Int.reduceToNat, Int.reduceNeg, Int.reduceSub, ← List.map_take, ← List.map_drop, wrap64, wrapu64, wrapu32, ← Int.natCast_add, ← Int.natCast_mul, cast_succ, wrapu32_nat, shr32, reps_wd, map_set_wd, List.length_set, zs_len]
            refine W_drawn ?_
            simp (maxSteps := 4000000) (disch := omega) only [go_sem, ↓reduceIte, Nat.reduceAdd, Nat.reduceSub, Nat.reduceMul, Nat.reduceEqDiff, reduceCtorEq, Int.reduceAdd, Int.reduceLT, Int.reduceLE, Int.reduceToNat, Int.reduceNeg, Int.reduceSub, ← List.map_take, ← List.map_drop, wrap64, wrapu64, wrapu32, ← Int.natCast_add, ← Int.natCast_mul, cast_succ, wrapu32_nat, shr32, reps_wd, map_set_wd, List.length_set, zs_len, h2, h3, ol, obl, b2, a3, c2, f2, f3, g1, hZ2]
            refine ⟨by rfl, ?_⟩
            exact ⟨q, garb rfl, by omega, hend, hb⟩
      · clear d1 d2 d3 d4 d5 hin e1 e2 f1 f2 f3 htop hUt hVt bu2 bu1 bu0 bv1 bv0 hTb hw1 c1 c2 b2
        rintro e ⟨sl, H', nx'⟩ ⟨rfl, q, ⟨g, hs⟩, hh, hnn, hq, hle, hgt⟩
        dsimp only at hs hh hnn
        subst hs; subst H'; subst nx'
        simp (maxSteps := 4000000) (disch := omega) only [go_sem, ↓reduceIte, Nat.reduceAdd, Nat.reduceSub, Nat.reduceMul, Nat.reduceEqDiff, reduceCtorEq, Int.reduceAdd, Int.reduceLT, Int.reduceLE, Int.reduceToNat, Int.reduceNeg, Int.reduceSub, ← List.map_take, ← List.map_drop, wrap64, wrapu64, wrapu32, ← Int.natCast_add, ← Int.natCast_mul, cast_succ, wrapu32_nat, shr32, reps_wd, map_set_wd, List.length_set, zs_len]
        refine W_loopS (fun k sl H' n => ∃ (i c bo : Nat) (p : List Nat), (∃ g : Nat → AV, sl = [g 0, g 1, g 2, g 3, g 4, g 5, .int .i64 s, .ref 2 0 (m + 1 + L + 1 + 1), .ref 3 0 (m + 1 + 1), .int .i64 (m + 1 + 1 : Nat), .ref 4 0 (L + 1), .int .i64 j, g 12, .int .u64 q, g 14, .int .u64 c, .int .u64 bo, .int .i64 i, g 18, g 19, g 20, g 21, g 22, g 23, g 24, g 25, g 26, g 27, g 28, g 29, g 30, g 31, g 32, g 33, g 34, g 35, g 36, g 37, g 38, g 39, g 40, g 41, g 42, g 43, g 44, g 45, g 46, g 47, g 48, g 49, g 50, g 51, g 52, g 53, g 54, g 55, g 56, g 57, g 58, g 59, g 60, g 61, g 62, g 63, g 64, g 65, g 66, g 67, g 68, g 69, g 70, g 71, g 72, g 73, g 74, g 75, g 76, g 77, g 78, g 79, g 80, g 81, g 82, g 83, g 84, g 85, g 86, g 87, g 88, g 89, g 90, g 91, g 92, g 93, g 94, g 95, g 96, g 97, g 98, g 99, g 100, g 101, g 102, g 103, g 104, g 105, g 106, g 107, g 108, g 109, g 110, g 111, g 112, g 113, g 114, g 115, g 116, g 117, g 118, g 119, g 120, g 121, g 122, g 123, g 124, g 125, g 126, g 127, g 128, g 129, g 130, g 131, g 132, g 133, g 134, g 135, g 136, g 137, g 138, g 139, g 140, g 141, g 142, g 143, g 144, g 145, g 146, g 147, g 148, g 149, g 150, g 151, g 152, g 153, g 154, g 155, g 156, g 157, g 158, g 159, g 160, g 161, g 162, g 163, g 164, g 165, g 166, g 167, g 168, g 169, g 170, g 171, g 172, g 173, g 174, g 175, g 176, g 177, g 178, g 179, g 180, g 181, g 182, g 183, g 184, g 185, g 186, g 187, g 188, g 189, g 190, g 191, g 192, g 193, g 194, g 195, g 196, g 197, g 198, g 199, g 200, g 201, g 202, g 203, g 204, g 205, g 206, g 207, g 208, g 209, g 210, g 211, g 212, g 213, g 214, g 215, g 216, g 217, g 218, g 219, g 220, g 221, g 222]) ∧ n = 5 ∧
          H' 2 = some ⟨p.map wd, false, 1, false⟩ ∧ H' 3 = some ⟨ob.map wd, false, 1, false⟩ ∧ H' 4 = some ⟨out.map wd, false, 1, false⟩ ∧ p.length = m + 1 + L + 1 + 1 ∧ InR p ∧ i + k = m + 3 ∧ c < 4294967296 ∧ bo ≤ 1 ∧ (i = m + 3 → c = 0) ∧
          Hd (wv p j i + q * vp ob i = wv o j i + (c + bo) * BB ^ i) ∧ Hd (∀ t, t < j ∨ j + i ≤ t → p.getD t 0 = o.getD t 0)) (m + 3)
          ⟨0, 0, 0, o, garb rfl, rfl, h2, h3, h4, ol, ro, by omega, by omega, by omega, by omega, ⟨by simp [wv, vp]⟩, ⟨fun _ _ => rfl⟩⟩ ?_
        clear h2 h3 h4
        rintro k _ H' _ ⟨i, c, bo, p, ⟨g, rfl⟩, rfl, h2, h3, h4, hp, rp, hi, hc, hbo, hc0, hvv, hzz⟩
        by_cases hk3 : k = 0
        · obtain rfl : i = m + 3 := by omega
          obtain rfl := hc0 rfl
          have hlast : wv p j (m + 3) + q * V = U + bo * BB ^ (m + 3) := by
            have h := hvv.out
            rw [vp_succ0 htz, hvb.out, hUU.out, Nat.zero_add] at h
            exact h
          have stz : ∀ t, t < j ∨ j + (m + 3) ≤ t → p.getD t 0 = o.getD t 0 := hzz.out
          by_cases hbit : bo = 0
          · have hfin2 := kn_fin0' hlast hbit hgt.out
            have hout := kn_outer (n := m + 2) (p := p) ro hVn.out (show j < out.length by omega) hv.out hb'.out (hz.out j (by omega)) (by rw [show m + 2 + 1 = m + 3 by omega, hUU.out]; exact hfin2.2) (fun t ht => stz t (by omega))
            rw [show m + 2 + 1 = m + 3 by omega, hUU.out, ← hfin2.1] at hout
            have hz2 : ∀ i, i < j → (out.set j q).getD i 0 = 0 := fun i hi => by rw [lget_set_ne (by omega)]; exact hz.out i (by omega)
            have hqq : q % 4294967296 = q := Nat.mod_eq_of_lt hq
            replace hout := Hd.mk hout
            clear hvv hzz hlast hfin2 hv hb' hz hUU hgt hle hwin
            subst hbit
            simp (maxSteps := 4000000) (disch := omega) only [go_sem, ↓reduceIte, Nat.reduceAdd, Nat.reduceSub, Nat.reduceMul, Nat.reduceEqDiff, reduceCtorEq, Int.reduceAdd, Int.reduceLT, Int.reduceLE, Int.reduceToNat, Int.reduceNeg, Int.reduceSub, ← List.map_take, ← List.map_drop, wrap64, wrapu64, wrapu32, ← Int.natCast_add, ← Int.natCast_mul, cast_succ, wrapu32_nat, shr32, reps_wd, map_set_wd, List.length_set, zs_len, h4, outl, hqq]
            exact ⟨j, by omega, p, out.set j q, garb rfl, h2, h3, rfl, hp, by rw [List.length_set, outl], rp, rout.set hq, by omega, ⟨hout.out.1⟩, ⟨hout.out.2⟩, ⟨hz2⟩⟩
          · have hbit1 : bo = 1 := by omega
            replace hlast := kn_one hlast hbit1
            have hlt : U < q * V := by
              have h1 := wv_lt rp j (m + 3)
              omega
            have hq0 : q ≠ 0 := fun e => by rw [e, Nat.zero_mul] at hlt; omega
            have g4 : (q : Int) - 1 = ((q - 1 : Nat) : Int) := by omega
            replace hlast := Hd.mk hlast
            replace hlt := Hd.mk hlt
            clear hvv hzz
            subst hbit1
            simp (maxSteps := 4000000) (disch := omega) only [go_sem, ↓reduceIte, Nat.reduceAdd, Nat.reduceSub, Nat.reduceMul, Nat.reduceEqDiff, reduceCtorEq, Int.reduceAdd, Int.reduceLT, Int.reduceLE, Int.reduceToNat, Int.reduceNeg, Int.reduceSub, ← List.map_take, ← List.map_drop, wrap64, wrapu64, wrapu32, ← Int.natCast_add, ← Int.natCast_mul, cast_succ, wrapu32_nat, shr32, reps_wd, map_set_wd, List.length_set, zs_len, g4]
            refine W_loopS (fun k sl H2 n => ∃ (i c : Nat) (p2 : List Nat), (∃ g : Nat → AV, sl = [g 0, g 1, g 2, g 3, g 4, g 5, .int .i64 s, .ref 2 0 (m + 1 + L + 1 + 1), .ref 3 0 (m + 1 + 1), .int .i64 (m + 1 + 1 : Nat), .ref 4 0 (L + 1), .int .i64 j, g 12, .int .u64 (q - 1 : Nat), g 14, g 15, g 16, g 17, g 18, g 19, .int .u64 c, .int .i64 i, g 22, g 23, g 24, g 25, g 26, g 27, g 28, g 29, g 30, g 31, g 32, g 33, g 34, g 35, g 36, g 37, g 38, g 39, g 40, g 41, g 42, g 43, g 44, g 45, g 46, g 47, g 48, g 49, g 50, g 51, g 52, g 53, g 54, g 55, g 56, g 57, g 58, g 59, g 60, g 61, g 62, g 63, g 64, g 65, g 66, g 67, g 68, g 69, g 70, g 71, g 72, g 73, g 74, g 75, g 76, g 77, g 78, g 79, g 80, g 81, g 82, g 83, g 84, g 85, g 86, g 87, g 88, g 89, g 90, g 91, g 92, g 93, g 94, g 95, g 96, g 97, g 98, g 99, g 100, g 101, g 102, g 103, g 104, g 105, g 106, g 107, g 108, g 109, g 110, g 111, g 112, g 113, g 114, g 115, g 116, g 117, g 118, g 119, g 120, g 121, g 122, g 123, g 124, g 125, g 126, g 127, g 128, g 129, g 130, g 131, g 132, g 133, g 134, g 135, g 136, g 137, g 138, g 139, g 140, g 141, g 142, g 143, g 144, g 145, g 146, g 147, g 148, g 149, g 150, g 151, g 152, g 153, g 154, g 155, g 156, g 157, g 158, g 159, g 160, g 161, g 162, g 163, g 164, g 165, g 166, g 167, g 168, g 169, g 170, g 171, g 172, g 173, g 174, g 175, g 176, g 177, g 178, g 179, g 180, g 181, g 182, g 183, g 184, g 185, g 186, g 187, g 188, g 189, g 190, g 191, g 192, g 193, g 194, g 195, g 196, g 197, g 198, g 199, g 200, g 201, g 202, g 203, g 204, g 205, g 206, g 207, g 208, g 209, g 210, g 211, g 212, g 213, g 214, g 215, g 216, g 217, g 218, g 219, g 220, g 221, g 222]) ∧ n = 5 ∧
              H2 2 = some ⟨p2.map wd, false, 1, false⟩ ∧ H2 3 = some ⟨ob.map wd, false, 1, false⟩ ∧ H2 4 = some ⟨out.map wd, false, 1, false⟩ ∧ p2.length = m + 1 + L + 1 + 1 ∧ InR p2 ∧ i + k = m + 3 ∧ c ≤ 1 ∧
              Hd (wv p2 j i + c * BB ^ i = wv p j i + vp ob i) ∧ Hd (∀ t, t < j ∨ j + i ≤ t → p2.getD t 0 = p.getD t 0)) (m + 3)
              ⟨0, 0, p, garb rfl, rfl, h2, h3, h4, hp, rp, by omega, by omega, ⟨by simp [wv, vp]⟩, ⟨fun _ _ => rfl⟩⟩ ?_
            clear h2 h3 h4 hc
            rintro k _ H2 _ ⟨i, c, p2, ⟨g, rfl⟩, rfl, h2, h3, h4, hp2, rp2, hi, hc, hvv, hzz⟩
            by_cases hk4 : k = 0
            · obtain rfl : i = m + 3 := by omega
              have hadd : wv p2 j (m + 3) + c * BB ^ (m + 3) = wv p j (m + 3) + V := by
                have h := hvv.out
                rw [vp_succ0 htz, hvb.out] at h
                exact h
              have hback := kn_back (U := U) (V := V) (q := q) (n := m + 3) hlast.out hadd (wv_lt rp2 _ _) hle.out (Nat.le_trans (Nat.le_of_lt hVn.out) (Nat.pow_le_pow_right (by decide) (by omega))) hlt.out
              have hres := kn_fin1 hlt.out hle.out hback
              have hout := kn_outer (n := m + 2) (p := p2) ro hVn.out (show j < out.length by omega) hv.out hb'.out (hz.out j (by omega)) (by rw [show m + 2 + 1 = m + 3 by omega, hUU.out]; exact hres.2.1) (fun t ht => by rw [hzz.out t (by omega), stz t (by omega)])
              rw [show m + 2 + 1 = m + 3 by omega, hUU.out, ← hres.1] at hout
              have hz2 : ∀ i, i < j → (out.set j (q - 1)).getD i 0 = 0 := fun i hi => by rw [lget_set_ne (by omega)]; exact hz.out i (by omega)
              have hqq : (q - 1) % 4294967296 = q - 1 := Nat.mod_eq_of_lt (by omega)
              replace hout := Hd.mk hout
              clear hvv hzz hlast hlt hres hback hadd hv hb' hz hUU hgt hle hwin
              simp (maxSteps := 4000000) (disch := omega) only [go_sem, ↓reduceIte, Nat.reduceAdd, Nat.reduceSub, Nat.reduceMul, Nat.reduceEqDiff, reduceCtorEq, Int.reduceAdd, Int.reduceLT, Int.reduceLE, Int.reduceToNat, Int.reduceNeg, Int.reduceSub, ← List.map_take, ← List.map_drop, wrap64, wrapu64, wrapu32, ← Int.natCast_add, ← Int.natCast_mul, cast_succ, wrapu32_nat, shr32, reps_wd, map_set_wd, List.length_set, zs_len, h4, outl, hqq]
              exact ⟨j, by omega, p2, out.set j (q - 1), garb rfl, h2, h3, rfl, hp2, by rw [List.length_set, outl], rp2, rout.set (by show _ < 4294967296; omega), by omega, ⟨hout.out.1⟩, ⟨hout.out.2⟩, ⟨hz2⟩⟩
            · have hx := rp2.get (j + i)
              have hy := rb.get i
              have hz0 := hzz.out (j + i) (.inr (by omega))
              by_cases hi2 : i < m + 2
              · obtain ⟨S, hs⟩ : ∃ S, S = c + p2.getD (j + i) 0 + ob.getD i 0 := ⟨_, rfl⟩
                have hs2 : c + p2.getD (j + i) 0 + ob.getD i 0 = S := hs.symm
                have stp := as_step (o := p) (p := p2) (v := ob) (j := j) (i := i) (c := c) (s := S) (by omega) hvv.out (by rw [hs, hz0])
                have stz2 : ∀ t, t < j ∨ j + (i + 1) ≤ t → (p2.set (j + i) (S % 4294967296)).getD t 0 = p.getD t 0 := fun t ht => by
                  rw [lget_set_ne (by omega)]; exact hzz.out t (by omega)
                have hsb : S / 4294967296 ≤ 1 := by omega
                have hsb2 : S < 18446744073709551616 := by omega
                have gl := and_low hsb2
                have gm : S % 4294967296 % 4294967296 = S % 4294967296 := Nat.mod_mod _ _
                clear hvv hzz hlast hlt hv hb' hz hUU hgt hle hwin hs hz0
                simp (maxSteps := 4000000) (disch := omega) only [go_sem, ↓reduceIte, Nat.reduceAdd, Nat.reduceSub, Nat.reduceMul, Nat.reduceEqDiff, reduceCtorEq, Int.reduceAdd, Int.reduceLT, Int.reduceLE, Int.reduceToNat, Int.reduceNeg, Int.reduceSub, ← List.map_take, ← List.map_drop, wrap64, wrapu64, wrapu32, ← Int.natCast_add, ← Int.natCast_mul, cast_succ, wrapu32_nat, shr32, reps_wd, map_set_wd, List.length_set, zs_len, h2, h3, hp2, obl, hs2, gl, gm]
                exact ⟨k - 1, by omega, i + 1, S / 4294967296, p2.set (j + i) (S % 4294967296), garb rfl, rfl, h4, by rw [List.length_set, hp2], rp2.set (Nat.mod_lt _ (by decide)), by omega, hsb, ⟨stp⟩, ⟨stz2⟩⟩
              · obtain rfl : i = m + 2 := by omega
                obtain ⟨S, hs⟩ : ∃ S, S = c + p2.getD (j + (m + 2)) 0 := ⟨_, rfl⟩
                have hs2 : c + p2.getD (j + (m + 2)) 0 = S := hs.symm
                have stp := as_step (o := p) (p := p2) (v := ob) (j := j) (i := m + 2) (c := c) (s := S) (by omega) hvv.out (by rw [htz]; omega)
                have stz2 : ∀ t, t < j ∨ j + (m + 2 + 1) ≤ t → (p2.set (j + (m + 2)) (S % 4294967296)).getD t 0 = p.getD t 0 := fun t ht => by
                  rw [lget_set_ne (by omega)]; exact hzz.out t (by omega)
                have hsb : S / 4294967296 ≤ 1 := by omega
                have hsb2 : S < 18446744073709551616 := by omega
                have gl := and_low hsb2
                have gm : S % 4294967296 % 4294967296 = S % 4294967296 := Nat.mod_mod _ _
                clear hvv hzz hlast hlt hv hb' hz hUU hgt hle hwin hs hz0
                simp (maxSteps := 4000000) (disch := omega) only [go_sem, ↓reduceIte, Nat.reduceAdd, Nat.reduceSub, Nat.reduceMul, Nat.reduceEqDiff, reduceCtorEq, Int.reduceAdd, Int.reduceLT, Int.reduceLE, Int.reduceToNat, Int.reduceNeg, Int.reduceSub, ← List.map_take, ← List.map_drop, wrap64, wrapu64, wrapu32, ← Int.natCast_add, ← Int.natCast_mul, cast_succ, wrapu32_nat, shr32, reps_wd, map_set_wd, List.length_set, zs_len, h2, h3, hp2, obl, hs2, gl, gm]
                exact ⟨k - 1, by omega, m + 2 + 1, S / 4294967296, p2.set (j + (m + 2)) (S % 4294967296), garb rfl, rfl, h4, by rw [List.length_set, hp2], rp2.set (Nat.mod_lt _ (by decide)), by omega, hsb, ⟨stp⟩, ⟨stz2⟩⟩
        · have hx := rp.get (j + i)
          have hy := rb.get i
          have hz0 := hzz.out (j + i) (.inr (by omega))
          have hPb := mul_word hq hy
          obtain ⟨M, hM⟩ : ∃ M, M = q * ob.getD i 0 := ⟨_, rfl⟩
          have hM2 : q * ob.getD i 0 = M := hM.symm
          rw [hM2] at hPb
          obtain ⟨N, hN⟩ : ∃ N, N = c + M := ⟨_, rfl⟩
          have hN2 : c + M = N := hN.symm
          have hNb : N < 18446744073709551616 := by omega
          have gl := and_low hNb
          obtain ⟨Nl, hNl⟩ : ∃ Nl, Nl = N % 4294967296 := ⟨_, rfl⟩
          have hNl2 : Nl < 4294967296 := by omega
          rw [← hNl] at gl
          obtain ⟨Z, hZ⟩ : ∃ Z, Z = p.getD (j + i) 0 + 4294967296 - Nl - bo := ⟨_, rfl⟩
          have gz1 : ((p.getD (j + i) 0 + 4294967296 : Nat) : Int) - (Nl : Int) = ((p.getD (j + i) 0 + 4294967296 - Nl : Nat) : Int) := by omega
          have gz2 : ((p.getD (j + i) 0 + 4294967296 - Nl : Nat) : Int) - (bo : Int) = (Z : Int) := by omega
          have gp : ((p.getD (j + i) 0 : Nat) : Int) + 4294967296 = ((p.getD (j + i) 0 + 4294967296 : Nat) : Int) := by omega
          have hZb : Z < 18446744073709551616 := by omega
          have gzl := and_low hZb
          have gm : Z % 4294967296 % 4294967296 = Z % 4294967296 := Nat.mod_mod _ _
          have hZ1 : Z / 4294967296 ≤ 1 := by omega
          have gb : (1 : Int) - ((Z / 4294967296 : Nat) : Int) = ((1 - Z / 4294967296 : Nat) : Int) := by omega
          have hw : Z % 4294967296 + Nl + bo = p.getD (j + i) 0 + (1 - Z / 4294967296) * 4294967296 := by omega
          have stp := ms_step (o := o) (p := p) (v := ob) (j := j) (i := i) (q := q) (c0 := c) (b0 := bo) (b1 := 1 - Z / 4294967296) (w := Z % 4294967296) (x := N) (by omega) hvv.out (by rw [hN, hM]; exact Nat.add_comm _ _) (by rw [← hNl, hw, hz0])
          have stz : ∀ t, t < j ∨ j + (i + 1) ≤ t → (p.set (j + i) (Z % 4294967296)).getD t 0 = o.getD t 0 := fun t ht => by
            rw [lget_set_ne (by omega)]; exact hzz.out t (by omega)
          have hcb : N / 4294967296 < 4294967296 := by omega
          have hc0' : i + 1 = m + 3 → N / 4294967296 = 0 := fun h => by
            have : i = m + 2 := by omega
            rw [this, htz, Nat.mul_zero] at hM
            omega
          replace hw := Hd.mk hw
          replace hM := Hd.mk hM
          replace hN := Hd.mk hN
          replace hZ := Hd.mk hZ
          replace hNl := Hd.mk hNl
          by_cases hi2 : i < m + 2
          · clear hvv hzz hv hb' hz hUU hgt hle hwin hz0
            simp (maxSteps := 4000000) (disch := omega) only [go_sem, ↓reduceIte, Nat.reduceAdd, Nat.reduceSub, Nat.reduceMul, Nat.reduceEqDiff, reduceCtorEq, Int.reduceAdd, Int.reduceLT, Int.reduceLE, Int.reduceToNat, Int.reduceNeg, Int.reduceSub, ← List.map_take, ← List.map_drop, wrap64, wrapu64, wrapu32, ← Int.natCast_add, ← Int.natCast_mul, cast_succ, wrapu32_nat, shr32, reps_wd, map_set_wd, List.length_set, zs_len, h2, h3, hp, obl, hM2, hN2, gl, gp, gz1, gz2, gzl, gm, gb]
            exact ⟨k - 1, by omega, i + 1, N / 4294967296, 1 - Z / 4294967296, p.set (j + i) (Z % 4294967296), garb rfl, rfl, h4, by rw [List.length_set, hp], rp.set (Nat.mod_lt _ (by decide)), by omega, hcb, by omega, hc0', ⟨stp⟩, ⟨stz⟩⟩
          · have hM0 : M = 0 := by
              have : i = m + 2 := by omega
              have h := hM.out
              rwa [this, htz, Nat.mul_zero] at h
            have hNc : N = c := by have := hN.out; omega
            subst hNc
            clear hvv hzz hv hb' hz hUU hgt hle hwin hz0 hN2
            simp (maxSteps := 4000000) (disch := omega) only [go_sem, ↓reduceIte, Nat.reduceAdd, Nat.reduceSub, Nat.reduceMul, Nat.reduceEqDiff, reduceCtorEq, Int.reduceAdd, Int.reduceLT, Int.reduceLE, Int.reduceToNat, Int.reduceNeg, Int.reduceSub, ← List.map_take, ← List.map_drop, wrap64, wrapu64, wrapu32, ← Int.natCast_add, ← Int.natCast_mul, cast_succ, wrapu32_nat, shr32, reps_wd, map_set_wd, List.length_set, zs_len, h2, h3, hp, obl, gl, gp, gz1, gz2, gzl, gm, gb]
            exact ⟨k - 1, by omega, i + 1, N / 4294967296, 1 - Z / 4294967296, p.set (j + i) (Z % 4294967296), garb rfl, rfl, h4, by rw [List.length_set, hp], rp.set (Nat.mod_lt _ (by decide)), by omega, hcb, by omega, hc0', ⟨stp⟩, ⟨stz⟩⟩
end Go.Proofs.Ytmgmcnoobgljpaa

/- Walks of the reference of chapter 1: Div. (Own work of this repo.) -/
namespace Go.Proofs.Ytmgmcnoobgljpaa
open Vm
set_option maxRecDepth 100000

theorem order_lt {x y : Int} (h : (dg x).length < (dg y).length) : x.natAbs < y.natAbs := dig_cmp h
set_option maxHeartbeats 4000000 in
theorem rDiv_spec (ma : Bool) (x : Int) (mb : Bool) (y : Int) (hx : (dg x).length < 2 ^ 30) (hy : (dg y).length < 2 ^ 30) (hy0 : y ≠ 0) :
    ∃ m : Bool × Bool, denP E 58 [I ma x, I mb y] = some (.ret (.tup [I m.1 (x / y), I m.2 (x % y)])) ∧ (m.1 = true → x / y = 0) ∧ (m.2 = true → x % y = 0) := by
  refine denP_ex E58 rfl (by simp [AV.pureL, AV.pure, pure_wd]) ?_
  have hl := dg_pos.2 hy0
  have ho := rorder_spec ma x mb y (by omega) (by omega)
  have zq : (x.natAbs / y.natAbs) ≤ x.natAbs := Nat.div_le_self _ _
  have zr : (x.natAbs % y.natAbs) < y.natAbs := Nat.mod_lt _ (by omega)
  have lq2 : (dig (x.natAbs / y.natAbs)).length < 2 ^ 30 := Nat.lt_of_le_of_lt (dig_mono zq) hx
  have lr2 : (dig (x.natAbs % y.natAbs)).length < 2 ^ 30 := Nat.lt_of_le_of_lt (dig_mono (Nat.le_of_lt zr)) hy
  have hcm : cmpN x.natAbs y.natAbs < 0 ↔ x.natAbs < y.natAbs := by unfold cmpN; split <;> (try split) <;> omega
  obtain ⟨q, hq⟩ : ∃ q, q = x.natAbs / y.natAbs := ⟨_, rfl⟩
  obtain ⟨r, hr⟩ : ∃ r, r = x.natAbs % y.natAbs := ⟨_, rfl⟩
  generalize hcv : cmpN x.natAbs y.natAbs = cv at *
  simp (maxSteps := 4000000) (disch := omega) only [go_sem, ↓reduceIte, Nat.reduceAdd, Nat.reduceSub, Nat.reduceMul, Nat.reduceEqDiff, reduceCtorEq, Int.reduceAdd, Int.reduceLT, Int.reduceLE, Int.reduceToNat, Int.reduceNeg, Int.reduceSub, ← List.map_take, ← List.map_drop, wrap64, wrapu64, wrapu32, ← Int.natCast_add, ← Int.natCast_mul, cast_succ, wrapu32_nat, shr32, reps_wd, map_set_wd, List.length_set, zs_len, Try.f58, ho]
  refine condK_mono (Q := fun e σ => e = .norm ∧ ∃ N, (∃ g : Nat → AV, σ.sl = [g 0, g 1, .ptr 0 0, .ptr 1 0, .ptr 2 0, .ptr 3 0, .ptr 4 0, .ptr 5 0, g 8, g 9, g 10, g 11, g 12, g 13, g 14, g 15, g 16, g 17, g 18, g 19, g 20, g 21, g 22, g 23, g 24, g 25, g 26, g 27, g 28, g 29, g 30, g 31, g 32, g 33, g 34, g 35, g 36, g 37, g 38, g 39, g 40, g 41, g 42, g 43, g 44, g 45, g 46, g 47, g 48, g 49, g 50, g 51, g 52, g 53, g 54, g 55, g 56, g 57, g 58, g 59, g 60, g 61, g 62, g 63, g 64, g 65, g 66, g 67, g 68, g 69, g 70, g 71, g 72, g 73]) ∧ σ.nx = N ∧
    σ.h 0 = some ⟨[.bool (ng x), .lst ma ((dg x).map wd)], true, 2, false⟩ ∧ σ.h 1 = some ⟨[.bool (ng y), .lst mb ((dg y).map wd)], true, 2, false⟩ ∧ σ.h 2 = some ⟨[.bool false, .lst true []], true, 2, false⟩ ∧ σ.h 3 = some ⟨[.bool false, .lst true []], true, 2, false⟩ ∧
    σ.h 4 = some ⟨[.bool false, .lst (decide ((q : Int) = 0)) ((dig q).map wd)], true, 2, false⟩ ∧ σ.h 5 = some ⟨[.bool false, .lst (decide ((r : Int) = 0)) ((dig r).map wd)], true, 2, false⟩) ?_ ?_
  · rintro e ⟨sl, H, nx⟩ ⟨rfl, N, ⟨g, hs⟩, rfl, h0, h1, h2, h3, h4, h5⟩
    dsimp only at hs h0 h1 h2 h3 h4 h5
    subst hs
    clear ho hcm hcv
    have hZ := rZero_spec (decide ((r : Int) = 0)) (r : Int)
    simp only [I, ng_nat, dg_nat] at hZ
    by_cases hc : x < 0 ∧ x.natAbs % y.natAbs ≠ 0
    · have hn : ng x = true := ng_true.2 hc.1
      have he := ediv_nat' x y hy0 hc.1 hc.2
      have hr0 : ((r : Nat) : Int) ≠ 0 := by rw [hr]; have := hc.2; omega
      have o1 := rOf_spec 1 (by decide) (by decide)
      have p1 := rAdd_spec (decide ((q : Int) = 0)) (q : Int) false 1 (by rw [dg_nat, hq]; omega) (by have := dg_small (z := 1) (by decide); omega)
      have p2 := rAbs_spec mb y (by omega)
      have p3 := rSub_spec (decide ((y.natAbs : Int) = 0)) (y.natAbs : Int) (decide ((r : Int) = 0)) (r : Int) (by rw [dg_abs]; omega) (by rw [dg_nat, hr]; omega)
      rw [show ((y.natAbs : Nat) : Int) - (r : Int) = x % y by rw [← he.2, hr]; omega] at p3
      have lq3 : (dg ((q : Int) + 1)).length < 2 ^ 38 := by
        have := dg_add (q : Int) 1
        have h7 := dg_small (z := 1) (by decide)
        rw [dg_nat, hq] at this
        rw [hq]; omega
      have p4 := rNeg_spec (decide ((q : Int) + 1 = 0)) ((q : Int) + 1) lq3
      have hq2 : x / y = if (ng x != ng y) = true then -((q : Int) + 1) else (q : Int) + 1 := by
        rw [← he.1, sg, ← hq]; push_cast; rfl
      have hr2 : ng (x % y) = false := ng_false.2 (Int.emod_nonneg x hy0)
      rw [hn] at hq2 h0
      clear he hq hr zq zr lq2 lr2 hc lq3
      simp only [RM, I, ng_nat, dg_nat, hr2] at p1 p2 p3 p4 o1
      rw [decide_eq_false hr0] at *
      rw [decide_eq_false (show ((y.natAbs : Nat) : Int) ≠ 0 by omega)] at p2 p3
      obtain ⟨w, hw⟩ : ∃ w : Int, w = (q : Int) + 1 := ⟨_, rfl⟩
      rw [← hw] at p1 p4 hq2
      clear hw
      cases hy1 : ng y with
      | true =>
        rw [hy1] at hq2 p2
        simp only [bne_self_eq_false, Bool.false_eq_true, if_false] at hq2
        rw [hq2]
        simp (maxSteps := 4000000) (disch := omega) only [go_sem, ↓reduceIte, Nat.reduceAdd, Nat.reduceSub, Nat.reduceMul, Nat.reduceEqDiff, reduceCtorEq, Int.reduceAdd, Int.reduceLT, Int.reduceLE, Int.reduceToNat, Int.reduceNeg, Int.reduceSub, ← List.map_take, ← List.map_drop, wrap64, wrapu64, wrapu32, ← Int.natCast_add, ← Int.natCast_mul, cast_succ, wrapu32_nat, shr32, reps_wd, map_set_wd, List.length_set, zs_len, h0, h1, h2, h3, h4, h5, hZ, hy1]
        refine W_drawn ?_
        simp (maxSteps := 4000000) (disch := omega) only [go_sem, ↓reduceIte, Nat.reduceAdd, Nat.reduceSub, Nat.reduceMul, Nat.reduceEqDiff, reduceCtorEq, Int.reduceAdd, Int.reduceLT, Int.reduceLE, Int.reduceToNat, Int.reduceNeg, Int.reduceSub, ← List.map_take, ← List.map_drop, wrap64, wrapu64, wrapu32, ← Int.natCast_add, ← Int.natCast_mul, cast_succ, wrapu32_nat, shr32, reps_wd, map_set_wd, List.length_set, zs_len, h0, h1, h2, h3, h4, h5, o1, p1, p2, p3, hy1]
        refine ⟨by rfl, ?_⟩
        refine W_drawn ?_
        simp (maxSteps := 4000000) (disch := omega) only [go_sem, ↓reduceIte, Nat.reduceAdd, Nat.reduceSub, Nat.reduceMul, Nat.reduceEqDiff, reduceCtorEq, Int.reduceAdd, Int.reduceLT, Int.reduceLE, Int.reduceToNat, Int.reduceNeg, Int.reduceSub, ← List.map_take, ← List.map_drop, wrap64, wrapu64, wrapu32, ← Int.natCast_add, ← Int.natCast_mul, cast_succ, wrapu32_nat, shr32, reps_wd, map_set_wd, List.length_set, zs_len, h0, h1, h2, h3]
        exact ⟨by rfl, (decide (w = 0), decide (x % y = 0)), by simp only [I, hr2], by simp, by simp⟩
      | false =>
        rw [hy1] at hq2 p2
        simp only [Bool.bne_false, if_true] at hq2
        rw [hq2]
        simp (maxSteps := 4000000) (disch := omega) only [go_sem, ↓reduceIte, Nat.reduceAdd, Nat.reduceSub, Nat.reduceMul, Nat.reduceEqDiff, reduceCtorEq, Int.reduceAdd, Int.reduceLT, Int.reduceLE, Int.reduceToNat, Int.reduceNeg, Int.reduceSub, ← List.map_take, ← List.map_drop, wrap64, wrapu64, wrapu32, ← Int.natCast_add, ← Int.natCast_mul, cast_succ, wrapu32_nat, shr32, reps_wd, map_set_wd, List.length_set, zs_len, h0, h1, h2, h3, h4, h5, hZ, hy1]
        refine W_drawn ?_
        simp (maxSteps := 4000000) (disch := omega) only [go_sem, ↓reduceIte, Nat.reduceAdd, Nat.reduceSub, Nat.reduceMul, Nat.reduceEqDiff, reduceCtorEq, Int.reduceAdd, Int.reduceLT, Int.reduceLE, Int.reduceToNat, Int.reduceNeg, Int.reduceSub, ← List.map_take, ← List.map_drop, wrap64, wrapu64, wrapu32, ← Int.natCast_add, ← Int.natCast_mul, cast_succ, wrapu32_nat, shr32, reps_wd, map_set_wd, List.length_set, zs_len, h0, h1, h2, h3, h4, h5, o1, p1, p2, p3, p4, hy1]
        refine ⟨by rfl, ?_⟩
        refine W_drawn ?_
        simp (maxSteps := 4000000) (disch := omega) only [go_sem, ↓reduceIte, Nat.reduceAdd, Nat.reduceSub, Nat.reduceMul, Nat.reduceEqDiff, reduceCtorEq, Int.reduceAdd, Int.reduceLT, Int.reduceLE, Int.reduceToNat, Int.reduceNeg, Int.reduceSub, ← List.map_take, ← List.map_drop, wrap64, wrapu64, wrapu32, ← Int.natCast_add, ← Int.natCast_mul, cast_succ, wrapu32_nat, shr32, reps_wd, map_set_wd, List.length_set, zs_len, h0, h1, h2, h3]
        exact ⟨by rfl, (decide (-w = 0), decide (x % y = 0)), by simp only [I, hr2], by simp, by simp⟩
    · have he := ediv_nat x y hy0 hc
      have hr2 : ((r : Nat) : Int) = x % y := by rw [hr]; exact he.2
      have hq2 : x / y = if (ng x != ng y) = true then -(q : Int) else (q : Int) := by rw [← he.1, sg, ← hq]
      have p4 := rNeg_spec (decide ((q : Int) = 0)) (q : Int) (by rw [dg_nat, hq]; omega)
      have hcond : (ng x && !decide ((r : Int) = 0)) = false := by
        rw [Bool.eq_false_iff]
        intro h
        rw [Bool.and_eq_true, Bool.not_eq_true', decide_eq_false_iff_not] at h
        exact hc ⟨ng_true.1 h.1, fun e => h.2 (by rw [hr, e]; rfl)⟩
      clear he hq hr zq zr lq2 lr2 hc
      rw [← hr2]
      simp only [RM, I, ng_nat, dg_nat] at p4
      have fin : ∀ (fq : Bool) (v : Int), fq = decide (v = 0) → x / y = v → (fq = true → x / y = 0) := fun fq v h1 h2 h3 => by rw [h2]; rw [h1] at h3; exact of_decide_eq_true h3
      cases hx1 : ng x with
      | true =>
        rw [hx1] at hq2 h0 hcond
        rw [Bool.true_and] at hcond
        cases hy1 : ng y with
        | true =>
          rw [hy1] at hq2
          simp only [bne_self_eq_false, Bool.false_eq_true, if_false] at hq2
          rw [hq2]
          simp (maxSteps := 4000000) (disch := omega) only [go_sem, ↓reduceIte, Nat.reduceAdd, Nat.reduceSub, Nat.reduceMul, Nat.reduceEqDiff, reduceCtorEq, Int.reduceAdd, Int.reduceLT, Int.reduceLE, Int.reduceToNat, Int.reduceNeg, Int.reduceSub, ← List.map_take, ← List.map_drop, wrap64, wrapu64, wrapu32, ← Int.natCast_add, ← Int.natCast_mul, cast_succ, wrapu32_nat, shr32, reps_wd, map_set_wd, List.length_set, zs_len, h0, h1, h2, h3, h4, h5, hZ, hy1, hcond]
          refine W_drawn ?_
          simp (maxSteps := 4000000) (disch := omega) only [go_sem, ↓reduceIte, Nat.reduceAdd, Nat.reduceSub, Nat.reduceMul, Nat.reduceEqDiff, reduceCtorEq, Int.reduceAdd, Int.reduceLT, Int.reduceLE, Int.reduceToNat, Int.reduceNeg, Int.reduceSub, ← List.map_take, ← List.map_drop, wrap64, wrapu64, wrapu32, ← Int.natCast_add, ← Int.natCast_mul, cast_succ, wrapu32_nat, shr32, reps_wd, map_set_wd, List.length_set, zs_len, h0, h1, h2, h3, h4, h5]
          exact ⟨by rfl, (decide ((q : Int) = 0), decide ((r : Int) = 0)), by simp only [I, ng_nat, dg_nat], by simp, by simp⟩
        | false =>
          rw [hy1] at hq2
          simp only [Bool.bne_false, if_true] at hq2
          rw [hq2]
          simp (maxSteps := 4000000) (disch := omega) only [go_sem, ↓reduceIte, Nat.reduceAdd, Nat.reduceSub, Nat.reduceMul, Nat.reduceEqDiff, reduceCtorEq, Int.reduceAdd, Int.reduceLT, Int.reduceLE, Int.reduceToNat, Int.reduceNeg, Int.reduceSub, ← List.map_take, ← List.map_drop, wrap64, wrapu64, wrapu32, ← Int.natCast_add, ← Int.natCast_mul, cast_succ, wrapu32_nat, shr32, reps_wd, map_set_wd, List.length_set, zs_len, h0, h1, h2, h3, h4, h5, hZ, hy1, hcond, p4]
          refine W_drawn ?_
          simp (maxSteps := 4000000) (disch := omega) only [go_sem, ↓reduceIte, Nat.reduceAdd, Nat.reduceSub, Nat.reduceMul, Nat.reduceEqDiff, reduceCtorEq, Int.reduceAdd, Int.reduceLT, Int.reduceLE, Int.reduceToNat, Int.reduceNeg, Int.reduceSub, ← List.map_take, ← List.map_drop, wrap64, wrapu64, wrapu32, ← Int.natCast_add, ← Int.natCast_mul, cast_succ, wrapu32_nat, shr32, reps_wd, map_set_wd, List.length_set, zs_len, h0, h1, h2, h3, h4, h5]
          exact ⟨by rfl, (decide (-(q : Int) = 0), decide ((r : Int) = 0)), by simp only [I, ng_nat, dg_nat], by simp, by simp⟩
      | false =>
        rw [hx1] at hq2 h0
        cases hy1 : ng y with
        | true =>
          rw [hy1] at hq2
          simp only [Bool.false_bne, if_true] at hq2
          rw [hq2]
          simp (maxSteps := 4000000) (disch := omega) only [go_sem, ↓reduceIte, Nat.reduceAdd, Nat.reduceSub, Nat.reduceMul, Nat.reduceEqDiff, reduceCtorEq, Int.reduceAdd, Int.reduceLT, Int.reduceLE, Int.reduceToNat, Int.reduceNeg, Int.reduceSub, ← List.map_take, ← List.map_drop, wrap64, wrapu64, wrapu32, ← Int.natCast_add, ← Int.natCast_mul, cast_succ, wrapu32_nat, shr32, reps_wd, map_set_wd, List.length_set, zs_len, h0, h1, h2, h3, h4, h5, hy1, p4]
          refine W_drawn ?_
          simp (maxSteps := 4000000) (disch := omega) only [go_sem, ↓reduceIte, Nat.reduceAdd, Nat.reduceSub, Nat.reduceMul, Nat.reduceEqDiff, reduceCtorEq, Int.reduceAdd, Int.reduceLT, Int.reduceLE, Int.reduceToNat, Int.reduceNeg, Int.reduceSub, ← List.map_take, ← List.map_drop, wrap64, wrapu64, wrapu32, ← Int.natCast_add, ← Int.natCast_mul, cast_succ, wrapu32_nat, shr32, reps_wd, map_set_wd, List.length_set, zs_len, h0, h1, h2, h3, h4, h5]
          exact ⟨by rfl, (decide (-(q : Int) = 0), decide ((r : Int) = 0)), by simp only [I, ng_nat, dg_nat], by simp, by simp⟩
        | false =>
          rw [hy1] at hq2
          simp only [bne_self_eq_false, Bool.false_eq_true, if_false] at hq2
          rw [hq2]
          simp (maxSteps := 4000000) (disch := omega) only [go_sem, ↓reduceIte, Nat.reduceAdd, Nat.reduceSub, Nat.reduceMul, Nat.reduceEqDiff, reduceCtorEq, Int.reduceAdd, Int.reduceLT, Int.reduceLE, Int.reduceToNat, Int.reduceNeg, Int.reduceSub, ← List.map_take, ← List.map_drop, wrap64, wrapu64, wrapu32, ← Int.natCast_add, ← Int.natCast_mul, cast_succ, wrapu32_nat, shr32, reps_wd, map_set_wd, List.length_set, zs_len, h0, h1, h2, h3, h4, h5, hy1]
          refine W_drawn ?_
          simp (maxSteps := 4000000) (disch := omega) only [go_sem, ↓reduceIte, Nat.reduceAdd, Nat.reduceSub, Nat.reduceMul, Nat.reduceEqDiff, reduceCtorEq, Int.reduceAdd, Int.reduceLT, Int.reduceLE, Int.reduceToNat, Int.reduceNeg, Int.reduceSub, ← List.map_take, ← List.map_drop, wrap64, wrapu64, wrapu32, ← Int.natCast_add, ← Int.natCast_mul, cast_succ, wrapu32_nat, shr32, reps_wd, map_set_wd, List.length_set, zs_len, h0, h1, h2, h3, h4, h5]
          exact ⟨by rfl, (decide ((q : Int) = 0), decide ((r : Int) = 0)), by simp only [I, ng_nat, dg_nat], by simp, by simp⟩
  · by_cases hlt : x.natAbs < y.natAbs
    · have hc1 := hcm.2 hlt
      have p1 := rAbs_spec ma x (by omega)
      have hq0 : q = 0 := by rw [hq, Nat.div_eq_of_lt hlt]
      have hr0 : r = x.natAbs := by rw [hr, Nat.mod_eq_of_lt hlt]
      rw [hq0, hr0]
      clear hq hr zq zr lq2 lr2 hcm hcv hq0 hr0
      simp only [RM, I, ng_nat, dg_nat] at p1
      simp (maxSteps := 4000000) (disch := omega) only [go_sem, ↓reduceIte, Nat.reduceAdd, Nat.reduceSub, Nat.reduceMul, Nat.reduceEqDiff, reduceCtorEq, Int.reduceAdd, Int.reduceLT, Int.reduceLE, Int.reduceToNat, Int.reduceNeg, Int.reduceSub, ← List.map_take, ← List.map_drop, wrap64, wrapu64, wrapu32, ← Int.natCast_add, ← Int.natCast_mul, cast_succ, wrapu32_nat, shr32, reps_wd, map_set_wd, List.length_set, zs_len, ho, p1]
      exact ⟨_, garb rfl, rfl, by rw [dig_zero]; rfl⟩
    · have hc1 : ¬ cv < 0 := fun h => hlt (hcm.1 h)
      clear hcm hcv
      by_cases hy1 : (dg y).length = 1
      · have hy2 : (dg y).getD 0 0 = y.natAbs := by
          have h := val_dg y
          rw [val, hy1, vp, vp] at h; simpa using h
        have hyb : y.natAbs < 4294967296 := by rw [← hy2]; exact (dg_inR y).get 0
        obtain ⟨so, s1, ros, sol, sov⟩ := rShort_spec ma (dg x) y.natAbs (dg_inR x) (by omega) (by omega) hyb
        rw [val_dg] at s1 sov
        have m1 := rMake_z (neg := false) (nl := false) (w := so) (z := (q : Int)) ros (by omega) (by rw [sov, hq]; rfl)
        have m2 := rMake_z (neg := false) (nl := false) (w := [r]) (z := (r : Int)) (fun z hz => by simp at hz; subst hz; show _ < 4294967296; omega) (by simp) (by rw [val_cons, val_nil, Nat.mul_zero, Nat.add_zero]; rfl)
        rw [← hr] at s1
        simp only [RM, I, ng_nat, dg_nat, List.map_cons, List.map_nil, wd] at m1 m2
        clear hq hr zq zr lq2 lr2 sov
        simp (maxSteps := 4000000) (disch := omega) only [go_sem, ↓reduceIte, Nat.reduceAdd, Nat.reduceSub, Nat.reduceMul, Nat.reduceEqDiff, reduceCtorEq, Int.reduceAdd, Int.reduceLT, Int.reduceLE, Int.reduceToNat, Int.reduceNeg, Int.reduceSub, ← List.map_take, ← List.map_drop, wrap64, wrapu64, wrapu32, ← Int.natCast_add, ← Int.natCast_mul, cast_succ, wrapu32_nat, shr32, reps_wd, map_set_wd, List.length_set, zs_len, ho]
        refine W_drawn ?_
        simp (maxSteps := 4000000) (disch := omega) only [go_sem, ↓reduceIte, Nat.reduceAdd, Nat.reduceSub, Nat.reduceMul, Nat.reduceEqDiff, reduceCtorEq, Int.reduceAdd, Int.reduceLT, Int.reduceLE, Int.reduceToNat, Int.reduceNeg, Int.reduceSub, ← List.map_take, ← List.map_drop, wrap64, wrapu64, wrapu32, ← Int.natCast_add, ← Int.natCast_mul, cast_succ, wrapu32_nat, shr32, reps_wd, map_set_wd, List.length_set, zs_len, hy1, hy2, s1]
        refine ⟨by rfl, ?_⟩
        simp (maxSteps := 4000000) (disch := omega) only [go_sem, ↓reduceIte, Nat.reduceAdd, Nat.reduceSub, Nat.reduceMul, Nat.reduceEqDiff, reduceCtorEq, Int.reduceAdd, Int.reduceLT, Int.reduceLE, Int.reduceToNat, Int.reduceNeg, Int.reduceSub, ← List.map_take, ← List.map_drop, wrap64, wrapu64, wrapu32, ← Int.natCast_add, ← Int.natCast_mul, cast_succ, wrapu32_nat, shr32, reps_wd, map_set_wd, List.length_set, zs_len, m1, m2, reps, fillAll, refP, elems, List.headD]
        exact ⟨_, garb rfl, rfl⟩
      · obtain ⟨m, hm⟩ : ∃ m, (dg y).length = m + 1 + 1 := ⟨(dg y).length - 2, by omega⟩
        obtain ⟨z, l1, rz, lz, vz⟩ := rLong_spec ma (dg x) mb (dg y) (dg_norm x) (dg_norm y) m hm (dig_mono (by omega)) (by omega)
        rw [val_dg, val_dg] at l1 vz
        rw [← hr] at l1
        have m1 := rMake_z (neg := false) (nl := false) (w := z.1) (z := (q : Int)) rz (by omega) (by rw [vz, hq]; rfl)
        have m2 := rMake_z (neg := false) (nl := z.2) (w := dig r) (z := (r : Int)) (dig_inR r) (by rw [hr]; omega) (by rw [val_dig]; rfl)
        simp only [RM, I, ng_nat, dg_nat] at m1 m2
        clear hq hr zq zr lq2 lr2 vz
        simp (maxSteps := 4000000) (disch := omega) only [go_sem, ↓reduceIte, Nat.reduceAdd, Nat.reduceSub, Nat.reduceMul, Nat.reduceEqDiff, reduceCtorEq, Int.reduceAdd, Int.reduceLT, Int.reduceLE, Int.reduceToNat, Int.reduceNeg, Int.reduceSub, ← List.map_take, ← List.map_drop, wrap64, wrapu64, wrapu32, ← Int.natCast_add, ← Int.natCast_mul, cast_succ, wrapu32_nat, shr32, reps_wd, map_set_wd, List.length_set, zs_len, ho, hy1, l1, m1, m2]
        exact ⟨_, garb rfl, rfl⟩
end Go.Proofs.Ytmgmcnoobgljpaa

/- Walks of the reference of chapter 1: Power. (Own work of this repo.) -/
namespace Go.Proofs.Ytmgmcnoobgljpaa
open Vm
set_option maxRecDepth 10000

theorem bl_one {x : Int} (h : bl x.natAbs ≤ 1) : x = 0 ∨ x = 1 ∨ x = -1 := by
  have := bl_le.1 h
  omega
theorem pow_bl {x : Int} {n : Nat} : (x ^ n).natAbs < 2 ^ (bl x.natAbs * n + 1) := by
  rw [Int.natAbs_pow, Nat.pow_succ, Nat.pow_mul]
  have h1 := Nat.pow_le_pow_left (Nat.le_of_lt (bl_lt x.natAbs)) n
  have h3 : 0 < (2 ^ bl x.natAbs) ^ n := Nat.pow_pos (Nat.pow_pos (by decide))
  omega
theorem dg_bits {z : Int} {k : Nat} (h : z.natAbs < 2 ^ (32 * k)) : (dg z).length ≤ k := by
  rw [dg_len, show BB = 2 ^ 32 from rfl, ← Nat.pow_mul]; exact h
theorem bl_words {x : Int} {k : Nat} (h : (dg x).length ≤ k) : bl x.natAbs ≤ 32 * k := bl_le.2 (valid_len h)
/-- How far the reference computes a power. -/
def powFar (x : Int) (n : Nat) : Bool := decide (1 < bl x.natAbs) && decide (262144 / (bl x.natAbs - 1) < n)
theorem rPower_far (m : Bool) (x : Int) (n : Nat) (hx : (dg x).length ≤ 4096) (hn : n < 2 ^ 63) (h : powFar x n = true) :
    denP E 36 [I m x, .int .i64 n] = some (.ret (.tup [I true 0, .bool false])) := by
  refine denP_eq E36 rfl (by simp [AV.pureL, AV.pure, pure_wd]) ?_
  have h1 := rBits_spec m x (by omega)
  unfold powFar at h
  rw [Bool.and_eq_true, decide_eq_true_eq, decide_eq_true_eq] at h
  obtain ⟨h2, h3⟩ := h
  have hb : bl x.natAbs ≤ 32 * 4096 := bl_words hx
  generalize bl x.natAbs = b at *
  have e1 : (b : Int) - 1 = ((b - 1 : Nat) : Int) := by omega
  have e2 : (262144 : Int).tdiv ((b - 1 : Nat) : Int) = ((262144 / (b - 1) : Nat) : Int) := rfl
  have h5 : 262144 / (b - 1) ≤ 262144 := Nat.div_le_self _ _
  generalize 262144 / (b - 1) = q at *
  simp (maxSteps := 4000000) (disch := omega) only [go_sem, ↓reduceIte, Nat.reduceAdd, Nat.reduceSub, Nat.reduceMul, Nat.reduceEqDiff, reduceCtorEq, Int.reduceAdd, Int.reduceLT, Int.reduceLE, Int.reduceToNat, Int.reduceNeg, Int.reduceSub, ← List.map_take, ← List.map_drop, wrap64, wrapu64, wrapu32, ← Int.natCast_add, ← Int.natCast_mul, cast_succ, wrapu32_nat, shr32, reps_wd, map_set_wd, List.length_set, zs_len, Try.f36, h1, e1, e2, places, fillAll, ng_zero, dg_zero]
theorem rPower_one (m : Bool) (x : Int) (n : Nat) (hx : x = 0 ∨ x = 1 ∨ x = -1) (hn : n < 2 ^ 63) :
    ∃ f : Bool, denP E 36 [I m x, .int .i64 n] = some (.ret (.tup [I f (x ^ n), .bool true])) ∧ True := by
  refine denP_ex E36 rfl (by simp [AV.pureL, AV.pure, pure_wd]) ?_
  have hl : (dg x).length ≤ 2 := dg_small (by omega)
  have h1 := rBits_spec m x (by omega)
  have hb : bl x.natAbs ≤ 1 := bl_le.2 (by omega)
  have h2 := rOf_spec 1 (by decide) (by decide)
  have h3 := rNeg_spec m x (by omega)
  have e2 : (n : Int).tmod 2 = ((n % 2 : Nat) : Int) := rfl
  generalize bl x.natAbs = b at *
  by_cases h0 : n = 0
  · subst h0
    rw [Int.pow_zero]
    simp (maxSteps := 4000000) (disch := omega) only [go_sem, ↓reduceIte, Nat.reduceAdd, Nat.reduceSub, Nat.reduceMul, Nat.reduceEqDiff, reduceCtorEq, Int.reduceAdd, Int.reduceLT, Int.reduceLE, Int.reduceToNat, Int.reduceNeg, Int.reduceSub, ← List.map_take, ← List.map_drop, wrap64, wrapu64, wrapu32, ← Int.natCast_add, ← Int.natCast_mul, cast_succ, wrapu32_nat, shr32, reps_wd, map_set_wd, List.length_set, zs_len, Try.f36, h1, h2]
    exact ⟨_, rfl⟩
  · have hev : n % 2 = 0 → (-1 : Int) ^ n = 1 := fun h => by
      obtain ⟨k, rfl⟩ : ∃ k, n = 2 * k := ⟨n / 2, by omega⟩
      rw [Int.pow_mul]; simp [Int.one_pow]
    have hod : n % 2 = 1 → (-1 : Int) ^ n = -1 := fun h => by
      obtain ⟨k, rfl⟩ : ∃ k, n = 2 * k + 1 := ⟨n / 2, by omega⟩
      rw [Int.pow_succ, Int.pow_mul]; simp [Int.one_pow]
    have key : ∃ y : Int, y = x ^ n ∧ ((ng x = true ∧ n % 2 = 0 ∧ y = -x) ∨ (ng x = true ∧ n % 2 = 1 ∧ y = x) ∨ (ng x = false ∧ y = x)) := by
      refine ⟨_, rfl, ?_⟩
      rcases hx with rfl | rfl | rfl
      · rw [Int.zero_pow h0]; exact .inr (.inr ⟨rfl, rfl⟩)
      · rw [Int.one_pow]; exact .inr (.inr ⟨rfl, rfl⟩)
      · rcases Nat.mod_two_eq_zero_or_one n with h4 | h4
        · exact .inl ⟨rfl, h4, by rw [hev h4]; rfl⟩
        · exact .inr (.inl ⟨rfl, h4, by rw [hod h4]⟩)
    clear hev hod hx hl
    obtain ⟨y, hy, key⟩ := key
    rw [← hy]
    clear hy
    rcases key with ⟨hng, h4, rfl⟩ | ⟨hng, h4, rfl⟩ | ⟨hng, rfl⟩
    · rw [h4] at e2
      simp only [I] at h1 h3
      rw [hng] at h1 h3
      simp (maxSteps := 4000000) (disch := omega) only [go_sem, ↓reduceIte, Nat.reduceAdd, Nat.reduceSub, Nat.reduceMul, Nat.reduceEqDiff, reduceCtorEq, Int.reduceAdd, Int.reduceLT, Int.reduceLE, Int.reduceToNat, Int.reduceNeg, Int.reduceSub, ← List.map_take, ← List.map_drop, wrap64, wrapu64, wrapu32, ← Int.natCast_add, ← Int.natCast_mul, cast_succ, wrapu32_nat, shr32, reps_wd, map_set_wd, List.length_set, zs_len, Try.f36, h1, h2, h3, hng, e2]
      exact ⟨_, rfl⟩
    · rw [h4] at e2
      simp only [I] at h1 h3
      rw [hng] at h1 h3
      simp (maxSteps := 4000000) (disch := omega) only [go_sem, ↓reduceIte, Nat.reduceAdd, Nat.reduceSub, Nat.reduceMul, Nat.reduceEqDiff, reduceCtorEq, Int.reduceAdd, Int.reduceLT, Int.reduceLE, Int.reduceToNat, Int.reduceNeg, Int.reduceSub, ← List.map_take, ← List.map_drop, wrap64, wrapu64, wrapu32, ← Int.natCast_add, ← Int.natCast_mul, cast_succ, wrapu32_nat, shr32, reps_wd, map_set_wd, List.length_set, zs_len, Try.f36, h1, h2, h3, hng, e2]
      exact ⟨m, by simp only [I, hng]⟩
    · simp only [I] at h1 h3
      rw [hng] at h1 h3
      simp (maxSteps := 4000000) (disch := omega) only [go_sem, ↓reduceIte, Nat.reduceAdd, Nat.reduceSub, Nat.reduceMul, Nat.reduceEqDiff, reduceCtorEq, Int.reduceAdd, Int.reduceLT, Int.reduceLE, Int.reduceToNat, Int.reduceNeg, Int.reduceSub, ← List.map_take, ← List.map_drop, wrap64, wrapu64, wrapu32, ← Int.natCast_add, ← Int.natCast_mul, cast_succ, wrapu32_nat, shr32, reps_wd, map_set_wd, List.length_set, zs_len, Try.f36, h1, h2, h3, hng, e2]
      exact ⟨m, by simp only [I, hng]⟩
theorem natAbs_le_mul {a b : Int} (hb : b ≠ 0) : a.natAbs ≤ (a * b).natAbs := by
  rw [Int.natAbs_mul]; exact Nat.le_mul_of_pos_right _ (by omega)
set_option maxHeartbeats 1000000 in
theorem rPower_spec (m : Bool) (x : Int) (n : Nat) (hx : (dg x).length ≤ 4096) (hn : n < 2 ^ 63) (h : powFar x n = false) :
    ∃ f : Bool, denP E 36 [I m x, .int .i64 n] = some (.ret (.tup [I f (x ^ n), .bool true])) ∧ True := by
  by_cases hb1 : bl x.natAbs ≤ 1
  · exact rPower_one m x n (bl_one hb1) hn
  refine denP_ex E36 rfl (by simp [AV.pureL, AV.pure, pure_wd]) ?_
  have h1 := rBits_spec m x (by omega)
  unfold powFar at h
  rw [Bool.and_eq_false_iff, decide_eq_false_iff_not, decide_eq_false_iff_not] at h
  have h3 : n ≤ 262144 / (bl x.natAbs - 1) := by omega
  have hx0 : x ≠ 0 := fun e => hb1 (by rw [e]; show bl 0 ≤ 1; rw [bl_zero]; omega)
  obtain ⟨L, hL⟩ : ∃ L, L = 20000 := ⟨_, rfl⟩
  have hsz : (x ^ n).natAbs < 2 ^ (32 * L) := by
    refine Nat.lt_of_lt_of_le pow_bl (Nat.pow_le_pow_right (by decide) ?_)
    have h5 := Nat.mul_le_mul_left (bl x.natAbs - 1) h3
    have h6 := Nat.mul_div_le 262144 (bl x.natAbs - 1)
    have h7 : bl x.natAbs * n ≤ 2 * ((bl x.natAbs - 1) * n) := by
      rw [← Nat.mul_assoc]; exact Nat.mul_le_mul_right _ (by omega)
    omega
  have hb : bl x.natAbs ≤ 32 * 4096 := bl_words hx
  generalize bl x.natAbs = b at *
  have e1 : (b : Int) - 1 = ((b - 1 : Nat) : Int) := by omega
  have e2 : (262144 : Int).tdiv ((b - 1 : Nat) : Int) = ((262144 / (b - 1) : Nat) : Int) := rfl
  have h5 : 262144 / (b - 1) ≤ 262144 := Nat.div_le_self _ _
  have h2 := rOf_spec 1 (by decide) (by decide)
  generalize 262144 / (b - 1) = q at *
  simp (maxSteps := 4000000) (disch := omega) only [go_sem, ↓reduceIte, Nat.reduceAdd, Nat.reduceSub, Nat.reduceMul, Nat.reduceEqDiff, reduceCtorEq, Int.reduceAdd, Int.reduceLT, Int.reduceLE, Int.reduceToNat, Int.reduceNeg, Int.reduceSub, ← List.map_take, ← List.map_drop, wrap64, wrapu64, wrapu32, ← Int.natCast_add, ← Int.natCast_mul, cast_succ, wrapu32_nat, shr32, reps_wd, map_set_wd, List.length_set, zs_len, Try.f36, h1, h2, e1, e2]
  refine W_loopS (fun k sl H nx => ∃ (f : Bool) (o : Int) (fx : Bool) (X : Int) (id : Nat), (∃ g : Nat → AV, sl = [g 0, .int .i64 k, g 2, g 3, .ptr 1 0, .bool false, g 6, .ptr 2 0, .ptr id 0, g 9, g 10, g 11, g 12, g 13, g 14, g 15, g 16, g 17, g 18, g 19, g 20, g 21, g 22, g 23, g 24, g 25, g 26, g 27, g 28, g 29, g 30, g 31, g 32, g 33, g 34, g 35, g 36, g 37, g 38, g 39, g 40, g 41, g 42, g 43, g 44, g 45, g 46, g 47, g 48, g 49, g 50, g 51, g 52]) ∧ k ≤ n ∧ 3 ≤ id ∧ nx = id + 1 ∧
    H 1 = some ⟨[.bool false, .lst true []], true, 2, false⟩ ∧ H 2 = some ⟨[.bool (ng o), .lst f ((dg o).map wd)], true, 2, false⟩ ∧ H id = some ⟨[.bool (ng X), .lst fx ((dg X).map wd)], true, 2, false⟩ ∧
    Hd (o * X ^ k = x ^ n)) n ⟨_, 1, m, x, 3, garb rfl, by omega, by omega, rfl, rfl, rfl, rfl, ⟨by rw [Int.one_mul]⟩⟩ ?_
  rintro k _ H _ ⟨f, o, fx, X, id, ⟨g, rfl⟩, hk, hid, rfl, h0, h1', h3', hv⟩
  by_cases hk0 : k = 0
  · subst hk0
    have hfin : o = x ^ n := by have := hv.out; rwa [Int.pow_zero, Int.mul_one] at this
    rw [← hfin]
    clear hv hfin hsz
    simp (maxSteps := 4000000) (disch := omega) only [go_sem, ↓reduceIte, Nat.reduceAdd, Nat.reduceSub, Nat.reduceMul, Nat.reduceEqDiff, reduceCtorEq, Int.reduceAdd, Int.reduceLT, Int.reduceLE, Int.reduceToNat, Int.reduceNeg, Int.reduceSub, ← List.map_take, ← List.map_drop, wrap64, wrapu64, wrapu32, ← Int.natCast_add, ← Int.natCast_mul, cast_succ, wrapu32_nat, shr32, reps_wd, map_set_wd, List.length_set, zs_len, h0, h1']
    exact ⟨f, rfl⟩
  · have hne : o * X ^ k ≠ 0 := by rw [hv.out]; exact Int.pow_ne_zero hx0
    have hX0 : X ≠ 0 := fun e => hne (by rw [e, Int.zero_pow hk0, Int.mul_zero])
    have ho0 : o ≠ 0 := fun e => hne (by rw [e, Int.zero_mul])
    have hol : (dg o).length ≤ L := dg_bits (Nat.lt_of_le_of_lt (natAbs_le_mul (Int.pow_ne_zero hX0)) (by rw [hv.out]; exact hsz))
    have hXl : (dg X).length ≤ L := by
      obtain ⟨j, rfl⟩ : ∃ j, k = j + 1 := ⟨k - 1, by omega⟩
      refine dg_bits (Nat.lt_of_le_of_lt (natAbs_le_mul (b := o * X ^ j) ?_) ?_)
      · exact Int.mul_ne_zero ho0 (Int.pow_ne_zero hX0)
      · have : X * (o * X ^ j) = o * X ^ (j + 1) := by rw [Int.pow_succ]; grind
        rw [this, hv.out]; exact hsz
    have m1 := rMul_spec f o fx X (by omega) (by omega)
    have m2 := rMul_spec fx X fx X (by omega) (by omega)
    have e3 : (k : Int).tmod 2 = ((k % 2 : Nat) : Int) := rfl
    have e4 : (k : Int).tdiv 2 = ((k / 2 : Nat) : Int) := rfl
    have n1 : (1 : Nat) ≠ id := by omega
    have n2 : (2 : Nat) ≠ id := by omega
    have n4 : id ≠ id + 1 := by omega
    have n6 : (1 : Nat) ≠ id + 1 := by omega
    have n7 : (2 : Nat) ≠ id + 1 := by omega
    have n8 : id + 1 ≠ id := by omega
    have n9 : id ≠ 2 := by omega
    rcases Nat.mod_two_eq_zero_or_one k with hbit | hbit
    · have hst : o * (X * X) ^ (k / 2) = x ^ n := by
        rw [← hv.out, show X ^ k = X ^ (2 * (k / 2)) by congr 1; omega, Int.pow_mul]; congr 2; rw [Int.pow_succ, Int.pow_one]
      rw [hbit] at e3
      clear hv hne hsz hX0 ho0
      simp (maxSteps := 4000000) (disch := omega) only [go_sem, ↓reduceIte, Nat.reduceAdd, Nat.reduceSub, Nat.reduceMul, Nat.reduceEqDiff, reduceCtorEq, Int.reduceAdd, Int.reduceLT, Int.reduceLE, Int.reduceToNat, Int.reduceNeg, Int.reduceSub, ← List.map_take, ← List.map_drop, wrap64, wrapu64, wrapu32, ← Int.natCast_add, ← Int.natCast_mul, cast_succ, wrapu32_nat, shr32, reps_wd, map_set_wd, List.length_set, zs_len, h0, h1', h3', m2, e3, e4, n1, n2, n4, n6, n7, n8, n9]
      exact ⟨k / 2, by omega, f, o, decide (X * X = 0), X * X, id + 1, garb rfl, by omega, by omega, rfl, by simp [h1', n9], by simp, ⟨hst⟩⟩
    · rw [hbit] at e3
      by_cases hk1 : k = 1
      · subst hk1
        have hst : o * X * X ^ 0 = x ^ n := by rw [← hv.out, Int.pow_zero, Int.mul_one, Int.pow_one]
        clear hv hne hsz hX0 ho0
        simp (maxSteps := 4000000) (disch := omega) only [go_sem, ↓reduceIte, Nat.reduceAdd, Nat.reduceSub, Nat.reduceMul, Nat.reduceEqDiff, reduceCtorEq, Int.reduceAdd, Int.reduceLT, Int.reduceLE, Int.reduceToNat, Int.reduceNeg, Int.reduceSub, ← List.map_take, ← List.map_drop, wrap64, wrapu64, wrapu32, ← Int.natCast_add, ← Int.natCast_mul, cast_succ, wrapu32_nat, shr32, reps_wd, map_set_wd, List.length_set, zs_len, h0, h1', h3', m1, e3, e4, n1, n2, n4, n6, n7, n8, n9]
        exact ⟨0, by omega, decide (o * X = 0), o * X, fx, X, id + 1, garb rfl, by omega, by omega, rfl, by simp, by simp, ⟨hst⟩⟩
      · have hst : o * X * (X * X) ^ (k / 2) = x ^ n := by
          rw [← hv.out, show X ^ k = X ^ (2 * (k / 2) + 1) by congr 1; omega, Int.pow_succ, Int.pow_mul, show X ^ 2 = X * X by rw [Int.pow_succ, Int.pow_one]]
          generalize (X * X) ^ (k / 2) = y; grind
        clear hv hne hsz hX0 ho0
        simp (maxSteps := 4000000) (disch := omega) only [go_sem, ↓reduceIte, Nat.reduceAdd, Nat.reduceSub, Nat.reduceMul, Nat.reduceEqDiff, reduceCtorEq, Int.reduceAdd, Int.reduceLT, Int.reduceLE, Int.reduceToNat, Int.reduceNeg, Int.reduceSub, ← List.map_take, ← List.map_drop, wrap64, wrapu64, wrapu32, ← Int.natCast_add, ← Int.natCast_mul, cast_succ, wrapu32_nat, shr32, reps_wd, map_set_wd, List.length_set, zs_len, h0, h1', h3', m1, m2, e3, e4, n1, n2, n4, n6, n7, n8, n9]
        exact ⟨k / 2, by omega, decide (o * X = 0), o * X, decide (X * X = 0), X * X, id + 1, garb rfl, by omega, by omega, rfl, by simp, by simp, ⟨hst⟩⟩
end Go.Proofs.Ytmgmcnoobgljpaa

/- Walks: division without a rest. (Own work of this repo.) -/
namespace Go.Proofs.Ytmgmcnoobgljpaa
open Vm Luc
set_option maxRecDepth 10000

theorem rDivides_spec (mx : Bool) (x : Int) (my : Bool) (y : Int) (hx : (dg x).length < 2 ^ 30) (hy : (dg y).length < 2 ^ 30) : denP E 35 [I mx x, I my y] = some (.ret (.bool (decide (x ∣ y)))) := by
  refine denP_eq E35 rfl (by simp [AV.pureL, AV.pure, pure_wd]) ?_
  have z1 := rZero_spec mx x
  by_cases h0 : x = 0
  · subst h0
    have z2 := rZero_spec my y
    rw [decide_eq_true rfl] at z1
    rw [show decide ((0 : Int) ∣ y) = decide (y = 0) from by simp]
    simp (maxSteps := 4000000) only [go_sem, ↓reduceIte, Nat.reduceAdd, Nat.reduceSub, Nat.reduceMul, Nat.reduceEqDiff, reduceCtorEq, Int.reduceAdd, Int.reduceLT, Int.reduceLE, Int.reduceToNat, Int.reduceNeg, Int.reduceSub, ← List.map_take, ← List.map_drop, ne_eq, Nat.reduceLeDiff, Nat.reduceLT, Nat.zero_le, Nat.le_refl, wrap64, wrapu64, wrapu32, ← Int.natCast_add, ← Int.natCast_mul, cast_succ, wrapu32_nat, shr32, reps_wd, map_set_wd, List.length_set, zs_len, Try.f35, z1, z2]
  · rw [decide_eq_false h0] at z1
    obtain ⟨m, d1, _, _⟩ := rDiv_spec my y mx x hy hx h0
    have z2 := rZero_spec m.2 (y % x)
    rw [show decide (x ∣ y) = decide (y % x = 0) from decide_eq_decide.2 Int.dvd_iff_emod_eq_zero]
    simp (maxSteps := 4000000) only [go_sem, ↓reduceIte, Nat.reduceAdd, Nat.reduceSub, Nat.reduceMul, Nat.reduceEqDiff, reduceCtorEq, Int.reduceAdd, Int.reduceLT, Int.reduceLE, Int.reduceToNat, Int.reduceNeg, Int.reduceSub, ← List.map_take, ← List.map_drop, ne_eq, Nat.reduceLeDiff, Nat.reduceLT, Nat.zero_le, Nat.le_refl, wrap64, wrapu64, wrapu32, ← Int.natCast_add, ← Int.natCast_mul, cast_succ, wrapu32_nat, shr32, reps_wd, map_set_wd, List.length_set, zs_len, Try.f35, z1, d1, z2]
end Go.Proofs.Ytmgmcnoobgljpaa

/- Walks: the reference's rest and rank. (Own work of this repo.) -/
namespace Go.Proofs.Ytmgmcnoobgljpaa
open Vm Luc
set_option maxRecDepth 10000

theorem rrest_spec (mx : Bool) (x : Int) (my : Bool) (y : Int) (hx : (dg x).length < 2 ^ 30) (hy : (dg y).length < 2 ^ 30) (hy0 : y ≠ 0) : ∃ f : Bool, denP E 52 [I mx x, I my y] = some (.ret (I f (x % y))) ∧ (f = true → x % y = 0) := by
  obtain ⟨m, d1, _, d3⟩ := rDiv_spec mx x my y hx hy hy0
  refine ⟨m.2, ?_, d3⟩
  refine denP_eq E52 rfl (by simp [AV.pureL, AV.pure, pure_wd]) ?_
  simp (maxSteps := 4000000) only [go_sem, ↓reduceIte, Nat.reduceAdd, Nat.reduceSub, Nat.reduceMul, Nat.reduceEqDiff, reduceCtorEq, Int.reduceAdd, Int.reduceLT, Int.reduceLE, Int.reduceToNat, Int.reduceNeg, Int.reduceSub, ← List.map_take, ← List.map_drop, ne_eq, Nat.reduceLeDiff, Nat.reduceLT, Nat.zero_le, Nat.le_refl, wrap64, wrapu64, wrapu32, ← Int.natCast_add, ← Int.natCast_mul, cast_succ, wrapu32_nat, shr32, reps_wd, map_set_wd, List.length_set, zs_len, Try.f52, d1, reps, fillAll, places]
theorem moduled_spec (mx : Bool) (x : Int) (my : Bool) (y : Int) (hx : (dg x).length < 2 ^ 30) (hy : (dg y).length < 2 ^ 30) (hy0 : y ≠ 0) : ∃ f : Bool, denP E 40 [I mx x, I my y] = some (.ret (I f (x % y))) ∧ (f = true → x % y = 0) := by
  obtain ⟨m, d1, _, d3⟩ := rDiv_spec mx x my y hx hy hy0
  refine ⟨m.2, ?_, d3⟩
  refine denP_eq E40 rfl (by simp [AV.pureL, AV.pure, pure_wd]) ?_
  simp (maxSteps := 4000000) only [go_sem, ↓reduceIte, Nat.reduceAdd, Nat.reduceSub, Nat.reduceMul, Nat.reduceEqDiff, reduceCtorEq, Int.reduceAdd, Int.reduceLT, Int.reduceLE, Int.reduceToNat, Int.reduceNeg, Int.reduceSub, ← List.map_take, ← List.map_drop, ne_eq, Nat.reduceLeDiff, Nat.reduceLT, Nat.zero_le, Nat.le_refl, wrap64, wrapu64, wrapu32, ← Int.natCast_add, ← Int.natCast_mul, cast_succ, wrapu32_nat, shr32, reps_wd, map_set_wd, List.length_set, zs_len, Try.f40, d1, reps, fillAll, places]
theorem dg_mod {x y : Int} {k : Nat} (hy : (dg y).length ≤ k) (hy0 : y ≠ 0) : (dg (x % y)).length ≤ k := by
  refine Nat.le_trans (dg_mono ?_) hy
  have h1 := Int.emod_nonneg x hy0
  have h2 := Int.emod_lt x hy0
  omega
theorem psi_next (a m : Int) (i : Nat) : ((a + a) % m * (psi a (i + 1) % m) - psi a i % m) % m = psi a (i + 2) % m := by
  rw [psi_rec, ← Int.two_mul, Int.sub_emod, Int.emod_emod, ← Int.mul_emod, ← Int.sub_emod]
set_option maxHeartbeats 2000000 in
theorem rRank_spec (a m : Int) (fa fm : Bool) (ha : (dg a).length ≤ 4096) (hm : (dg m).length ≤ 200) (hm1 : 1 ≤ m) (most : Nat) (hmost : most ≤ 20000) :
    ∃ p : Nat × Bool, denP E 26 [I fa a, I fm m, .int .i64 most] = some (.ret ((fun p : Nat × Bool => .tup [.int .i64 p.1, .bool p.2]) p)) ∧ ((1 ≤ p.1 ∧ p.1 ≤ most ∧ p.2 = true ∧ psi a p.1 % m = 0 ∧ ∀ k, 1 ≤ k → k < p.1 → psi a k % m ≠ 0) ∨ (p = (0, false) ∧ ∀ k, 1 ≤ k → k ≤ most → psi a k % m ≠ 0)) := by
  refine denP_ex E26 rfl (by simp [AV.pureL, AV.pure, pure_wd]) ?_
  have hm0 : m ≠ 0 := by omega
  have o1 := rOf_spec 1 (by decide) (by decide)
  rw [RM, show decide ((1 : Int) = 0) = false from rfl] at o1
  have l1 := dg_small (z := 1) (by decide)
  obtain ⟨f1, r1, _⟩ := rrest_spec false 1 fm m (by omega) (by omega) hm0
  have hadd := rAdd_spec fa a fa a (by omega) (by omega)
  have l2a := dg_add a a
  rw [RM] at hadd
  obtain ⟨f2, r2, _⟩ := rrest_spec (decide (a + a = 0)) (a + a) fm m (by omega) (by omega) hm0
  simp (maxSteps := 4000000) only [go_sem, ↓reduceIte, Nat.reduceAdd, Nat.reduceSub, Nat.reduceMul, Nat.reduceEqDiff, reduceCtorEq, Int.reduceAdd, Int.reduceLT, Int.reduceLE, Int.reduceToNat, Int.reduceNeg, Int.reduceSub, ← List.map_take, ← List.map_drop, ne_eq, Nat.reduceLeDiff, Nat.reduceLT, Nat.zero_le, Nat.le_refl, wrap64, wrapu64, wrapu32, ← Int.natCast_add, ← Int.natCast_mul, cast_succ, wrapu32_nat, shr32, reps_wd, map_set_wd, List.length_set, zs_len, Try.f26, places, fillAll]
  refine W_drawn ?_
  simp (maxSteps := 4000000) only [go_sem, ↓reduceIte, Nat.reduceAdd, Nat.reduceSub, Nat.reduceMul, Nat.reduceEqDiff, reduceCtorEq, Int.reduceAdd, Int.reduceLT, Int.reduceLE, Int.reduceToNat, Int.reduceNeg, Int.reduceSub, ← List.map_take, ← List.map_drop, ne_eq, Nat.reduceLeDiff, Nat.reduceLT, Nat.zero_le, Nat.le_refl, wrap64, wrapu64, wrapu32, ← Int.natCast_add, ← Int.natCast_mul, cast_succ, wrapu32_nat, shr32, reps_wd, map_set_wd, List.length_set, zs_len, o1, r1, places, fillAll]
  refine ⟨by refine okR_pairs ?_; (repeat ((with_unfolding_all refine And.intro ?_ ?_); (focus (rw [free_mk] <;> (try simp) <;> (try omega))))); (with_unfolding_all exact True.intro), ?_⟩
  refine W_drawn ?_
  simp (maxSteps := 4000000) only [go_sem, ↓reduceIte, Nat.reduceAdd, Nat.reduceSub, Nat.reduceMul, Nat.reduceEqDiff, reduceCtorEq, Int.reduceAdd, Int.reduceLT, Int.reduceLE, Int.reduceToNat, Int.reduceNeg, Int.reduceSub, ← List.map_take, ← List.map_drop, ne_eq, Nat.reduceLeDiff, Nat.reduceLT, Nat.zero_le, Nat.le_refl, wrap64, wrapu64, wrapu32, ← Int.natCast_add, ← Int.natCast_mul, cast_succ, wrapu32_nat, shr32, reps_wd, map_set_wd, List.length_set, zs_len, hadd, r2, places, fillAll]
  refine ⟨by refine okR_pairs ?_; (repeat ((with_unfolding_all refine And.intro ?_ ?_); (focus (rw [free_mk] <;> (try simp) <;> (try omega))))); (with_unfolding_all exact True.intro), ?_⟩
  have lT : (dg ((a + a) % m)).length ≤ 200 := dg_mod hm hm0
  have e0 : (1 : Int) % m = psi a 1 % m := by rw [psi_one]
  have pn := psi_next a m
  rw [e0]
  clear o1 r1 hadd r2 l2a
  generalize (a + a) % m = T at *
  refine W_loopS (fun k sl h nx => ∃ (i : Nat) (fp fx : Bool), (∃ g : Nat → AV, sl = [g 0, g 1, .int .i64 most, g 3, .ptr 1 0, g 5, g 6, g 7, .ptr 2 0, .ptr 3 0, .ptr 4 0, .int .i64 ((i + 1 : Nat) : Int), g 12, g 13, g 14, g 15, g 16, g 17, g 18, g 19, g 20, g 21, g 22, g 23, g 24, g 25, g 26, g 27, g 28, g 29, g 30, g 31, g 32, g 33, g 34, g 35, g 36]) ∧ (h 1 = some (crow fm m) ∧ h 2 = some (crow fp (psi a i % m)) ∧ h 3 = some (crow fx (psi a (i + 1) % m)) ∧ h 4 = some (crow f2 T)) ∧ nx = 5 ∧ i + k = most ∧ ∀ k, 1 ≤ k → k < i + 1 → psi a k % m ≠ 0) most ⟨0, true, f1, garb rfl, ?_, rfl, by omega, fun k hk1 hk2 => by omega⟩ ?_
  · rw [psi_zero, Int.zero_emod, crow, crow, ng_zero, dg_zero]
    refine ⟨?_, ?_, ?_, ?_⟩ <;> simp only [upd_apply, ↓reduceIte, Nat.reduceEqDiff, if_pos] <;> rfl
  · rintro k _ h _ ⟨i, fp, fx, ⟨g, rfl⟩, ⟨r1, r2, r3, r4⟩, rfl, hk, hall⟩
    simp only [crow] at r1 r2 r3 r4
    by_cases hk0 : k = 0
    · subst hk0
      obtain rfl : i = most := by omega
      have z1 : (((i + 1 : Nat) : Int) ≤ (i : Int)) = False := eq_false (by omega)
      simp (maxSteps := 4000000) only [go_sem, ↓reduceIte, Nat.reduceAdd, Nat.reduceSub, Nat.reduceMul, Nat.reduceEqDiff, reduceCtorEq, Int.reduceAdd, Int.reduceLT, Int.reduceLE, Int.reduceToNat, Int.reduceNeg, Int.reduceSub, ← List.map_take, ← List.map_drop, ne_eq, Nat.reduceLeDiff, Nat.reduceLT, Nat.zero_le, Nat.le_refl, wrap64, wrapu64, wrapu32, ← Int.natCast_add, ← Int.natCast_mul, cast_succ, wrapu32_nat, shr32, reps_wd, map_set_wd, List.length_set, zs_len, z1]
      exact ⟨(0, false), rfl, .inr ⟨rfl, fun k hk1 hk2 => hall k hk1 (by omega)⟩⟩
    · have z1 : (((i + 1 : Nat) : Int) ≤ (most : Int)) = True := eq_true (by omega)
      have b1 : (dg (psi a i % m)).length ≤ 200 := dg_mod hm hm0
      have b2 : (dg (psi a (i + 1) % m)).length ≤ 200 := dg_mod hm hm0
      have m1 := rMul_spec f2 T fx (psi a (i + 1) % m) (by omega) (by omega)
      have lm1 := dg_mul T (psi a (i + 1) % m)
      have s1 := rSub_spec (decide (T * (psi a (i + 1) % m) = 0)) (T * (psi a (i + 1) % m)) fp (psi a i % m) (by omega) (by omega)
      have ls := dg_sub (T * (psi a (i + 1) % m)) (psi a i % m)
      have e1 := pn i
      rw [RM] at m1 s1
      generalize decide (T * (psi a (i + 1) % m) = 0) = d1 at *
      obtain ⟨f3, t1, _⟩ := rrest_spec (decide (T * (psi a (i + 1) % m) - psi a i % m = 0)) (T * (psi a (i + 1) % m) - psi a i % m) fm m (by omega) (by omega) hm0
      generalize decide (T * (psi a (i + 1) % m) - psi a i % m = 0) = d2 at *
      rw [e1] at t1
      have z0 := rZero_spec fx (psi a (i + 1) % m)
      clear e1 pn lm1 ls
      generalize hP : psi a (i + 1) % m = P at *
      generalize T * P = TP at *
      generalize TP - psi a i % m = TQ at *
      simp (maxSteps := 4000000) only [go_sem, ↓reduceIte, Nat.reduceAdd, Nat.reduceSub, Nat.reduceMul, Nat.reduceEqDiff, reduceCtorEq, Int.reduceAdd, Int.reduceLT, Int.reduceLE, Int.reduceToNat, Int.reduceNeg, Int.reduceSub, ← List.map_take, ← List.map_drop, ne_eq, Nat.reduceLeDiff, Nat.reduceLT, Nat.zero_le, Nat.le_refl, wrap64, wrapu64, wrapu32, ← Int.natCast_add, ← Int.natCast_mul, cast_succ, wrapu32_nat, shr32, reps_wd, map_set_wd, List.length_set, zs_len, z1]
      refine W_drawn ?_
      simp (maxSteps := 4000000) only [go_sem, ↓reduceIte, Nat.reduceAdd, Nat.reduceSub, Nat.reduceMul, Nat.reduceEqDiff, reduceCtorEq, Int.reduceAdd, Int.reduceLT, Int.reduceLE, Int.reduceToNat, Int.reduceNeg, Int.reduceSub, ← List.map_take, ← List.map_drop, ne_eq, Nat.reduceLeDiff, Nat.reduceLT, Nat.zero_le, Nat.le_refl, wrap64, wrapu64, wrapu32, ← Int.natCast_add, ← Int.natCast_mul, cast_succ, wrapu32_nat, shr32, reps_wd, map_set_wd, List.length_set, zs_len, r1, r2, r3, r4, m1, s1, t1]
      refine ⟨by refine okR_pairs ?_; (repeat ((with_unfolding_all refine And.intro ?_ ?_); (focus (rw [free_mk] <;> (try simp) <;> (try omega))))); (with_unfolding_all exact True.intro), ?_⟩
      by_cases h0 : P = 0
      · rw [decide_eq_true h0] at z0
        simp (maxSteps := 4000000) only [go_sem, ↓reduceIte, Nat.reduceAdd, Nat.reduceSub, Nat.reduceMul, Nat.reduceEqDiff, reduceCtorEq, Int.reduceAdd, Int.reduceLT, Int.reduceLE, Int.reduceToNat, Int.reduceNeg, Int.reduceSub, ← List.map_take, ← List.map_drop, ne_eq, Nat.reduceLeDiff, Nat.reduceLT, Nat.zero_le, Nat.le_refl, wrap64, wrapu64, wrapu32, ← Int.natCast_add, ← Int.natCast_mul, cast_succ, wrapu32_nat, shr32, reps_wd, map_set_wd, List.length_set, zs_len, r1, r2, r3, r4, z0]
        exact ⟨(i + 1, true), rfl, .inl ⟨by omega, by omega, rfl, by rw [hP]; exact h0, fun k hk1 hk2 => hall k hk1 hk2⟩⟩
      · rw [decide_eq_false h0] at z0
        have z3 : IntKind.i64.wrap ((i + 1 + 1 : Nat) : Int) = ((i + 1 + 1 : Nat) : Int) := wrap64 (by omega) (by omega)
        simp (maxSteps := 4000000) only [go_sem, ↓reduceIte, Nat.reduceAdd, Nat.reduceSub, Nat.reduceMul, Nat.reduceEqDiff, reduceCtorEq, Int.reduceAdd, Int.reduceLT, Int.reduceLE, Int.reduceToNat, Int.reduceNeg, Int.reduceSub, ← List.map_take, ← List.map_drop, ne_eq, Nat.reduceLeDiff, Nat.reduceLT, Nat.zero_le, Nat.le_refl, wrap64, wrapu64, wrapu32, ← Int.natCast_add, ← Int.natCast_mul, cast_succ, wrapu32_nat, shr32, reps_wd, map_set_wd, List.length_set, zs_len, r1, r2, r3, r4, z0, z3]
        refine ⟨k - 1, by omega, i + 1, fx, f3, garb rfl, ⟨?_, rfl⟩, by omega, fun k hk1 hk2 => ?_⟩
        · rw [hP]
        · rcases Nat.lt_or_ge k (i + 1) with h1 | h1
          · exact hall k hk1 h1
          · obtain rfl : k = i + 1 := by omega
            rw [hP]; exact h0
end Go.Proofs.Ytmgmcnoobgljpaa

/- Walks: which numbers fit, whatever their length. (Own work of this repo.) -/
namespace Go.Proofs.Ytmgmcnoobgljpaa
open Vm Luc
set_option maxRecDepth 10000

theorem valid_any (neg nl : Bool) (l : List Nat) (hl : l.length < 9223372036854775808) : denP E 79 [iv neg nl l] = some (.ret (.bool (validW neg l))) := by
  refine denP_eq E79 rfl (by simp [AV.pureL, AV.pure, pure_wd, iv]) ?_
  unfold validW
  by_cases h1 : l.length ≤ 4096
  · by_cases h2 : l.length = 0
    · simp (maxSteps := 4000000) (disch := omega) only [go_sem, ↓reduceIte, Nat.reduceAdd, Nat.reduceSub, Nat.reduceMul, Nat.reduceEqDiff, reduceCtorEq, Int.reduceAdd, Int.reduceLT, Int.reduceLE, Int.reduceToNat, Int.reduceNeg, Int.reduceSub, ← List.map_take, ← List.map_drop, wrap64, wrapu64, wrapu32, Try.f79, iv]
    · have e : (l.length : Int) - 1 = (l.length - 1 : Nat) := by omega
      by_cases h3 : l.getD (l.length - 1) 0 = 0
      · simp (maxSteps := 4000000) (disch := omega) only [go_sem, ↓reduceIte, Nat.reduceAdd, Nat.reduceSub, Nat.reduceMul, Nat.reduceEqDiff, reduceCtorEq, Int.reduceAdd, Int.reduceLT, Int.reduceLE, Int.reduceToNat, Int.reduceNeg, Int.reduceSub, ← List.map_take, ← List.map_drop, wrap64, wrapu64, wrapu32, Try.f79, iv, e, ne_eq]
      · simp (maxSteps := 4000000) (disch := omega) only [go_sem, ↓reduceIte, Nat.reduceAdd, Nat.reduceSub, Nat.reduceMul, Nat.reduceEqDiff, reduceCtorEq, Int.reduceAdd, Int.reduceLT, Int.reduceLE, Int.reduceToNat, Int.reduceNeg, Int.reduceSub, ← List.map_take, ← List.map_drop, wrap64, wrapu64, wrapu32, Try.f79, iv, e, ne_eq]
  · simp (maxSteps := 4000000) (disch := omega) only [go_sem, ↓reduceIte, Nat.reduceAdd, Nat.reduceSub, Nat.reduceMul, Nat.reduceEqDiff, reduceCtorEq, Int.reduceAdd, Int.reduceLT, Int.reduceLE, Int.reduceToNat, Int.reduceNeg, Int.reduceSub, ← List.map_take, ← List.map_drop, wrap64, wrapu64, wrapu32, Try.f79, iv]
theorem chainValid_any (nl : Bool) (L : List Raw) (hn : nl = true → L = []) (hL : L.length < 2 ^ 40) (hl : ∀ q ∈ L, q.2.2.length < 9223372036854775808) : denP E 72 [.lst nl (L.map ivr)] = some (.ret (.bool (L.all rvl))) := by
  refine denP_eq E72 rfl (by simp [AV.pureL, AV.pure, pure_ivr]) ?_
  simp (maxSteps := 4000000) (disch := omega) only [go_sem, ↓reduceIte, Nat.reduceAdd, Nat.reduceSub, Nat.reduceMul, Nat.reduceEqDiff, reduceCtorEq, Int.reduceAdd, Int.reduceLT, Int.reduceLE, Int.reduceToNat, Int.reduceNeg, Int.reduceSub, ← List.map_take, ← List.map_drop, wrap64, wrapu64, wrapu32, ← Int.natCast_add, ← Int.natCast_mul, cast_succ, wrapu32_nat, shr32, reps_wd, map_set_wd, List.length_set, zs_len, Try.f72]
  refine W_loopS (fun k sl h nx => ∃ i : Nat, (∃ g : Nat → AV, sl = [g 0, g 1, g 2, g 3, g 4, .lst nl (L.map ivr), .int .i64 L.length, .int .i64 i, g 8, g 9, g 10, g 11, g 12, g 13, g 14]) ∧
    i + k = L.length ∧ Hd (∀ j, j < i → rvl (L.getD j default) = true)) L.length ⟨0, garb rfl, by omega, ⟨by omega⟩⟩ ?_
  rintro k _ H nx ⟨i, ⟨g, rfl⟩, hk, hall⟩
  by_cases hk0 : k = 0
  · have hv : L.all rvl = true := by
      rw [List.all_eq_true]
      intro q hq
      obtain ⟨j, hj, rfl⟩ := List.getElem_of_mem hq
      have := hall.out j (by omega)
      rwa [List.getD_eq_getElem?_getD, List.getElem?_eq_getElem hj] at this
    clear hall hl
    simp (maxSteps := 4000000) (disch := omega) only [go_sem, ↓reduceIte, Nat.reduceAdd, Nat.reduceSub, Nat.reduceMul, Nat.reduceEqDiff, reduceCtorEq, Int.reduceAdd, Int.reduceLT, Int.reduceLE, Int.reduceToNat, Int.reduceNeg, Int.reduceSub, ← List.map_take, ← List.map_drop, wrap64, wrapu64, wrapu32, ← Int.natCast_add, ← Int.natCast_mul, cast_succ, wrapu32_nat, shr32, reps_wd, map_set_wd, List.length_set, zs_len, hv]
  · have hg := get_ivr (L := L) (i := i) (by omega)
    have hmem : L.getD i default ∈ L := by
      rw [List.getD_eq_getElem?_getD, List.getElem?_eq_getElem (by omega)]; exact List.getElem_mem _
    have hno : rvl (L.getD i default) = false → L.all rvl = false := fun h => by
      rw [List.all_eq_false]; exact ⟨_, hmem, by rw [h]; simp⟩
    have hll := hl _ hmem
    have hnext : rvl (L.getD i default) = true → Hd (∀ j, j < i + 1 → rvl (L.getD j default) = true) := fun h => ⟨fun j hj => by
      by_cases hji : j = i
      · subst hji; exact h
      · exact hall.out j (by omega)⟩
    clear hall hl
    generalize L.getD i default = q at *
    obtain ⟨neg, ql, l⟩ := q
    dsimp only at hg hll
    have h1 := valid_any neg ql l (by omega)
    cases h3 : validW neg l with
    | true =>
      rw [h3] at h1
      simp (maxSteps := 4000000) (disch := omega) only [go_sem, ↓reduceIte, Nat.reduceAdd, Nat.reduceSub, Nat.reduceMul, Nat.reduceEqDiff, reduceCtorEq, Int.reduceAdd, Int.reduceLT, Int.reduceLE, Int.reduceToNat, Int.reduceNeg, Int.reduceSub, ← List.map_take, ← List.map_drop, wrap64, wrapu64, wrapu32, ← Int.natCast_add, ← Int.natCast_mul, cast_succ, wrapu32_nat, shr32, reps_wd, map_set_wd, List.length_set, zs_len, hg, h1]
      exact ⟨k - 1, by omega, i + 1, garb rfl, by omega, hnext h3⟩
    | false =>
      rw [h3] at h1
      have hv := hno h3
      simp (maxSteps := 4000000) (disch := omega) only [go_sem, ↓reduceIte, Nat.reduceAdd, Nat.reduceSub, Nat.reduceMul, Nat.reduceEqDiff, reduceCtorEq, Int.reduceAdd, Int.reduceLT, Int.reduceLE, Int.reduceToNat, Int.reduceNeg, Int.reduceSub, ← List.map_take, ← List.map_drop, wrap64, wrapu64, wrapu32, ← Int.natCast_add, ← Int.natCast_mul, cast_succ, wrapu32_nat, shr32, reps_wd, map_set_wd, List.length_set, zs_len, hg, h1, hv]
theorem fits_wide (q : Raw) (nl : Bool) (L : List Raw) (hn : nl = true → L = []) (hL : L.length < 2 ^ 40) (hq : q.2.2.length < 9223372036854775808) (hl : ∀ q ∈ L, q.2.2.length < 9223372036854775808) (h : fitW q L = false) : denP E 47 [ivr q, .lst nl (L.map ivr)] = some (.ret (.int .i64 1)) := by
  refine denP_eq E47 rfl (by simp [AV.pureL, AV.pure, pure_ivr, pure_wd]) ?_
  have h1 := chainValid_any false [q] (by simp) (by simp) (by simpa using hq)
  have h2 := chainValid_any nl L hn hL hl
  simp only [List.map_cons, List.map_nil, List.all_cons, List.all_nil, Bool.and_true] at h1
  simp only [ivr, iv] at h1 h2
  clear hl
  unfold fitW at h
  cases h3 : rvl q with
  | false =>
    rw [h3] at h1
    simp (maxSteps := 4000000) (disch := omega) only [go_sem, ↓reduceIte, Nat.reduceAdd, Nat.reduceSub, Nat.reduceMul, Nat.reduceEqDiff, reduceCtorEq, Int.reduceAdd, Int.reduceLT, Int.reduceLE, Int.reduceToNat, Int.reduceNeg, Int.reduceSub, ← List.map_take, ← List.map_drop, wrap64, wrapu64, wrapu32, ← Int.natCast_add, ← Int.natCast_mul, cast_succ, wrapu32_nat, shr32, reps_wd, map_set_wd, List.length_set, zs_len, Try.f47, h1, reps, fillAll, refP, elems, purify_ivr]
  | true =>
    rw [h3, Bool.true_and] at h
    rw [h3] at h1
    rw [h] at h2
    simp (maxSteps := 4000000) (disch := omega) only [go_sem, ↓reduceIte, Nat.reduceAdd, Nat.reduceSub, Nat.reduceMul, Nat.reduceEqDiff, reduceCtorEq, Int.reduceAdd, Int.reduceLT, Int.reduceLE, Int.reduceToNat, Int.reduceNeg, Int.reduceSub, ← List.map_take, ← List.map_drop, wrap64, wrapu64, wrapu32, ← Int.natCast_add, ← Int.natCast_mul, cast_succ, wrapu32_nat, shr32, reps_wd, map_set_wd, List.length_set, zs_len, Try.f47, h1, h2, reps, fillAll, refP, elems, purify_ivr]
theorem rank_wide (qa qm : Raw) (la : qa.2.2.length < 9223372036854775808) (lm : qm.2.2.length < 9223372036854775808) (h : fitW qa [qm] = false) (most : Int) : denP E 21 [ivr qa, ivr qm, .int .i64 most] = some (.ret (RK 0 1)) := by
  refine denP_eq E21 rfl (by simp [AV.pureL, AV.pure, pure_wd]) ?_
  have f1 := fits_wide qa false [qm] (by simp) (by simp) la (by simpa using lm) h
  simp only [List.map_cons, List.map_nil, ivr, iv] at f1 ⊢
  simp (maxSteps := 4000000) only [go_sem, ↓reduceIte, Nat.reduceAdd, Nat.reduceSub, Nat.reduceMul, Nat.reduceEqDiff, reduceCtorEq, Int.reduceAdd, Int.reduceLT, Int.reduceLE, Int.reduceToNat, Int.reduceNeg, Int.reduceSub, ← List.map_take, ← List.map_drop, ne_eq, Nat.reduceLeDiff, Nat.reduceLT, Nat.zero_le, Nat.le_refl, wrap64, wrapu64, wrapu32, ← Int.natCast_add, ← Int.natCast_mul, cast_succ, wrapu32_nat, shr32, reps_wd, map_set_wd, List.length_set, zs_len, Try.f21, f1, Int.reduceEq, places, fillAll, reps, refP, elems]
theorem fit_int8 {m : Nat} {cs : List AV} (h : Fit E (m + 1) 3 cs) : ∃ n : Int, -9223372036854775808 ≤ n ∧ n < 9223372036854775808 ∧ cs = [.int .i64 n] := by
  simp only [Fit, T3, FitD] at h
  obtain ⟨_, i, rfl, hi⟩ := h
  have hi' : -9223372036854775808 ≤ i ∧ i < 9223372036854775808 := by simp [Lit.wf, IntKind.max, IntKind.min, IntKind.bits, IntKind.signed] at hi; omega
  exact ⟨i, hi'.1, hi'.2, rfl⟩
theorem short1 (k : Nat) (hk : k < 2 ^ 50) (q : Raw) : denP E 13 [.int .i64 k, .lst false [ivr q]] = some (.ret (.bool (shortW k q))) := by
  have hs := short_walk k [q] (by simp) hk
  simp only [List.map_cons, List.map_nil, List.all_cons, List.all_nil, Bool.and_true, Int.cast_ofNat_Int] at hs
  exact hs
theorem bl_len {z : Int} {k : Nat} (h : bl z.natAbs ≤ 32 * k) : (dg z).length ≤ k := by
  refine dig_len.2 ?_
  have := bl_le.1 h
  rwa [Nat.pow_mul] at this
end Go.Proofs.Ytmgmcnoobgljpaa

/- Walks: the index of an element. (Own work of this repo.) -/
namespace Go.Proofs.Ytmgmcnoobgljpaa
open Vm Luc
set_option maxRecDepth 10000

/-- The error of an element that is too long: it is greater than any number that fits. -/
theorem reached_iff {a y : Int} (h2 : 2 ≤ a) (hy : (dg y).length ≤ 4096) (n : Nat) : (er (psi a n) ≠ 0 ∨ ¬ psi a n < y) ↔ y ≤ psi a n := by
  constructor
  · rintro (h | h)
    · rcases er_cases (psi a n) with h1 | h1
      · exact absurd h1.1 h
      · rcases Int.lt_or_le (psi a n) y with h3 | h3
        · exact absurd (Nat.le_trans (dg_mono (by have := (nonneg (a := a) (by omega) n).2; omega)) hy) h1.2
        · exact h3
    · omega
  · intro h; right; omega
theorem index1_open (a y : Int) (fa fy : Bool) (ha : (dg a).length ≤ 4096) (hy : (dg y).length ≤ 4096) (h2 : 2 ≤ a) (n : Nat) (hn : n ≤ 131072) (ab yb : Nat) (h : Heap) (nx : Nat) (h1 : ab < nx) (h3 : yb < nx) (hA : h ab = some (crow fa a)) (hY : h yb = some (crow fy y)) :
    ∃ h' n', denO E 62 [.int .i64 n, .ptr ab 0, .ptr yb 0] h nx = some (.ret (.bool (decide (y ≤ psi a n))), h', n') ∧ Kept ab (crow fa a) h nx h' n' := by
  obtain ⟨fp, p1⟩ := psi_el a fa ha h2 n hn
  have p2 := psi_of _ _ _ _ _ _ p1
  have key : ∃ v h' n', denO E 62 [.int .i64 n, .ptr ab 0, .ptr yb 0] h nx = some (.ret v, h', n') ∧ v = .bool (decide (y ≤ psi a n)) ∧ h' ab = some (crow fa a) ∧ nx ≤ n' ∧ ∀ i, i < nx → i ≠ ab → h' i = h i := by
    refine denO_intro E62 rfl ?_
    have hr := reached_iff (a := a) h2 hy n
    rcases er_cases (psi a n) with ⟨e1, e2⟩ | ⟨e1, e2⟩
    · rw [e1, fit_of e2] at p2
      have l1 := less_spec fp (psi a n) fy y e2 hy
      rw [e1] at hr
      have hd : decide (y ≤ psi a n) = !decide (psi a n < y) := by
        by_cases h : psi a n < y
        · rw [decide_eq_true h, decide_eq_false (by omega)]; rfl
        · rw [decide_eq_false h, decide_eq_true (by omega)]; rfl
      rw [hd]
      clear p1 hr hd
      generalize decide (psi a n < y) = d at *
      generalize psi a n = p at *
      have iabnx0 : (ab = nx) = False := eq_false (by omega); have jabnx0 : (nx = ab) = False := eq_false (by omega); have iabnx1 : (ab = nx + 1) = False := eq_false (by omega); have jabnx1 : (nx + 1 = ab) = False := eq_false (by omega); have iabnx2 : (ab = nx + 2) = False := eq_false (by omega); have jabnx2 : (nx + 2 = ab) = False := eq_false (by omega); have iabnx3 : (ab = nx + 3) = False := eq_false (by omega); have jabnx3 : (nx + 3 = ab) = False := eq_false (by omega); have iabnx4 : (ab = nx + 4) = False := eq_false (by omega); have jabnx4 : (nx + 4 = ab) = False := eq_false (by omega)
      have iybnx0 : (yb = nx) = False := eq_false (by omega); have jybnx0 : (nx = yb) = False := eq_false (by omega); have iybnx1 : (yb = nx + 1) = False := eq_false (by omega); have jybnx1 : (nx + 1 = yb) = False := eq_false (by omega); have iybnx2 : (yb = nx + 2) = False := eq_false (by omega); have jybnx2 : (nx + 2 = yb) = False := eq_false (by omega); have iybnx3 : (yb = nx + 3) = False := eq_false (by omega); have jybnx3 : (nx + 3 = yb) = False := eq_false (by omega); have iybnx4 : (yb = nx + 4) = False := eq_false (by omega); have jybnx4 : (nx + 4 = yb) = False := eq_false (by omega)
      simp (maxSteps := 4000000) only [go_sem, ↓reduceIte, Nat.reduceAdd, Nat.reduceSub, Nat.reduceMul, Nat.reduceEqDiff, reduceCtorEq, Int.reduceAdd, Int.reduceLT, Int.reduceLE, Int.reduceToNat, Int.reduceNeg, Int.reduceSub, ← List.map_take, ← List.map_drop, ne_eq, Nat.reduceLeDiff, Nat.reduceLT, Nat.zero_le, Nat.le_refl, wrap64, wrapu64, wrapu32, ← Int.natCast_add, ← Int.natCast_mul, cast_succ, wrapu32_nat, shr32, reps_wd, map_set_wd, List.length_set, zs_len, Try.f62, hA, hY, p2, l1, Int.reduceEq, Nat.add_assoc, Nat.reduceAdd, off_ne, ne_off, iabnx0, jabnx0, iabnx1, jabnx1, iabnx2, jabnx2, iabnx3, jabnx3, iabnx4, jabnx4, Nat.add_assoc, Nat.reduceAdd, off_ne, ne_off, iybnx0, jybnx0, iybnx1, jybnx1, iybnx2, jybnx2, iybnx3, jybnx3, iybnx4, jybnx4, places, fillAll, reps]
      (refine ⟨by omega, fun i hi1 hi2 => ?_⟩; ((try simp only [upd_apply]); (repeat rw [if_neg (by omega)])))
    · rw [e1] at p2
      rw [decide_eq_true (hr.1 (.inl (by rw [e1]; decide)))]
      clear p1 hr
      generalize fit (psi a n) = p at *
      have iabnx0 : (ab = nx) = False := eq_false (by omega); have jabnx0 : (nx = ab) = False := eq_false (by omega); have iabnx1 : (ab = nx + 1) = False := eq_false (by omega); have jabnx1 : (nx + 1 = ab) = False := eq_false (by omega); have iabnx2 : (ab = nx + 2) = False := eq_false (by omega); have jabnx2 : (nx + 2 = ab) = False := eq_false (by omega); have iabnx3 : (ab = nx + 3) = False := eq_false (by omega); have jabnx3 : (nx + 3 = ab) = False := eq_false (by omega); have iabnx4 : (ab = nx + 4) = False := eq_false (by omega); have jabnx4 : (nx + 4 = ab) = False := eq_false (by omega)
      have iybnx0 : (yb = nx) = False := eq_false (by omega); have jybnx0 : (nx = yb) = False := eq_false (by omega); have iybnx1 : (yb = nx + 1) = False := eq_false (by omega); have jybnx1 : (nx + 1 = yb) = False := eq_false (by omega); have iybnx2 : (yb = nx + 2) = False := eq_false (by omega); have jybnx2 : (nx + 2 = yb) = False := eq_false (by omega); have iybnx3 : (yb = nx + 3) = False := eq_false (by omega); have jybnx3 : (nx + 3 = yb) = False := eq_false (by omega); have iybnx4 : (yb = nx + 4) = False := eq_false (by omega); have jybnx4 : (nx + 4 = yb) = False := eq_false (by omega)
      simp (maxSteps := 4000000) only [go_sem, ↓reduceIte, Nat.reduceAdd, Nat.reduceSub, Nat.reduceMul, Nat.reduceEqDiff, reduceCtorEq, Int.reduceAdd, Int.reduceLT, Int.reduceLE, Int.reduceToNat, Int.reduceNeg, Int.reduceSub, ← List.map_take, ← List.map_drop, ne_eq, Nat.reduceLeDiff, Nat.reduceLT, Nat.zero_le, Nat.le_refl, wrap64, wrapu64, wrapu32, ← Int.natCast_add, ← Int.natCast_mul, cast_succ, wrapu32_nat, shr32, reps_wd, map_set_wd, List.length_set, zs_len, Try.f62, hA, hY, p2, Int.reduceEq, Nat.add_assoc, Nat.reduceAdd, off_ne, ne_off, iabnx0, jabnx0, iabnx1, jabnx1, iabnx2, jabnx2, iabnx3, jabnx3, iabnx4, jabnx4, Nat.add_assoc, Nat.reduceAdd, off_ne, ne_off, iybnx0, jybnx0, iybnx1, jybnx1, iybnx2, jybnx2, iybnx3, jybnx3, iybnx4, jybnx4, places, fillAll, reps]
      (refine ⟨by omega, fun i hi1 hi2 => ?_⟩; ((try simp only [upd_apply]); (repeat rw [if_neg (by omega)])))
  obtain ⟨v, h', n', h1, rfl, h2⟩ := key
  exact ⟨h', n', h1, h2⟩
set_option maxHeartbeats 2000000 in
theorem search_open (a y : Int) (fa fy : Bool) (ha : (dg a).length ≤ 4096) (hy : (dg y).length ≤ 4096) (h2 : 2 ≤ a) (N : Nat) (hN : N ≤ 131072) (hlast : y ≤ psi a N) (n0 : Nat) (hn0 : y ≤ psi a n0) (hleast : ∀ k, k < n0 → psi a k < y) (ab yb : Nat) (h : Heap) (nx : Nat) (h1 : ab < nx) (h3 : yb < nx) (hne : yb ≠ ab) (hA : h ab = some (crow fa a)) (hY : h yb = some (crow fy y)) :
    ∃ h' n', denO E 64 [.int .i64 N, .fn 62 [] [.ptr ab 0, .ptr yb 0]] h nx = some (.ret (.int .i64 n0), h', n') ∧ Kept ab (crow fa a) h nx h' n' := by
  have key : ∃ v h' n', denO E 64 [.int .i64 N, .fn 62 [] [.ptr ab 0, .ptr yb 0]] h nx = some (.ret v, h', n') ∧ v = .int .i64 n0 ∧ h' ab = some (crow fa a) ∧ nx ≤ n' ∧ ∀ i, i < nx → i ≠ ab → h' i = h i := by
    refine denO_intro E64 rfl ?_
    simp (maxSteps := 4000000) only [go_sem, ↓reduceIte, Nat.reduceAdd, Nat.reduceSub, Nat.reduceMul, Nat.reduceEqDiff, reduceCtorEq, Int.reduceAdd, Int.reduceLT, Int.reduceLE, Int.reduceToNat, Int.reduceNeg, Int.reduceSub, ← List.map_take, ← List.map_drop, ne_eq, Nat.reduceLeDiff, Nat.reduceLT, Nat.zero_le, Nat.le_refl, wrap64, wrapu64, wrapu32, ← Int.natCast_add, ← Int.natCast_mul, cast_succ, wrapu32_nat, shr32, reps_wd, map_set_wd, List.length_set, zs_len, Try.f64, places, fillAll]
    refine W_loopS (fun k sl H n => ∃ i j : Nat, (∃ g : Nat → AV, sl = [.int .i64 N, .fn 62 [] [.ptr ab 0, .ptr yb 0], g 2, g 3, g 4, .int .i64 i, .int .i64 j, g 7, g 8, g 9, g 10, g 11, g 12, g 13, g 14, g 15, g 16, g 17, g 18, g 19, g 20, g 21, g 22, g 23, g 24, g 25]) ∧ nx ≤ n ∧ H ab = some (crow fa a) ∧ (∀ i, i < nx → i ≠ ab → H i = h i) ∧ i + k = j ∧ j ≤ N ∧ i ≤ n0 ∧ n0 ≤ j) N ⟨0, N, garb rfl, Nat.le_refl _, hA, fun i _ _ => rfl, by omega, Nat.le_refl _, by omega, ?_⟩ ?_
    · rcases Nat.lt_or_ge N n0 with h | h
      · exact absurd (hleast N h) (by omega)
      · exact h
    rintro k _ H n ⟨i, j, ⟨g, rfl⟩, f1, f2, f3, f4, f5, f6, f7⟩
    by_cases hk : k = 0
    · obtain rfl : i = n0 := by omega
      have z1 : ((i : Int) < (j : Int)) = False := eq_false (by omega)
      simp (maxSteps := 4000000) only [go_sem, ↓reduceIte, Nat.reduceAdd, Nat.reduceSub, Nat.reduceMul, Nat.reduceEqDiff, reduceCtorEq, Int.reduceAdd, Int.reduceLT, Int.reduceLE, Int.reduceToNat, Int.reduceNeg, Int.reduceSub, ← List.map_take, ← List.map_drop, ne_eq, Nat.reduceLeDiff, Nat.reduceLT, Nat.zero_le, Nat.le_refl, wrap64, wrapu64, wrapu32, ← Int.natCast_add, ← Int.natCast_mul, cast_succ, wrapu32_nat, shr32, reps_wd, map_set_wd, List.length_set, zs_len, z1]
      exact ⟨f2, f1, f3⟩
    · have z1 : ((i : Int) < (j : Int)) = True := eq_true (by omega)
      obtain ⟨m, hm⟩ : ∃ m, m = (i + j) / 2 := ⟨_, rfl⟩
      have w1 : IntKind.i64.wrap ((i + j : Nat) : Int) = ((i + j : Nat) : Int) := wrap64 (by omega) (by omega)
      have w2 : IntKind.u64.wrap ((i + j : Nat) : Int) = ((i + j : Nat) : Int) := wrapu64 (by omega) (by omega)
      have w3 : IntKind.i64.wrap (m : Int) = (m : Int) := wrap64 (by omega) (by omega)
      have w4 : IntKind.i64.wrap ((m + 1 : Nat) : Int) = ((m + 1 : Nat) : Int) := wrap64 (by omega) (by omega)
      have hs := index1_open a y fa fy ha hy h2 m (by omega) ab yb H n (by omega) (by omega) f2 ((f3 yb h3 hne).trans hY)
      have w5 : ((i + j : Nat) : Int).fdiv (2 ^ min 1 (kb .u64)) = (m : Int) := by rw [shr_nat, show min 1 (kb .u64) = 1 from rfl, Nat.pow_one, hm]
      simp (maxSteps := 4000000) only [go_sem, ↓reduceIte, Nat.reduceAdd, Nat.reduceSub, Nat.reduceMul, Nat.reduceEqDiff, reduceCtorEq, Int.reduceAdd, Int.reduceLT, Int.reduceLE, Int.reduceToNat, Int.reduceNeg, Int.reduceSub, ← List.map_take, ← List.map_drop, ne_eq, Nat.reduceLeDiff, Nat.reduceLT, Nat.zero_le, Nat.le_refl, wrap64, wrapu64, wrapu32, ← Int.natCast_add, ← Int.natCast_mul, cast_succ, wrapu32_nat, shr32, reps_wd, map_set_wd, List.length_set, zs_len, z1, w1, w2, w5, w3]
      refine openK_kept hs ?_
      intro H' n' k1 k2 k3
      have kf : ∀ i, i < nx → i ≠ ab → H' i = h i := fun i h1 h2 => (k3 i (by omega) h2).trans (f3 i h1 h2)
      by_cases hc : y ≤ psi a m
      · have hd : n0 ≤ m := by
          rcases Nat.lt_or_ge m n0 with h | h
          · exact absurd (hleast m h) (by omega)
          · exact h
        rw [decide_eq_true hc]
        simp (maxSteps := 4000000) only [go_sem, ↓reduceIte, Nat.reduceAdd, Nat.reduceSub, Nat.reduceMul, Nat.reduceEqDiff, reduceCtorEq, Int.reduceAdd, Int.reduceLT, Int.reduceLE, Int.reduceToNat, Int.reduceNeg, Int.reduceSub, ← List.map_take, ← List.map_drop, ne_eq, Nat.reduceLeDiff, Nat.reduceLT, Nat.zero_le, Nat.le_refl, wrap64, wrapu64, wrapu32, ← Int.natCast_add, ← Int.natCast_mul, cast_succ, wrapu32_nat, shr32, reps_wd, map_set_wd, List.length_set, zs_len, w4]
        exact ⟨m - i, by omega, i, m, garb rfl, by omega, k1, kf, by omega, by omega, by omega, by omega⟩
      · have hd : m < n0 := by
          rcases Nat.lt_or_ge m n0 with h | h
          · exact h
          · exact absurd (Int.le_trans hn0 (psi_mono (by omega) h)) hc
        rw [decide_eq_false hc]
        simp (maxSteps := 4000000) only [go_sem, ↓reduceIte, Nat.reduceAdd, Nat.reduceSub, Nat.reduceMul, Nat.reduceEqDiff, reduceCtorEq, Int.reduceAdd, Int.reduceLT, Int.reduceLE, Int.reduceToNat, Int.reduceNeg, Int.reduceSub, ← List.map_take, ← List.map_drop, ne_eq, Nat.reduceLeDiff, Nat.reduceLT, Nat.zero_le, Nat.le_refl, wrap64, wrapu64, wrapu32, ← Int.natCast_add, ← Int.natCast_mul, cast_succ, wrapu32_nat, shr32, reps_wd, map_set_wd, List.length_set, zs_len, w4]
        exact ⟨j - (m + 1), by omega, m + 1, j, garb rfl, by omega, k1, kf, by omega, by omega, by omega, by omega⟩
  obtain ⟨v, h', n', h1, rfl, h2⟩ := key
  exact ⟨h', n', h1, h2⟩
theorem bl_le32 {z : Int} {k : Nat} (h : (dg z).length ≤ k) : bl z.natAbs ≤ 32 * k := by
  refine bl_le.2 ?_
  have := dig_len.1 h
  rwa [Nat.pow_mul]
theorem pow_bits (c : Nat) (hc : 1 ≤ c) (n : Nat) : 2 ^ ((bl c - 1) * n) ≤ c ^ n := by
  rw [Nat.pow_mul]
  exact Nat.pow_le_pow_left (bl_ge (by omega)) n
/-- The bound of the search suffices. -/
theorem last_reached {a y : Int} (h2 : 2 ≤ a) : y ≤ psi a (bl y.natAbs / (bl a.natAbs - 1) + 2) := by
  have h3 : 2 ≤ bl a.natAbs := by
    rcases Nat.lt_or_ge (bl a.natAbs) 2 with h | h
    · have := bl_le.1 (show bl a.natAbs ≤ 1 by omega); omega
    · exact h
  obtain ⟨b, hb⟩ : ∃ b, b = bl a.natAbs - 1 := ⟨_, rfl⟩
  obtain ⟨q, hq⟩ : ∃ q, q = bl y.natAbs / b := ⟨_, rfl⟩
  rw [← hb, ← hq]
  have e1 : bl y.natAbs ≤ b * (q + 1) := by
    have := Nat.div_add_mod (bl y.natAbs) b
    have := Nat.mod_lt (bl y.natAbs) (show 0 < b by omega)
    rw [← hq] at *
    rw [Nat.mul_add, Nat.mul_one]; omega
  have e2 : y.natAbs < 2 ^ (b * (q + 1)) := bl_le.1 e1
  have e3 := pow_bits a.natAbs (by omega) (q + 1)
  rw [← hb] at e3
  have e4 := psi_low (a := a) (by omega) (q + 1)
  have e5 : a.natAbs ^ (q + 1) ≤ (2 * a - 1).natAbs ^ (q + 1) := Nat.pow_le_pow_left (by omega) _
  have e6 : (((2 * a - 1).natAbs ^ (q + 1) : Nat) : Int) = (2 * a - 1) ^ (q + 1) := by rw [Int.natCast_pow, show ((2 * a - 1).natAbs : Int) = 2 * a - 1 by omega]
  have e7 : psi a (q + 1 + 1) = psi a (q + 2) := rfl
  rw [e7, ← e6] at e4
  clear e6
  generalize (2 * a - 1).natAbs ^ (q + 1) = v at *
  generalize a.natAbs ^ (q + 1) = w at *
  generalize 2 ^ (b * (q + 1)) = x at *
  omega
theorem first_reached {a y : Int} (h2 : 2 ≤ a) (h : ∃ n, y ≤ psi a n) : ∃ n0, y ≤ psi a n0 ∧ ∀ k, k < n0 → psi a k < y := by
  obtain ⟨n, hn⟩ := h
  induction n with
  | zero => exact ⟨0, hn, fun k hk => by omega⟩
  | succ n ih =>
    rcases Int.lt_or_le (psi a n) y with h | h
    · exact ⟨n + 1, hn, fun k hk => Int.lt_of_le_of_lt (psi_mono (by omega) (by omega)) h⟩
    · exact ih h
/-- What Index answers. -/
abbrev IX (a y : Int) (n0 : Nat) : AV := if psi a n0 = y then RK n0 0 else RK 0 6
theorem index_form (qa qy : Raw) (la : qa.2.2.length < 9223372036854775808) (ly : qy.2.2.length < 9223372036854775808) (h : fitW qa [qy] = false) : denP E 41 [ivr qa, ivr qy] = some (.ret (RK 0 1)) := by
  refine denP_eq E41 rfl (by simp [AV.pureL, AV.pure, pure_wd]) ?_
  have f1 := fits_wide qa false [qy] (by simp) (by simp) la (by simpa using ly) h
  simp only [List.map_cons, List.map_nil, ivr, iv] at f1 ⊢
  simp (maxSteps := 4000000) only [go_sem, ↓reduceIte, Nat.reduceAdd, Nat.reduceSub, Nat.reduceMul, Nat.reduceEqDiff, reduceCtorEq, Int.reduceAdd, Int.reduceLT, Int.reduceLE, Int.reduceToNat, Int.reduceNeg, Int.reduceSub, ← List.map_take, ← List.map_drop, ne_eq, Nat.reduceLeDiff, Nat.reduceLT, Nat.zero_le, Nat.le_refl, wrap64, wrapu64, wrapu32, ← Int.natCast_add, ← Int.natCast_mul, cast_succ, wrapu32_nat, shr32, reps_wd, map_set_wd, List.length_set, zs_len, Try.f41, f1, Int.reduceEq, places, fillAll, reps, refP, elems]
theorem index_small (a y : Int) (fa fy : Bool) (ha : (dg a).length ≤ 4096) (hy : (dg y).length ≤ 4096) (h : a < 2) : denP E 41 [I fa a, I fy y] = some (.ret (RK 0 2)) := by
  refine denP_eq E41 rfl (by simp [AV.pureL, AV.pure, pure_wd]) ?_
  have f1 := fits_ok fa a ha false [(ng y, fy, dg y)] (by simp) (by simp) (by simp; omega) (by simp only [List.all_cons, List.all_nil, Bool.and_true, rvl]; exact (validW_I y).trans (decide_eq_true hy))
  rw [if_pos h] at f1
  simp only [List.map_cons, List.map_nil, ivr, iv] at f1
  simp (maxSteps := 4000000) only [go_sem, ↓reduceIte, Nat.reduceAdd, Nat.reduceSub, Nat.reduceMul, Nat.reduceEqDiff, reduceCtorEq, Int.reduceAdd, Int.reduceLT, Int.reduceLE, Int.reduceToNat, Int.reduceNeg, Int.reduceSub, ← List.map_take, ← List.map_drop, ne_eq, Nat.reduceLeDiff, Nat.reduceLT, Nat.zero_le, Nat.le_refl, wrap64, wrapu64, wrapu32, ← Int.natCast_add, ← Int.natCast_mul, cast_succ, wrapu32_nat, shr32, reps_wd, map_set_wd, List.length_set, zs_len, Try.f41, f1, Int.reduceEq, places, fillAll, reps, refP, elems]
set_option maxHeartbeats 2000000 in
theorem lucIndex_walk (a y : Int) (fa fy : Bool) (ha : (dg a).length ≤ 4096) (hy : (dg y).length ≤ 4096) (h2 : 2 ≤ a) (n0 : Nat) (hn0 : y ≤ psi a n0) (hleast : ∀ k, k < n0 → psi a k < y) (hN : bl y.natAbs ≤ 131000) : denP E 41 [I fa a, I fy y] = some (.ret (IX a y n0)) := by
  refine denP_eq E41 rfl (by simp [AV.pureL, AV.pure, pure_wd]) ?_
  have f1 := fits_ok fa a ha false [(ng y, fy, dg y)] (by simp) (by simp) (by simp; omega) (by simp only [List.all_cons, List.all_nil, Bool.and_true, rvl]; exact (validW_I y).trans (decide_eq_true hy))
  rw [if_neg (by omega)] at f1
  simp only [List.map_cons, List.map_nil, ivr, iv] at f1
  have b1 := bits_spec fy y hy
  have b2 := bits_spec fa a ha
  have h3 : 2 ≤ bl a.natAbs := by
    rcases Nat.lt_or_ge (bl a.natAbs) 2 with h | h
    · have := bl_le.1 (show bl a.natAbs ≤ 1 by omega); omega
    · exact h
  have hba : bl a.natAbs ≤ 1000000 := Nat.le_trans (bl_le32 ha) (by decide)
  have hl := last_reached (a := a) (y := y) h2
  have hq := Nat.div_le_self (bl y.natAbs) (bl a.natAbs - 1)
  have hnn : n0 ≤ bl y.natAbs / (bl a.natAbs - 1) + 2 := by
    rcases Nat.lt_or_ge (bl y.natAbs / (bl a.natAbs - 1) + 2) n0 with h | h
    · exact absurd hl (by have := hleast _ h; omega)
    · exact h
  have c1 : (bl y.natAbs : Int).tdiv ((bl a.natAbs - 1 : Nat) : Int) = ((bl y.natAbs / (bl a.natAbs - 1) : Nat) : Int) := by rw [Int.tdiv_eq_ediv_of_nonneg (by omega)]; exact (Int.natCast_ediv _ _).symm
  obtain ⟨fp, p1⟩ := psi_el a fa ha h2 n0 (by omega)
  have p2 := psi_of _ _ _ _ _ _ p1
  generalize hQ : bl y.natAbs / (bl a.natAbs - 1) = Q at *
  have c2 : IntKind.i64.wrap ((bl a.natAbs : Int) - 1) = ((bl a.natAbs - 1 : Nat) : Int) := by rw [wrap64 (by omega) (by omega)]; omega
  have c3 : IntKind.i64.wrap (Q : Int) = (Q : Int) := wrap64 (by omega) (by omega)
  have c4 : IntKind.i64.wrap ((Q : Int) + 2) = ((Q + 2 : Nat) : Int) := by rw [wrap64 (by omega) (by omega)]; omega
  have z1 : (((bl a.natAbs - 1 : Nat) : Int) = 0) = False := eq_false (by omega)
  have hs := fun h nx => search_open a y fa fy ha hy h2 (Q + 2) (by omega) hl n0 hn0 hleast 0 1 h nx
  clear p1 hl
  simp (maxSteps := 4000000) only [go_sem, ↓reduceIte, Nat.reduceAdd, Nat.reduceSub, Nat.reduceMul, Nat.reduceEqDiff, reduceCtorEq, Int.reduceAdd, Int.reduceLT, Int.reduceLE, Int.reduceToNat, Int.reduceNeg, Int.reduceSub, ← List.map_take, ← List.map_drop, ne_eq, Nat.reduceLeDiff, Nat.reduceLT, Nat.zero_le, Nat.le_refl, wrap64, wrapu64, wrapu32, ← Int.natCast_add, ← Int.natCast_mul, cast_succ, wrapu32_nat, shr32, reps_wd, map_set_wd, List.length_set, zs_len, Try.f41, f1, Int.reduceEq, places, fillAll, reps, refP, elems]
  refine W_drawn2 ?_
  have pf : ∀ (H : Heap), purify 5 H (.fn 62 [] [.ptr 0 0, .ptr 1 0]) = none := fun H => by simp [purify, AV.pure, AV.pureL]
  simp (maxSteps := 4000000) only [go_sem, ↓reduceIte, Nat.reduceAdd, Nat.reduceSub, Nat.reduceMul, Nat.reduceEqDiff, reduceCtorEq, Int.reduceAdd, Int.reduceLT, Int.reduceLE, Int.reduceToNat, Int.reduceNeg, Int.reduceSub, ← List.map_take, ← List.map_drop, ne_eq, Nat.reduceLeDiff, Nat.reduceLT, Nat.zero_le, Nat.le_refl, wrap64, wrapu64, wrapu32, ← Int.natCast_add, ← Int.natCast_mul, cast_succ, wrapu32_nat, shr32, reps_wd, map_set_wd, List.length_set, zs_len, b1, b2, c1, c2, c3, c4, z1, pf, places, fillAll, reps]
  refine lnK2_kept [0, 1] (0) rfl rfl (by (simp only [upd_apply, ↓reduceIte, Nat.reduceEqDiff, reach, AV.surfL, AV.surf, cellsAt, List.map_cons, List.map_nil, List.append_nil, List.nil_append, List.cons_append, List.flatMap_cons, List.flatMap_nil]); try rfl) (by intro i hi; (try dsimp only); (simp only [List.mem_cons, List.not_mem_nil, or_false] at hi); omega) (hs _ _ (by omega) (by omega) (by decide) (by simp (disch := omega) [Heap.only, upd_apply, if_neg]) (by simp (disch := omega) [Heap.only, upd_apply, if_neg])) (by simp only [AV.pure, AV.pureL, pure_wd]; try rfl) (by (simp only [upd_apply, ↓reduceIte, Nat.reduceEqDiff, List.all_cons, List.all_nil, AV.withinL, AV.within, pure_wd, Option.isSome_some, Bool.true_and, Bool.and_true, Bool.and_self, List.contains_cons, beq_self_eq_true, Bool.or_true, Bool.true_or]); try rfl) ?_
  simp (maxSteps := 4000000) only [go_sem, ↓reduceIte, Nat.reduceAdd, Nat.reduceSub, Nat.reduceMul, Nat.reduceEqDiff, reduceCtorEq, Int.reduceAdd, Int.reduceLT, Int.reduceLE, Int.reduceToNat, Int.reduceNeg, Int.reduceSub, ← List.map_take, ← List.map_drop, ne_eq, Nat.reduceLeDiff, Nat.reduceLT, Nat.zero_le, Nat.le_refl, wrap64, wrapu64, wrapu32, ← Int.natCast_add, ← Int.natCast_mul, cast_succ, wrapu32_nat, shr32, reps_wd, map_set_wd, List.length_set, zs_len, places, fillAll, reps]
  refine ⟨by exact allW_of [(24, 0)] [0, 1, 0, 7, 15, 31, 63, 0, 255, 511] (by kernel_rfl) (by ((simp only [List.flatMap_cons, List.flatMap_nil, cr, List.append_nil, List.nil_append, List.cons_append]); rfl)) (by ((simp (disch := omega) [sts, stB, allS, stOk, cr, Dep.ok, loadEff, upd_apply, if_neg, T1, T2, T3, T4, T5, T6, T7, T8, T9, T10, T11, T12, T13, T14, T15, T16, T17, T18, T19, T20, T21, T22, T23, T24, T25, T26, T27, T29, T30, T31, T33, T34, T35, T37, T38, T39, T40, T42, T43, T44, T45, T46, T47, T48, T50, T51, T53, T55, T56, T57, T58, T59, T60, T61, T62, T63, T64, T65, T66, T67, T68, T69, T70, T71, T72, T73, T74, T75, T76, T77, T78, T79, T80, T81, T82, T83, T84, T85, T86, T87, T88, T89, T90, T92, T94, T95, T96, T97, T98, T99, T100, T101, T102, T104, T105, T106, T107, T108, T109, T111, T112, T113, T115, T116, T117, T118, T119, T120, T121, T122, T123, T124, T125, T126, T127, T128, T129, T130, T131, T132, T133]) <;> (repeat (any_goals apply And.intro)) <;> (first | omega | rfl | (intro hx; first | omega | rfl)))) (by ((repeat ((with_unfolding_all refine And.intro ?_ ?_); (focus ((with_unfolding_all refine ⟨?_, ?_, ?_⟩) <;> ((intro i hi hj); (simp only [cr, Rec.ids, List.map_cons, List.map_nil, List.mem_cons, List.not_mem_nil, or_false, false_or] at hi hj); (first | done | omega)))))); (with_unfolding_all exact True.intro))), ?_⟩
  have l1 := fun h => chSame_spec fp (psi a n0) fy y h hy
  unfold IX
  rcases er_cases (psi a n0) with ⟨e1, e2⟩ | ⟨e1, e2⟩
  · rw [e1, fit_of e2] at p2
    have l1 := l1 e2
    by_cases h : psi a n0 = y
    · rw [decide_eq_true h] at l1
      rw [if_pos h]
      simp (maxSteps := 4000000) only [go_sem, ↓reduceIte, Nat.reduceAdd, Nat.reduceSub, Nat.reduceMul, Nat.reduceEqDiff, reduceCtorEq, Int.reduceAdd, Int.reduceLT, Int.reduceLE, Int.reduceToNat, Int.reduceNeg, Int.reduceSub, ← List.map_take, ← List.map_drop, ne_eq, Nat.reduceLeDiff, Nat.reduceLT, Nat.zero_le, Nat.le_refl, wrap64, wrapu64, wrapu32, ← Int.natCast_add, ← Int.natCast_mul, cast_succ, wrapu32_nat, shr32, reps_wd, map_set_wd, List.length_set, zs_len, p2, l1, Int.reduceEq, places, fillAll, reps]
    · rw [decide_eq_false h] at l1
      rw [if_neg h]
      simp (maxSteps := 4000000) only [go_sem, ↓reduceIte, Nat.reduceAdd, Nat.reduceSub, Nat.reduceMul, Nat.reduceEqDiff, reduceCtorEq, Int.reduceAdd, Int.reduceLT, Int.reduceLE, Int.reduceToNat, Int.reduceNeg, Int.reduceSub, ← List.map_take, ← List.map_drop, ne_eq, Nat.reduceLeDiff, Nat.reduceLT, Nat.zero_le, Nat.le_refl, wrap64, wrapu64, wrapu32, ← Int.natCast_add, ← Int.natCast_mul, cast_succ, wrapu32_nat, shr32, reps_wd, map_set_wd, List.length_set, zs_len, p2, l1, Int.reduceEq, places, fillAll, reps]
  · rw [e1] at p2
    have h : ¬ psi a n0 = y := fun h => e2 (by rw [h]; exact hy)
    rw [if_neg h]
    simp (maxSteps := 4000000) only [go_sem, ↓reduceIte, Nat.reduceAdd, Nat.reduceSub, Nat.reduceMul, Nat.reduceEqDiff, reduceCtorEq, Int.reduceAdd, Int.reduceLT, Int.reduceLE, Int.reduceToNat, Int.reduceNeg, Int.reduceSub, ← List.map_take, ← List.map_drop, ne_eq, Nat.reduceLeDiff, Nat.reduceLT, Nat.zero_le, Nat.le_refl, wrap64, wrapu64, wrapu32, ← Int.natCast_add, ← Int.natCast_mul, cast_succ, wrapu32_nat, shr32, reps_wd, map_set_wd, List.length_set, zs_len, p2, Int.reduceEq, places, fillAll, reps]
end Go.Proofs.Ytmgmcnoobgljpaa

/- Walks: the reference's index. (Own work of this repo.) -/
namespace Go.Proofs.Ytmgmcnoobgljpaa
open Vm Luc
set_option maxRecDepth 10000

theorem psi_step_len {a : Int} (h2 : 2 ≤ a) (ha : (dg a).length ≤ 4096) {j : Nat} (h : (dg (psi a j)).length ≤ 4096) : (dg (psi a (j + 1))).length ≤ 8200 := by
  have g1 : psi a (j + 1) ≤ 2 * a * psi a j + 1 := by
    rcases j with _ | j
    · rw [psi_one, psi_zero]; omega
    · have := (psi_growth (a := a) (by omega) j).2
      rw [show j + 1 + 1 = j + 2 from rfl]; omega
  have g2 := (nonneg (a := a) (by omega) (j + 1)).2
  have k1 := dg_mono (a := psi a (j + 1)) (b := 2 * a * psi a j + 1) (by omega)
  have k2 := dg_add (2 * a * psi a j) 1
  have k3 := dg_mul (2 * a) (psi a j)
  have k4 := dg_mul 2 a
  have k5 := dg_small (z := 1) (by decide)
  have k6 := dg_small (z := 2) (by decide)
  omega
set_option maxHeartbeats 2000000 in
theorem rIndex_spec (a y : Int) (fa fy : Bool) (ha : (dg a).length ≤ 4096) (hy : (dg y).length ≤ 4096) (h2 : 2 ≤ a) (n0 : Nat) (hn0 : y ≤ psi a n0) (hleast : ∀ k, k < n0 → psi a k < y) (hN : n0 ≤ 2 ^ 40) :
    denP E 42 [I fa a, I fy y] = some (.ret (.tup [.int .i64 n0, .bool (decide (psi a n0 = y))])) := by
  refine denP_eq E42 rfl (by simp [AV.pureL, AV.pure, pure_wd]) ?_
  have o1 := rOf_spec 1 (by decide) (by decide)
  rw [RM, show decide ((1 : Int) = 0) = false from rfl] at o1
  have hadd := rAdd_spec fa a fa a (by omega) (by omega)
  have l2a := dg_add a a
  rw [RM, show decide (a + a = 0) = false from decide_eq_false (by omega)] at hadd
  simp (maxSteps := 4000000) only [go_sem, ↓reduceIte, Nat.reduceAdd, Nat.reduceSub, Nat.reduceMul, Nat.reduceEqDiff, reduceCtorEq, Int.reduceAdd, Int.reduceLT, Int.reduceLE, Int.reduceToNat, Int.reduceNeg, Int.reduceSub, ← List.map_take, ← List.map_drop, ne_eq, Nat.reduceLeDiff, Nat.reduceLT, Nat.zero_le, Nat.le_refl, wrap64, wrapu64, wrapu32, ← Int.natCast_add, ← Int.natCast_mul, cast_succ, wrapu32_nat, shr32, reps_wd, map_set_wd, List.length_set, zs_len, Try.f42, o1, hadd, places, fillAll]
  clear o1 hadd
  refine W_loopS (fun k sl h nx => ∃ (i : Nat) (fp fx : Bool), (∃ g : Nat → AV, sl = [g 0, g 1, g 2, .ptr 1 0, g 4, g 5, .ptr 2 0, .ptr 3 0, .ptr 4 0, .int .i64 i, g 10, g 11, g 12, g 13, g 14, g 15, g 16, g 17, g 18, g 19, g 20, g 21, g 22, g 23, g 24, g 25, g 26, g 27, g 28, g 29, g 30, g 31]) ∧ (h 1 = some (crow fy y) ∧ h 2 = some (crow fp (psi a i)) ∧ h 3 = some (crow fx (psi a (i + 1))) ∧ h 4 = some (crow false (a + a))) ∧ nx = 5 ∧ i + k = n0) n0 ⟨0, true, false, garb rfl, ?_, rfl, by omega⟩ ?_
  · rw [psi_zero, psi_one, crow, crow, ng_zero, dg_zero]
    refine ⟨?_, ?_, ?_, ?_⟩ <;> simp only [upd_apply, ↓reduceIte, Nat.reduceEqDiff, if_pos] <;> rfl
  · rintro k _ h _ ⟨i, fp, fx, ⟨g, rfl⟩, ⟨r1, r2, r3, r4⟩, rfl, hk⟩
    simp only [crow] at r1 r2 r3 r4
    have lp : (dg (psi a i)).length ≤ 8200 := by
      rcases Nat.eq_zero_or_pos i with h | h
      · rw [h, psi_zero, dg_zero]; simp
      · obtain ⟨j, rfl⟩ : ∃ j, i = j + 1 := ⟨i - 1, by omega⟩
        have h3 := hleast j (by omega)
        have h4 := (nonneg (a := a) (by omega) j).2
        exact psi_step_len h2 ha (Nat.le_trans (dg_mono (a := psi a j) (b := y) (by omega)) hy)
    have c1 := rCmp_spec fp (psi a i) fy y (by omega) (by omega)
    by_cases hk0 : k = 0
    · subst hk0
      obtain rfl : i = n0 := by omega
      by_cases he : psi a i = y
      · have c2 : cmpI (psi a i) y = 0 := by unfold cmpI; (repeat' split) <;> omega
        rw [decide_eq_true he]
        rw [c2] at c1
        generalize psi a i = p at *
        simp (maxSteps := 4000000) only [go_sem, ↓reduceIte, Nat.reduceAdd, Nat.reduceSub, Nat.reduceMul, Nat.reduceEqDiff, reduceCtorEq, Int.reduceAdd, Int.reduceLT, Int.reduceLE, Int.reduceToNat, Int.reduceNeg, Int.reduceSub, ← List.map_take, ← List.map_drop, ne_eq, Nat.reduceLeDiff, Nat.reduceLT, Nat.zero_le, Nat.le_refl, wrap64, wrapu64, wrapu32, ← Int.natCast_add, ← Int.natCast_mul, cast_succ, wrapu32_nat, shr32, reps_wd, map_set_wd, List.length_set, zs_len, r1, r2, r3, r4, c1, Int.reduceEq, places, fillAll]
      · have c2 : cmpI (psi a i) y = 1 := by unfold cmpI; (repeat' split) <;> omega
        rw [decide_eq_false he]
        rw [c2] at c1
        generalize psi a i = p at *
        simp (maxSteps := 4000000) only [go_sem, ↓reduceIte, Nat.reduceAdd, Nat.reduceSub, Nat.reduceMul, Nat.reduceEqDiff, reduceCtorEq, Int.reduceAdd, Int.reduceLT, Int.reduceLE, Int.reduceToNat, Int.reduceNeg, Int.reduceSub, ← List.map_take, ← List.map_drop, ne_eq, Nat.reduceLeDiff, Nat.reduceLT, Nat.zero_le, Nat.le_refl, wrap64, wrapu64, wrapu32, ← Int.natCast_add, ← Int.natCast_mul, cast_succ, wrapu32_nat, shr32, reps_wd, map_set_wd, List.length_set, zs_len, r1, r2, r3, r4, c1, Int.reduceEq, places, fillAll]
    · have hlt := hleast i (by omega)
      have c2 : cmpI (psi a i) y = -1 := by unfold cmpI; (repeat' split) <;> omega
      rw [c2] at c1
      have h4 := (nonneg (a := a) (by omega) i).2
      have lx : (dg (psi a (i + 1))).length ≤ 8200 := psi_step_len h2 ha (Nat.le_trans (dg_mono (a := psi a i) (b := y) (by omega)) hy)
      have m1 := rMul_spec false (a + a) fx (psi a (i + 1)) (by omega) (by omega)
      have lm := dg_mul (a + a) (psi a (i + 1))
      rw [RM] at m1
      generalize decide ((a + a) * psi a (i + 1) = 0) = d1 at *
      have m2 := rSub_spec d1 ((a + a) * psi a (i + 1)) fp (psi a i) (by omega) (by omega)
      have e2 : (a + a) * psi a (i + 1) - psi a i = psi a (i + 2) := by rw [psi_rec, Int.two_mul]
      rw [e2, RM] at m2
      generalize decide (psi a (i + 2) = 0) = d2 at *
      have w1 : IntKind.i64.wrap ((i + 1 : Nat) : Int) = ((i + 1 : Nat) : Int) := wrap64 (by omega) (by omega)
      simp (maxSteps := 4000000) only [go_sem, ↓reduceIte, Nat.reduceAdd, Nat.reduceSub, Nat.reduceMul, Nat.reduceEqDiff, reduceCtorEq, Int.reduceAdd, Int.reduceLT, Int.reduceLE, Int.reduceToNat, Int.reduceNeg, Int.reduceSub, ← List.map_take, ← List.map_drop, ne_eq, Nat.reduceLeDiff, Nat.reduceLT, Nat.zero_le, Nat.le_refl, wrap64, wrapu64, wrapu32, ← Int.natCast_add, ← Int.natCast_mul, cast_succ, wrapu32_nat, shr32, reps_wd, map_set_wd, List.length_set, zs_len, r1, r2, r3, r4, c1, Int.reduceEq, places, fillAll]
      refine W_drawn ?_
      simp (maxSteps := 4000000) only [go_sem, ↓reduceIte, Nat.reduceAdd, Nat.reduceSub, Nat.reduceMul, Nat.reduceEqDiff, reduceCtorEq, Int.reduceAdd, Int.reduceLT, Int.reduceLE, Int.reduceToNat, Int.reduceNeg, Int.reduceSub, ← List.map_take, ← List.map_drop, ne_eq, Nat.reduceLeDiff, Nat.reduceLT, Nat.zero_le, Nat.le_refl, wrap64, wrapu64, wrapu32, ← Int.natCast_add, ← Int.natCast_mul, cast_succ, wrapu32_nat, shr32, reps_wd, map_set_wd, List.length_set, zs_len, r1, r2, r3, r4, m1, m2, places, fillAll]
      refine ⟨by refine okR_pairs ?_; (repeat ((with_unfolding_all refine And.intro ?_ ?_); (focus (rw [free_mk] <;> (try simp) <;> (try omega))))); (with_unfolding_all exact True.intro), ?_⟩
      simp (maxSteps := 4000000) only [go_sem, ↓reduceIte, Nat.reduceAdd, Nat.reduceSub, Nat.reduceMul, Nat.reduceEqDiff, reduceCtorEq, Int.reduceAdd, Int.reduceLT, Int.reduceLE, Int.reduceToNat, Int.reduceNeg, Int.reduceSub, ← List.map_take, ← List.map_drop, ne_eq, Nat.reduceLeDiff, Nat.reduceLT, Nat.zero_le, Nat.le_refl, wrap64, wrapu64, wrapu32, ← Int.natCast_add, ← Int.natCast_mul, cast_succ, wrapu32_nat, shr32, reps_wd, map_set_wd, List.length_set, zs_len, w1]
      exact ⟨k - 1, by omega, i + 1, fx, d2, garb rfl, ⟨rfl, rfl⟩, by omega⟩
end Go.Proofs.Ytmgmcnoobgljpaa
