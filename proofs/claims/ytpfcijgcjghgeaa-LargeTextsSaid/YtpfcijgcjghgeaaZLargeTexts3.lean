/- Part 3 of a proof about this seat: Sh4, Pow1, Bit1, Pow2, Under, Odd, Bits, Und, Knuth, Digit, Div1, Dec, Prs, Stat, Txt1, Prs1. (Own work of this repo.) -/
import Derived.Test.YtpfcijgcjghgeaaZLargeTexts2
import Derived.Laws.Strings
set_option linter.unusedVariables false
set_option linter.unusedSimpArgs false
/- Walks of the reference of chapter 1: Shift. (Own work of this repo.) -/
namespace Go.Proofs.Ytpfcijgcjghgeaa
open Vm
set_option maxRecDepth 10000

theorem vp_app_lo (a b : List Nat) : ∀ n, n ≤ a.length → vp (a ++ b) n = vp a n := by
  intro n h
  refine vp_congr n fun i hi => ?_
  rw [List.getD_eq_getElem?_getD, List.getD_eq_getElem?_getD, List.getElem?_append_left (by omega)]
theorem val_app (a b : List Nat) : val (a ++ b) = val a + BB ^ a.length * val b := by
  have h := val_split (a := a ++ b) (q := a.length) (by rw [List.length_append]; omega)
  rw [vp_app_lo a b _ (Nat.le_refl _), List.drop_left] at h
  exact h
theorem inR_app {a b : List Nat} (ha : InR a) (hb : InR b) : InR (a ++ b) := fun x hx => by
  rcases List.mem_append.1 hx with h | h
  · exact ha x h
  · exact hb x h
theorem rShift_pos (m : Bool) (x : Int) (n : Nat) (hx : (dg x).length < 2 ^ 36) (hn : n < 2 ^ 37) : ∃ f : Bool, denP E 38 [I m x, .int .i64 n] = some (.ret (I f (x * 2 ^ n))) ∧ True := by
  refine denP_ex E38 rfl (by simp [AV.pureL, AV.pure, pure_wd]) ?_
  have h1 := rZero_spec m x
  by_cases h0 : x = 0
  · rw [decide_eq_true h0] at h1
    have e3 : x * 2 ^ n = x := by rw [h0, Int.zero_mul]
    rw [e3]
    simp (maxSteps := 4000000) (disch := omega) only [go_sem, ↓reduceIte, Nat.reduceAdd, Nat.reduceSub, Nat.reduceMul, Nat.reduceEqDiff, reduceCtorEq, Int.reduceAdd, Int.reduceLT, Int.reduceLE, Int.reduceToNat, Int.reduceNeg, Int.reduceSub, ← List.map_take, ← List.map_drop, wrap64, wrapu64, wrapu32, Try.f38, h1]
    exact ⟨m, rfl⟩
  · rw [decide_eq_false h0] at h1
    have e1 : (n : Int).tdiv 32 = ((n / 32 : Nat) : Int) := rfl
    have e2 : (n : Int).tmod 32 = ((n % 32 : Nat) : Int) := rfl
    have hpow := pow32 n
    have hsh := shl_abs x n
    generalize hq : n / 32 = q at *
    generalize hk : n % 32 = k at *
    obtain ⟨o, h2, hor, hol, hov⟩ := shifted_walk m (dg x) k (dg_inR x) (by omega) (by omega)
    rw [val_dg] at hov
    have hv : val (zs q ++ o) = x.natAbs * 2 ^ n := by
      rw [val_app, zs_len, hov, show val (zs q) = 0 from zs_vp _ _, hpow]; generalize BB ^ q = w; generalize 2 ^ k = v; grind
    have hlen : (zs q ++ o).length = q + o.length := by rw [List.length_append, zs_len]
    have h3 := rMake_z (neg := ng x) (nl := false) (w := zs q ++ o) (z := x * 2 ^ n) (inR_app (zs_inR q) hor) (by omega) (by rw [hv, hsh])
    clear hv hov hpow hsh
    simp (maxSteps := 4000000) (disch := omega) only [go_sem, ↓reduceIte, Nat.reduceAdd, Nat.reduceSub, Nat.reduceMul, Nat.reduceEqDiff, reduceCtorEq, Int.reduceAdd, Int.reduceLT, Int.reduceLE, Int.reduceToNat, Int.reduceNeg, Int.reduceSub, ← List.map_take, ← List.map_drop, wrap64, wrapu64, wrapu32, ← Int.natCast_add, ← Int.natCast_mul, cast_succ, wrapu32_nat, shr32, reps_wd, map_set_wd, List.length_set, zs_len, Try.f38, h1]
    refine W_drawn ?_
    simp (maxSteps := 4000000) (disch := omega) only [go_sem, ↓reduceIte, Nat.reduceAdd, Nat.reduceSub, Nat.reduceMul, Nat.reduceEqDiff, reduceCtorEq, Int.reduceAdd, Int.reduceLT, Int.reduceLE, Int.reduceToNat, Int.reduceNeg, Int.reduceSub, ← List.map_take, ← List.map_drop, wrap64, wrapu64, wrapu32, ← Int.natCast_add, ← Int.natCast_mul, cast_succ, wrapu32_nat, shr32, reps_wd, map_set_wd, List.length_set, zs_len, e1, e2, appendEff, srcCells, h2, zs_len, ← List.map_append, hlen, List.take_of_length_le, h3]
    exact ⟨by rfl, _, rfl⟩
/-- In place: each word with the low part of the next one. -/
theorem top_zero {o : List Nat} {k : Nat} (hl : o.length = k + 1) (h : val o < BB ^ k) : o.getD k 0 = 0 := by
  rw [val, hl, vp] at h
  rcases Nat.eq_zero_or_pos (o.getD k 0) with h0 | h0
  · exact h0
  · have : 1 * BB ^ k ≤ o.getD k 0 * BB ^ k := Nat.mul_le_mul_right _ h0
    omega
/-- A word with the low part of the next one. -/
def rwd (s : Nat) (o : List Nat) (t : Nat) : Nat := (o.getD t 0 + o.getD (t + 1) 0 * 4294967296) / 2 ^ s % 4294967296
theorem rShift_neg (m : Bool) (x : Int) (n : Nat) (hx : (dg x).length < 2 ^ 31) (hn : 0 < n) (hn2 : n ≤ 2 ^ 63) : ∃ f : Bool, denP E 38 [I m x, .int .i64 (-(n : Int))] = some (.ret (I f (x / 2 ^ n))) ∧ True := by
  obtain ⟨k, hk⟩ : ∃ k : Nat, k = min n (32 * (dg x).length + 1) := ⟨_, rfl⟩
  have hfl : x / 2 ^ n = x / 2 ^ k := by
    by_cases hnk : n ≤ 32 * (dg x).length
    · rw [show k = n by omega]
    · exact floor_far (Nat.le_refl _) (by omega) (by omega)
  have hk0 : 0 < k := by omega
  have hk1 : k ≤ 32 * (dg x).length + 1 := by omega
  have p2 : ((2 ^ k : Nat) : Int) = 2 ^ k := by push_cast; rfl
  have hc : 0 < 2 ^ k := Nat.pow_pos (by decide)
  have e1 : (k : Int).tdiv 32 = ((k / 32 : Nat) : Int) := rfl
  have e2 : (k : Int).tmod 32 = ((k % 32 : Nat) : Int) := rfl
  -- what is out
  obtain ⟨w, hw⟩ : ∃ w : Int, w = sg (ng x) (x.natAbs / 2 ^ k) := ⟨_, rfl⟩
  have hwl : (dg w).length ≤ (dg x).length := by
    rw [hw, dg_sg]; exact dig_mono (Nat.div_le_self _ _)
  refine denP_ex E38 rfl (by simp [AV.pureL, AV.pure, pure_wd]) ?_
  rw [hfl]
  simp (maxSteps := 4000000) (disch := omega) only [go_sem, ↓reduceIte, Nat.reduceAdd, Nat.reduceSub, Nat.reduceMul, Nat.reduceEqDiff, reduceCtorEq, Int.reduceAdd, Int.reduceLT, Int.reduceLE, Int.reduceToNat, Int.reduceNeg, Int.reduceSub, ← List.map_take, ← List.map_drop, wrap64, wrapu64, wrapu32, ← Int.natCast_add, ← Int.natCast_mul, cast_succ, wrapu32_nat, shr32, reps_wd, map_set_wd, List.length_set, zs_len, Try.f38]
  refine condK_mono (Q := fun e σ => e = .norm ∧ (∃ g : Nat → AV, σ.sl = [g 0, .int .i64 (-(k : Int)), .ptr 0 0, g 3, .ptr 1 0, g 5, g 6, g 7, g 8, g 9, g 10, g 11, g 12, g 13, g 14, g 15, g 16, g 17, g 18, g 19, g 20, g 21, g 22, g 23, g 24, g 25, g 26, g 27, g 28, g 29, g 30, g 31, g 32, g 33, g 34, g 35, g 36, g 37, g 38, g 39, g 40, g 41, g 42, g 43, g 44, g 45, g 46, g 47, g 48, g 49, g 50, g 51, g 52, g 53, g 54, g 55, g 56, g 57, g 58, g 59, g 60, g 61, g 62, g 63, g 64, g 65, g 66, g 67, g 68, g 69, g 70, g 71, g 72, g 73, g 74, g 75, g 76, g 77, g 78, g 79, g 80, g 81, g 82, g 83, g 84, g 85, g 86, g 87, g 88, g 89, g 90, g 91, g 92, g 93, g 94, g 95, g 96]) ∧ σ.nx = 2 ∧
    σ.h 0 = some ⟨[.bool (ng x), .lst m ((dg x).map wd)], true, 2, false⟩ ∧ σ.h 1 = some ⟨[.bool false, .lst true []], true, 2, false⟩) ?_ ?_
  · rintro e ⟨sl, H, nx⟩ ⟨rfl, ⟨g, hs⟩, rfl, h0, h1⟩
    dsimp only at hs h0 h1
    subst hs
    have e3 : (0 : Int) - -(k : Int) = (k : Int) := by omega
    simp (maxSteps := 4000000) (disch := omega) only [go_sem, ↓reduceIte, Nat.reduceAdd, Nat.reduceSub, Nat.reduceMul, Nat.reduceEqDiff, reduceCtorEq, Int.reduceAdd, Int.reduceLT, Int.reduceLE, Int.reduceToNat, Int.reduceNeg, Int.reduceSub, ← List.map_take, ← List.map_drop, wrap64, wrapu64, wrapu32, ← Int.natCast_add, ← Int.natCast_mul, cast_succ, wrapu32_nat, shr32, reps_wd, map_set_wd, List.length_set, zs_len, h0, h1, e3, e1, places, fillAll]
    refine condK_mono (Q := fun e σ => e = .norm ∧ ∃ f N, (∃ g : Nat → AV, σ.sl = [g 0, .int .i64 k, .ptr 0 0, g 3, .ptr 1 0, .ptr 2 0, g 6, g 7, g 8, g 9, g 10, g 11, g 12, g 13, g 14, g 15, g 16, g 17, g 18, g 19, g 20, g 21, g 22, g 23, g 24, g 25, g 26, g 27, g 28, g 29, g 30, g 31, g 32, g 33, g 34, g 35, g 36, g 37, g 38, g 39, g 40, g 41, g 42, g 43, g 44, g 45, g 46, g 47, g 48, g 49, g 50, g 51, g 52, g 53, g 54, g 55, g 56, g 57, g 58, g 59, g 60, g 61, g 62, g 63, g 64, g 65, g 66, g 67, g 68, g 69, g 70, g 71, g 72, g 73, g 74, g 75, g 76, g 77, g 78, g 79, g 80, g 81, g 82, g 83, g 84, g 85, g 86, g 87, g 88, g 89, g 90, g 91, g 92, g 93, g 94, g 95, g 96]) ∧ σ.nx = N ∧
      σ.h 0 = some ⟨[.bool (ng x), .lst m ((dg x).map wd)], true, 2, false⟩ ∧ σ.h 1 = some ⟨[.bool false, .lst true []], true, 2, false⟩ ∧ σ.h 2 = some ⟨[.bool (ng w), .lst f ((dg w).map wd)], true, 2, false⟩) ?_ ?_
    · rintro e ⟨sl, H, nx⟩ ⟨rfl, f, N, ⟨g, hs⟩, rfl, h0, h1, h2⟩
      dsimp only at hs h0 h1 h2
      subst hs
      simp (maxSteps := 4000000) (disch := omega) only [go_sem, ↓reduceIte, Nat.reduceAdd, Nat.reduceSub, Nat.reduceMul, Nat.reduceEqDiff, reduceCtorEq, Int.reduceAdd, Int.reduceLT, Int.reduceLE, Int.reduceToNat, Int.reduceNeg, Int.reduceSub, ← List.map_take, ← List.map_drop, wrap64, wrapu64, wrapu32, ← Int.natCast_add, ← Int.natCast_mul, cast_succ, wrapu32_nat, shr32, reps_wd, map_set_wd, List.length_set, zs_len]
      refine W_drawn ?_
      cases hng : ng x with
      | false =>
        have hwx : w = x / ((2 ^ k : Nat) : Int) := by
          have hx0 := ng_false.1 hng
          rw [hw, hng]
          conv => rhs; rw [show x = ((x.natAbs : Nat) : Int) by omega, floor_pos]
          rfl
        rw [hng] at h0
        rw [← p2, ← hwx]
        clear hw hwx p2 hfl hc
        simp (maxSteps := 4000000) (disch := omega) only [go_sem, ↓reduceIte, Nat.reduceAdd, Nat.reduceSub, Nat.reduceMul, Nat.reduceEqDiff, reduceCtorEq, Int.reduceAdd, Int.reduceLT, Int.reduceLE, Int.reduceToNat, Int.reduceNeg, Int.reduceSub, ← List.map_take, ← List.map_drop, wrap64, wrapu64, wrapu32, ← Int.natCast_add, ← Int.natCast_mul, cast_succ, wrapu32_nat, shr32, reps_wd, map_set_wd, List.length_set, zs_len, h0, h1, h2]
        refine ⟨by rfl, f, rfl⟩
      | true =>
        have hx0 := ng_true.1 hng
        have hwn : w = -((x.natAbs / 2 ^ k : Nat) : Int) := by rw [hw, hng]; rfl
        have ex : x / ((2 ^ k : Nat) : Int) = -((x.natAbs / 2 ^ k + (if x.natAbs % 2 ^ k = 0 then 0 else 1) : Nat) : Int) := by
          conv => lhs; rw [show x = -((x.natAbs : Nat) : Int) by omega, floor_neg _ _ hc]
        have hdm := Nat.div_add_mod x.natAbs (2 ^ k)
        have hwx : w * 2 ^ k = x ↔ x.natAbs % 2 ^ k = 0 := by
          rw [← p2, hwn]
          have e : -((x.natAbs / 2 ^ k : Nat) : Int) * ((2 ^ k : Nat) : Int) = -(((2 ^ k) * (x.natAbs / 2 ^ k) : Nat) : Int) := by
            rw [Int.neg_mul, Int.natCast_mul, Int.mul_comm]
          rw [e]
          generalize 2 ^ k * (x.natAbs / 2 ^ k) = d at *
          omega
        obtain ⟨f2, h3, _⟩ := rShift_pos f w k (by omega) (by omega)
        have hwl2 : (dg (w * 2 ^ k)).length < 2 ^ 40 := by
          have h4 := dig_shl w.natAbs k
          have h5 : dg (w * 2 ^ k) = dig (w.natAbs * 2 ^ k) := by
            unfold dg; rw [Int.natAbs_mul, Int.natAbs_pow]; rfl
          have h6 : (dig w.natAbs).length ≤ (dg x).length := hwl
          rw [h5]; omega
        have h4 := rCmp_spec f2 (w * 2 ^ k) m x hwl2 (by omega)
        simp only [I, hng] at h4
        rw [hng] at h0
        by_cases hr : x.natAbs % 2 ^ k = 0
        · have hcm : cmpI (w * 2 ^ k) x = 0 := by rw [hwx.2 hr]; unfold cmpI; rw [if_neg (by omega), if_neg (by omega)]
          rw [hcm] at h4
          have hres : w = x / ((2 ^ k : Nat) : Int) := by rw [ex, if_pos hr, hwn]; rfl
          rw [← p2, ← hres]
          clear hw hwn ex hdm hwx hres p2 hfl hc hr
          simp (maxSteps := 4000000) (disch := omega) only [go_sem, ↓reduceIte, Nat.reduceAdd, Nat.reduceSub, Nat.reduceMul, Nat.reduceEqDiff, reduceCtorEq, Int.reduceAdd, Int.reduceLT, Int.reduceLE, Int.reduceToNat, Int.reduceNeg, Int.reduceSub, ← List.map_take, ← List.map_drop, wrap64, wrapu64, wrapu32, ← Int.natCast_add, ← Int.natCast_mul, cast_succ, wrapu32_nat, shr32, reps_wd, map_set_wd, List.length_set, zs_len, h0, h1, h2, h3, h4]
          exact ⟨by rfl, f, rfl⟩
        · have hcm : cmpI (w * 2 ^ k) x ≠ 0 := by
            intro h
            unfold cmpI at h
            refine hr (hwx.1 ?_)
            split at h
            · omega
            · split at h
              · omega
              · omega
          have hres : w - 1 = x / ((2 ^ k : Nat) : Int) := by rw [ex, if_neg hr, hwn]; omega
          have h5 := rOf_spec 1 (by decide) (by decide)
          have h6 := rSub_spec f w false 1 (by omega) (by have := dg_small (z := 1) (by decide); omega)
          rw [← p2, ← hres]
          generalize cmpI (w * 2 ^ k) x = cv at *
          clear hw hwn ex hdm hwx hres p2 hfl hc hr
          simp (maxSteps := 4000000) (disch := omega) only [go_sem, ↓reduceIte, Nat.reduceAdd, Nat.reduceSub, Nat.reduceMul, Nat.reduceEqDiff, reduceCtorEq, Int.reduceAdd, Int.reduceLT, Int.reduceLE, Int.reduceToNat, Int.reduceNeg, Int.reduceSub, ← List.map_take, ← List.map_drop, wrap64, wrapu64, wrapu32, ← Int.natCast_add, ← Int.natCast_mul, cast_succ, wrapu32_nat, shr32, reps_wd, map_set_wd, List.length_set, zs_len, h0, h1, h2, h3, h4]
          refine ⟨by rfl, ?_⟩
          refine W_drawn ?_
          simp (maxSteps := 4000000) (disch := omega) only [go_sem, ↓reduceIte, Nat.reduceAdd, Nat.reduceSub, Nat.reduceMul, Nat.reduceEqDiff, reduceCtorEq, Int.reduceAdd, Int.reduceLT, Int.reduceLE, Int.reduceToNat, Int.reduceNeg, Int.reduceSub, ← List.map_take, ← List.map_drop, wrap64, wrapu64, wrapu32, ← Int.natCast_add, ← Int.natCast_mul, cast_succ, wrapu32_nat, shr32, reps_wd, map_set_wd, List.length_set, zs_len, h0, h1, h2, h5, h6]
          exact ⟨by rfl, _, rfl⟩
    · by_cases hql : (dg x).length ≤ k / 32
      · have hw0 : w = 0 := by
          have h4 : x.natAbs < BB ^ (k / 32) := dg_len.1 hql
          have h5 : x.natAbs < 2 ^ k := by
            refine Nat.lt_of_lt_of_le h4 ?_
            rw [show BB = 2 ^ 32 from rfl, ← Nat.pow_mul]
            exact Nat.pow_le_pow_right (by decide) (by omega)
          rw [hw, Nat.div_eq_of_lt h5]; unfold sg; split <;> rfl
        subst hw0
        clear hw p2 hfl hc
        simp (maxSteps := 4000000) (disch := omega) only [go_sem, ↓reduceIte, Nat.reduceAdd, Nat.reduceSub, Nat.reduceMul, Nat.reduceEqDiff, reduceCtorEq, Int.reduceAdd, Int.reduceLT, Int.reduceLE, Int.reduceToNat, Int.reduceNeg, Int.reduceSub, ← List.map_take, ← List.map_drop, wrap64, wrapu64, wrapu32, ← Int.natCast_add, ← Int.natCast_mul, cast_succ, wrapu32_nat, shr32, reps_wd, map_set_wd, List.length_set, zs_len, h0, h1, ng_zero, dg_zero]
        exact ⟨true, 3, garb rfl, rfl, rfl⟩
      · have hlx : k / 32 < (dg x).length := by omega
        have hpow := pow32 k
        have hsr : k % 32 < 32 := Nat.mod_lt _ (by decide)
        obtain ⟨b, hb⟩ : ∃ b, b = (dg x).drop (k / 32) := ⟨_, rfl⟩
        generalize k / 32 = q at *
        generalize hs : k % 32 = s at *
        have hbl : b.length = (dg x).length - q := by rw [hb, List.length_drop]
        have hbr : InR b := by rw [hb]; exact (dg_inR x).drop q
        have hwb : w = sg (ng x) (val b / 2 ^ s) := by
          have hsplit := val_split (a := dg x) (q := q) (by omega)
          rw [← hb, val_dg] at hsplit
          have hvq := vp_lt (dg_inR x) q
          rw [hw, hsplit, hpow, Nat.mul_comm (2 ^ s), ← Nat.div_div_eq_div_mul, Nat.add_mul_div_left _ _ (Nat.pow_pos (by decide)), Nat.div_eq_of_lt hvq, Nat.zero_add]
        have hb' : (dg x).drop q = b := hb.symm
        have e5 : ((dg x).length : Int) - q = (b.length : Int) := by omega
        have hsh := shifted_open m b 0 hbr (by omega) (by decide)
        simp only [show (((0 : Nat) : Int)) = 0 from rfl] at hsh
        obtain ⟨L, hL⟩ : ∃ L, L = b.length + 1 := ⟨_, rfl⟩
        rw [← hL] at hsh
        clear hw p2 hfl hc hpow hwl hb
        simp (maxSteps := 4000000) (disch := omega) only [go_sem, ↓reduceIte, Nat.reduceAdd, Nat.reduceSub, Nat.reduceMul, Nat.reduceEqDiff, reduceCtorEq, Int.reduceAdd, Int.reduceLT, Int.reduceLE, Int.reduceToNat, Int.reduceNeg, Int.reduceSub, ← List.map_take, ← List.map_drop, wrap64, wrapu64, wrapu32, ← Int.natCast_add, ← Int.natCast_mul, cast_succ, wrapu32_nat, shr32, reps_wd, map_set_wd, List.length_set, zs_len, h0, h1, cutBounds, List.take_of_length_le, e1, hb']
        refine openK_ex (hsh _ _) ?_
        rintro o H' ⟨ho2, ho3, hor, hol, hov⟩
        clear hsh
        have h0' := ho3 0 (by decide)
        have h1' := ho3 1 (by decide)
        have h2' := ho3 2 (by decide)
        rw [upd_ne (by decide), upd_ne (by decide)] at h0' h1'
        rw [upd_same] at h2'
        rw [h0] at h0'
        rw [h1] at h1'
        clear ho3 h0 h1
        rw [Nat.pow_zero, Nat.mul_one] at hov
        have htop : o.getD b.length 0 = 0 := top_zero (hol.trans hL) (by rw [hov]; exact val_lt hbr)
        simp (maxSteps := 4000000) (disch := omega) only [go_sem, ↓reduceIte, Nat.reduceAdd, Nat.reduceSub, Nat.reduceMul, Nat.reduceEqDiff, reduceCtorEq, Int.reduceAdd, Int.reduceLT, Int.reduceLE, Int.reduceToNat, Int.reduceNeg, Int.reduceSub, ← List.map_take, ← List.map_drop, wrap64, wrapu64, wrapu32, ← Int.natCast_add, ← Int.natCast_mul, cast_succ, wrapu32_nat, shr32, reps_wd, map_set_wd, List.length_set, zs_len]
        refine W_loopS (fun j sl H nx => ∃ (i : Nat) (p : List Nat), (∃ g : Nat → AV, sl = [g 0, .int .i64 k, .ptr 0 0, g 3, .ptr 1 0, .ptr 2 0, .ref 3 0 L, .int .i64 i, g 8, g 9, g 10, g 11, g 12, g 13, g 14, g 15, g 16, g 17, g 18, g 19, g 20, g 21, g 22, g 23, g 24, g 25, g 26, g 27, g 28, g 29, g 30, g 31, g 32, g 33, g 34, g 35, g 36, g 37, g 38, g 39, g 40, g 41, g 42, g 43, g 44, g 45, g 46, g 47, g 48, g 49, g 50, g 51, g 52, g 53, g 54, g 55, g 56, g 57, g 58, g 59, g 60, g 61, g 62, g 63, g 64, g 65, g 66, g 67, g 68, g 69, g 70, g 71, g 72, g 73, g 74, g 75, g 76, g 77, g 78, g 79, g 80, g 81, g 82, g 83, g 84, g 85, g 86, g 87, g 88, g 89, g 90, g 91, g 92, g 93, g 94, g 95, g 96]) ∧ nx = 4 ∧
          H 0 = some ⟨[.bool (ng x), .lst m ((dg x).map wd)], true, 2, false⟩ ∧ H 1 = some ⟨[.bool false, .lst true []], true, 2, false⟩ ∧ H 2 = some ⟨[.bool false, .lst true []], true, 2, false⟩ ∧
          H 3 = some ⟨p.map wd, false, 1, false⟩ ∧ p.length = L ∧ InR p ∧ i + j = b.length ∧ Hd (∀ t, t < i → p.getD t 0 = rwd s o t) ∧ Hd (∀ t, i ≤ t → p.getD t 0 = o.getD t 0)) b.length
          ⟨0, o, garb rfl, rfl, h0', h1', h2', ho2, hol, hor, by omega, ⟨fun t ht => by omega⟩, ⟨fun t ht => rfl⟩⟩ ?_
        clear h0' h1' h2' ho2
        rintro j _ H' _ ⟨i, p, ⟨g, rfl⟩, rfl, h0, h1, h2, h3, hpl, hpr, hi, hv, hz⟩
        by_cases hj : j = 0
        · obtain rfl : i = b.length := by omega
          have hval : val p = val b / 2 ^ s := by
            have hrv := right_val (o := p) (b := o) hsr hor (by omega) (fun t ht => by
              by_cases htb : t < b.length
              · exact hv.out t htb
              · obtain rfl : t = b.length := by omega
                rw [hz.out _ (Nat.le_refl _), htop, getD_ge (by omega), Nat.zero_mul, Nat.zero_add, Nat.zero_div])
            rw [← hov, hrv, Nat.mul_add_div (Nat.pow_pos (by decide)), Nat.div_eq_of_lt (Nat.mod_lt _ (Nat.pow_pos (by decide))), Nat.add_zero]
          have hmk := rMake_z (neg := ng x) (nl := false) (w := p) (z := w) hpr (by omega) (by rw [hval, hwb])
          clear hv hz hval hwb
          simp (maxSteps := 4000000) (disch := omega) only [go_sem, ↓reduceIte, Nat.reduceAdd, Nat.reduceSub, Nat.reduceMul, Nat.reduceEqDiff, reduceCtorEq, Int.reduceAdd, Int.reduceLT, Int.reduceLE, Int.reduceToNat, Int.reduceNeg, Int.reduceSub, ← List.map_take, ← List.map_drop, wrap64, wrapu64, wrapu32, ← Int.natCast_add, ← Int.natCast_mul, cast_succ, wrapu32_nat, shr32, reps_wd, map_set_wd, List.length_set, zs_len, h0, h1, h2, h3, hpl, List.take_of_length_le, hmk]
          refine ⟨decide (w = 0), 4, ?_, rfl, rfl⟩
          exact garb rfl
        · have hbb : b.length < 2147483648 := by omega
          clear hx
          have hx := hor.get i
          have hy := hor.get (i + 1)
          have hpx := hz.out i (Nat.le_refl _)
          have hpy := hz.out (i + 1) (by omega)
          have e6 := shl32 hy
          obtain ⟨Y, hY⟩ : ∃ Y, Y = o.getD (i + 1) 0 * 4294967296 := ⟨_, rfl⟩
          have hYb : Y ≤ 18446744069414584320 := by omega
          rw [← hY] at e6
          obtain ⟨X, hX⟩ : ∃ X, X = o.getD i 0 + Y := ⟨_, rfl⟩
          have hXb : X / 2 ^ s < 18446744073709551616 := Nat.lt_of_le_of_lt (Nat.div_le_self _ _) (by omega)
          have hXb2 : X < 18446744073709551616 := by omega
          have e7 := and_low hXb
          obtain ⟨Z, hZ⟩ : ∃ Z, Z = X / 2 ^ s % 4294967296 := ⟨_, rfl⟩
          have hZb : Z < 4294967296 := by rw [hZ]; exact Nat.mod_lt _ (by decide)
          have e8 : Z % 4294967296 = Z := Nat.mod_eq_of_lt hZb
          have e9 : o.getD i 0 + Y = X := hX.symm
          rw [← hZ] at e7
          have stp : Hd (∀ t, t < i + 1 → (p.set i Z).getD t 0 = rwd s o t) := by
            refine ⟨fun t ht => ?_⟩
            by_cases hti : t = i
            · subst hti; rw [lget_set_self (by omega), hZ, hX, hY]; rfl
            · rw [lget_set_ne (by omega)]; exact hv.out t (by omega)
          have stz : Hd (∀ t, i + 1 ≤ t → (p.set i Z).getD t 0 = o.getD t 0) := ⟨fun t ht => by rw [lget_set_ne (by omega)]; exact hz.out t (by omega)⟩
          clear hv hz hX hZ hY hwb hov htop hXb e1 e3 e5 hql hlx hbl hb' hs hk hk0 hk1 hn hn2 hol hor hbr
          simp (maxSteps := 4000000) (disch := omega) only [go_sem, ↓reduceIte, Nat.reduceAdd, Nat.reduceSub, Nat.reduceMul, Nat.reduceEqDiff, reduceCtorEq, Int.reduceAdd, Int.reduceLT, Int.reduceLE, Int.reduceToNat, Int.reduceNeg, Int.reduceSub, ← List.map_take, ← List.map_drop, wrap64, wrapu64, wrapu32, ← Int.natCast_add, ← Int.natCast_mul, cast_succ, wrapu32_nat, shr32, reps_wd, map_set_wd, List.length_set, zs_len, h0, h1, h2, h3, hpl]
          refine W_mono (Q := fun e σ => e = .norm ∧ (∃ g : Nat → AV, σ.sl = [g 0, .int .i64 k, .ptr 0 0, g 3, .ptr 1 0, .ptr 2 0, .ref 3 0 L, .int .i64 i, g 8, g 9, g 10, g 11, g 12, g 13, g 14, g 15, g 16, g 17, g 18, g 19, g 20, g 21, g 22, g 23, g 24, g 25, g 26, g 27, g 28, g 29, g 30, g 31, g 32, g 33, g 34, g 35, g 36, g 37, g 38, g 39, g 40, g 41, g 42, g 43, g 44, g 45, g 46, g 47, g 48, g 49, g 50, g 51, g 52, g 53, g 54, g 55, g 56, g 57, g 58, g 59, g 60, g 61, g 62, g 63, g 64, g 65, g 66, g 67, g 68, g 69, g 70, g 71, g 72, g 73, g 74, g 75, g 76, g 77, g 78, g 79, g 80, g 81, g 82, g 83, g 84, g 85, g 86, g 87, g 88, g 89, g 90, g 91, g 92, g 93, g 94, g 95, g 96]) ∧ σ.nx = 4 ∧
            σ.h 0 = some ⟨[.bool (ng x), .lst m ((dg x).map wd)], true, 2, false⟩ ∧ σ.h 1 = some ⟨[.bool false, .lst true []], true, 2, false⟩ ∧ σ.h 2 = some ⟨[.bool false, .lst true []], true, 2, false⟩ ∧ σ.h 3 = some ⟨(p.set i Z).map wd, false, 1, false⟩) (W_drawn ?_) ?_
          · have hip1 : i < L := by omega
            have hip2 : i + 1 < L := by omega
            have hLb : L < 2147483649 := by omega
            have hin : (0 : Int) ≤ (i : Int) := by omega
            clear hi hj hbb hL stp stz hZb
            have w1 := wrapu64 (x := ((o.getD (i + 1) 0 : Nat) : Int)) (by omega) (by omega)
            have w2 := wrapu64 (x := ((o.getD i 0 : Nat) : Int)) (by omega) (by omega)
            have w3 := wrapu64 (x := ((X : Nat) : Int)) (by omega) (by omega)
            have w4 := wrap64 (x := ((i + 1 : Nat) : Int)) (by omega) (by omega)
            simp (maxSteps := 4000000) (disch := omega) only [go_sem, ↓reduceIte, Nat.reduceAdd, Nat.reduceSub, Nat.reduceMul, Nat.reduceEqDiff, reduceCtorEq, Int.reduceAdd, Int.reduceLT, Int.reduceLE, Int.reduceToNat, Int.reduceNeg, Int.reduceSub, ← List.map_take, ← List.map_drop, ← Int.natCast_add, ← Int.natCast_mul, cast_succ, wrapu32_nat, shr32, reps_wd, map_set_wd, List.length_set, zs_len, h0, h1, h2, h3, hpl, hpx, hpy, w1, w2, w3, w4, e6, e2, shr_k, e7, e8, e9]
            exact ⟨by rfl, garb rfl⟩
          · rintro e ⟨sl, H, nx⟩ ⟨rfl, ⟨g, hs⟩, rfl, h0, h1, h2, h3⟩
            dsimp only at hs h0 h1 h2 h3
            subst hs
            simp (maxSteps := 4000000) (disch := omega) only [go_sem, ↓reduceIte, Nat.reduceAdd, Nat.reduceSub, Nat.reduceMul, Nat.reduceEqDiff, reduceCtorEq, Int.reduceAdd, Int.reduceLT, Int.reduceLE, Int.reduceToNat, Int.reduceNeg, Int.reduceSub, ← List.map_take, ← List.map_drop, wrap64, wrapu64, wrapu32, ← Int.natCast_add, ← Int.natCast_mul, cast_succ, wrapu32_nat, shr32, reps_wd, map_set_wd, List.length_set, zs_len, h0, h1, h2, h3]
            exact ⟨j - 1, by omega, i + 1, p.set i Z, garb rfl, rfl, by rw [List.length_set, hpl], hpr.set hZb, by omega, stp, stz⟩
  · by_cases hcl : 32 * (dg x).length < n
    · have e4 : (-32 : Int) * ((dg x).length : Int) - 1 = -(k : Int) := by omega
      simp (maxSteps := 4000000) (disch := omega) only [go_sem, ↓reduceIte, Nat.reduceAdd, Nat.reduceSub, Nat.reduceMul, Nat.reduceEqDiff, reduceCtorEq, Int.reduceAdd, Int.reduceLT, Int.reduceLE, Int.reduceToNat, Int.reduceNeg, Int.reduceSub, ← List.map_take, ← List.map_drop, wrap64, wrapu64, wrapu32, ← Int.natCast_add, ← Int.natCast_mul, cast_succ, wrapu32_nat, shr32, reps_wd, map_set_wd, List.length_set, zs_len, e4]
      exact garb rfl
    · have e4 : -(n : Int) = -(k : Int) := by omega
      simp (maxSteps := 4000000) (disch := omega) only [go_sem, ↓reduceIte, Nat.reduceAdd, Nat.reduceSub, Nat.reduceMul, Nat.reduceEqDiff, reduceCtorEq, Int.reduceAdd, Int.reduceLT, Int.reduceLE, Int.reduceToNat, Int.reduceNeg, Int.reduceSub, ← List.map_take, ← List.map_drop, wrap64, wrapu64, wrapu32, ← Int.natCast_add, ← Int.natCast_mul, cast_succ, wrapu32_nat, shr32, reps_wd, map_set_wd, List.length_set, zs_len, e4]
      exact garb rfl
end Go.Proofs.Ytpfcijgcjghgeaa

/- Walks: Power. (Own work of this repo.) -/
namespace Go.Proofs.Ytpfcijgcjghgeaa
open Vm
set_option maxRecDepth 10000

theorem pow_big {x : Int} {e n : Nat} (h : ¬ (dg (x ^ e)).length ≤ 4096) (hen : e ≤ n) : ¬ (dg (x ^ n)).length ≤ 4096 := by
  intro h2
  apply h
  by_cases hx : x.natAbs = 0
  · have hx0 : x = 0 := by omega
    subst hx0
    have : ((0 : Int) ^ e).natAbs ≤ 1 := by
      rw [Int.natAbs_pow]
      cases e with
      | zero => decide
      | succ e => rw [Nat.pow_succ]; simp
    have h3 : (dg ((0 : Int) ^ e)).length ≤ (dg 1).length := dg_mono (by simpa using this)
    have h4 : (dg 1).length ≤ 2 := dg_small (by decide)
    omega
  · refine Nat.le_trans (dg_mono ?_) h2
    rw [Int.natAbs_pow, Int.natAbs_pow]
    exact Nat.pow_le_pow_right (by omega) hen
theorem half_step (n k : Nat) : n / 2 ^ k = 2 * (n / 2 ^ (k + 1)) + n / 2 ^ k % 2 := by
  rw [Nat.pow_succ, ← Nat.div_div_eq_div_mul]
  omega
theorem bit63 {n k : Nat} (hn : n < 9223372036854775808) (hk : k < 63) : IntKind.i64.wrap ((BitVec.ofInt (kb .i64) ((n : Int).fdiv (2 ^ min k (kb .i64))) &&& BitVec.ofInt (kb .i64) 1).toNat : Int) = ((n / 2 ^ k % 2 : Nat) : Int) := by
  rw [shr_nat, show min k (kb .i64) = k from Nat.min_eq_left (by show k ≤ 64; omega)]
  have h1 : n / 2 ^ k ≤ n := Nat.div_le_self _ _
  have := and63 (a := n / 2 ^ k) (b := 1) (by omega) (by decide)
  rw [show (1 : Int) = ((1 : Nat) : Int) from rfl, this, Nat.and_one_is_mod]
theorem power_spec (m : Bool) (x : Int) (n : Nat) (hx : (dg x).length ≤ 4096) (hn : n < 9223372036854775808) : ∃ f : Bool, denP E 33 [I m x, .int .i64 n] = some (.ret (RI f (x ^ n))) ∧ True := by
  refine denP_ex E33 rfl (by simp [AV.pureL, AV.pure, pure_wd]) ?_
  have h1 := valid_I m x hx
  have h2 := of_spec 1 (by decide) (by decide)
  simp (maxSteps := 4000000) (disch := omega) only [go_sem, ↓reduceIte, Nat.reduceAdd, Nat.reduceSub, Nat.reduceMul, Nat.reduceEqDiff, reduceCtorEq, Int.reduceAdd, Int.reduceLT, Int.reduceLE, Int.reduceToNat, Int.reduceNeg, Int.reduceSub, ← List.map_take, ← List.map_drop, wrap64, wrapu64, wrapu32, ← Int.natCast_add, ← Int.natCast_mul, cast_succ, wrapu32_nat, shr32, reps_wd, map_set_wd, List.length_set, zs_len, Try.f33, h1, h2]
  refine W_loopS (fun k sl H nx => ∃ (f : Bool) (v : Int), (∃ g : Nat → AV, sl = [g 0, .int .i64 n, .ptr 0 0, g 3, .ptr 1 0, g 5, .ptr 2 0, .int .i64 ((k : Int) - 1), g 8, g 9, g 10, g 11, g 12, g 13, g 14, g 15, g 16, g 17, g 18, g 19, g 20, g 21, g 22, g 23, g 24, g 25, g 26, g 27, g 28, g 29, g 30, g 31, g 32, g 33, g 34, g 35, g 36, g 37, g 38, g 39, g 40, g 41, g 42, g 43, g 44, g 45, g 46]) ∧ k ≤ 63 ∧
    H 0 = some ⟨[.bool (ng x), .lst m ((dg x).map wd)], true, 2, false⟩ ∧ H 1 = some ⟨[.bool false, .lst true []], true, 2, false⟩ ∧ H 2 = some ⟨[.bool (ng v), .lst f ((dg v).map wd)], true, 2, false⟩ ∧
    Hd (v = x ^ (n / 2 ^ k)) ∧ (dg v).length ≤ 4096) 63 ⟨false, 1, garb rfl, by omega, rfl, rfl, rfl, ⟨?_⟩, ?_⟩ ?_
  · rw [Nat.div_eq_of_lt (show n < 2 ^ 63 from hn), Int.pow_zero]
  · have := dg_small (z := 1) (by decide); omega
  rintro k _ H nx ⟨f, v, ⟨g, rfl⟩, hk, h0, h1', h3, hv, hvl⟩
  by_cases hk0 : k = 0
  · subst hk0
    have hfin : v = x ^ n := by have := hv.out; rwa [Nat.pow_zero, Nat.div_one] at this
    rw [← hfin]
    have e1 := fit_of hvl
    have e2 := er_of hvl
    have e3 : fm f v = f := fm_of hvl
    clear hv hfin
    simp (maxSteps := 4000000) (disch := omega) only [go_sem, ↓reduceIte, Nat.reduceAdd, Nat.reduceSub, Nat.reduceMul, Nat.reduceEqDiff, reduceCtorEq, Int.reduceAdd, Int.reduceLT, Int.reduceLE, Int.reduceToNat, Int.reduceNeg, Int.reduceSub, ← List.map_take, ← List.map_drop, wrap64, wrapu64, wrapu32, ← Int.natCast_add, ← Int.natCast_mul, cast_succ, wrapu32_nat, shr32, reps_wd, map_set_wd, List.length_set, zs_len, h0, h1', h3]
    refine ⟨f, ?_⟩
    rw [e1, e2, e3]
  · obtain ⟨j, rfl⟩ : ∃ j, k = j + 1 := ⟨k - 1, by omega⟩
    have hst := half_step n j
    have hb := bit63 hn (show j < 63 by omega)
    have e1 : ((j + 1 : Nat) : Int) - 1 = (j : Int) := by omega
    have hvv : v * v = x ^ (2 * (n / 2 ^ (j + 1))) := by
      rw [hv.out, ← Int.pow_add]; congr 1; omega
    have hle : n / 2 ^ j ≤ n := Nat.div_le_self _ _
    have hbad : ∀ e, e ≤ n → ¬ (dg (x ^ e)).length ≤ 4096 → RI true (x ^ n) = .tup [I true 0, .int .i64 4] := by
      intro e he hne
      have := pow_big hne he
      rw [RI, fit_no this, er_no this, fm_no this]
    have m1 := mul_spec f v f v hvl hvl
    by_cases hf1 : (dg (v * v)).length ≤ 4096
    · simp only [RI, fit_of hf1, er_of hf1, fm_of hf1] at m1
      have m2 := mul_spec (mz v v) (v * v) m x hf1 hx
      rcases Nat.mod_two_eq_zero_or_one (n / 2 ^ j) with hbit | hbit
      · rw [hbit] at hb hst
        have hv2 : v * v = x ^ (n / 2 ^ j) := by rw [hvv, hst]; rfl
        clear hv hvv hst hbit hbad hle m2
        generalize v * v = y at *
        simp (maxSteps := 4000000) (disch := omega) only [go_sem, ↓reduceIte, Nat.reduceAdd, Nat.reduceSub, Nat.reduceMul, Nat.reduceEqDiff, reduceCtorEq, Int.reduceAdd, Int.reduceLT, Int.reduceLE, Int.reduceToNat, Int.reduceNeg, Int.reduceSub, ← List.map_take, ← List.map_drop, wrap64, wrapu64, wrapu32, ← Int.natCast_add, ← Int.natCast_mul, cast_succ, wrapu32_nat, shr32, reps_wd, map_set_wd, List.length_set, zs_len, e1, h0, h1', h3, m1, hb]
        exact ⟨j, by omega, mz v v, y, garb rfl, by omega, rfl, ⟨hv2⟩, hf1⟩
      · rw [hbit] at hb hst
        have hv2 : v * v * x = x ^ (n / 2 ^ j) := by
          rw [hvv, hst, Int.pow_succ]
        by_cases hf2 : (dg (v * v * x)).length ≤ 4096
        · simp only [RI, fit_of hf2, er_of hf2, fm_of hf2] at m2
          clear hv hvv hst hbit hbad hle
          generalize mz (v * v) x = f2 at *
          generalize v * v * x = z at *
          generalize mz v v = f1 at *
          generalize v * v = y at *
          simp (maxSteps := 4000000) (disch := omega) only [go_sem, ↓reduceIte, Nat.reduceAdd, Nat.reduceSub, Nat.reduceMul, Nat.reduceEqDiff, reduceCtorEq, Int.reduceAdd, Int.reduceLT, Int.reduceLE, Int.reduceToNat, Int.reduceNeg, Int.reduceSub, ← List.map_take, ← List.map_drop, wrap64, wrapu64, wrapu32, ← Int.natCast_add, ← Int.natCast_mul, cast_succ, wrapu32_nat, shr32, reps_wd, map_set_wd, List.length_set, zs_len, e1, h0, h1', h3, m1, m2, hb]
          exact ⟨j, by omega, f2, z, garb rfl, by omega, rfl, ⟨hv2⟩, hf2⟩
        · have hb2 := hbad (n / 2 ^ j) hle (by rw [← hv2]; exact hf2)
          simp only [RI, fit_no hf2, er_no hf2, fm_no hf2] at m2
          simp only [RI, I, ng_zero, dg_zero, List.map_nil] at hb2
          clear hv hvv hst hle hf2 hbad hbit hv2
          generalize mz v v = f1 at *
          generalize v * v = y at *
          simp (maxSteps := 4000000) (disch := omega) only [go_sem, ↓reduceIte, Nat.reduceAdd, Nat.reduceSub, Nat.reduceMul, Nat.reduceEqDiff, reduceCtorEq, Int.reduceAdd, Int.reduceLT, Int.reduceLE, Int.reduceToNat, Int.reduceNeg, Int.reduceSub, ← List.map_take, ← List.map_drop, wrap64, wrapu64, wrapu32, ← Int.natCast_add, ← Int.natCast_mul, cast_succ, wrapu32_nat, shr32, reps_wd, map_set_wd, List.length_set, zs_len, e1, h0, h1', h3, m1, m2, hb, places, fillAll]
          exact ⟨true, hb2.symm⟩
    · have hb2 := hbad (2 * (n / 2 ^ (j + 1))) (by omega) (by rw [← hvv]; exact hf1)
      simp only [RI, fit_no hf1, er_no hf1, fm_no hf1] at m1
      simp only [RI, I, ng_zero, dg_zero, List.map_nil] at hb2
      clear hv hvv hst hle hf1 hbad hb
      simp (maxSteps := 4000000) (disch := omega) only [go_sem, ↓reduceIte, Nat.reduceAdd, Nat.reduceSub, Nat.reduceMul, Nat.reduceEqDiff, reduceCtorEq, Int.reduceAdd, Int.reduceLT, Int.reduceLE, Int.reduceToNat, Int.reduceNeg, Int.reduceSub, ← List.map_take, ← List.map_drop, wrap64, wrapu64, wrapu32, ← Int.natCast_add, ← Int.natCast_mul, cast_succ, wrapu32_nat, shr32, reps_wd, map_set_wd, List.length_set, zs_len, e1, h0, h1', h3, m1, places, fillAll]
      exact ⟨true, hb2.symm⟩
end Go.Proofs.Ytpfcijgcjghgeaa

/- Walks: numbers of binary digits. (Own work of this repo.) -/
namespace Go.Proofs.Ytpfcijgcjghgeaa
open Vm
set_option maxRecDepth 10000

def blF : Nat → Nat → Nat
  | 0, _ => 0
  | f + 1, n => if n = 0 then 0 else blF f (n / 2) + 1
theorem blF_eq : ∀ (f n : Nat), n < 2 ^ f → blF f n = bl n
  | 0, n, h => by
    have : n = 0 := by simpa using h
    subst this; rw [bl_zero]; rfl
  | f + 1, n, h => by
    by_cases h0 : n = 0
    · subst h0; rw [bl_zero]; rfl
    · rw [blF, if_neg h0, blF_eq f (n / 2) (by rw [Nat.pow_succ] at h; omega), bl_pos h0]
theorem tab_all : ∀ x : Fin 256, ((((0 :: 1 :: 2 :: 2 :: 3 :: 3 :: 3 :: 3 :: 4 :: 4 :: 4 :: 4 :: 4 :: 4 :: 4 :: 4 :: 5 :: 5 :: 5 :: 5 :: 5 :: 5 :: 5 :: 5 :: 5 :: 5 :: 5 :: 5 :: 5 :: 5 :: 5 :: 5 :: 6 :: 6 :: 6 :: 6 :: 6 :: 6 :: 6 :: 6 :: 6 :: 6 :: 6 :: 6 :: 6 :: 6 :: 6 :: 6 :: 6 :: 6 :: 6 :: 6 :: 6 :: 6 :: 6 :: 6 :: 6 :: 6 :: 6 :: 6 :: 6 :: 6 :: 6 :: 6 :: []) : List UInt8).append (7 :: 7 :: 7 :: 7 :: 7 :: 7 :: 7 :: 7 :: 7 :: 7 :: 7 :: 7 :: 7 :: 7 :: 7 :: 7 :: 7 :: 7 :: 7 :: 7 :: 7 :: 7 :: 7 :: 7 :: 7 :: 7 :: 7 :: 7 :: 7 :: 7 :: 7 :: 7 :: 7 :: 7 :: 7 :: 7 :: 7 :: 7 :: 7 :: 7 :: 7 :: 7 :: 7 :: 7 :: 7 :: 7 :: 7 :: 7 :: 7 :: 7 :: 7 :: 7 :: 7 :: 7 :: 7 :: 7 :: 7 :: 7 :: 7 :: 7 :: 7 :: 7 :: 7 :: 7 :: [])).append (((8 :: 8 :: 8 :: 8 :: 8 :: 8 :: 8 :: 8 :: 8 :: 8 :: 8 :: 8 :: 8 :: 8 :: 8 :: 8 :: 8 :: 8 :: 8 :: 8 :: 8 :: 8 :: 8 :: 8 :: 8 :: 8 :: 8 :: 8 :: 8 :: 8 :: 8 :: 8 :: 8 :: 8 :: 8 :: 8 :: 8 :: 8 :: 8 :: 8 :: 8 :: 8 :: 8 :: 8 :: 8 :: 8 :: 8 :: 8 :: 8 :: 8 :: 8 :: 8 :: 8 :: 8 :: 8 :: 8 :: 8 :: 8 :: 8 :: 8 :: 8 :: 8 :: 8 :: 8 :: []) : List UInt8).append (8 :: 8 :: 8 :: 8 :: 8 :: 8 :: 8 :: 8 :: 8 :: 8 :: 8 :: 8 :: 8 :: 8 :: 8 :: 8 :: 8 :: 8 :: 8 :: 8 :: 8 :: 8 :: 8 :: 8 :: 8 :: 8 :: 8 :: 8 :: 8 :: 8 :: 8 :: 8 :: 8 :: 8 :: 8 :: 8 :: 8 :: 8 :: 8 :: 8 :: 8 :: 8 :: 8 :: 8 :: 8 :: 8 :: 8 :: 8 :: 8 :: 8 :: 8 :: 8 :: 8 :: 8 :: 8 :: 8 :: 8 :: 8 :: 8 :: 8 :: 8 :: 8 :: 8 :: 8 :: [])))[x.val]? = some (UInt8.ofNat (blF 8 x.val)) := by decide +kernel
theorem tab_get {x : Nat} (h : x < 256) : ((((0 :: 1 :: 2 :: 2 :: 3 :: 3 :: 3 :: 3 :: 4 :: 4 :: 4 :: 4 :: 4 :: 4 :: 4 :: 4 :: 5 :: 5 :: 5 :: 5 :: 5 :: 5 :: 5 :: 5 :: 5 :: 5 :: 5 :: 5 :: 5 :: 5 :: 5 :: 5 :: 6 :: 6 :: 6 :: 6 :: 6 :: 6 :: 6 :: 6 :: 6 :: 6 :: 6 :: 6 :: 6 :: 6 :: 6 :: 6 :: 6 :: 6 :: 6 :: 6 :: 6 :: 6 :: 6 :: 6 :: 6 :: 6 :: 6 :: 6 :: 6 :: 6 :: 6 :: 6 :: []) : List UInt8).append (7 :: 7 :: 7 :: 7 :: 7 :: 7 :: 7 :: 7 :: 7 :: 7 :: 7 :: 7 :: 7 :: 7 :: 7 :: 7 :: 7 :: 7 :: 7 :: 7 :: 7 :: 7 :: 7 :: 7 :: 7 :: 7 :: 7 :: 7 :: 7 :: 7 :: 7 :: 7 :: 7 :: 7 :: 7 :: 7 :: 7 :: 7 :: 7 :: 7 :: 7 :: 7 :: 7 :: 7 :: 7 :: 7 :: 7 :: 7 :: 7 :: 7 :: 7 :: 7 :: 7 :: 7 :: 7 :: 7 :: 7 :: 7 :: 7 :: 7 :: 7 :: 7 :: 7 :: 7 :: [])).append (((8 :: 8 :: 8 :: 8 :: 8 :: 8 :: 8 :: 8 :: 8 :: 8 :: 8 :: 8 :: 8 :: 8 :: 8 :: 8 :: 8 :: 8 :: 8 :: 8 :: 8 :: 8 :: 8 :: 8 :: 8 :: 8 :: 8 :: 8 :: 8 :: 8 :: 8 :: 8 :: 8 :: 8 :: 8 :: 8 :: 8 :: 8 :: 8 :: 8 :: 8 :: 8 :: 8 :: 8 :: 8 :: 8 :: 8 :: 8 :: 8 :: 8 :: 8 :: 8 :: 8 :: 8 :: 8 :: 8 :: 8 :: 8 :: 8 :: 8 :: 8 :: 8 :: 8 :: 8 :: []) : List UInt8).append (8 :: 8 :: 8 :: 8 :: 8 :: 8 :: 8 :: 8 :: 8 :: 8 :: 8 :: 8 :: 8 :: 8 :: 8 :: 8 :: 8 :: 8 :: 8 :: 8 :: 8 :: 8 :: 8 :: 8 :: 8 :: 8 :: 8 :: 8 :: 8 :: 8 :: 8 :: 8 :: 8 :: 8 :: 8 :: 8 :: 8 :: 8 :: 8 :: 8 :: 8 :: 8 :: 8 :: 8 :: 8 :: 8 :: 8 :: 8 :: 8 :: 8 :: 8 :: 8 :: 8 :: 8 :: 8 :: 8 :: 8 :: 8 :: 8 :: 8 :: 8 :: 8 :: 8 :: 8 :: [])))[x]? = some (UInt8.ofNat (bl x)) := by
  rw [← blF_eq 8 x h]
  exact tab_all ⟨x, h⟩
theorem tab_nat {x : Nat} (h : x < 256) : (UInt8.ofNat (bl x)).toNat = bl x := by
  have : bl x ≤ 8 := bl_le.2 h
  rw [UInt8.toNat_ofNat', Nat.mod_eq_of_lt (by omega)]
theorem shr16u (n : Nat) : (n : Int).fdiv (2 ^ min 16 (kb .u32)) = ((n / 65536 : Nat) : Int) := by
  rw [show min 16 (kb .u32) = 16 from rfl, Int.fdiv_eq_ediv_of_nonneg _ (by decide)]; rfl
theorem shr8u (n : Nat) : (n : Int).fdiv (2 ^ min 8 (kb .u32)) = ((n / 256 : Nat) : Int) := by
  rw [show min 8 (kb .u32) = 8 from rfl, Int.fdiv_eq_ediv_of_nonneg _ (by decide)]; rfl
theorem wrapu8 {n : Nat} (h : n < 256) : IntKind.u8.wrap (n : Int) = (n : Int) := by rw [IntKind.wrap_u8']; omega
theorem len32_spec (x : Nat) (hx : x < 4294967296) : denP E 84 [.int .u32 x] = some (.ret (.int .i64 (bl x))) := by
  refine denP_eq E84 rfl (by simp [AV.pureL, AV.pure]) ?_
  by_cases h1 : 65536 ≤ x
  · have e1 := bl_shift16 h1
    by_cases h2 : 256 ≤ x / 65536
    · have e2 := bl_shift8 h2
      have h3 : x / 65536 / 256 < 256 := by omega
      have hb := bl_le.2 (show x / 65536 / 256 < 2 ^ 8 from h3)
      have hg := tab_get h3
      have hn := tab_nat h3
      have e3 : (24 : Int) + ((bl (x / 65536 / 256) : Nat) : Int) = ((bl x : Nat) : Int) := by omega
      have h1' : (65536 : Int) ≤ (x : Int) := by omega
      have h2' : (256 : Int) ≤ ((x / 65536 : Nat) : Int) := by omega
      simp (maxSteps := 4000000) (disch := omega) only [go_sem, ↓reduceIte, Nat.reduceAdd, Nat.reduceSub, Nat.reduceMul, Nat.reduceEqDiff, reduceCtorEq, Int.reduceAdd, Int.reduceLT, Int.reduceLE, Int.reduceToNat, Int.reduceNeg, Int.reduceSub, ← List.map_take, ← List.map_drop, wrap64, wrapu64, wrapu32, Int.zero_add, Try.f84, shr16u, shr8u, wrapu8, hg, hn, e3]
    · have h3 : x / 65536 < 256 := by omega
      have hb := bl_le.2 (show x / 65536 < 2 ^ 8 from h3)
      have hg := tab_get h3
      have hn := tab_nat h3
      have e3 : (16 : Int) + ((bl (x / 65536) : Nat) : Int) = ((bl x : Nat) : Int) := by omega
      simp (maxSteps := 4000000) (disch := omega) only [go_sem, ↓reduceIte, Nat.reduceAdd, Nat.reduceSub, Nat.reduceMul, Nat.reduceEqDiff, reduceCtorEq, Int.reduceAdd, Int.reduceLT, Int.reduceLE, Int.reduceToNat, Int.reduceNeg, Int.reduceSub, ← List.map_take, ← List.map_drop, wrap64, wrapu64, wrapu32, Int.zero_add, Try.f84, shr16u, shr8u, wrapu8, hg, hn, e3]
  · by_cases h2 : 256 ≤ x
    · have e2 := bl_shift8 h2
      have h3 : x / 256 < 256 := by omega
      have hb := bl_le.2 (show x / 256 < 2 ^ 8 from h3)
      have hg := tab_get h3
      have hn := tab_nat h3
      have e3 : (8 : Int) + ((bl (x / 256) : Nat) : Int) = ((bl x : Nat) : Int) := by omega
      simp (maxSteps := 4000000) (disch := omega) only [go_sem, ↓reduceIte, Nat.reduceAdd, Nat.reduceSub, Nat.reduceMul, Nat.reduceEqDiff, reduceCtorEq, Int.reduceAdd, Int.reduceLT, Int.reduceLE, Int.reduceToNat, Int.reduceNeg, Int.reduceSub, ← List.map_take, ← List.map_drop, wrap64, wrapu64, wrapu32, Int.zero_add, Try.f84, shr16u, shr8u, wrapu8, hg, hn, e3]
    · have h3 : x < 256 := by omega
      have hb := bl_le.2 (show x < 2 ^ 8 from h3)
      have hg := tab_get h3
      have hn := tab_nat h3
      simp (maxSteps := 4000000) (disch := omega) only [go_sem, ↓reduceIte, Nat.reduceAdd, Nat.reduceSub, Nat.reduceMul, Nat.reduceEqDiff, reduceCtorEq, Int.reduceAdd, Int.reduceLT, Int.reduceLE, Int.reduceToNat, Int.reduceNeg, Int.reduceSub, ← List.map_take, ← List.map_drop, wrap64, wrapu64, wrapu32, Int.zero_add, Try.f84, shr16u, shr8u, wrapu8, hg, hn]
theorem lz32_spec (x : Nat) (hx : x < 4294967296) : denP E 85 [.int .u32 x] = some (.ret (.int .i64 (32 - (bl x : Int)))) := by
  refine denP_eq E85 rfl (by simp [AV.pureL, AV.pure]) ?_
  have h := len32_spec x hx
  have hb := bl_le.2 (show x < 2 ^ 32 from hx)
  simp (maxSteps := 4000000) (disch := omega) only [go_sem, ↓reduceIte, Nat.reduceAdd, Nat.reduceSub, Nat.reduceMul, Nat.reduceEqDiff, reduceCtorEq, Int.reduceAdd, Int.reduceLT, Int.reduceLE, Int.reduceToNat, Int.reduceNeg, Int.reduceSub, ← List.map_take, ← List.map_drop, wrap64, wrapu64, wrapu32, Try.f85, h]
theorem dg_top {z : Int} (h : z ≠ 0) : (dg z).getD ((dg z).length - 1) 0 ≠ 0 := by
  rcases (dg_norm z).2 with h1 | h1
  · exact absurd (dg_nil.1 h1) h
  · exact h1
theorem bl_dg {z : Int} (h : z ≠ 0) : bl z.natAbs = 32 * ((dg z).length - 1) + bl ((dg z).getD ((dg z).length - 1) 0) := by
  have := bl_val (dg_inR z) (dg_top h)
  rwa [val_dg] at this
theorem size_spec (m : Bool) (z : Int) (hz : (dg z).length < 2 ^ 40) : denP E 69 [.lst m ((dg z).map wd)] = some (.ret (.int .i64 (bl z.natAbs))) := by
  refine denP_eq E69 rfl (by simp [AV.pureL, AV.pure, pure_wd]) ?_
  by_cases h0 : z = 0
  · subst h0
    have e : bl (Int.natAbs 0) = 0 := bl_zero
    have e2 : (dg 0).length = 0 := dg_len0.2 rfl
    rw [e]
    simp (maxSteps := 4000000) (disch := omega) only [go_sem, ↓reduceIte, Nat.reduceAdd, Nat.reduceSub, Nat.reduceMul, Nat.reduceEqDiff, reduceCtorEq, Int.reduceAdd, Int.reduceLT, Int.reduceLE, Int.reduceToNat, Int.reduceNeg, Int.reduceSub, ← List.map_take, ← List.map_drop, wrap64, wrapu64, wrapu32, Try.f69, e2]
  · have hl := dg_pos.2 h0
    have e1 : ((dg z).length : Int) - 1 = (((dg z).length - 1 : Nat) : Int) := by omega
    have hx := (dg_inR z).get ((dg z).length - 1)
    have h := len32_spec _ hx
    have hb := bl_le.2 (show (dg z).getD ((dg z).length - 1) 0 < 2 ^ 32 from hx)
    have e2 : 32 * (((dg z).length - 1 : Nat) : Int) + ((bl ((dg z).getD ((dg z).length - 1) 0) : Nat) : Int) = ((bl z.natAbs : Nat) : Int) := by
      have := bl_dg h0; omega
    simp (maxSteps := 4000000) (disch := omega) only [go_sem, ↓reduceIte, Nat.reduceAdd, Nat.reduceSub, Nat.reduceMul, Nat.reduceEqDiff, reduceCtorEq, Int.reduceAdd, Int.reduceLT, Int.reduceLE, Int.reduceToNat, Int.reduceNeg, Int.reduceSub, ← List.map_take, ← List.map_drop, wrap64, wrapu64, wrapu32, Try.f69, e1, h, e2]
theorem bits_spec (m : Bool) (z : Int) (hz : (dg z).length ≤ 4096) : denP E 35 [I m z] = some (.ret (.int .i64 (bl z.natAbs))) := by
  refine denP_eq E35 rfl (by simp [AV.pureL, AV.pure, pure_wd]) ?_
  have h1 := valid_I m z hz
  have h2 := size_spec m z (by omega)
  simp (maxSteps := 4000000) (disch := omega) only [go_sem, ↓reduceIte, Nat.reduceAdd, Nat.reduceSub, Nat.reduceMul, Nat.reduceEqDiff, reduceCtorEq, Int.reduceAdd, Int.reduceLT, Int.reduceLE, Int.reduceToNat, Int.reduceNeg, Int.reduceSub, ← List.map_take, ← List.map_drop, wrap64, wrapu64, wrapu32, Try.f35, h1, h2]
theorem rBits_spec (m : Bool) (z : Int) (hz : (dg z).length < 2 ^ 40) : denP E 36 [I m z] = some (.ret (.int .i64 (bl z.natAbs))) := by
  refine denP_eq E36 rfl (by simp [AV.pureL, AV.pure, pure_wd]) ?_
  by_cases h0 : z = 0
  · subst h0
    have e : bl (Int.natAbs 0) = 0 := bl_zero
    have e2 : (dg 0).length = 0 := dg_len0.2 rfl
    rw [e]
    simp (maxSteps := 4000000) (disch := omega) only [go_sem, ↓reduceIte, Nat.reduceAdd, Nat.reduceSub, Nat.reduceMul, Nat.reduceEqDiff, reduceCtorEq, Int.reduceAdd, Int.reduceLT, Int.reduceLE, Int.reduceToNat, Int.reduceNeg, Int.reduceSub, ← List.map_take, ← List.map_drop, wrap64, wrapu64, wrapu32, Try.f36, e2]
  · have hl := dg_pos.2 h0
    have e1 : ((dg z).length : Int) - 1 = (((dg z).length - 1 : Nat) : Int) := by omega
    have hx := (dg_inR z).get ((dg z).length - 1)
    have hd := bl_dg h0
    simp (maxSteps := 4000000) (disch := omega) only [go_sem, ↓reduceIte, Nat.reduceAdd, Nat.reduceSub, Nat.reduceMul, Nat.reduceEqDiff, reduceCtorEq, Int.reduceAdd, Int.reduceLT, Int.reduceLE, Int.reduceToNat, Int.reduceNeg, Int.reduceSub, ← List.map_take, ← List.map_drop, wrap64, wrapu64, wrapu32, Try.f36, e1]
    generalize (dg z).getD ((dg z).length - 1) 0 = top at *
    have hb := bl_le.2 (show top < 2 ^ 32 from hx)
    refine W_loopS (fun k sl H nx => ∃ (c : Nat), (∃ g : Nat → AV, sl = [g 0, g 1, g 2, .int .i64 (dg z).length, .int .i64 c, .int .u32 k, g 6, g 7, g 8, g 9, g 10, g 11, g 12, g 13, g 14, g 15, g 16, g 17, g 18, g 19, g 20, g 21, g 22, g 23, g 24, g 25, g 26, g 27]) ∧ k < 4294967296 ∧ c + bl k = bl top) top ⟨0, garb rfl, hx, by omega⟩ ?_
    rintro k _ H nx ⟨c, ⟨g, rfl⟩, hk, hc⟩
    by_cases hk0 : k = 0
    · subst hk0
      rw [bl_zero] at hc
      have e2 : 32 * (((dg z).length - 1 : Nat) : Int) + (c : Int) = ((bl z.natAbs : Nat) : Int) := by omega
      simp (maxSteps := 4000000) (disch := omega) only [go_sem, ↓reduceIte, Nat.reduceAdd, Nat.reduceSub, Nat.reduceMul, Nat.reduceEqDiff, reduceCtorEq, Int.reduceAdd, Int.reduceLT, Int.reduceLE, Int.reduceToNat, Int.reduceNeg, Int.reduceSub, ← List.map_take, ← List.map_drop, wrap64, wrapu64, wrapu32, e1, e2]
    · have e2 : IntKind.u32.wrap ((k : Int).tdiv 2) = ((k / 2 : Nat) : Int) := by
        rw [IntKind.wrap_u32', Int.tdiv_eq_ediv_of_nonneg (by omega)]; omega
      rw [bl_pos hk0] at hc
      simp (maxSteps := 4000000) (disch := omega) only [go_sem, ↓reduceIte, Nat.reduceAdd, Nat.reduceSub, Nat.reduceMul, Nat.reduceEqDiff, reduceCtorEq, Int.reduceAdd, Int.reduceLT, Int.reduceLE, Int.reduceToNat, Int.reduceNeg, Int.reduceSub, ← List.map_take, ← List.map_drop, wrap64, wrapu64, wrapu32, e1, e2, cast_succ]
      exact ⟨k / 2, by omega, c + 1, garb rfl, by omega, by omega⟩
end Go.Proofs.Ytpfcijgcjghgeaa

/- Walks of the reference of chapter 1: Power. (Own work of this repo.) -/
namespace Go.Proofs.Ytpfcijgcjghgeaa
open Vm
set_option maxRecDepth 10000

theorem bl_one {x : Int} (h : bl x.natAbs ≤ 1) : x = 0 ∨ x = 1 ∨ x = -1 := by
  have := bl_le.1 h
  omega
theorem pow_bl {x : Int} {n : Nat} : (x ^ n).natAbs < 2 ^ (bl x.natAbs * n + 1) := by
  rw [Int.natAbs_pow, Nat.pow_succ, Nat.pow_mul]
  have h1 := Nat.pow_le_pow_left (Nat.le_of_lt (bl_lt x.natAbs)) n
  have h3 : 0 < (2 ^ bl x.natAbs) ^ n := Nat.pow_pos (Nat.pow_pos (by decide))
  omega
theorem dg_bits {z : Int} {k : Nat} (h : z.natAbs < 2 ^ (32 * k)) : (dg z).length ≤ k := by
  rw [dg_len, show BB = 2 ^ 32 from rfl, ← Nat.pow_mul]; exact h
theorem bl_words {x : Int} {k : Nat} (h : (dg x).length ≤ k) : bl x.natAbs ≤ 32 * k := bl_le.2 (valid_len h)
/-- How far the reference computes a power. -/
def powFar (x : Int) (n : Nat) : Bool := decide (1 < bl x.natAbs) && decide (262144 / (bl x.natAbs - 1) < n)
theorem rPower_far (m : Bool) (x : Int) (n : Nat) (hx : (dg x).length ≤ 4096) (hn : n < 2 ^ 63) (h : powFar x n = true) :
    denP E 39 [I m x, .int .i64 n] = some (.ret (.tup [I true 0, .bool false])) := by
  refine denP_eq E39 rfl (by simp [AV.pureL, AV.pure, pure_wd]) ?_
  have h1 := rBits_spec m x (by omega)
  unfold powFar at h
  rw [Bool.and_eq_true, decide_eq_true_eq, decide_eq_true_eq] at h
  obtain ⟨h2, h3⟩ := h
  have hb : bl x.natAbs ≤ 32 * 4096 := bl_words hx
  generalize bl x.natAbs = b at *
  have e1 : (b : Int) - 1 = ((b - 1 : Nat) : Int) := by omega
  have e2 : (262144 : Int).tdiv ((b - 1 : Nat) : Int) = ((262144 / (b - 1) : Nat) : Int) := rfl
  have h5 : 262144 / (b - 1) ≤ 262144 := Nat.div_le_self _ _
  generalize 262144 / (b - 1) = q at *
  simp (maxSteps := 4000000) (disch := omega) only [go_sem, ↓reduceIte, Nat.reduceAdd, Nat.reduceSub, Nat.reduceMul, Nat.reduceEqDiff, reduceCtorEq, Int.reduceAdd, Int.reduceLT, Int.reduceLE, Int.reduceToNat, Int.reduceNeg, Int.reduceSub, ← List.map_take, ← List.map_drop, wrap64, wrapu64, wrapu32, ← Int.natCast_add, ← Int.natCast_mul, cast_succ, wrapu32_nat, shr32, reps_wd, map_set_wd, List.length_set, zs_len, Try.f39, h1, e1, e2, places, fillAll, ng_zero, dg_zero]
theorem rPower_one (m : Bool) (x : Int) (n : Nat) (hx : x = 0 ∨ x = 1 ∨ x = -1) (hn : n < 2 ^ 63) :
    ∃ f : Bool, denP E 39 [I m x, .int .i64 n] = some (.ret (.tup [I f (x ^ n), .bool true])) ∧ True := by
  refine denP_ex E39 rfl (by simp [AV.pureL, AV.pure, pure_wd]) ?_
  have hl : (dg x).length ≤ 2 := dg_small (by omega)
  have h1 := rBits_spec m x (by omega)
  have hb : bl x.natAbs ≤ 1 := bl_le.2 (by omega)
  have h2 := rOf_spec 1 (by decide) (by decide)
  have h3 := rNeg_spec m x (by omega)
  have e2 : (n : Int).tmod 2 = ((n % 2 : Nat) : Int) := rfl
  generalize bl x.natAbs = b at *
  by_cases h0 : n = 0
  · subst h0
    rw [Int.pow_zero]
    simp (maxSteps := 4000000) (disch := omega) only [go_sem, ↓reduceIte, Nat.reduceAdd, Nat.reduceSub, Nat.reduceMul, Nat.reduceEqDiff, reduceCtorEq, Int.reduceAdd, Int.reduceLT, Int.reduceLE, Int.reduceToNat, Int.reduceNeg, Int.reduceSub, ← List.map_take, ← List.map_drop, wrap64, wrapu64, wrapu32, ← Int.natCast_add, ← Int.natCast_mul, cast_succ, wrapu32_nat, shr32, reps_wd, map_set_wd, List.length_set, zs_len, Try.f39, h1, h2]
    exact ⟨_, rfl⟩
  · have hev : n % 2 = 0 → (-1 : Int) ^ n = 1 := fun h => by
      obtain ⟨k, rfl⟩ : ∃ k, n = 2 * k := ⟨n / 2, by omega⟩
      rw [Int.pow_mul]; simp [Int.one_pow]
    have hod : n % 2 = 1 → (-1 : Int) ^ n = -1 := fun h => by
      obtain ⟨k, rfl⟩ : ∃ k, n = 2 * k + 1 := ⟨n / 2, by omega⟩
      rw [Int.pow_succ, Int.pow_mul]; simp [Int.one_pow]
    have key : ∃ y : Int, y = x ^ n ∧ ((ng x = true ∧ n % 2 = 0 ∧ y = -x) ∨ (ng x = true ∧ n % 2 = 1 ∧ y = x) ∨ (ng x = false ∧ y = x)) := by
      refine ⟨_, rfl, ?_⟩
      rcases hx with rfl | rfl | rfl
      · rw [Int.zero_pow h0]; exact .inr (.inr ⟨rfl, rfl⟩)
      · rw [Int.one_pow]; exact .inr (.inr ⟨rfl, rfl⟩)
      · rcases Nat.mod_two_eq_zero_or_one n with h4 | h4
        · exact .inl ⟨rfl, h4, by rw [hev h4]; rfl⟩
        · exact .inr (.inl ⟨rfl, h4, by rw [hod h4]⟩)
    clear hev hod hx hl
    obtain ⟨y, hy, key⟩ := key
    rw [← hy]
    clear hy
    rcases key with ⟨hng, h4, rfl⟩ | ⟨hng, h4, rfl⟩ | ⟨hng, rfl⟩
    · rw [h4] at e2
      simp only [I] at h1 h3
      rw [hng] at h1 h3
      simp (maxSteps := 4000000) (disch := omega) only [go_sem, ↓reduceIte, Nat.reduceAdd, Nat.reduceSub, Nat.reduceMul, Nat.reduceEqDiff, reduceCtorEq, Int.reduceAdd, Int.reduceLT, Int.reduceLE, Int.reduceToNat, Int.reduceNeg, Int.reduceSub, ← List.map_take, ← List.map_drop, wrap64, wrapu64, wrapu32, ← Int.natCast_add, ← Int.natCast_mul, cast_succ, wrapu32_nat, shr32, reps_wd, map_set_wd, List.length_set, zs_len, Try.f39, h1, h2, h3, hng, e2]
      exact ⟨_, rfl⟩
    · rw [h4] at e2
      simp only [I] at h1 h3
      rw [hng] at h1 h3
      simp (maxSteps := 4000000) (disch := omega) only [go_sem, ↓reduceIte, Nat.reduceAdd, Nat.reduceSub, Nat.reduceMul, Nat.reduceEqDiff, reduceCtorEq, Int.reduceAdd, Int.reduceLT, Int.reduceLE, Int.reduceToNat, Int.reduceNeg, Int.reduceSub, ← List.map_take, ← List.map_drop, wrap64, wrapu64, wrapu32, ← Int.natCast_add, ← Int.natCast_mul, cast_succ, wrapu32_nat, shr32, reps_wd, map_set_wd, List.length_set, zs_len, Try.f39, h1, h2, h3, hng, e2]
      exact ⟨m, by simp only [I, hng]⟩
    · simp only [I] at h1 h3
      rw [hng] at h1 h3
      simp (maxSteps := 4000000) (disch := omega) only [go_sem, ↓reduceIte, Nat.reduceAdd, Nat.reduceSub, Nat.reduceMul, Nat.reduceEqDiff, reduceCtorEq, Int.reduceAdd, Int.reduceLT, Int.reduceLE, Int.reduceToNat, Int.reduceNeg, Int.reduceSub, ← List.map_take, ← List.map_drop, wrap64, wrapu64, wrapu32, ← Int.natCast_add, ← Int.natCast_mul, cast_succ, wrapu32_nat, shr32, reps_wd, map_set_wd, List.length_set, zs_len, Try.f39, h1, h2, h3, hng, e2]
      exact ⟨m, by simp only [I, hng]⟩
theorem natAbs_le_mul {a b : Int} (hb : b ≠ 0) : a.natAbs ≤ (a * b).natAbs := by
  rw [Int.natAbs_mul]; exact Nat.le_mul_of_pos_right _ (by omega)
set_option maxHeartbeats 1000000 in
theorem rPower_spec (m : Bool) (x : Int) (n : Nat) (hx : (dg x).length ≤ 4096) (hn : n < 2 ^ 63) (h : powFar x n = false) :
    ∃ f : Bool, denP E 39 [I m x, .int .i64 n] = some (.ret (.tup [I f (x ^ n), .bool true])) ∧ True := by
  by_cases hb1 : bl x.natAbs ≤ 1
  · exact rPower_one m x n (bl_one hb1) hn
  refine denP_ex E39 rfl (by simp [AV.pureL, AV.pure, pure_wd]) ?_
  have h1 := rBits_spec m x (by omega)
  unfold powFar at h
  rw [Bool.and_eq_false_iff, decide_eq_false_iff_not, decide_eq_false_iff_not] at h
  have h3 : n ≤ 262144 / (bl x.natAbs - 1) := by omega
  have hx0 : x ≠ 0 := fun e => hb1 (by rw [e]; show bl 0 ≤ 1; rw [bl_zero]; omega)
  obtain ⟨L, hL⟩ : ∃ L, L = 20000 := ⟨_, rfl⟩
  have hsz : (x ^ n).natAbs < 2 ^ (32 * L) := by
    refine Nat.lt_of_lt_of_le pow_bl (Nat.pow_le_pow_right (by decide) ?_)
    have h5 := Nat.mul_le_mul_left (bl x.natAbs - 1) h3
    have h6 := Nat.mul_div_le 262144 (bl x.natAbs - 1)
    have h7 : bl x.natAbs * n ≤ 2 * ((bl x.natAbs - 1) * n) := by
      rw [← Nat.mul_assoc]; exact Nat.mul_le_mul_right _ (by omega)
    omega
  have hb : bl x.natAbs ≤ 32 * 4096 := bl_words hx
  generalize bl x.natAbs = b at *
  have e1 : (b : Int) - 1 = ((b - 1 : Nat) : Int) := by omega
  have e2 : (262144 : Int).tdiv ((b - 1 : Nat) : Int) = ((262144 / (b - 1) : Nat) : Int) := rfl
  have h5 : 262144 / (b - 1) ≤ 262144 := Nat.div_le_self _ _
  have h2 := rOf_spec 1 (by decide) (by decide)
  generalize 262144 / (b - 1) = q at *
  simp (maxSteps := 4000000) (disch := omega) only [go_sem, ↓reduceIte, Nat.reduceAdd, Nat.reduceSub, Nat.reduceMul, Nat.reduceEqDiff, reduceCtorEq, Int.reduceAdd, Int.reduceLT, Int.reduceLE, Int.reduceToNat, Int.reduceNeg, Int.reduceSub, ← List.map_take, ← List.map_drop, wrap64, wrapu64, wrapu32, ← Int.natCast_add, ← Int.natCast_mul, cast_succ, wrapu32_nat, shr32, reps_wd, map_set_wd, List.length_set, zs_len, Try.f39, h1, h2, e1, e2]
  refine W_loopS (fun k sl H nx => ∃ (f : Bool) (o : Int) (fx : Bool) (X : Int) (id : Nat), (∃ g : Nat → AV, sl = [g 0, .int .i64 k, g 2, g 3, .ptr 1 0, .bool false, g 6, .ptr 2 0, .ptr id 0, g 9, g 10, g 11, g 12, g 13, g 14, g 15, g 16, g 17, g 18, g 19, g 20, g 21, g 22, g 23, g 24, g 25, g 26, g 27, g 28, g 29, g 30, g 31, g 32, g 33, g 34, g 35, g 36, g 37, g 38, g 39, g 40, g 41, g 42, g 43, g 44, g 45, g 46, g 47, g 48, g 49, g 50, g 51, g 52]) ∧ k ≤ n ∧ 3 ≤ id ∧ nx = id + 1 ∧
    H 1 = some ⟨[.bool false, .lst true []], true, 2, false⟩ ∧ H 2 = some ⟨[.bool (ng o), .lst f ((dg o).map wd)], true, 2, false⟩ ∧ H id = some ⟨[.bool (ng X), .lst fx ((dg X).map wd)], true, 2, false⟩ ∧
    Hd (o * X ^ k = x ^ n)) n ⟨_, 1, m, x, 3, garb rfl, by omega, by omega, rfl, rfl, rfl, rfl, ⟨by rw [Int.one_mul]⟩⟩ ?_
  rintro k _ H _ ⟨f, o, fx, X, id, ⟨g, rfl⟩, hk, hid, rfl, h0, h1', h3', hv⟩
  by_cases hk0 : k = 0
  · subst hk0
    have hfin : o = x ^ n := by have := hv.out; rwa [Int.pow_zero, Int.mul_one] at this
    rw [← hfin]
    clear hv hfin hsz
    simp (maxSteps := 4000000) (disch := omega) only [go_sem, ↓reduceIte, Nat.reduceAdd, Nat.reduceSub, Nat.reduceMul, Nat.reduceEqDiff, reduceCtorEq, Int.reduceAdd, Int.reduceLT, Int.reduceLE, Int.reduceToNat, Int.reduceNeg, Int.reduceSub, ← List.map_take, ← List.map_drop, wrap64, wrapu64, wrapu32, ← Int.natCast_add, ← Int.natCast_mul, cast_succ, wrapu32_nat, shr32, reps_wd, map_set_wd, List.length_set, zs_len, h0, h1']
    exact ⟨f, rfl⟩
  · have hne : o * X ^ k ≠ 0 := by rw [hv.out]; exact Int.pow_ne_zero hx0
    have hX0 : X ≠ 0 := fun e => hne (by rw [e, Int.zero_pow hk0, Int.mul_zero])
    have ho0 : o ≠ 0 := fun e => hne (by rw [e, Int.zero_mul])
    have hol : (dg o).length ≤ L := dg_bits (Nat.lt_of_le_of_lt (natAbs_le_mul (Int.pow_ne_zero hX0)) (by rw [hv.out]; exact hsz))
    have hXl : (dg X).length ≤ L := by
      obtain ⟨j, rfl⟩ : ∃ j, k = j + 1 := ⟨k - 1, by omega⟩
      refine dg_bits (Nat.lt_of_le_of_lt (natAbs_le_mul (b := o * X ^ j) ?_) ?_)
      · exact Int.mul_ne_zero ho0 (Int.pow_ne_zero hX0)
      · have : X * (o * X ^ j) = o * X ^ (j + 1) := by rw [Int.pow_succ]; grind
        rw [this, hv.out]; exact hsz
    have m1 := rMul_spec f o fx X (by omega) (by omega)
    have m2 := rMul_spec fx X fx X (by omega) (by omega)
    have e3 : (k : Int).tmod 2 = ((k % 2 : Nat) : Int) := rfl
    have e4 : (k : Int).tdiv 2 = ((k / 2 : Nat) : Int) := rfl
    have n1 : (1 : Nat) ≠ id := by omega
    have n2 : (2 : Nat) ≠ id := by omega
    have n4 : id ≠ id + 1 := by omega
    have n6 : (1 : Nat) ≠ id + 1 := by omega
    have n7 : (2 : Nat) ≠ id + 1 := by omega
    have n8 : id + 1 ≠ id := by omega
    have n9 : id ≠ 2 := by omega
    rcases Nat.mod_two_eq_zero_or_one k with hbit | hbit
    · have hst : o * (X * X) ^ (k / 2) = x ^ n := by
        rw [← hv.out, show X ^ k = X ^ (2 * (k / 2)) by congr 1; omega, Int.pow_mul]; congr 2; rw [Int.pow_succ, Int.pow_one]
      rw [hbit] at e3
      clear hv hne hsz hX0 ho0
      simp (maxSteps := 4000000) (disch := omega) only [go_sem, ↓reduceIte, Nat.reduceAdd, Nat.reduceSub, Nat.reduceMul, Nat.reduceEqDiff, reduceCtorEq, Int.reduceAdd, Int.reduceLT, Int.reduceLE, Int.reduceToNat, Int.reduceNeg, Int.reduceSub, ← List.map_take, ← List.map_drop, wrap64, wrapu64, wrapu32, ← Int.natCast_add, ← Int.natCast_mul, cast_succ, wrapu32_nat, shr32, reps_wd, map_set_wd, List.length_set, zs_len, h0, h1', h3', m2, e3, e4, n1, n2, n4, n6, n7, n8, n9]
      exact ⟨k / 2, by omega, f, o, decide (X * X = 0), X * X, id + 1, garb rfl, by omega, by omega, rfl, by simp [h1', n9], by simp, ⟨hst⟩⟩
    · rw [hbit] at e3
      by_cases hk1 : k = 1
      · subst hk1
        have hst : o * X * X ^ 0 = x ^ n := by rw [← hv.out, Int.pow_zero, Int.mul_one, Int.pow_one]
        clear hv hne hsz hX0 ho0
        simp (maxSteps := 4000000) (disch := omega) only [go_sem, ↓reduceIte, Nat.reduceAdd, Nat.reduceSub, Nat.reduceMul, Nat.reduceEqDiff, reduceCtorEq, Int.reduceAdd, Int.reduceLT, Int.reduceLE, Int.reduceToNat, Int.reduceNeg, Int.reduceSub, ← List.map_take, ← List.map_drop, wrap64, wrapu64, wrapu32, ← Int.natCast_add, ← Int.natCast_mul, cast_succ, wrapu32_nat, shr32, reps_wd, map_set_wd, List.length_set, zs_len, h0, h1', h3', m1, e3, e4, n1, n2, n4, n6, n7, n8, n9]
        exact ⟨0, by omega, decide (o * X = 0), o * X, fx, X, id + 1, garb rfl, by omega, by omega, rfl, by simp, by simp, ⟨hst⟩⟩
      · have hst : o * X * (X * X) ^ (k / 2) = x ^ n := by
          rw [← hv.out, show X ^ k = X ^ (2 * (k / 2) + 1) by congr 1; omega, Int.pow_succ, Int.pow_mul, show X ^ 2 = X * X by rw [Int.pow_succ, Int.pow_one]]
          generalize (X * X) ^ (k / 2) = y; grind
        clear hv hne hsz hX0 ho0
        simp (maxSteps := 4000000) (disch := omega) only [go_sem, ↓reduceIte, Nat.reduceAdd, Nat.reduceSub, Nat.reduceMul, Nat.reduceEqDiff, reduceCtorEq, Int.reduceAdd, Int.reduceLT, Int.reduceLE, Int.reduceToNat, Int.reduceNeg, Int.reduceSub, ← List.map_take, ← List.map_drop, wrap64, wrapu64, wrapu32, ← Int.natCast_add, ← Int.natCast_mul, cast_succ, wrapu32_nat, shr32, reps_wd, map_set_wd, List.length_set, zs_len, h0, h1', h3', m1, m2, e3, e4, n1, n2, n4, n6, n7, n8, n9]
        exact ⟨k / 2, by omega, decide (o * X = 0), o * X, decide (X * X = 0), X * X, id + 1, garb rfl, by omega, by omega, rfl, by simp, by simp, ⟨hst⟩⟩
end Go.Proofs.Ytpfcijgcjghgeaa

/- Walks of the package large: Of, Under. (Own work of this repo.) -/
namespace Go.Proofs.Ytpfcijgcjghgeaa
open Vm
set_option maxRecDepth 10000

/-- Of a number that is not negative. -/
theorem of12 (n : Nat) (hn : n < 2 ^ 63) : ∃ m, denP E 12 [.int .i64 n] = some (.ret (iv false m ([n % 4294967296, n / 4294967296].take (tz [n % 4294967296, n / 4294967296] 2)))) := by
  have hm := made55 false false [n % 4294967296, n / 4294967296] (by simp) (by simp)
  refine ⟨false, denP_eq E12 rfl (by simp [AV.pureL, AV.pure, pure_wd, iv]) ?_⟩
  have h2 := tz_le [n % 4294967296, n / 4294967296] 2
  have h3 : ¬ tz [n % 4294967296, n / 4294967296] 2 > 4096 := by omega
  simp only [List.length_cons, List.length_nil, Nat.reduceAdd, Bool.false_and, if_neg h3] at hm
  simp only [List.map_cons, List.map_nil, wd] at hm
  have e1 : IntKind.u32.wrap (n : Int) = ((n % 4294967296 : Nat) : Int) := by rw [IntKind.wrap_u32']; omega
  have e2 : IntKind.u32.wrap ((n : Int).fdiv (2 ^ min 32 (kb .u64))) = ((n / 4294967296 : Nat) : Int) := by
    rw [IntKind.wrap_u32', show min 32 (kb .u64) = 32 from rfl, Int.fdiv_eq_ediv_of_nonneg _ (by decide)]; omega
  simp (maxSteps := 4000000) (disch := omega) only [go_sem, ↓reduceIte, Nat.reduceAdd, Nat.reduceSub, Nat.reduceMul, Nat.reduceEqDiff, reduceCtorEq, Int.reduceAdd, Int.reduceLT, Int.reduceLE, Int.reduceToNat, Int.reduceNeg, Int.reduceSub, ← List.map_take, ← List.map_drop, wrap64, wrapu64, wrapu32, Try.f12, reps, fillAll, refP, elems, e1, e2, hm, List.headD]

def andNot (a b : Nat) : Int := IntKind.u32.wrap (BitVec.ofInt (kb .u32) a &&& ~~~ (BitVec.ofInt (kb .u32) b)).toNat
def underW (a b : List Nat) : Bool := decide (a.length ≤ b.length) && (List.range a.length).all fun i => decide (andNot (a.getD i 0) (b.getD i 0) = 0)
theorem under11 (nl : Bool) (a : List Nat) (ml : Bool) (b : List Nat) (ha : a.length < 2 ^ 60) (hb : b.length < 2 ^ 60) (va : validW false a = true) (vb : validW false b = true) :
    denP E 11 [iv false nl a, iv false ml b] = some (.ret (.tup [.bool (underW a b), .int .i64 0])) := by
  refine denP_eq E11 rfl (by simp [AV.pureL, AV.pure, pure_wd, iv]) ?_
  by_cases h : a.length ≤ b.length
  · simp (maxSteps := 4000000) (disch := omega) only [go_sem, ↓reduceIte, Nat.reduceAdd, Nat.reduceSub, Nat.reduceMul, Nat.reduceEqDiff, reduceCtorEq, Int.reduceAdd, Int.reduceLT, Int.reduceLE, Int.reduceToNat, Int.reduceNeg, Int.reduceSub, ← List.map_take, ← List.map_drop, wrap64, wrapu64, wrapu32, Try.f11, reps, fillAll, refP, elems, valid54, va, vb]
    refine W_loopI (fun k σ => ∃ (H : Heap) (i : Nat) (g0 g1 g6 g7 g8 g9 g10 g11 g12 g13 g14 g15 g16 g17 g18 g19 g20 g21 g22 g23 g24 g25 g26 g30 g31 g32 g33 g34 g35 g36 g37 g38 g39 g40 g41 g42 : AV), σ = ⟨[g0, g1, .ptr 0 0, .ptr 1 0, .bool false, .int .i64 0, g6, g7, g8, g9, g10, g11, g12, g13, g14, g15, g16, g17, g18, g19, g20, g21, g22, g23, g24, g25, g26, .lst nl (a.map wd), .int .i64 a.length, .int .i64 i, g30, g31, g32, g33, g34, g35, g36, g37, g38, g39, g40, g41, g42], H, 3⟩ ∧
      H 1 = some ⟨[.bool false, .lst ml (b.map wd)], true, 2, false⟩ ∧ i + k = a.length ∧ ∀ j, j < i → andNot (a.getD j 0) (b.getD j 0) = 0) a.length ⟨_, 0, _, _, _, _, _, _, _, _, _, _, _, _, _, _, _, _, _, _, _, _, _, _, _, _, _, _, _, _, _, _, _, _, _, _, _, _, rfl, rfl, by omega, by omega⟩ ?_
    rintro k σ ⟨H, i, g0, g1, g6, g7, g8, g9, g10, g11, g12, g13, g14, g15, g16, g17, g18, g19, g20, g21, g22, g23, g24, g25, g26, g30, g31, g32, g33, g34, g35, g36, g37, g38, g39, g40, g41, g42, rfl, hH, hi, hall⟩
    by_cases hk : k = 0
    · simp (maxSteps := 4000000) (disch := omega) only [go_sem, ↓reduceIte, Nat.reduceAdd, Nat.reduceSub, Nat.reduceMul, Nat.reduceEqDiff, reduceCtorEq, Int.reduceAdd, Int.reduceLT, Int.reduceLE, Int.reduceToNat, Int.reduceNeg, Int.reduceSub, ← List.map_take, ← List.map_drop, wrap64, wrapu64, wrapu32]
      simp only [underW, List.all_eq_true, List.mem_range, decide_eq_true_eq, AV.tup.injEq, List.cons.injEq, AV.bool.injEq, and_true, h, decide_true, Bool.true_and]
      symm
      simp only [List.all_eq_true, List.mem_range, decide_eq_true_eq]
      intro j hj
      exact hall j (by omega)
    · by_cases h0 : andNot (a.getD i 0) (b.getD i 0) = 0
      · have h0' := h0
        simp only [andNot] at h0'
        simp (maxSteps := 4000000) (disch := omega) only [go_sem, ↓reduceIte, Nat.reduceAdd, Nat.reduceSub, Nat.reduceMul, Nat.reduceEqDiff, reduceCtorEq, Int.reduceAdd, Int.reduceLT, Int.reduceLE, Int.reduceToNat, Int.reduceNeg, Int.reduceSub, ← List.map_take, ← List.map_drop, wrap64, wrapu64, wrapu32, hH, h0']
        exact ⟨k - 1, by omega, _, i + 1, _, _, _, _, _, _, _, _, _, _, _, _, _, _, _, _, _, _, _, _, _, _, _, _, _, _, _, _, _, _, _, _, _, _, _, _, rfl, hH, by omega, fun j hj => by
          by_cases hji : j = i
          · rw [hji]; exact h0
          · exact hall j (by omega)⟩
      · have h0' := h0
        simp only [andNot] at h0'
        simp (maxSteps := 4000000) (disch := omega) only [go_sem, ↓reduceIte, Nat.reduceAdd, Nat.reduceSub, Nat.reduceMul, Nat.reduceEqDiff, reduceCtorEq, Int.reduceAdd, Int.reduceLT, Int.reduceLE, Int.reduceToNat, Int.reduceNeg, Int.reduceSub, ← List.map_take, ← List.map_drop, wrap64, wrapu64, wrapu32, hH, h0']
        have : underW a b = false := by
          simp only [underW, Bool.and_eq_false_iff]
          right
          rw [List.all_eq_false]
          exact ⟨i, List.mem_range.2 (by omega), by simpa using h0⟩
        rw [this]
  · simp (maxSteps := 4000000) (disch := omega) only [go_sem, ↓reduceIte, Nat.reduceAdd, Nat.reduceSub, Nat.reduceMul, Nat.reduceEqDiff, reduceCtorEq, Int.reduceAdd, Int.reduceLT, Int.reduceLE, Int.reduceToNat, Int.reduceNeg, Int.reduceSub, ← List.map_take, ← List.map_drop, wrap64, wrapu64, wrapu32, Try.f11, reps, fillAll, refP, elems, valid54, va, vb]
    simp [underW, h]
end Go.Proofs.Ytpfcijgcjghgeaa

/- Walk of odd, the triangle modulo 2. (Own work of this repo.) -/
namespace Go.Proofs.Ytpfcijgcjghgeaa
open Vm
set_option maxRecDepth 10000

def rowB (n : Nat) (f : Nat → Bool) : List AV := (List.range n).map fun k => AV.bool (f k)
theorem rowB_len (n : Nat) (f : Nat → Bool) : (rowB n f).length = n := by simp [rowB]
theorem rowB_get {n : Nat} {f : Nat → Bool} {i : Nat} (h : i < n) : (rowB n f)[i]? = some (.bool (f i)) := by simp [rowB, h]
theorem rowB_set {n : Nat} {f : Nat → Bool} {i : Nat} {v : Bool} : (rowB n f).set i (.bool v) = rowB n (fun k => if k = i then v else f k) := by
  apply List.ext_getElem?
  intro k
  by_cases hk : k < n
  · rw [rowB_get hk, List.getElem?_set]
    by_cases e : i = k
    · subst e; simp [rowB_len, hk]
    · rw [if_neg e, rowB_get hk]; simp [Ne.symm e]
  · rw [List.getElem?_eq_none (by simp [rowB_len]; omega), List.getElem?_eq_none (by simp [rowB_len]; omega)]
theorem rowB_zero : ∀ n, reps n [AV.bool false] = rowB n fun _ => false := by
  have h : ∀ n, reps n [AV.bool false] = List.replicate n (AV.bool false) := by
    intro n
    induction n with
    | zero => rfl
    | succ n ih => simp [reps, ih, List.replicate_succ]
  intro n
  rw [h, rowB, List.map_const', List.length_range]
/-- The triangle modulo 2. -/
def pas : Nat → Nat → Bool
  | 0, 0 => true
  | 0, _ + 1 => false
  | n + 1, 0 => pas n 0
  | n + 1, k + 1 => pas n (k + 1) != pas n k
theorem pas_big : ∀ n k, n < k → pas n k = false
  | 0, 0, h => by omega
  | 0, _ + 1, _ => rfl
  | n + 1, 0, h => by omega
  | n + 1, k + 1, h => by rw [pas, pas_big n (k + 1) (by omega), pas_big n k (by omega)]; rfl

theorem odd13 (b a : Nat) (hb : b < 2 ^ 40) (ha : a < 2 ^ 40) : denP E 13 [.int .i64 b, .int .i64 a] = some (.ret (.bool (decide (a ≤ b) && pas b a))) := by
  refine denP_eq E13 rfl (by simp [AV.pureL, AV.pure, pure_wd, iv]) ?_
  have e : ((b : Int) + 1) = ((b + 1 : Nat) : Int) := by omega
  simp (maxSteps := 4000000) (disch := omega) only [go_sem, ↓reduceIte, Nat.reduceAdd, Nat.reduceSub, Nat.reduceMul, Nat.reduceEqDiff, reduceCtorEq, Int.reduceAdd, Int.reduceLT, Int.reduceLE, Int.reduceToNat, Int.reduceNeg, Int.reduceSub, ← List.map_take, ← List.map_drop, wrap64, wrapu64, wrapu32, Try.f13, e, rowB_zero, rowB_len, rowB_get, rowB_set]
  refine W_loopI (fun m σ => ∃ (H : Heap) (n : Nat) (f : Nat → Bool) (g2 g3 g7 g8 g9 g10 g11 g12 g13 g14 g15 g16 g17 g18 g19 g20 g21 g22 g23 g24 g25 g26 g27 g28 g29 g30 g31 g32 g33 g34 g35 g36 g37 g38 g39 g40 g41 g42 g43 g44 : AV), σ = ⟨[.int .i64 b, .int .i64 a, g2, g3, .bool false, .ref 0 0 (b + 1), .int .i64 (n + 1 : Nat), g7, g8, g9, g10, g11, g12, g13, g14, g15, g16, g17, g18, g19, g20, g21, g22, g23, g24, g25, g26, g27, g28, g29, g30, g31, g32, g33, g34, g35, g36, g37, g38, g39, g40, g41, g42, g43, g44], H, 1⟩ ∧
      H 0 = some ⟨rowB (b + 1) f, false, 1, false⟩ ∧ n + m = b ∧ ∀ j, j ≤ b → f j = pas n j) b ⟨_, 0, _, _, _, _, _, _, _, _, _, _, _, _, _, _, _, _, _, _, _, _, _, _, _, _, _, _, _, _, _, _, _, _, _, _, _, _, _, _, _, _, _, rfl, rfl, by omega, ?_⟩ ?_
  · intro j _
    cases j with
    | zero => rfl
    | succ j => rfl
  rintro m σ ⟨H, n, f, g2, g3, g7, g8, g9, g10, g11, g12, g13, g14, g15, g16, g17, g18, g19, g20, g21, g22, g23, g24, g25, g26, g27, g28, g29, g30, g31, g32, g33, g34, g35, g36, g37, g38, g39, g40, g41, g42, g43, g44, rfl, hH, hm, hf⟩
  by_cases h0 : m = 0
  · obtain rfl : n = b := by omega
    by_cases hab : a ≤ n
    · simp (maxSteps := 4000000) (disch := omega) only [go_sem, ↓reduceIte, Nat.reduceAdd, Nat.reduceSub, Nat.reduceMul, Nat.reduceEqDiff, reduceCtorEq, Int.reduceAdd, Int.reduceLT, Int.reduceLE, Int.reduceToNat, Int.reduceNeg, Int.reduceSub, ← List.map_take, ← List.map_drop, wrap64, wrapu64, wrapu32, hH, rowB_len, rowB_get]
      rw [hf a hab]
    · simp (maxSteps := 4000000) (disch := omega) only [go_sem, ↓reduceIte, Nat.reduceAdd, Nat.reduceSub, Nat.reduceMul, Nat.reduceEqDiff, reduceCtorEq, Int.reduceAdd, Int.reduceLT, Int.reduceLE, Int.reduceToNat, Int.reduceNeg, Int.reduceSub, ← List.map_take, ← List.map_drop, wrap64, wrapu64, wrapu32]
  · simp (maxSteps := 4000000) (disch := omega) only [go_sem, ↓reduceIte, Nat.reduceAdd, Nat.reduceSub, Nat.reduceMul, Nat.reduceEqDiff, reduceCtorEq, Int.reduceAdd, Int.reduceLT, Int.reduceLE, Int.reduceToNat, Int.reduceNeg, Int.reduceSub, ← List.map_take, ← List.map_drop, wrap64, wrapu64, wrapu32]
    refine W_loopI (fun k σ => ∃ (H : Heap) (f : Nat → Bool) (g2 g3 g8 g9 g10 g11 g12 g13 g14 g15 g16 g17 g18 g19 g20 g21 g22 g23 g24 g25 g26 g27 g28 g29 g30 g31 g32 g33 g34 g35 g36 g37 g38 g39 g40 g41 g42 g43 g44 : AV), σ = ⟨[.int .i64 b, .int .i64 a, g2, g3, .bool false, .ref 0 0 (b + 1), .int .i64 (n + 1 : Nat), .int .i64 k, g8, g9, g10, g11, g12, g13, g14, g15, g16, g17, g18, g19, g20, g21, g22, g23, g24, g25, g26, g27, g28, g29, g30, g31, g32, g33, g34, g35, g36, g37, g38, g39, g40, g41, g42, g43, g44], H, 1⟩ ∧
      H 0 = some ⟨rowB (b + 1) f, false, 1, false⟩ ∧ k ≤ n + 1 ∧ ∀ j, j ≤ b → f j = if j ≤ k then pas n j else pas (n + 1) j) (n + 1) ⟨_, _, _, _, _, _, _, _, _, _, _, _, _, _, _, _, _, _, _, _, _, _, _, _, _, _, _, _, _, _, _, _, _, _, _, _, _, _, _, _, _, rfl, hH, by omega, ?_⟩ ?_
    · intro j hj
      rw [hf j hj]
      split
      · rfl
      · rw [pas_big n j (by omega), pas_big (n + 1) j (by omega)]
    rintro k σ ⟨H, f, g2, g3, g8, g9, g10, g11, g12, g13, g14, g15, g16, g17, g18, g19, g20, g21, g22, g23, g24, g25, g26, g27, g28, g29, g30, g31, g32, g33, g34, g35, g36, g37, g38, g39, g40, g41, g42, g43, g44, rfl, hH, hk, hf⟩
    by_cases hk0 : k = 0
    · subst hk0
      simp (maxSteps := 4000000) (disch := omega) only [go_sem, ↓reduceIte, Nat.reduceAdd, Nat.reduceSub, Nat.reduceMul, Nat.reduceEqDiff, reduceCtorEq, Int.reduceAdd, Int.reduceLT, Int.reduceLE, Int.reduceToNat, Int.reduceNeg, Int.reduceSub, ← List.map_take, ← List.map_drop, wrap64, wrapu64, wrapu32]
      exact ⟨m - 1, by omega, H, n + 1, f, _, _, _, _, _, _, _, _, _, _, _, _, _, _, _, _, _, _, _, _, _, _, _, _, _, _, _, _, _, _, _, _, _, _, _, _, _, _, _, _, rfl, hH, by omega, fun j hj => by
        rw [hf j hj]
        split
        · rename_i h; obtain rfl : j = 0 := by omega
          rfl
        · rfl⟩
    · simp (maxSteps := 4000000) (disch := omega) only [go_sem, ↓reduceIte, Nat.reduceAdd, Nat.reduceSub, Nat.reduceMul, Nat.reduceEqDiff, reduceCtorEq, Int.reduceAdd, Int.reduceLT, Int.reduceLE, Int.reduceToNat, Int.reduceNeg, Int.reduceSub, ← List.map_take, ← List.map_drop, wrap64, wrapu64, wrapu32]
      refine W_drawn ?_
      have e2 : ((k : Int) - 1) = ((k - 1 : Nat) : Int) := by omega
      simp (maxSteps := 4000000) (disch := omega) only [go_sem, ↓reduceIte, Nat.reduceAdd, Nat.reduceSub, Nat.reduceMul, Nat.reduceEqDiff, reduceCtorEq, Int.reduceAdd, Int.reduceLT, Int.reduceLE, Int.reduceToNat, Int.reduceNeg, Int.reduceSub, ← List.map_take, ← List.map_drop, wrap64, wrapu64, wrapu32, hH, e2, rowB_len, rowB_get, rowB_set]
      refine ⟨by rfl, k - 1, by omega, _, _, _, _, _, _, _, _, _, _, _, _, _, _, _, _, _, _, _, _, _, _, _, _, _, _, _, _, _, _, _, _, _, _, _, _, _, _, _, _, _, rfl, rfl, by omega, fun j hj => ?_⟩
      split
      · rename_i h
        subst h
        rw [if_neg (by omega), hf j (by omega), hf (j - 1) (by omega), if_pos (by omega), if_pos (by omega)]
        cases j with
        | zero => omega
        | succ j => simp [pas, bne]
      · rename_i h
        rw [hf j hj]
        by_cases hjk : j ≤ k - 1
        · rw [if_pos hjk, if_pos (by omega)]
        · rw [if_neg hjk, if_neg (by omega)]
end Go.Proofs.Ytpfcijgcjghgeaa

/- Plain facts on numbers, their words and their bits. (Own work of this repo.) -/
namespace Go.Proofs.Ytpfcijgcjghgeaa
open Vm

theorem pas_two : ∀ m, (∀ k, pas (2 * m) (2 * k) = pas m k ∧ pas (2 * m) (2 * k + 1) = false) := by
  intro m
  induction m with
  | zero =>
    intro k
    cases k with
    | zero => exact ⟨rfl, rfl⟩
    | succ k => exact ⟨rfl, rfl⟩
  | succ m ih =>
    have o1 : ∀ k, pas (2 * m + 1) (2 * k) = pas m k := by
      intro k
      cases k with
      | zero => have := (ih 0).1; simpa [pas] using this
      | succ k =>
        have h1 := (ih (k + 1)).1
        have h2 := (ih k).2
        rw [show 2 * (k + 1) = 2 * k + 1 + 1 by omega] at h1 ⊢
        rw [pas, h1, h2]; simp
    have o2 : ∀ k, pas (2 * m + 1) (2 * k + 1) = pas m k := by
      intro k
      rw [pas, (ih k).1, (ih k).2]; simp
    intro k
    rw [show 2 * (m + 1) = 2 * m + 1 + 1 by omega]
    refine ⟨?_, ?_⟩
    · cases k with
      | zero => have := o1 0; simpa [pas] using this
      | succ k =>
        have h1 := o1 (k + 1)
        rw [show 2 * (k + 1) = 2 * k + 1 + 1 by omega] at h1 ⊢
        rw [pas, h1, o2 k, pas]
    · rw [pas, o2 k, o1 k]; simp
theorem pas_odd (m k : Nat) : pas (2 * m + 1) (2 * k) = pas m k ∧ pas (2 * m + 1) (2 * k + 1) = pas m k := by
  refine ⟨?_, ?_⟩
  · cases k with
    | zero => have := (pas_two m 0).1; simpa [pas] using this
    | succ k =>
      have h1 := (pas_two m (k + 1)).1
      have h2 := (pas_two m k).2
      rw [show 2 * (k + 1) = 2 * k + 1 + 1 by omega] at h1 ⊢
      rw [pas, h1, h2]; simp
  · rw [pas, (pas_two m k).1, (pas_two m k).2]; simp
theorem land_half (n m : Nat) : (n &&& m = n) ↔ (n / 2 &&& m / 2 = n / 2) ∧ (n % 2 = 1 → m % 2 = 1) := by
  have h1 : (n &&& m) / 2 = n / 2 &&& m / 2 := Nat.and_div_two
  have h2 : (n &&& m) % 2 = 1 ↔ n % 2 = 1 ∧ m % 2 = 1 := Nat.and_mod_two_eq_one
  constructor
  · intro h
    rw [h] at h1 h2
    exact ⟨h1.symm, fun h => (h2.1 h).2⟩
  · rintro ⟨h3, h4⟩
    rw [h3] at h1
    have : (n &&& m) % 2 = n % 2 := by
      by_cases hn : n % 2 = 1
      · rw [hn]; exact h2.2 ⟨hn, h4 hn⟩
      · have : ¬ (n &&& m) % 2 = 1 := fun h => hn (h2.1 h).1
        omega
    omega
theorem pas_land : ∀ m n, pas m n = decide (n &&& m = n) := by
  intro m
  induction m using Nat.strongRecOn with
  | _ m ih =>
    intro n
    by_cases hm : m = 0
    · subst hm
      cases n with
      | zero => rfl
      | succ n => simp [pas]
    · have hi := ih (m / 2) (by omega) (n / 2)
      rw [show decide (n &&& m = n) = decide ((n / 2 &&& m / 2 = n / 2) ∧ (n % 2 = 1 → m % 2 = 1)) from decide_eq_decide.2 (land_half n m)]
      rcases Nat.mod_two_eq_zero_or_one m with hm2 | hm2 <;> rcases Nat.mod_two_eq_zero_or_one n with hn2 | hn2
      · have e1 : pas m n = pas (m / 2) (n / 2) := by
          have := (pas_two (m / 2) (n / 2)).1
          rwa [show 2 * (m / 2) = m by omega, show 2 * (n / 2) = n by omega] at this
        rw [e1, hi]; simp [hn2]
      · have e1 : pas m n = false := by
          have := (pas_two (m / 2) (n / 2)).2
          rwa [show 2 * (m / 2) = m by omega, show 2 * (n / 2) + 1 = n by omega] at this
        rw [e1]; simp [hn2, hm2]
      · have e1 : pas m n = pas (m / 2) (n / 2) := by
          have := (pas_odd (m / 2) (n / 2)).1
          rwa [show 2 * (m / 2) + 1 = m by omega, show 2 * (n / 2) = n by omega] at this
        rw [e1, hi]; simp [hn2]
      · have e1 : pas m n = pas (m / 2) (n / 2) := by
          have := (pas_odd (m / 2) (n / 2)).2
          rwa [show 2 * (m / 2) + 1 = m by omega, show 2 * (n / 2) + 1 = n by omega] at this
        rw [e1, hi]; simp [hn2, hm2]

theorem add_or : ∀ a b : Nat, a &&& b = 0 → a + b = a ||| b := by
  intro a
  induction a using Nat.strongRecOn with
  | _ a ih =>
    intro b h
    by_cases ha : a = 0
    · simp [ha]
    · have h1 : (a &&& b) / 2 = a / 2 &&& b / 2 := Nat.and_div_two
      have h2 : (a &&& b) % 2 = 1 ↔ a % 2 = 1 ∧ b % 2 = 1 := Nat.and_mod_two_eq_one
      have h3 : (a ||| b) / 2 = a / 2 ||| b / 2 := Nat.or_div_two
      have h4 : (a ||| b) % 2 = 1 ↔ a % 2 = 1 ∨ b % 2 = 1 := Nat.or_mod_two_eq_one
      rw [h] at h1 h2
      have hi := ih (a / 2) (by omega) (b / 2) (by simpa using h1.symm)
      rw [← h3] at hi
      omega
theorem land_sub {n m : Nat} (h : n &&& m = n) : n &&& (m - n) = 0 ∧ (m - n) &&& m = m - n := by
  have e1 : n &&& (m ^^^ n) = 0 := by
    apply Nat.eq_of_testBit_eq; intro i
    have := congrArg (fun x => x.testBit i) h
    simp at this ⊢
    cases hn : n.testBit i <;> cases hm : m.testBit i <;> simp_all
  have e2 : n ||| (m ^^^ n) = m := by
    apply Nat.eq_of_testBit_eq; intro i
    have := congrArg (fun x => x.testBit i) h
    simp at this ⊢
    cases hn : n.testBit i <;> cases hm : m.testBit i <;> simp_all
  have e3 := add_or _ _ e1
  rw [e2] at e3
  have e4 : m - n = m ^^^ n := by omega
  rw [e4]
  refine ⟨e1, ?_⟩
  apply Nat.eq_of_testBit_eq; intro i
  have := congrArg (fun x => x.testBit i) h
  simp at this ⊢
  cases hn : n.testBit i <;> cases hm : m.testBit i <;> simp_all
theorem land_of_zero {n m : Nat} (hle : n ≤ m) (h : n &&& (m - n) = 0) : n &&& m = n := by
  have e := add_or _ _ h
  rw [show n + (m - n) = m by omega] at e
  rw [e]
  apply Nat.eq_of_testBit_eq; intro i
  simp
  cases n.testBit i <;> simp
theorem land_of_sub {n m : Nat} (hle : n ≤ m) (h : (m - n) &&& m = m - n) : n &&& m = n := by
  have := (land_sub h).2
  rwa [show m - (m - n) = n by omega] at this

theorem andNot_zero {a b : Nat} (ha : a < 4294967296) (hb : b < 4294967296) : andNot a b = 0 ↔ a &&& b = a := by
  have e1 : BitVec.ofInt (kb .u32) (a : Int) = BitVec.ofNat 32 a := by simp [kb, IntKind.bits]
  have e2 : BitVec.ofInt (kb .u32) (b : Int) = BitVec.ofNat 32 b := by simp [kb, IntKind.bits]
  have e : andNot a b = ((BitVec.ofNat 32 a &&& ~~~ BitVec.ofNat 32 b).toNat : Int) % 4294967296 := by
    unfold andNot
    rw [IntKind.wrap_u32', ← e1, ← e2]
    rfl
  rw [e]
  have hlt : (BitVec.ofNat 32 a &&& ~~~ BitVec.ofNat 32 b).toNat < 4294967296 := (BitVec.ofNat 32 a &&& ~~~ BitVec.ofNat 32 b).isLt
  have h0 : ((BitVec.ofNat 32 a &&& ~~~ BitVec.ofNat 32 b).toNat : Int) % 4294967296 = 0 ↔ (BitVec.ofNat 32 a &&& ~~~ BitVec.ofNat 32 b) = 0#32 := by
    rw [← BitVec.toNat_inj]
    simp only [BitVec.toNat_ofNat]
    omega
  rw [h0]
  have h1 : (BitVec.ofNat 32 a &&& ~~~ BitVec.ofNat 32 b) = 0#32 ↔ (BitVec.ofNat 32 a &&& BitVec.ofNat 32 b) = BitVec.ofNat 32 a := by
    constructor
    · intro h
      apply BitVec.eq_of_getLsbD_eq; intro i hi
      have := congrArg (fun x => x.getLsbD i) h
      simp [hi] at this ⊢
      cases h1 : a.testBit i <;> cases h2 : b.testBit i <;> simp_all
    · intro h
      apply BitVec.eq_of_getLsbD_eq; intro i hi
      have := congrArg (fun x => x.getLsbD i) h
      simp [hi] at this ⊢
      cases h1 : a.testBit i <;> cases h2 : b.testBit i <;> simp_all
  rw [h1, ← BitVec.toNat_inj, BitVec.toNat_and, BitVec.toNat_ofNat, BitVec.toNat_ofNat, Nat.mod_eq_of_lt ha, Nat.mod_eq_of_lt hb]
theorem land64 {a b : Nat} (ha : a < 9223372036854775808) (hb : b < 9223372036854775808) : IntKind.i64.wrap (BitVec.ofInt (kb .i64) a &&& BitVec.ofInt (kb .i64) b).toNat = ((a &&& b : Nat) : Int) := by
  have e1 : BitVec.ofInt (kb .i64) (a : Int) = BitVec.ofNat 64 a := by simp [kb, IntKind.bits]
  have e2 : BitVec.ofInt (kb .i64) (b : Int) = BitVec.ofNat 64 b := by simp [kb, IntKind.bits]
  have e : (BitVec.ofInt (kb .i64) a &&& BitVec.ofInt (kb .i64) b).toNat = a &&& b := by
    rw [e1, e2]
    show (BitVec.ofNat 64 a &&& BitVec.ofNat 64 b).toNat = _
    rw [BitVec.toNat_and, BitVec.toNat_ofNat, BitVec.toNat_ofNat, Nat.mod_eq_of_lt (by omega), Nat.mod_eq_of_lt (by omega)]
  rw [e]
  have : a &&& b ≤ a := Nat.and_le_left
  exact wrap64 (by omega) (by omega)
end Go.Proofs.Ytpfcijgcjghgeaa

/- Walks: Under, of any numbers. (Own work of this repo.) -/
namespace Go.Proofs.Ytpfcijgcjghgeaa
open Vm
set_option maxRecDepth 10000

def runderW (a b : List Nat) : Bool := (List.range a.length).all fun i => decide (a.getD i 0 &&& b.getD i 0 = a.getD i 0)
theorem rUnder_walk (na ma : Bool) (a : List Nat) (nb mb : Bool) (b : List Nat) (ha : InR a) (hb : InR b) (la : a.length < 2 ^ 60) (lb : b.length < 2 ^ 60) :
    denP E 37 [iv na ma a, iv nb mb b] = some (.ret (.bool (runderW a b))) := by
  refine denP_eq E37 rfl (by simp [AV.pureL, AV.pure, pure_wd]) ?_
  simp (maxSteps := 4000000) (disch := omega) only [go_sem, ↓reduceIte, Nat.reduceAdd, Nat.reduceSub, Nat.reduceMul, Nat.reduceEqDiff, reduceCtorEq, Int.reduceAdd, Int.reduceLT, Int.reduceLE, Int.reduceToNat, Int.reduceNeg, Int.reduceSub, ← List.map_take, ← List.map_drop, wrap64, wrapu64, wrapu32, ← Int.natCast_add, ← Int.natCast_mul, cast_succ, wrapu32_nat, shr32, reps_wd, map_set_wd, List.length_set, zs_len, Try.f37]
  refine W_loopS (fun k sl H nx => ∃ i : Nat, (∃ g : Nat → AV, sl = [g 0, g 1, .ptr 0 0, .ptr 1 0, g 4, .int .i64 i, g 6, g 7, g 8, g 9, g 10, g 11, g 12, g 13, g 14, g 15, g 16, g 17, g 18, g 19, g 20, g 21, g 22, g 23, g 24, g 25, g 26, g 27, g 28, g 29, g 30, g 31, g 32, g 33, g 34, g 35, g 36]) ∧ H 0 = some ⟨[.bool na, .lst ma (a.map wd)], true, 2, false⟩ ∧ H 1 = some ⟨[.bool nb, .lst mb (b.map wd)], true, 2, false⟩ ∧
    i + k = a.length ∧ Hd (∀ t, t < i → a.getD t 0 &&& b.getD t 0 = a.getD t 0)) a.length ⟨0, garb rfl, rfl, rfl, by omega, ⟨fun t ht => by omega⟩⟩ ?_
  rintro k _ H nx ⟨i, ⟨g, rfl⟩, h0, h1, hi, hall⟩
  by_cases hk : k = 0
  · have hv : runderW a b = true := by
      unfold runderW
      rw [List.all_eq_true]
      intro t ht
      exact decide_eq_true (hall.out t (by have := List.mem_range.1 ht; omega))
    clear hall
    simp (maxSteps := 4000000) (disch := omega) only [go_sem, ↓reduceIte, Nat.reduceAdd, Nat.reduceSub, Nat.reduceMul, Nat.reduceEqDiff, reduceCtorEq, Int.reduceAdd, Int.reduceLT, Int.reduceLE, Int.reduceToNat, Int.reduceNeg, Int.reduceSub, ← List.map_take, ← List.map_drop, wrap64, wrapu64, wrapu32, ← Int.natCast_add, ← Int.natCast_mul, cast_succ, wrapu32_nat, shr32, reps_wd, map_set_wd, List.length_set, zs_len, h0, h1, hv]
  · have hx := ha.get i
    have hy := hb.get i
    have hno : ¬ (a.getD i 0 &&& b.getD i 0 = a.getD i 0) → runderW a b = false := by
      intro h
      unfold runderW
      rw [List.all_eq_false]
      exact ⟨i, List.mem_range.2 (by omega), by simpa using h⟩
    have hand := and32b hx hy
    have hstep : a.getD i 0 &&& b.getD i 0 = a.getD i 0 → Hd (∀ t, t < i + 1 → a.getD t 0 &&& b.getD t 0 = a.getD t 0) := by
      intro h
      refine ⟨fun t ht => ?_⟩
      by_cases hti : t = i
      · subst hti; exact h
      · exact hall.out t (by omega)
    clear hall
    by_cases hib : i < b.length
    · simp (maxSteps := 4000000) (disch := omega) only [go_sem, ↓reduceIte, Nat.reduceAdd, Nat.reduceSub, Nat.reduceMul, Nat.reduceEqDiff, reduceCtorEq, Int.reduceAdd, Int.reduceLT, Int.reduceLE, Int.reduceToNat, Int.reduceNeg, Int.reduceSub, ← List.map_take, ← List.map_drop, wrap64, wrapu64, wrapu32, ← Int.natCast_add, ← Int.natCast_mul, cast_succ, wrapu32_nat, shr32, reps_wd, map_set_wd, List.length_set, zs_len, h0, h1]
      refine W_drawn ?_
      by_cases he : a.getD i 0 &&& b.getD i 0 = a.getD i 0
      · simp (maxSteps := 4000000) (disch := omega) only [go_sem, ↓reduceIte, Nat.reduceAdd, Nat.reduceSub, Nat.reduceMul, Nat.reduceEqDiff, reduceCtorEq, Int.reduceAdd, Int.reduceLT, Int.reduceLE, Int.reduceToNat, Int.reduceNeg, Int.reduceSub, ← List.map_take, ← List.map_drop, wrap64, wrapu64, wrapu32, ← Int.natCast_add, ← Int.natCast_mul, cast_succ, wrapu32_nat, shr32, reps_wd, map_set_wd, List.length_set, zs_len, h0, h1, hand, he]
        exact ⟨by rfl, k - 1, by omega, i + 1, garb rfl, by omega, hstep he⟩
      · have hv := hno he
        have he2 : ¬ ((a.getD i 0 &&& b.getD i 0 : Nat) : Int) = ((a.getD i 0 : Nat) : Int) := by omega
        generalize a.getD i 0 &&& b.getD i 0 = z at *
        simp (maxSteps := 4000000) (disch := omega) only [go_sem, ↓reduceIte, Nat.reduceAdd, Nat.reduceSub, Nat.reduceMul, Nat.reduceEqDiff, reduceCtorEq, Int.reduceAdd, Int.reduceLT, Int.reduceLE, Int.reduceToNat, Int.reduceNeg, Int.reduceSub, ← List.map_take, ← List.map_drop, wrap64, wrapu64, wrapu32, ← Int.natCast_add, ← Int.natCast_mul, cast_succ, wrapu32_nat, shr32, reps_wd, map_set_wd, List.length_set, zs_len, h0, h1, hand, hv]
        rfl
    · have hb0 := getD_ge (l := b) (i := i) (by omega)
      rw [hb0, Nat.and_zero] at hno hstep
      have hand0 : IntKind.u32.wrap ((BitVec.ofInt (kb .u32) ((a.getD i 0 : Nat) : Int) &&& BitVec.ofInt (kb .u32) 0).toNat : Int) = 0 := by
        have := and32b hx (b := 0) (by decide)
        rw [Nat.and_zero] at this
        exact this
      clear hand hb0 hy
      simp (maxSteps := 4000000) (disch := omega) only [go_sem, ↓reduceIte, Nat.reduceAdd, Nat.reduceSub, Nat.reduceMul, Nat.reduceEqDiff, reduceCtorEq, Int.reduceAdd, Int.reduceLT, Int.reduceLE, Int.reduceToNat, Int.reduceNeg, Int.reduceSub, ← List.map_take, ← List.map_drop, wrap64, wrapu64, wrapu32, ← Int.natCast_add, ← Int.natCast_mul, cast_succ, wrapu32_nat, shr32, reps_wd, map_set_wd, List.length_set, zs_len, h0, h1]
      refine W_drawn ?_
      by_cases he : 0 = a.getD i 0
      · simp (maxSteps := 4000000) (disch := omega) only [go_sem, ↓reduceIte, Nat.reduceAdd, Nat.reduceSub, Nat.reduceMul, Nat.reduceEqDiff, reduceCtorEq, Int.reduceAdd, Int.reduceLT, Int.reduceLE, Int.reduceToNat, Int.reduceNeg, Int.reduceSub, ← List.map_take, ← List.map_drop, wrap64, wrapu64, wrapu32, cast_succ, h0, h1, hand0]
        exact ⟨by rfl, k - 1, by omega, i + 1, garb rfl, by omega, hstep he⟩
      · have hv := hno he
        have he2 : ¬ (0 : Int) = ((a.getD i 0 : Nat) : Int) := by omega
        simp (maxSteps := 4000000) (disch := omega) only [go_sem, ↓reduceIte, Nat.reduceAdd, Nat.reduceSub, Nat.reduceMul, Nat.reduceEqDiff, reduceCtorEq, Int.reduceAdd, Int.reduceLT, Int.reduceLE, Int.reduceToNat, Int.reduceNeg, Int.reduceSub, ← List.map_take, ← List.map_drop, wrap64, wrapu64, wrapu32, cast_succ, h0, h1, hand0, hv]
        rfl
theorem top_lt {b : List Nat} {i : Nat} (h : b.length ≤ i) : b.getD i 0 = 0 := getD_ge h
/-- The two say the same of numbers without zeros at their ends. -/
theorem under_same {a b : List Nat} (ha : Norm a) (hb : InR b) : underW a b = runderW a b := by
  unfold underW runderW
  by_cases h : a.length ≤ b.length
  · rw [decide_eq_true h, Bool.true_and]
    congr 1
    funext i
    rw [decide_eq_decide]
    exact andNot_zero (ha.1.get i) (hb.get i)
  · rw [decide_eq_false h, Bool.false_and]
    symm
    rw [List.all_eq_false]
    have h0 : a.length ≠ 0 := by omega
    refine ⟨a.length - 1, List.mem_range.2 (by omega), ?_⟩
    have h1 : a.getD (a.length - 1) 0 ≠ 0 := by
      rcases ha.2 with h2 | h2
      · subst h2; simp at h0
      · exact h2
    rw [getD_ge (l := b) (by omega), Nat.and_zero]
    simpa using fun e => h1 e.symm
theorem rUnder_spec (ma : Bool) (x : Int) (mb : Bool) (y : Int) (hx : (dg x).length < 2 ^ 60) (hy : (dg y).length < 2 ^ 60) : denP E 37 [I ma x, I mb y] = some (.ret (.bool (underW (dg x) (dg y)))) := by
  rw [under_same (dg_norm x) (dg_inR y)]
  exact rUnder_walk _ _ _ _ _ _ (dg_inR x) (dg_inR y) hx hy
theorem under_spec (ma : Bool) (x : Int) (mb : Bool) (y : Int) (hx : (dg x).length ≤ 4096) (hy : (dg y).length ≤ 4096) (hx0 : 0 ≤ x) (hy0 : 0 ≤ y) : denP E 11 [I ma x, I mb y] = some (.ret (.tup [.bool (underW (dg x) (dg y)), .int .i64 0])) := by
  have v1 := validW_I x
  have v2 := validW_I y
  rw [decide_eq_true hx, ng_false.2 hx0] at v1
  rw [decide_eq_true hy, ng_false.2 hy0] at v2
  have := under11 ma (dg x) mb (dg y) (by omega) (by omega) v1 v2
  rw [I, I, ng_false.2 hx0, ng_false.2 hy0]
  exact this
theorem under_neg (ma : Bool) (x : Int) (mb : Bool) (y : Int) (hx : (dg x).length ≤ 4096) (hy : (dg y).length ≤ 4096) (h : (ng x || ng y) = true) : denP E 11 [I ma x, I mb y] = some (.ret (.tup [.bool false, .int .i64 2])) := by
  refine denP_eq E11 rfl (by simp [AV.pureL, AV.pure, pure_wd]) ?_
  have h1 := valid2_I ma x mb y hx hy
  cases h2 : ng x with
  | true =>
    simp only [I, h2] at h1
    simp (maxSteps := 4000000) (disch := omega) only [go_sem, ↓reduceIte, Nat.reduceAdd, Nat.reduceSub, Nat.reduceMul, Nat.reduceEqDiff, reduceCtorEq, Int.reduceAdd, Int.reduceLT, Int.reduceLE, Int.reduceToNat, Int.reduceNeg, Int.reduceSub, ← List.map_take, ← List.map_drop, wrap64, wrapu64, wrapu32, Try.f11, h1, h2, reps, fillAll, refP, elems]
  | false =>
    rw [h2, Bool.false_or] at h
    simp only [I, h2, h] at h1
    simp (maxSteps := 4000000) (disch := omega) only [go_sem, ↓reduceIte, Nat.reduceAdd, Nat.reduceSub, Nat.reduceMul, Nat.reduceEqDiff, reduceCtorEq, Int.reduceAdd, Int.reduceLT, Int.reduceLE, Int.reduceToNat, Int.reduceNeg, Int.reduceSub, ← List.map_take, ← List.map_drop, wrap64, wrapu64, wrapu32, Try.f11, h1, h2, h, reps, fillAll, refP, elems]
end Go.Proofs.Ytpfcijgcjghgeaa

/- Plain facts: dividing rows of words, word by word. (Own work of this repo.) -/
namespace Vm

/-- What n words from place j on are worth. -/
def wv (o : List Nat) (j : Nat) : Nat → Nat
  | 0 => 0
  | k + 1 => wv o j k + o.getD (j + k) 0 * BB ^ k
theorem vp_wv (o : List Nat) (j : Nat) : ∀ n, vp o (j + n) = vp o j + BB ^ j * wv o j n
  | 0 => by simp [wv]
  | n + 1 => by
    rw [← Nat.add_assoc, vp, vp_wv o j n, wv, Nat.mul_add, Nat.pow_add, Nat.add_assoc]
    congr 2
    rw [Nat.mul_comm (BB ^ j) (BB ^ n), ← Nat.mul_assoc, Nat.mul_comm (BB ^ j)]
theorem wv_lt {o : List Nat} (h : InR o) (j : Nat) : ∀ n, wv o j n < BB ^ n
  | 0 => by simp [wv]
  | n + 1 => by
    have h1 := wv_lt h j n
    have h2 := h.get (j + n)
    rw [wv, Nat.pow_succ, Nat.mul_comm (BB ^ n)]
    have h3 : (o.getD (j + n) 0 + 1) * BB ^ n ≤ BB * BB ^ n := Nat.mul_le_mul_right _ h2
    rw [Nat.add_mul] at h3
    omega
theorem wv_set (o : List Nat) (j i x : Nat) : ∀ n, n ≤ i → wv (o.set (j + i) x) j n = wv o j n
  | 0, _ => rfl
  | n + 1, h => by rw [wv, wv, wv_set o j i x n (by omega), lget_set_ne (by omega)]
theorem wv_congr {o p : List Nat} {j : Nat} : ∀ n, (∀ t, j ≤ t → t < j + n → o.getD t 0 = p.getD t 0) → wv o j n = wv p j n
  | 0, _ => rfl
  | n + 1, h => by rw [wv, wv, wv_congr n (fun t h1 h2 => h t h1 (by omega)), h (j + n) (by omega) (by omega)]
theorem split_mul' (s p : Nat) : s % 4294967296 * p + s / 4294967296 * (p * BB) = s * p := split_mul s p
/-- One word of a multiple is subtracted. -/
theorem ms_step {o p v : List Nat} {j i q c0 b0 b1 w x : Nat} (hp : j + i < p.length) (hv : wv p j i + q * vp v i = wv o j i + (c0 + b0) * BB ^ i) (hx : x = q * v.getD i 0 + c0)
    (hw : w + x % 4294967296 + b0 = o.getD (j + i) 0 + b1 * 4294967296) :
    wv (p.set (j + i) w) j (i + 1) + q * vp v (i + 1) = wv o j (i + 1) + (x / 4294967296 + b1) * BB ^ (i + 1) := by
  rw [wv, wv, vp, wv_set p j i w i (Nat.le_refl _), lget_set_self hp, Nat.pow_succ]
  have h1 := split_mul' x (BB ^ i)
  have e : BB = 4294967296 := rfl
  have h2 : w * BB ^ i + x % 4294967296 * BB ^ i + b0 * BB ^ i = o.getD (j + i) 0 * BB ^ i + b1 * (BB ^ i * BB) := by
    rw [← Nat.add_mul, ← Nat.add_mul, hw, Nat.add_mul, Nat.mul_assoc b1, Nat.mul_comm (BB ^ i)]
  have h3 : x * BB ^ i = q * (v.getD i 0 * BB ^ i) + c0 * BB ^ i := by rw [hx, Nat.add_mul, Nat.mul_assoc]
  rw [Nat.mul_add, Nat.add_mul]
  rw [Nat.add_mul] at hv
  omega
theorem ms_last {o p : List Nat} {j n c w b C : Nat} (hp : j + n < p.length) (hv : wv p j n + C = wv o j n + c * BB ^ n) (hw : w + c = o.getD (j + n) 0 + b * 4294967296) :
    wv (p.set (j + n) w) j (n + 1) + C = wv o j (n + 1) + b * BB ^ (n + 1) := by
  rw [wv, wv, wv_set p j n w n (Nat.le_refl _), lget_set_self hp, Nat.pow_succ]
  have e : BB = 4294967296 := rfl
  have h2 : w * BB ^ n + c * BB ^ n = o.getD (j + n) 0 * BB ^ n + b * (BB ^ n * BB) := by
    rw [← Nat.add_mul, hw, Nat.add_mul, Nat.mul_assoc b, Nat.mul_comm (BB ^ n)]
  omega
/-- One word is added. -/
theorem as_step {o p v : List Nat} {j i c s : Nat} (hp : j + i < p.length) (hv : wv p j i + c * BB ^ i = wv o j i + vp v i) (hs : s = c + o.getD (j + i) 0 + v.getD i 0) :
    wv (p.set (j + i) (s % 4294967296)) j (i + 1) + s / 4294967296 * BB ^ (i + 1) = wv o j (i + 1) + vp v (i + 1) := by
  have h := split_mul' s (BB ^ i)
  rw [wv, wv, vp, wv_set p j i _ i (Nat.le_refl _), lget_set_self hp, Nat.pow_succ]
  have h3 : s * BB ^ i = c * BB ^ i + o.getD (j + i) 0 * BB ^ i + v.getD i 0 * BB ^ i := by rw [hs, Nat.add_mul, Nat.add_mul]
  omega
theorem as_last {P p : List Nat} {j n c w V : Nat} (hp : j + n < p.length) (hv : wv p j n + c * BB ^ n = wv P j n + V) (hw : w = P.getD (j + n) 0 + c) :
    wv (p.set (j + n) (w % 4294967296)) j (n + 1) + w / 4294967296 * BB ^ (n + 1) = wv P j (n + 1) + V := by
  have h := split_mul' w (BB ^ n)
  rw [wv, wv, wv_set p j n _ n (Nat.le_refl _), lget_set_self hp, Nat.pow_succ]
  have h3 : w * BB ^ n = P.getD (j + n) 0 * BB ^ n + c * BB ^ n := by rw [hw, Nat.add_mul]
  omega
/-- The guess is too great: it may fall. -/
theorem kn_dec {q r v1 v2 u2 top U V p : Nat} (ht : q * v1 + r = top) (hV : (v1 * 4294967296 + v2) * p ≤ V) (hU : U < (top * 4294967296 + u2 + 1) * p) (hUV : U < V * 4294967296)
    (h : 4294967296 ≤ q ∨ r * 4294967296 + u2 < q * v2) : U < q * V := by
  rcases h with h | h
  · have : 4294967296 * V ≤ q * V := Nat.mul_le_mul_right _ h
    rw [Nat.mul_comm V] at hUV
    omega
  · have h1 : top * 4294967296 + u2 + 1 ≤ q * (v1 * 4294967296 + v2) := by
      rw [Nat.mul_add, ← Nat.mul_assoc, ← ht, Nat.add_mul]; omega
    have h2 := Nat.mul_le_mul_right p h1
    have h3 : q * (v1 * 4294967296 + v2) * p ≤ q * V := by rw [Nat.mul_assoc]; exact Nat.mul_le_mul_left _ hV
    omega
/-- The guess is one too great at most. -/
theorem kn_end {q r v1 v2 u2 top U V p : Nat} (ht : q * v1 + r = top) (hv1 : 1 ≤ v1) (hV : (v1 * 4294967296 + v2) * p ≤ V) (hV2 : V < (v1 * 4294967296 + v2 + 1) * p) (hU : (top * 4294967296 + u2) * p ≤ U)
    (hq : q < 4294967296) (hv2 : v2 < 4294967296) (h : q * v2 ≤ r * 4294967296 + u2 ∨ 4294967296 ≤ r) : q * V ≤ U + V := by
  have h0 : q * v2 ≤ r * 4294967296 + u2 := by
    rcases h with h | h
    · exact h
    · have := Nat.mul_le_mul (Nat.le_of_lt hq) (Nat.le_of_lt hv2)
      omega
  have h1 : q * (v1 * 4294967296 + v2 + 1) ≤ top * 4294967296 + u2 + q := by
    rw [Nat.mul_add, Nat.mul_add, ← Nat.mul_assoc, ← ht, Nat.add_mul]; omega
  have h2 := Nat.mul_le_mul_right p h1
  have h3 : q * V ≤ q * (v1 * 4294967296 + v2 + 1) * p := by rw [Nat.mul_assoc]; exact Nat.mul_le_mul_left _ (Nat.le_of_lt hV2)
  have h4 : q * p ≤ V := by
    refine Nat.le_trans ?_ hV
    refine Nat.mul_le_mul_right _ ?_
    have : 1 * 4294967296 ≤ v1 * 4294967296 := Nat.mul_le_mul_right _ hv1
    omega
  rw [Nat.add_mul] at h2
  omega
theorem kn_fin0 {q U V u' : Nat} (h1 : u' + q * V = U) (h2 : U < (q + 1) * V) : q = U / V ∧ u' = U % V := by
  have hV : 0 < V := by
    rcases Nat.eq_zero_or_pos V with h | h
    · subst h; simp at h2
    · exact h
  rw [Nat.add_mul, Nat.one_mul] at h2
  have h3 : u' < V := by omega
  constructor
  · symm; rw [← h1, Nat.add_mul_div_right _ _ hV, Nat.div_eq_of_lt h3, Nat.zero_add]
  · rw [← h1, Nat.add_mul_mod_self_right, Nat.mod_eq_of_lt h3]
theorem kn_fin0' {q U V u' b w : Nat} (h1 : u' + q * V = U + b * w) (hb : b = 0) (h2 : U < (q + 1) * V) : q = U / V ∧ u' = U % V := by
  rw [hb, Nat.zero_mul] at h1
  exact kn_fin0 h1 h2
theorem kn_one {A U b w : Nat} (h1 : A = U + b * w) (hb : b = 1) : A = U + w := by rw [h1, hb, Nat.one_mul]
theorem kn_fin1 {q U V u' : Nat} (h1 : U < q * V) (h2 : q * V ≤ U + V) (h3 : u' + q * V = U + V) : q - 1 = U / V ∧ u' = U % V ∧ 1 ≤ q := by
  have hq : 1 ≤ q := by
    rcases Nat.eq_zero_or_pos q with h | h
    · subst h; simp at h1
    · exact h
  obtain ⟨k, rfl⟩ : ∃ k, q = k + 1 := ⟨q - 1, by omega⟩
  rw [Nat.add_mul, Nat.one_mul] at h3 h1
  have := kn_fin0 (q := k) (U := U) (V := V) (u' := u') (by omega) (by rw [Nat.add_mul]; omega)
  exact ⟨by simpa using this.1, this.2, hq⟩
theorem kn_back {U V q P A t n : Nat} (hA : A + q * V = U + BB ^ n) (hP : P + t * BB ^ n = A + V) (hPl : P < BB ^ n) (h2 : q * V ≤ U + V) (hVl : V ≤ BB ^ n) (h1 : U < q * V) : P + q * V = U + V := by
  -- t is 1
  have h3 : P + t * BB ^ n + q * V = U + BB ^ n + V := by omega
  have ht : t = 1 := by
    rcases Nat.lt_or_ge t 1 with h | h
    · have : t = 0 := by omega
      subst this; omega
    · rcases Nat.lt_or_ge 1 t with h4 | h4
      · have : 2 * BB ^ n ≤ t * BB ^ n := Nat.mul_le_mul_right _ h4
        omega
      · omega
  subst ht
  omega
/-- The words of a number above its length are zeros. -/
theorem vp_val {o : List Nat} {m : Nat} (h : val o < BB ^ m) : vp o m = val o := by
  rcases Nat.lt_or_ge m o.length with hm | hm
  · have h1 := vp_wv o m (o.length - m)
    rw [show m + (o.length - m) = o.length by omega] at h1
    have h2 : wv o m (o.length - m) = 0 := by
      rcases Nat.eq_zero_or_pos (wv o m (o.length - m)) with h0 | h0
      · exact h0
      · have : BB ^ m * 1 ≤ BB ^ m * wv o m (o.length - m) := Nat.mul_le_mul_left _ h0
        rw [val] at h; omega
    rw [h2, Nat.mul_zero, Nat.add_zero] at h1
    exact h1.symm
  · exact vp_ge o m hm
theorem getD_of_lt {o : List Nat} {m i : Nat} (h : val o < BB ^ m) (hi : m ≤ i) : o.getD i 0 = 0 := by
  have h1 := vp_val h
  have h2 : vp o (i + 1) = val o := vp_val (Nat.lt_of_lt_of_le h (Nat.pow_le_pow_right (by decide) (by omega)))
  have h3 : vp o i = val o := vp_val (Nat.lt_of_lt_of_le h (Nat.pow_le_pow_right (by decide) hi))
  rw [vp, h3] at h2
  have h4 : o.getD i 0 * BB ^ i = 0 := by omega
  rcases Nat.mul_eq_zero.1 h4 with h5 | h5
  · exact h5
  · exact absurd h5 (Nat.ne_of_gt (Nat.pow_pos (by decide)))
theorem val_of_zero {o : List Nat} {m : Nat} (h : ∀ i, m ≤ i → o.getD i 0 = 0) : val o = vp o m := by
  rcases Nat.lt_or_ge m o.length with hm | hm
  · have h1 := vp_hi (a := o) (b := List.replicate m 0) (k := m) o.length (by omega) (fun t h2 h3 => by rw [h t h2, getD_replicate])
    rw [vp_replicate, vp_replicate] at h1
    rw [val]; omega
  · exact (vp_ge o m hm).symm
theorem val_set0 {o : List Nat} {j x : Nat} (hj : j < o.length) (h : o.getD j 0 = 0) : val (o.set j x) = val o + x * BB ^ j := by
  have h1 := vp_hi (a := o.set j x) (b := o) (k := j + 1) o.length (by omega) (fun t h2 h3 => by rw [lget_set_ne (by omega)])
  rw [vp, vp, vp_set o j x j (Nat.le_refl _), lget_set_self hj, h] at h1
  rw [val, val, List.length_set]; omega
/-- One word of the quotient. -/
theorem kn_outer {o p out : List Nat} {V X j n : Nat} (ho : InR o) (hVn : V < BB ^ n) (hj : j < out.length) (h1 : val o + val out * V = X) (h2 : val o < V * BB ^ (j + 1)) (h3 : out.getD j 0 = 0)
    (hp : wv p j (n + 1) = wv o j (n + 1) % V) (hs : ∀ t, t < j ∨ j + n + 1 ≤ t → p.getD t 0 = o.getD t 0) :
    val p + val (out.set j (wv o j (n + 1) / V)) * V = X ∧ val p < V * BB ^ j := by
  have hlt : val o < BB ^ (j + (n + 1)) := by
    refine Nat.lt_of_lt_of_le h2 ?_
    rw [show j + (n + 1) = n + (j + 1) by omega, Nat.pow_add BB n (j + 1)]
    exact Nat.mul_le_mul_right _ (Nat.le_of_lt hVn)
  have e1 : val o = vp o j + BB ^ j * wv o j (n + 1) := by rw [← vp_wv, vp_val hlt]
  have e2 : val p = vp o j + BB ^ j * (wv o j (n + 1) % V) := by
    rw [val_of_zero (m := j + (n + 1)) (fun i hi => by rw [hs i (.inr (by omega)), getD_of_lt hlt hi]), vp_wv, hp]
    congr 1
    exact vp_congr j fun i hi => hs i (.inl hi)
  have hV : 0 < V := by
    rcases Nat.eq_zero_or_pos V with h | h
    · subst h; simp at h2
    · exact h
  generalize wv o j (n + 1) = U at *
  have h4 := Nat.div_add_mod U V
  constructor
  · rw [val_set0 hj h3, Nat.add_mul, ← h1, e1, e2]
    have : BB ^ j * U = BB ^ j * (U % V) + U / V * BB ^ j * V := by
      conv => lhs; rw [← h4]
      rw [Nat.mul_add, Nat.add_comm, Nat.mul_comm (U / V), Nat.mul_assoc, Nat.mul_comm V]
    omega
  · rw [e2]
    have h5 := vp_lt ho j
    have h6 : BB ^ j * (U % V + 1) ≤ BB ^ j * V := Nat.mul_le_mul_left _ (Nat.mod_lt _ hV)
    rw [Nat.mul_add, Nat.mul_one] at h6
    rw [Nat.mul_comm V]
    omega
theorem kn_window {o : List Nat} {V j n : Nat} (hVn : V < BB ^ n) (h2 : val o < V * BB ^ (j + 1)) : wv o j (n + 1) < V * 4294967296 := by
  have hlt : val o < BB ^ (j + (n + 1)) := by
    refine Nat.lt_of_lt_of_le h2 ?_
    rw [show j + (n + 1) = n + (j + 1) by omega, Nat.pow_add BB n (j + 1)]
    exact Nat.mul_le_mul_right _ (Nat.le_of_lt hVn)
  have e1 : val o = vp o j + BB ^ j * wv o j (n + 1) := by rw [← vp_wv, vp_val hlt]
  rw [Nat.pow_succ, ← Nat.mul_assoc, Nat.mul_comm V, Nat.mul_assoc] at h2
  have h3 : BB ^ j * wv o j (n + 1) < BB ^ j * (V * BB) := by omega
  exact Nat.lt_of_mul_lt_mul_left h3
/-- What a row's three highest words and the row are worth. -/
theorem wv_top {o : List Nat} (h : InR o) {j n : Nat} : (o.getD (j + n + 2) 0 * 4294967296 * 4294967296 + o.getD (j + n + 1) 0 * 4294967296 + o.getD (j + n) 0) * BB ^ n ≤ wv o j (n + 3) ∧ wv o j (n + 3) < (o.getD (j + n + 2) 0 * 4294967296 * 4294967296 + o.getD (j + n + 1) 0 * 4294967296 + o.getD (j + n) 0 + 1) * BB ^ n := by
  have h1 := wv_lt h j n
  have e : wv o j (n + 3) = wv o j n + (o.getD (j + n + 2) 0 * 4294967296 * 4294967296 + o.getD (j + n + 1) 0 * 4294967296 + o.getD (j + n) 0) * BB ^ n := by
    rw [wv, wv, wv, Nat.pow_succ, Nat.pow_succ, Nat.pow_succ]
    have e : BB = 4294967296 := rfl
    simp only [← Nat.add_assoc, e]
    generalize (4294967296 : Nat) ^ n = P
    generalize o.getD (j + n + 2) 0 = a
    generalize o.getD (j + n + 1) 0 = b
    generalize o.getD (j + n) 0 = c
    grind
  rw [e, Nat.add_mul _ 1]
  omega
theorem vp_top {o : List Nat} (h : InR o) {n : Nat} : (o.getD (n + 1) 0 * 4294967296 + o.getD n 0) * BB ^ n ≤ vp o (n + 2) ∧ vp o (n + 2) < (o.getD (n + 1) 0 * 4294967296 + o.getD n 0 + 1) * BB ^ n := by
  have h1 := vp_lt h n
  have e : vp o (n + 2) = vp o n + (o.getD (n + 1) 0 * 4294967296 + o.getD n 0) * BB ^ n := by
    rw [vp, vp, Nat.pow_succ]
    have e : BB = 4294967296 := rfl
    simp only [e]
    generalize (4294967296 : Nat) ^ n = P
    generalize o.getD (n + 1) 0 = a
    generalize o.getD n 0 = c
    grind
  rw [e, Nat.add_mul _ 1]
  omega
theorem wv_cons (o : List Nat) (j : Nat) : ∀ n, wv o j (n + 1) = o.getD j 0 + BB * wv o (j + 1) n
  | 0 => by simp [wv]
  | n + 1 => by
    rw [wv, wv_cons o j n, wv, Nat.mul_add, show j + (n + 1) = j + 1 + n by omega, Nat.pow_succ, Nat.add_assoc]
    congr 2
    rw [Nat.mul_comm (BB ^ n), ← Nat.mul_assoc, ← Nat.mul_assoc, Nat.mul_comm BB]
theorem wv_zero (o : List Nat) : ∀ n, wv o 0 n = vp o n
  | 0 => rfl
  | n + 1 => by rw [wv, vp, wv_zero o n, Nat.zero_add]
theorem vp_succ0 {o : List Nat} {n : Nat} (h : o.getD n 0 = 0) : vp o (n + 1) = vp o n := by rw [vp, h]; omega
/-- One word of a quotient by a word. -/
theorem short_step {o a : List Nat} {i n b r T : Nat} (hi : i < o.length) (hr : r < b) (hT : T = a.getD i 0 + r * 4294967296) (hv : wv o (i + 1) n * b + r = wv a (i + 1) n) :
    wv (o.set i (T / b)) i (n + 1) * b + T % b = wv a i (n + 1) := by
  have e : wv (o.set i (T / b)) (i + 1) n = wv o (i + 1) n := wv_congr n fun t h1 h2 => by rw [lget_set_ne (by omega)]
  rw [wv_cons, wv_cons, lget_set_self hi, e, ← hv, Nat.add_mul, Nat.mul_add]
  have h1 := Nat.div_add_mod T b
  rw [Nat.mul_comm b] at h1
  have e2 : BB * r = r * 4294967296 := Nat.mul_comm _ _
  rw [e2, ← Nat.mul_assoc]
  omega
end Vm

/- Walks: one word of a quotient. (Own work of this repo.) -/
namespace Go.Proofs.Ytpfcijgcjghgeaa
open Vm
set_option maxRecDepth 100000

theorem high_or {x y : Nat} (hx : x < 4294967296) (hy : y < 4294967296) : IntKind.u64.wrap ((BitVec.ofInt (kb .u64) ((y * 4294967296 : Nat) : Int) ||| BitVec.ofInt (kb .u64) (x : Int)).toNat : Int) = ((x + y * 4294967296 : Nat) : Int) := by
  rw [BitVec.or_comm]; exact or_high hx hy
theorem kn_init {v1 v2 u2 top U V p : Nat} (hv1 : 1 ≤ v1) (hu2 : u2 < 4294967296) (hV : (v1 * 4294967296 + v2) * p ≤ V) (hU : U < (top * 4294967296 + u2 + 1) * p) : U < (top / v1 + 1) * V := by
  have h1 : top + 1 ≤ (top / v1 + 1) * v1 := by
    have := Nat.lt_div_mul_add (a := top) (b := v1) (by omega)
    rw [Nat.add_mul]; omega
  have h2 : (top * 4294967296 + u2 + 1) * p ≤ (top / v1 + 1) * V := by
    refine Nat.le_trans (Nat.mul_le_mul_right p (show _ ≤ (top / v1 + 1) * (v1 * 4294967296) by rw [← Nat.mul_assoc]; omega)) ?_
    rw [Nat.mul_assoc]
    refine Nat.mul_le_mul_left _ (Nat.le_trans (Nat.mul_le_mul_right p ?_) hV)
    omega
  omega
theorem kn_htop {v1 v2 u2 top U V p : Nat} (hv2 : v2 < 4294967296) (hV2 : V < (v1 * 4294967296 + v2 + 1) * p) (hU : (top * 4294967296 + u2) * p ≤ U) (hUV : U < V * 4294967296) : top < (v1 + 1) * 4294967296 := by
  rcases Nat.lt_or_ge top ((v1 + 1) * 4294967296) with h | h
  · exact h
  · have h1 : (v1 * 4294967296 + v2 + 1) * 4294967296 ≤ top * 4294967296 + u2 := by
      have h3 : (v1 * 4294967296 + v2 + 1) * 4294967296 ≤ top * 4294967296 := Nat.mul_le_mul_right 4294967296 (by omega)
      exact Nat.le_trans h3 (Nat.le_add_right _ _)
    have h2 := Nat.mul_le_mul_right p h1
    have h3 : (v1 * 4294967296 + v2 + 1) * 4294967296 * p = (v1 * 4294967296 + v2 + 1) * p * 4294967296 := by rw [Nat.mul_assoc, Nat.mul_comm 4294967296, ← Nat.mul_assoc]
    omega
set_option maxHeartbeats 4000000 in
theorem digit_open (id off : Nat) (o v : List Nat) (mv : Bool) (h : Heap) (nx m : Nat) (hH : h id = some ⟨o.map wd, false, 1, false⟩) (ro : InR o) (rv : InR v) (hm : v.length = m + 2) (hv1 : 1 ≤ v.getD (m + 1) 0)
    (hl : off + m + 3 ≤ o.length) (lo : o.length < 2 ^ 40) (hU : wv o off (m + 3) < val v * 4294967296) :
    ∃ (p : List Nat) (h' : Heap), denO E 86 [.ref id off (m + 3), .lst mv (v.map wd)] h nx = some (.ret (.int .u32 (wv o off (m + 3) / val v : Nat)), h', nx) ∧
      h' id = some ⟨p.map wd, false, 1, false⟩ ∧ (∀ j, j ≠ id → h' j = h j) ∧ InR p ∧ p.length = o.length ∧ wv p off (m + 3) = wv o off (m + 3) % val v ∧ ∀ t, t < off ∨ off + m + 3 ≤ t → p.getD t 0 = o.getD t 0 := by
  have key : ∃ x h' n, denO E 86 [.ref id off (m + 3), .lst mv (v.map wd)] h nx = some (.ret x, h', n) ∧ ∃ p : List Nat, x = .int .u32 (wv o off (m + 3) / val v : Nat) ∧ n = nx ∧
      h' id = some ⟨p.map wd, false, 1, false⟩ ∧ (∀ j, j ≠ id → h' j = h j) ∧ InR p ∧ p.length = o.length ∧ wv p off (m + 3) = wv o off (m + 3) % val v ∧ ∀ t, t < off ∨ off + m + 3 ≤ t → p.getD t 0 = o.getD t 0 := by
    refine denO_intro E86 rfl ?_
    have hV0 : val v = vp v (m + 2) := by rw [val, hm]
    have hVt := vp_top rv (n := m)
    have hUt := wv_top ro (j := off) (n := m)
    have hVn : val v < BB ^ (m + 2) := by rw [hV0]; exact vp_lt rv _
    have bu2 := ro.get (off + m + 2)
    have bu1 := ro.get (off + m + 1)
    have bu0 := ro.get (off + m)
    have bv1 := rv.get (m + 1)
    have bv0 := rv.get m
    obtain ⟨T, hT⟩ : ∃ T, T = o.getD (off + m + 1) 0 + o.getD (off + m + 2) 0 * 4294967296 := ⟨_, rfl⟩
    have hT2 : o.getD (off + m + 2) 0 * 4294967296 * 4294967296 + o.getD (off + m + 1) 0 * 4294967296 + o.getD (off + m) 0 = T * 4294967296 + o.getD (off + m) 0 := by rw [hT, Nat.add_mul]; omega
    rw [hT2] at hUt
    rw [← hV0] at hVt
    have e1 := shl32 bu2
    have e2 := high_or bu1 bu2
    rw [← hT] at e2
    have hTb : T < 18446744073709551616 := by omega
    clear hT2
    obtain ⟨Y, hY⟩ : ∃ Y, Y = o.getD (off + m + 2) 0 * 4294967296 := ⟨_, rfl⟩
    rw [← hY] at e1 e2
    clear hY hT
    generalize hVV : val v = V at *
    generalize hUU : wv o off (m + 3) = U at *
    have hin := kn_init (top := T) hv1 bu0 hVt.1 hUt.2
    have htop := kn_htop bv0 hVt.2 hUt.1 hU
    obtain ⟨Pm, hPm⟩ : ∃ Pm, Pm = BB ^ m := ⟨_, rfl⟩
    rw [← hPm] at hVt hUt
    obtain ⟨v1, hv1e⟩ : ∃ v1, v1 = v.getD (m + 1) 0 := ⟨_, rfl⟩
    rw [← hv1e] at hVt hv1 bv1 hin htop
    obtain ⟨v2, hv2e⟩ : ∃ v2, v2 = v.getD m 0 := ⟨_, rfl⟩
    rw [← hv2e] at hVt bv0
    obtain ⟨u2, hu2e⟩ : ∃ u2, u2 = o.getD (off + m) 0 := ⟨_, rfl⟩
    rw [← hu2e] at hUt bu0
    have f1 : v.getD (m + 1) 0 = v1 := hv1e.symm
    have f2 : v.getD m 0 = v2 := hv2e.symm
    have f3 : o.getD (off + m) 0 = u2 := hu2e.symm
    have a1 : ((m + 2 : Nat) : Int) - 1 = ((m + 1 : Nat) : Int) := by omega
    have a2 : ((m + 2 : Nat) : Int) - 2 = ((m : Nat) : Int) := by omega
    have a3 : off + (m + 2) = off + m + 2 := by omega
    have a4 : off + (m + 1) = off + m + 1 := by omega
    have d1 : (T : Int).tdiv (v1 : Int) = ((T / v1 : Nat) : Int) := rfl
    have d2 : (T : Int).tmod (v1 : Int) = ((T % v1 : Nat) : Int) := rfl
    have d3 : T % v1 < v1 := Nat.mod_lt _ hv1
    have d4 : T / v1 < 18446744073709551616 := Nat.lt_of_le_of_lt (Nat.div_le_self _ _) hTb
    have d5 : T / v1 * v1 + T % v1 = T := by rw [Nat.mul_comm]; exact Nat.div_add_mod T v1
    replace hin := Hd.mk hin
    replace d5 := Hd.mk d5
    replace hVt := Hd.mk hVt
    replace hUt := Hd.mk hUt
    replace hU := Hd.mk hU
    replace hVn := Hd.mk hVn
    generalize T / v1 = q0 at *
    generalize T % v1 = r0 at *
    clear hv1e hv2e hu2e hPm
    simp (maxSteps := 4000000) (disch := omega) only [go_sem, ↓reduceIte, Nat.reduceAdd, Nat.reduceSub, Nat.reduceMul, Nat.reduceEqDiff, reduceCtorEq, Int.reduceAdd, Int.reduceLT, Int.reduceLE, Int.reduceToNat, Int.reduceNeg, Int.reduceSub, ← List.map_take, ← List.map_drop, wrap64, wrapu64, wrapu32, ← Int.natCast_add, ← Int.natCast_mul, cast_succ, wrapu32_nat, shr32, reps_wd, map_set_wd, List.length_set, zs_len, Try.f86, hm, a1, a2]
    refine W_drawn ?_
    simp (maxSteps := 4000000) (disch := omega) only [go_sem, ↓reduceIte, Nat.reduceAdd, Nat.reduceSub, Nat.reduceMul, Nat.reduceEqDiff, reduceCtorEq, Int.reduceAdd, Int.reduceLT, Int.reduceLE, Int.reduceToNat, Int.reduceNeg, Int.reduceSub, ← List.map_take, ← List.map_drop, wrap64, wrapu64, wrapu32, ← Int.natCast_add, ← Int.natCast_mul, cast_succ, wrapu32_nat, shr32, reps_wd, map_set_wd, List.length_set, zs_len, hH, hm, a1, a2, a3, a4, e1, e2]
    refine ⟨by rfl, ?_⟩
    refine W_drawn ?_
    simp (maxSteps := 4000000) (disch := omega) only [go_sem, ↓reduceIte, Nat.reduceAdd, Nat.reduceSub, Nat.reduceMul, Nat.reduceEqDiff, reduceCtorEq, Int.reduceAdd, Int.reduceLT, Int.reduceLE, Int.reduceToNat, Int.reduceNeg, Int.reduceSub, ← List.map_take, ← List.map_drop, wrap64, wrapu64, wrapu32, ← Int.natCast_add, ← Int.natCast_mul, cast_succ, wrapu32_nat, shr32, reps_wd, map_set_wd, List.length_set, zs_len, hm, a1, a2, f1, d1, d2]
    refine ⟨by rfl, ?_⟩
    refine W_mono (Q := fun e σ => e = .exit 0 ∧ ∃ (q : Nat), (∃ g : Nat → AV, σ.sl = [.ref id off (m + 3), .lst mv (v.map wd), g 2, g 3, g 4, .int .i64 (m + 2 : Nat), g 6, .int .u64 q, g 8, g 9, g 10, g 11, g 12, g 13, g 14, g 15, g 16, g 17, g 18, g 19, g 20, g 21, g 22, g 23, g 24, g 25, g 26, g 27, g 28, g 29, g 30, g 31, g 32, g 33, g 34, g 35, g 36, g 37, g 38, g 39, g 40, g 41, g 42, g 43, g 44, g 45, g 46, g 47, g 48, g 49, g 50, g 51, g 52, g 53, g 54, g 55, g 56, g 57, g 58, g 59, g 60, g 61, g 62, g 63, g 64, g 65, g 66, g 67, g 68, g 69, g 70, g 71, g 72, g 73, g 74, g 75, g 76, g 77, g 78, g 79, g 80, g 81, g 82, g 83, g 84, g 85, g 86, g 87, g 88, g 89, g 90, g 91, g 92, g 93, g 94, g 95, g 96, g 97, g 98, g 99, g 100, g 101, g 102, g 103, g 104, g 105, g 106, g 107, g 108, g 109, g 110, g 111, g 112, g 113, g 114, g 115, g 116, g 117, g 118, g 119, g 120, g 121, g 122, g 123, g 124, g 125, g 126, g 127, g 128, g 129, g 130, g 131, g 132, g 133, g 134, g 135, g 136, g 137, g 138, g 139, g 140, g 141, g 142, g 143, g 144, g 145, g 146, g 147, g 148, g 149, g 150, g 151, g 152, g 153, g 154, g 155, g 156, g 157, g 158, g 159, g 160, g 161, g 162, g 163, g 164, g 165, g 166, g 167, g 168, g 169]) ∧ σ.h = h ∧ σ.nx = nx ∧ q < 4294967296 ∧ Hd (q * V ≤ U + V) ∧ Hd (U < (q + 1) * V)) ?_ ?_
    · refine W_loopS (fun k sl H n => ∃ (r : Nat), (∃ g : Nat → AV, sl = [.ref id off (m + 3), .lst mv (v.map wd), g 2, g 3, g 4, .int .i64 (m + 2 : Nat), g 6, .int .u64 k, .int .u64 r, g 9, g 10, g 11, g 12, g 13, g 14, g 15, g 16, g 17, g 18, g 19, g 20, g 21, g 22, g 23, g 24, g 25, g 26, g 27, g 28, g 29, g 30, g 31, g 32, g 33, g 34, g 35, g 36, g 37, g 38, g 39, g 40, g 41, g 42, g 43, g 44, g 45, g 46, g 47, g 48, g 49, g 50, g 51, g 52, g 53, g 54, g 55, g 56, g 57, g 58, g 59, g 60, g 61, g 62, g 63, g 64, g 65, g 66, g 67, g 68, g 69, g 70, g 71, g 72, g 73, g 74, g 75, g 76, g 77, g 78, g 79, g 80, g 81, g 82, g 83, g 84, g 85, g 86, g 87, g 88, g 89, g 90, g 91, g 92, g 93, g 94, g 95, g 96, g 97, g 98, g 99, g 100, g 101, g 102, g 103, g 104, g 105, g 106, g 107, g 108, g 109, g 110, g 111, g 112, g 113, g 114, g 115, g 116, g 117, g 118, g 119, g 120, g 121, g 122, g 123, g 124, g 125, g 126, g 127, g 128, g 129, g 130, g 131, g 132, g 133, g 134, g 135, g 136, g 137, g 138, g 139, g 140, g 141, g 142, g 143, g 144, g 145, g 146, g 147, g 148, g 149, g 150, g 151, g 152, g 153, g 154, g 155, g 156, g 157, g 158, g 159, g 160, g 161, g 162, g 163, g 164, g 165, g 166, g 167, g 168, g 169]) ∧ H = h ∧ n = nx ∧
        k < 18446744073709551616 ∧ r < 4294967296 ∧ Hd (k * v1 + r = T) ∧ Hd (U < (k + 1) * V)) q0 ⟨r0, garb rfl, rfl, rfl, d4, by omega, d5, hin⟩ ?_
      clear d1 d2 d3 d4 d5 hin e1 e2
      rintro q _ _ _ ⟨r, ⟨g, rfl⟩, rfl, rfl, hq, hr, ht, hb⟩
      have g1 := shl32 hr
      have g2 := high_or bu0 hr
      obtain ⟨R, hR⟩ : ∃ R, R = r * 4294967296 := ⟨_, rfl⟩
      rw [← hR] at g1 g2
      have hR1 : R ≤ 18446744069414584320 := by omega
      by_cases hq2 : 4294967296 ≤ q
      · have hlt := kn_dec ht.out hVt.out.1 hUt.out.2 hU.out (.inl hq2)
        have g4 : (q : Int) - 1 = ((q - 1 : Nat) : Int) := by omega
        have ht2 : (q - 1) * v1 + (r + v1) = T := by
          have e := ht.out
          obtain ⟨k, rfl⟩ : ∃ k, q = k + 1 := ⟨q - 1, by omega⟩
          rw [Nat.add_mul] at e; simp only [Nat.add_sub_cancel]; omega
        have hb2 : U < (q - 1 + 1) * V := by rw [show q - 1 + 1 = q by omega]; exact hlt
        have hq3 : q / 4294967296 ≠ 0 := by omega
        clear hR g1 g2
        by_cases hr2 : 4294967296 ≤ r + v1
        · have hq1 : q - 1 < 4294967296 := by
            have h1 : (q - 1) * v1 < 4294967296 * v1 := by rw [Nat.add_mul] at htop; rw [Nat.mul_comm 4294967296]; omega
            exact Nat.lt_of_mul_lt_mul_right h1
          have hend := kn_end ht2 hv1 hVt.out.1 hVt.out.2 hUt.out.1 hq1 bv0 (.inr hr2)
          have hr3 : (r + v1) / 4294967296 ≠ 0 := by omega
          replace hb2 := Hd.mk hb2
          replace hend := Hd.mk hend
          clear ht ht2 hlt hq2 htop
          simp (maxSteps := 4000000) (disch := omega) only [go_sem, ↓reduceIte, Nat.reduceAdd, Nat.reduceSub, Nat.reduceMul, Nat.reduceEqDiff, reduceCtorEq, Int.reduceAdd, Int.reduceLT, Int.reduceLE, Int.reduceToNat, Int.reduceNeg, Int.reduceSub, ← List.map_take, ← List.map_drop, wrap64, wrapu64, wrapu32, ← Int.natCast_add, ← Int.natCast_mul, cast_succ, wrapu32_nat, shr32, reps_wd, map_set_wd, List.length_set, zs_len]
          refine W_drawn ?_
          simp (maxSteps := 4000000) (disch := omega) only [go_sem, ↓reduceIte, Nat.reduceAdd, Nat.reduceSub, Nat.reduceMul, Nat.reduceEqDiff, reduceCtorEq, Int.reduceAdd, Int.reduceLT, Int.reduceLE, Int.reduceToNat, Int.reduceNeg, Int.reduceSub, ← List.map_take, ← List.map_drop, wrap64, wrapu64, wrapu32, ← Int.natCast_add, ← Int.natCast_mul, cast_succ, wrapu32_nat, shr32, reps_wd, map_set_wd, List.length_set, zs_len, hm, a1, a2, shr32]
          refine ⟨by rfl, ?_⟩
          simp (maxSteps := 4000000) (disch := omega) only [go_sem, ↓reduceIte, Nat.reduceAdd, Nat.reduceSub, Nat.reduceMul, Nat.reduceEqDiff, reduceCtorEq, Int.reduceAdd, Int.reduceLT, Int.reduceLE, Int.reduceToNat, Int.reduceNeg, Int.reduceSub, ← List.map_take, ← List.map_drop, wrap64, wrapu64, wrapu32, ← Int.natCast_add, ← Int.natCast_mul, cast_succ, wrapu32_nat, shr32, reps_wd, map_set_wd, List.length_set, zs_len, hm, a1, a2, f1, g4, shr32]
          exact ⟨q - 1, garb rfl, hq1, hend, hb2⟩
        · have hr3 : (r + v1) / 4294967296 = 0 := by omega
          replace hb2 := Hd.mk hb2
          replace ht2 := Hd.mk ht2
          clear ht hlt hq2 htop
          simp (maxSteps := 4000000) (disch := omega) only [go_sem, ↓reduceIte, Nat.reduceAdd, Nat.reduceSub, Nat.reduceMul, Nat.reduceEqDiff, reduceCtorEq, Int.reduceAdd, Int.reduceLT, Int.reduceLE, Int.reduceToNat, Int.reduceNeg, Int.reduceSub, ← List.map_take, ← List.map_drop, wrap64, wrapu64, wrapu32, ← Int.natCast_add, ← Int.natCast_mul, cast_succ, wrapu32_nat, shr32, reps_wd, map_set_wd, List.length_set, zs_len]
          refine W_drawn ?_
          simp (maxSteps := 4000000) (disch := omega) only [go_sem, ↓reduceIte, Nat.reduceAdd, Nat.reduceSub, Nat.reduceMul, Nat.reduceEqDiff, reduceCtorEq, Int.reduceAdd, Int.reduceLT, Int.reduceLE, Int.reduceToNat, Int.reduceNeg, Int.reduceSub, ← List.map_take, ← List.map_drop, wrap64, wrapu64, wrapu32, ← Int.natCast_add, ← Int.natCast_mul, cast_succ, wrapu32_nat, shr32, reps_wd, map_set_wd, List.length_set, zs_len, hm, a1, a2, shr32]
          refine ⟨by rfl, ?_⟩
          simp (maxSteps := 4000000) (disch := omega) only [go_sem, ↓reduceIte, Nat.reduceAdd, Nat.reduceSub, Nat.reduceMul, Nat.reduceEqDiff, reduceCtorEq, Int.reduceAdd, Int.reduceLT, Int.reduceLE, Int.reduceToNat, Int.reduceNeg, Int.reduceSub, ← List.map_take, ← List.map_drop, wrap64, wrapu64, wrapu32, ← Int.natCast_add, ← Int.natCast_mul, cast_succ, wrapu32_nat, shr32, reps_wd, map_set_wd, List.length_set, zs_len, hm, a1, a2, f1, g4, shr32]
          exact ⟨q - 1, by omega, r + v1, garb rfl, by omega, by omega, ht2, hb2⟩
      · have hq3 : q / 4294967296 = 0 := by omega
        obtain ⟨X, hX⟩ : ∃ X, X = q * v2 := ⟨_, rfl⟩
        have hX2 : q * v2 = X := hX.symm
        have hXb := mul_word (show q < 4294967296 by omega) bv0
        rw [hX2] at hXb
        by_cases hc : R + u2 < X
        · have hlt := kn_dec ht.out hVt.out.1 hUt.out.2 hU.out (.inr (by rw [← hR, ← hX]; exact hc))
          have hq0 : q ≠ 0 := fun e => by rw [e, Nat.zero_mul] at hlt; omega
          have g4 : (q : Int) - 1 = ((q - 1 : Nat) : Int) := by omega
          have ht2 : (q - 1) * v1 + (r + v1) = T := by
            have e := ht.out
            obtain ⟨k, rfl⟩ : ∃ k, q = k + 1 := ⟨q - 1, by omega⟩
            rw [Nat.add_mul] at e; simp only [Nat.add_sub_cancel]; omega
          have hb2 : U < (q - 1 + 1) * V := by rw [show q - 1 + 1 = q by omega]; exact hlt
          clear hR hX
          by_cases hr2 : 4294967296 ≤ r + v1
          · have hend := kn_end ht2 hv1 hVt.out.1 hVt.out.2 hUt.out.1 (by omega) bv0 (.inr hr2)
            have hr3 : (r + v1) / 4294967296 ≠ 0 := by omega
            replace hb2 := Hd.mk hb2
            replace hend := Hd.mk hend
            have hc' : u2 + R < X := by omega
            clear ht ht2 hlt htop
            simp (maxSteps := 4000000) (disch := omega) only [go_sem, ↓reduceIte, Nat.reduceAdd, Nat.reduceSub, Nat.reduceMul, Nat.reduceEqDiff, reduceCtorEq, Int.reduceAdd, Int.reduceLT, Int.reduceLE, Int.reduceToNat, Int.reduceNeg, Int.reduceSub, ← List.map_take, ← List.map_drop, wrap64, wrapu64, wrapu32, ← Int.natCast_add, ← Int.natCast_mul, cast_succ, wrapu32_nat, shr32, reps_wd, map_set_wd, List.length_set, zs_len]
            refine W_drawn ?_
            simp (maxSteps := 4000000) (disch := omega) only [go_sem, ↓reduceIte, Nat.reduceAdd, Nat.reduceSub, Nat.reduceMul, Nat.reduceEqDiff, reduceCtorEq, Int.reduceAdd, Int.reduceLT, Int.reduceLE, Int.reduceToNat, Int.reduceNeg, Int.reduceSub, ← List.map_take, ← List.map_drop, wrap64, wrapu64, wrapu32, ← Int.natCast_add, ← Int.natCast_mul, cast_succ, wrapu32_nat, shr32, reps_wd, map_set_wd, List.length_set, zs_len, hH, hm, a1, a2, f2, f3, g1, g2, hX2, shr32]
            refine ⟨by rfl, ?_⟩
            simp (maxSteps := 4000000) (disch := omega) only [go_sem, ↓reduceIte, Nat.reduceAdd, Nat.reduceSub, Nat.reduceMul, Nat.reduceEqDiff, reduceCtorEq, Int.reduceAdd, Int.reduceLT, Int.reduceLE, Int.reduceToNat, Int.reduceNeg, Int.reduceSub, ← List.map_take, ← List.map_drop, wrap64, wrapu64, wrapu32, ← Int.natCast_add, ← Int.natCast_mul, cast_succ, wrapu32_nat, shr32, reps_wd, map_set_wd, List.length_set, zs_len, hm, a1, a2, f1, g4, shr32]
            exact ⟨q - 1, garb rfl, by omega, hend, hb2⟩
          · have hr3 : (r + v1) / 4294967296 = 0 := by omega
            replace hb2 := Hd.mk hb2
            replace ht2 := Hd.mk ht2
            have hc' : u2 + R < X := by omega
            clear ht hlt htop
            simp (maxSteps := 4000000) (disch := omega) only [go_sem, ↓reduceIte, Nat.reduceAdd, Nat.reduceSub, Nat.reduceMul, Nat.reduceEqDiff, reduceCtorEq, Int.reduceAdd, Int.reduceLT, Int.reduceLE, Int.reduceToNat, Int.reduceNeg, Int.reduceSub, ← List.map_take, ← List.map_drop, wrap64, wrapu64, wrapu32, ← Int.natCast_add, ← Int.natCast_mul, cast_succ, wrapu32_nat, shr32, reps_wd, map_set_wd, List.length_set, zs_len]
            refine W_drawn ?_
            simp (maxSteps := 4000000) (disch := omega) only [go_sem, ↓reduceIte, Nat.reduceAdd, Nat.reduceSub, Nat.reduceMul, Nat.reduceEqDiff, reduceCtorEq, Int.reduceAdd, Int.reduceLT, Int.reduceLE, Int.reduceToNat, Int.reduceNeg, Int.reduceSub, ← List.map_take, ← List.map_drop, wrap64, wrapu64, wrapu32, ← Int.natCast_add, ← Int.natCast_mul, cast_succ, wrapu32_nat, shr32, reps_wd, map_set_wd, List.length_set, zs_len, hH, hm, a1, a2, f2, f3, g1, g2, hX2, shr32]
            refine ⟨by rfl, ?_⟩
            simp (maxSteps := 4000000) (disch := omega) only [go_sem, ↓reduceIte, Nat.reduceAdd, Nat.reduceSub, Nat.reduceMul, Nat.reduceEqDiff, reduceCtorEq, Int.reduceAdd, Int.reduceLT, Int.reduceLE, Int.reduceToNat, Int.reduceNeg, Int.reduceSub, ← List.map_take, ← List.map_drop, wrap64, wrapu64, wrapu32, ← Int.natCast_add, ← Int.natCast_mul, cast_succ, wrapu32_nat, shr32, reps_wd, map_set_wd, List.length_set, zs_len, hm, a1, a2, f1, g4, shr32]
            exact ⟨q - 1, by omega, r + v1, garb rfl, by omega, by omega, ht2, hb2⟩
        · have hend := kn_end ht.out hv1 hVt.out.1 hVt.out.2 hUt.out.1 (by omega) bv0 (.inl (by rw [← hR, ← hX]; omega))
          replace hend := Hd.mk hend
          have hc' : ¬ u2 + R < X := by omega
          clear ht htop hR hX
          simp (maxSteps := 4000000) (disch := omega) only [go_sem, ↓reduceIte, Nat.reduceAdd, Nat.reduceSub, Nat.reduceMul, Nat.reduceEqDiff, reduceCtorEq, Int.reduceAdd, Int.reduceLT, Int.reduceLE, Int.reduceToNat, Int.reduceNeg, Int.reduceSub, ← List.map_take, ← List.map_drop, wrap64, wrapu64, wrapu32, ← Int.natCast_add, ← Int.natCast_mul, cast_succ, wrapu32_nat, shr32, reps_wd, map_set_wd, List.length_set, zs_len]
          refine W_drawn ?_
          simp (maxSteps := 4000000) (disch := omega) only [go_sem, ↓reduceIte, Nat.reduceAdd, Nat.reduceSub, Nat.reduceMul, Nat.reduceEqDiff, reduceCtorEq, Int.reduceAdd, Int.reduceLT, Int.reduceLE, Int.reduceToNat, Int.reduceNeg, Int.reduceSub, ← List.map_take, ← List.map_drop, wrap64, wrapu64, wrapu32, ← Int.natCast_add, ← Int.natCast_mul, cast_succ, wrapu32_nat, shr32, reps_wd, map_set_wd, List.length_set, zs_len, hH, hm, a1, a2, f2, f3, g1, g2, hX2, shr32]
          refine ⟨by rfl, ?_⟩
          exact ⟨q, garb rfl, by omega, hend, hb⟩
    · clear d1 d2 d3 d4 d5 hin e1 e2 f1 f2 f3 a1 a2 htop hUt hVt bu2 bu1 bu0 bv1 bv0 hTb hv1
      rintro e ⟨sl, H, nx'⟩ ⟨rfl, q, ⟨g, hs⟩, hh, hnn, hq, hle, hgt⟩
      dsimp only at hs hh hnn
      subst hs; subst H; subst nx'
      simp (maxSteps := 4000000) (disch := omega) only [go_sem, ↓reduceIte, Nat.reduceAdd, Nat.reduceSub, Nat.reduceMul, Nat.reduceEqDiff, reduceCtorEq, Int.reduceAdd, Int.reduceLT, Int.reduceLE, Int.reduceToNat, Int.reduceNeg, Int.reduceSub, ← List.map_take, ← List.map_drop, wrap64, wrapu64, wrapu32, ← Int.natCast_add, ← Int.natCast_mul, cast_succ, wrapu32_nat, shr32, reps_wd, map_set_wd, List.length_set, zs_len, hm]
      refine W_loopS (fun k sl H n => ∃ (i c : Nat) (p : List Nat), (∃ g : Nat → AV, sl = [.ref id off (m + 3), .lst mv (v.map wd), g 2, g 3, g 4, .int .i64 (m + 2 : Nat), g 6, .int .u64 q, g 8, .int .u64 c, g 10, g 11, g 12, g 13, g 14, g 15, g 16, g 17, g 18, g 19, g 20, g 21, g 22, g 23, g 24, g 25, g 26, g 27, g 28, g 29, g 30, g 31, g 32, g 33, g 34, g 35, g 36, g 37, g 38, g 39, g 40, g 41, g 42, g 43, g 44, g 45, g 46, g 47, g 48, g 49, g 50, g 51, g 52, g 53, g 54, g 55, g 56, g 57, g 58, g 59, g 60, g 61, g 62, g 63, g 64, g 65, g 66, g 67, g 68, g 69, g 70, g 71, g 72, g 73, g 74, g 75, g 76, g 77, g 78, g 79, g 80, g 81, g 82, g 83, g 84, .lst mv (v.map wd), .int .i64 (m + 2 : Nat), .int .i64 i, g 88, g 89, g 90, g 91, g 92, g 93, g 94, g 95, g 96, g 97, g 98, g 99, g 100, g 101, g 102, g 103, g 104, g 105, g 106, g 107, g 108, g 109, g 110, g 111, g 112, g 113, g 114, g 115, g 116, g 117, g 118, g 119, g 120, g 121, g 122, g 123, g 124, g 125, g 126, g 127, g 128, g 129, g 130, g 131, g 132, g 133, g 134, g 135, g 136, g 137, g 138, g 139, g 140, g 141, g 142, g 143, g 144, g 145, g 146, g 147, g 148, g 149, g 150, g 151, g 152, g 153, g 154, g 155, g 156, g 157, g 158, g 159, g 160, g 161, g 162, g 163, g 164, g 165, g 166, g 167, g 168, g 169]) ∧ n = nx ∧
        H id = some ⟨p.map wd, false, 1, false⟩ ∧ Hd (∀ j, j ≠ id → H j = h j) ∧ p.length = o.length ∧ InR p ∧ i + k = m + 2 ∧ c ≤ 4294967296 ∧ Hd (wv p off i + q * vp v i = wv o off i + (c + 0) * BB ^ i) ∧ Hd (∀ t, t < off ∨ off + i ≤ t → p.getD t 0 = o.getD t 0)) (m + 2)
        ⟨0, 0, o, garb rfl, rfl, hH, ⟨fun _ _ => rfl⟩, rfl, ro, by omega, by omega, ⟨by simp [wv, vp]⟩, ⟨fun _ _ => rfl⟩⟩ ?_
      rintro k _ H nx ⟨i, c, p, ⟨g, rfl⟩, rfl, hHp, hF, hp, rp, hi, hc, hv, hz⟩
      by_cases hk : k = 0
      · obtain rfl : i = m + 2 := by omega
        have hz0 := hz.out (off + m + 2) (.inr (by omega))
        have bx := rp.get (off + m + 2)
        obtain ⟨X, hX⟩ : ∃ X : Nat, (c ≤ p.getD (off + m + 2) 0 ∧ X = p.getD (off + m + 2) 0 - c) ∨ (p.getD (off + m + 2) 0 < c ∧ X = 18446744073709551616 + p.getD (off + m + 2) 0 - c) := by
          by_cases h : c ≤ p.getD (off + m + 2) 0
          · exact ⟨_, .inl ⟨h, rfl⟩⟩
          · exact ⟨_, .inr ⟨by omega, rfl⟩⟩
        have hw : X % 4294967296 + c = p.getD (off + m + 2) 0 + X / 9223372036854775808 * 4294967296 := by omega
        have hb1 : X / 9223372036854775808 ≤ 1 := by omega
        have eX : IntKind.u64.wrap (((p.getD (off + m + 2) 0 : Nat) : Int) - (c : Int)) = (X : Int) := by rw [IntKind.wrap_u64]; omega
        have hlast := ms_last (o := o) (p := p) (j := off) (n := m + 2) (c := c) (w := X % 4294967296) (b := X / 9223372036854775808) (C := q * V) (by omega) (by rw [← hVV, val, hm]; exact hv.out) (by rw [a3, hw, hz0])
        rw [show off + (m + 2) = off + m + 2 by omega, show m + 2 + 1 = m + 3 by omega, hUU] at hlast
        obtain ⟨bt, hbt⟩ : ∃ bt, bt = X / 9223372036854775808 := ⟨_, rfl⟩
        have eb : (X : Int).fdiv (2 ^ min 63 (kb .u64)) = (bt : Int) := by rw [shr63, hbt]
        rw [← hbt] at hlast hb1
        clear hbt
        have rp2 : InR (p.set (off + m + 2) (X % 4294967296)) := rp.set (Nat.mod_lt _ (by decide))
        have hz2 : ∀ t, t < off ∨ off + m + 3 ≤ t → (p.set (off + m + 2) (X % 4294967296)).getD t 0 = o.getD t 0 := fun t ht => by
          rw [lget_set_ne (by omega)]; exact hz.out t (by omega)
        have hF2 : ∀ b, ∀ j, j ≠ id → (H.upd id b) j = h j := fun b j hj => by rw [upd_ne hj]; exact hF.out j hj
        have hpl : (p.set (off + m + 2) (X % 4294967296)).length = o.length := by rw [List.length_set, hp]
        clear hX
        generalize hP1 : p.set (off + m + 2) (X % 4294967296) = P1 at *
        by_cases hbit : bt = 0
        · have hfin := kn_fin0' hlast hbit hgt.out
          clear hlast
          have hqq : q % 4294967296 = q := Nat.mod_eq_of_lt hq
          clear hgt hle hU hVn hv hz
          subst hbit
          simp (maxSteps := 4000000) (disch := omega) only [go_sem, ↓reduceIte, Nat.reduceAdd, Nat.reduceSub, Nat.reduceMul, Nat.reduceEqDiff, reduceCtorEq, Int.reduceAdd, Int.reduceLT, Int.reduceLE, Int.reduceToNat, Int.reduceNeg, Int.reduceSub, ← List.map_take, ← List.map_drop, wrap64, wrapu64, wrapu32, ← Int.natCast_add, ← Int.natCast_mul, cast_succ, wrapu32_nat, shr32, reps_wd, map_set_wd, List.length_set, zs_len, hHp, hp, a3, eX, eb, hP1, hqq]
          exact ⟨P1, by rw [hfin.1], by simp, hF2 _, rp2, hpl, hfin.2, hz2⟩
        · have hbit1 : bt = 1 := by omega
          replace hlast := kn_one hlast hbit1
          have hlt : U < q * V := by
            have h1 := wv_lt rp2 off (m + 3)
            omega
          clear hv hz
          replace hgt := Hd.mk hlt
          replace hlast := Hd.mk hlast
          clear hlt
          subst hbit1
          simp (maxSteps := 4000000) (disch := omega) only [go_sem, ↓reduceIte, Nat.reduceAdd, Nat.reduceSub, Nat.reduceMul, Nat.reduceEqDiff, reduceCtorEq, Int.reduceAdd, Int.reduceLT, Int.reduceLE, Int.reduceToNat, Int.reduceNeg, Int.reduceSub, ← List.map_take, ← List.map_drop, wrap64, wrapu64, wrapu32, ← Int.natCast_add, ← Int.natCast_mul, cast_succ, wrapu32_nat, shr32, reps_wd, map_set_wd, List.length_set, zs_len, hHp, hp, a3, eX, eb, hP1, hm]
          refine W_loopS (fun k sl H2 n => ∃ (i c : Nat) (p2 : List Nat), (∃ g : Nat → AV, sl = [.ref id off (m + 3), .lst mv (v.map wd), g 2, g 3, g 4, .int .i64 (m + 2 : Nat), g 6, .int .u64 q, g 8, g 9, g 10, g 11, g 12, g 13, g 14, .int .u64 c, g 16, g 17, g 18, g 19, g 20, g 21, g 22, g 23, g 24, g 25, g 26, g 27, g 28, g 29, g 30, g 31, g 32, g 33, g 34, g 35, g 36, g 37, g 38, g 39, g 40, g 41, g 42, g 43, g 44, g 45, g 46, g 47, g 48, g 49, g 50, g 51, g 52, g 53, g 54, g 55, g 56, g 57, g 58, g 59, g 60, g 61, g 62, g 63, g 64, g 65, g 66, g 67, g 68, g 69, g 70, g 71, g 72, g 73, g 74, g 75, g 76, g 77, g 78, g 79, g 80, g 81, g 82, g 83, g 84, g 85, g 86, g 87, g 88, g 89, g 90, g 91, g 92, g 93, g 94, g 95, g 96, g 97, g 98, g 99, g 100, g 101, g 102, g 103, g 104, g 105, g 106, g 107, g 108, g 109, g 110, g 111, g 112, g 113, g 114, g 115, g 116, g 117, g 118, g 119, g 120, g 121, g 122, g 123, g 124, g 125, g 126, g 127, g 128, g 129, g 130, g 131, g 132, g 133, .lst mv (v.map wd), .int .i64 (m + 2 : Nat), .int .i64 i, g 137, g 138, g 139, g 140, g 141, g 142, g 143, g 144, g 145, g 146, g 147, g 148, g 149, g 150, g 151, g 152, g 153, g 154, g 155, g 156, g 157, g 158, g 159, g 160, g 161, g 162, g 163, g 164, g 165, g 166, g 167, g 168, g 169]) ∧ n = nx ∧
            H2 id = some ⟨p2.map wd, false, 1, false⟩ ∧ Hd (∀ j, j ≠ id → H2 j = h j) ∧ p2.length = o.length ∧ InR p2 ∧ i + k = m + 2 ∧ c ≤ 1 ∧ Hd (wv p2 off i + c * BB ^ i = wv P1 off i + vp v i) ∧ Hd (∀ t, t < off ∨ off + i ≤ t → p2.getD t 0 = P1.getD t 0)) (m + 2)
            ⟨0, 0, P1, garb rfl, rfl, upd_same, ⟨hF2 _⟩, hpl, rp2, by omega, by omega, ⟨by simp [wv, vp]⟩, ⟨fun _ _ => rfl⟩⟩ ?_
          clear hHp hF eX hbit eb hb1 hc hF2 hz0 bx
          rintro k _ H2 _ ⟨i, c, p2, ⟨g, rfl⟩, rfl, hHp, hF, hp2, rp3, hi, hc, hv, hz⟩
          by_cases hk2 : k = 0
          · obtain rfl : i = m + 2 := by omega
            have hz0 := hz.out (off + m + 2) (.inr (by omega))
            have bx := rp3.get (off + m + 2)
            obtain ⟨w, hw⟩ : ∃ w, w = p2.getD (off + m + 2) 0 + c := ⟨_, rfl⟩
            have hw2 : p2.getD (off + m + 2) 0 + c = w := hw.symm
            have hfin : wv (p2.set (off + m + 2) (w % 4294967296)) off (m + 3) + w / 4294967296 * BB ^ (m + 3) = wv P1 off (m + 3) + V := by
              have h2 := hv.out
              rw [← hV0] at h2
              have h3 := as_last (p := p2) (P := P1) (j := off) (n := m + 2) (c := c) (w := w) (V := V) (by omega) h2 (by rw [a3, hw, hz0])
              rw [a3] at h3
              exact h3
            have rp4 : InR (p2.set (off + m + 2) (w % 4294967296)) := rp3.set (Nat.mod_lt _ (by decide))
            have hback := kn_back (U := U) (V := V) (q := q) (n := m + 3) (by rw [← hlast.out]) hfin (wv_lt rp4 _ _) hle.out (Nat.le_trans (Nat.le_of_lt hVn.out) (Nat.pow_le_pow_right (by decide) (by omega))) hgt.out
            have hres := kn_fin1 hgt.out hle.out hback
            have hz3 : ∀ t, t < off ∨ off + m + 3 ≤ t → (p2.set (off + m + 2) (w % 4294967296)).getD t 0 = o.getD t 0 := fun t ht => by
              rw [lget_set_ne (by omega), hz.out t (by omega), hz2 t (by omega)]
            have hF2 : ∀ b, ∀ j, j ≠ id → (H2.upd id b) j = h j := fun b j hj => by rw [upd_ne hj]; exact hF.out j hj
            have hpl2 : (p2.set (off + m + 2) (w % 4294967296)).length = o.length := by rw [List.length_set, hp2]
            have hq1 := hres.2.2
            have hqq : (q - 1) % 4294967296 = q - 1 := Nat.mod_eq_of_lt (by omega)
            have g4 : (q : Int) - 1 = ((q - 1 : Nat) : Int) := by omega
            have hcm : c % 4294967296 = c := Nat.mod_eq_of_lt (by omega)
            clear hgt hle hU hVn hv hz hw hfin hback hlast hz0
            simp (maxSteps := 4000000) (disch := omega) only [go_sem, ↓reduceIte, Nat.reduceAdd, Nat.reduceSub, Nat.reduceMul, Nat.reduceEqDiff, reduceCtorEq, Int.reduceAdd, Int.reduceLT, Int.reduceLE, Int.reduceToNat, Int.reduceNeg, Int.reduceSub, ← List.map_take, ← List.map_drop, wrap64, wrapu64, wrapu32, ← Int.natCast_add, ← Int.natCast_mul, cast_succ, wrapu32_nat, shr32, reps_wd, map_set_wd, List.length_set, zs_len, hHp, hp2, a3, hw2, hcm, g4, hqq]
            exact ⟨_, by rw [hres.1], by simp, hF2 _, rp4, hpl2, hres.2.1, hz3⟩
          · have hx := rp3.get (off + i)
            have hy := rv.get i
            have hz0 := hz.out (off + i) (.inr (by omega))
            obtain ⟨s, hs⟩ : ∃ s, s = c + (p2.getD (off + i) 0 + v.getD i 0) := ⟨_, rfl⟩
            have hs2 : c + (p2.getD (off + i) 0 + v.getD i 0) = s := hs.symm
            have stp := as_step (o := P1) (p := p2) (v := v) (j := off) (i := i) (c := c) (s := s) (by omega) hv.out (by rw [hs, hz0]; omega)
            have stz : ∀ t, t < off ∨ off + (i + 1) ≤ t → (p2.set (off + i) (s % 4294967296)).getD t 0 = P1.getD t 0 := fun t ht => by
              rw [lget_set_ne (by omega)]; exact hz.out t (by omega)
            have hF2 : ∀ b, ∀ j, j ≠ id → (H2.upd id b) j = h j := fun b j hj => by rw [upd_ne hj]; exact hF.out j hj
            have hsb : s / 4294967296 ≤ 1 := by omega
            have hsb2 : s < 18446744073709551616 := by omega
            have hs3 : p2.getD (off + i) 0 + v.getD i 0 < 18446744073709551616 := by omega
            clear hgt hle hU hVn hv hz hs hlast hz0
            simp (maxSteps := 4000000) (disch := omega) only [go_sem, ↓reduceIte, Nat.reduceAdd, Nat.reduceSub, Nat.reduceMul, Nat.reduceEqDiff, reduceCtorEq, Int.reduceAdd, Int.reduceLT, Int.reduceLE, Int.reduceToNat, Int.reduceNeg, Int.reduceSub, ← List.map_take, ← List.map_drop, wrap64, wrapu64, wrapu32, ← Int.natCast_add, ← Int.natCast_mul, cast_succ, wrapu32_nat, shr32, reps_wd, map_set_wd, List.length_set, zs_len, hHp, hp2, hm, hs2]
            exact ⟨k - 1, by omega, i + 1, s / 4294967296, p2.set (off + i) (s % 4294967296), garb rfl, by simp, ⟨hF2 _⟩, by rw [List.length_set, hp2], rp3.set (Nat.mod_lt _ (by decide)), by omega, hsb, ⟨stp⟩, ⟨stz⟩⟩
      · have hx := rp.get (off + i)
        have hy := rv.get i
        have hz0 := hz.out (off + i) (.inr (by omega))
        have hPb := mul_word hq hy
        obtain ⟨M, hM⟩ : ∃ M, M = q * v.getD i 0 := ⟨_, rfl⟩
        have hM2 : q * v.getD i 0 = M := hM.symm
        rw [hM2] at hPb
        have hMc : M + c < 18446744073709551616 := by omega
        have gl := and_low hMc
        obtain ⟨X, hX⟩ : ∃ X : Nat, ((M + c) % 4294967296 ≤ p.getD (off + i) 0 ∧ X = p.getD (off + i) 0 - (M + c) % 4294967296) ∨ (p.getD (off + i) 0 < (M + c) % 4294967296 ∧ X = 18446744073709551616 + p.getD (off + i) 0 - (M + c) % 4294967296) := by
          by_cases h : (M + c) % 4294967296 ≤ p.getD (off + i) 0
          · exact ⟨_, .inl ⟨h, rfl⟩⟩
          · exact ⟨_, .inr ⟨by omega, rfl⟩⟩
        have hw : X % 4294967296 + (M + c) % 4294967296 + 0 = p.getD (off + i) 0 + X / 9223372036854775808 * 4294967296 := by omega
        have hb1 : X / 9223372036854775808 ≤ 1 := by omega
        have eX : IntKind.u64.wrap (((p.getD (off + i) 0 : Nat) : Int) - (((M + c) % 4294967296 : Nat) : Int)) = (X : Int) := by rw [IntKind.wrap_u64]; omega
        have stp := ms_step (o := o) (p := p) (v := v) (j := off) (i := i) (q := q) (c0 := c) (b0 := 0) (b1 := X / 9223372036854775808) (w := X % 4294967296) (x := M + c) (by omega) hv.out (by rw [hM]) (by rw [hw, hz0])
        have stz : ∀ t, t < off ∨ off + (i + 1) ≤ t → (p.set (off + i) (X % 4294967296)).getD t 0 = o.getD t 0 := fun t ht => by
          rw [lget_set_ne (by omega)]; exact hz.out t (by omega)
        have hF2 : ∀ b, ∀ j, j ≠ id → (H.upd id b) j = h j := fun b j hj => by rw [upd_ne hj]; exact hF.out j hj
        have hcb : (M + c) / 4294967296 + X / 9223372036854775808 ≤ 4294967296 := by omega
        have hcb2 : (M + c) / 4294967296 < 4294967296 := by omega
        clear hgt hle hU hVn hv hz hX hw hM hz0
        simp (maxSteps := 4000000) (disch := omega) only [go_sem, ↓reduceIte, Nat.reduceAdd, Nat.reduceSub, Nat.reduceMul, Nat.reduceEqDiff, reduceCtorEq, Int.reduceAdd, Int.reduceLT, Int.reduceLE, Int.reduceToNat, Int.reduceNeg, Int.reduceSub, ← List.map_take, ← List.map_drop, wrap64, wrapu64, wrapu32, ← Int.natCast_add, ← Int.natCast_mul, cast_succ, wrapu32_nat, shr32, reps_wd, map_set_wd, List.length_set, zs_len, hHp, hp, hm, hM2, gl, eX, shr63]
        exact ⟨k - 1, by omega, i + 1, (M + c) / 4294967296 + X / 9223372036854775808, p.set (off + i) (X % 4294967296), garb rfl, by simp, ⟨hF2 _⟩, by rw [List.length_set, hp], rp.set (Nat.mod_lt _ (by decide)), by omega, hcb, ⟨stp⟩, ⟨stz⟩⟩
  obtain ⟨x, h', n, h1, p, rfl, rfl, h2, h3, h4, h5, h6, h7⟩ := key
  exact ⟨p, h', h1, h2, h3, h4, h5, h6, h7⟩
end Go.Proofs.Ytpfcijgcjghgeaa

/- Walks: dividing rows of words. (Own work of this repo.) -/
namespace Go.Proofs.Ytpfcijgcjghgeaa
open Vm
set_option maxRecDepth 100000

theorem div_word {T b r x : Nat} (hr : r < b) (hb : b < 4294967296) (hx : x < 4294967296) (hT : T = x + r * 4294967296) : T / b < 4294967296 := by
  rw [Nat.div_lt_iff_lt_mul (by omega), hT, Nat.mul_comm]
  have : (r + 1) * 4294967296 ≤ b * 4294967296 := Nat.mul_le_mul_right _ hr
  omega
set_option maxHeartbeats 1000000 in
theorem over_spec (m : Bool) (a : List Nat) (b : Nat) (ha : InR a) (la : a.length < 2 ^ 40) (hb : 0 < b) (hb2 : b < 4294967296) :
    denP E 78 [.lst m (a.map wd), .int .u32 b] = some (.ret (.tup [.lst false ((dig (val a / b)).map wd), .int .u32 (val a % b : Nat)])) := by
  refine denP_eq E78 rfl (by simp [AV.pureL, AV.pure, pure_wd]) ?_
  simp (maxSteps := 4000000) (disch := omega) only [go_sem, ↓reduceIte, Nat.reduceAdd, Nat.reduceSub, Nat.reduceMul, Nat.reduceEqDiff, reduceCtorEq, Int.reduceAdd, Int.reduceLT, Int.reduceLE, Int.reduceToNat, Int.reduceNeg, Int.reduceSub, ← List.map_take, ← List.map_drop, wrap64, wrapu64, wrapu32, ← Int.natCast_add, ← Int.natCast_mul, cast_succ, wrapu32_nat, shr32, reps_wd, map_set_wd, List.length_set, zs_len, Try.f78]
  refine W_loopS (fun k sl H nx => ∃ (r : Nat) (o : List Nat), (∃ g : Nat → AV, sl = [.lst m (a.map wd), .int .u32 b, g 2, g 3, g 4, g 5, .ref 0 0 a.length, .int .u64 r, .int .i64 ((k : Int) - 1), g 9, g 10, g 11, g 12, g 13, g 14, g 15, g 16, g 17, g 18, g 19, g 20, g 21, g 22, g 23, g 24, g 25, g 26, g 27, g 28, g 29, g 30, g 31, g 32, g 33, g 34, g 35, g 36, g 37, g 38, g 39, g 40, g 41, g 42]) ∧ nx = 1 ∧
    H 0 = some ⟨o.map wd, false, 1, false⟩ ∧ o.length = a.length ∧ InR o ∧ k ≤ a.length ∧ r < b ∧ Hd (wv o k (a.length - k) * b + r = wv a k (a.length - k))) a.length
    ⟨0, _, garb rfl, rfl, rfl, zs_len _, zs_inR _, by omega, hb, ⟨by rw [Nat.sub_self]; simp [wv]⟩⟩ ?_
  rintro k _ H _ ⟨r, o, ⟨g, rfl⟩, rfl, hH, ho, hr, hk, hrb, hv⟩
  by_cases hk0 : k = 0
  · subst hk0
    have h1 := hv.out
    rw [Nat.sub_zero, wv_zero, wv_zero, ← ho, show vp o o.length = val o from rfl, ho, show vp a a.length = val a from rfl] at h1
    have hq : val a / b = val o := by
      rw [← h1, Nat.mul_comm, Nat.mul_add_div hb, Nat.div_eq_of_lt hrb, Nat.add_zero]
    have hm : val a % b = r := by rw [← h1, Nat.mul_comm, Nat.mul_add_mod, Nat.mod_eq_of_lt hrb]
    have ht := trim_spec false o hr (by omega)
    have hrr : r % 4294967296 = r := Nat.mod_eq_of_lt (by omega)
    clear hv h1
    simp (maxSteps := 4000000) (disch := omega) only [go_sem, ↓reduceIte, Nat.reduceAdd, Nat.reduceSub, Nat.reduceMul, Nat.reduceEqDiff, reduceCtorEq, Int.reduceAdd, Int.reduceLT, Int.reduceLE, Int.reduceToNat, Int.reduceNeg, Int.reduceSub, ← List.map_take, ← List.map_drop, wrap64, wrapu64, wrapu32, ← Int.natCast_add, ← Int.natCast_mul, cast_succ, wrapu32_nat, shr32, reps_wd, map_set_wd, List.length_set, zs_len, hH, ho, List.take_of_length_le, ht, hq, hm, hrr]
  · have e1 : (k : Int) - 1 = ((k - 1 : Nat) : Int) := by omega
    obtain ⟨j, rfl⟩ : ∃ j, k = j + 1 := ⟨k - 1, by omega⟩
    rw [Nat.add_sub_cancel] at e1
    have hx := ha.get j
    have e2 := shl32 (show r < 4294967296 by omega)
    have e3 := high_or hx (show r < 4294967296 by omega)
    obtain ⟨T, hT⟩ : ∃ T, T = a.getD j 0 + r * 4294967296 := ⟨_, rfl⟩
    rw [← hT] at e3
    have hTb : T < 18446744073709551616 := by omega
    have hTq := div_word hrb hb2 hx hT
    have st := short_step (o := o) (a := a) (n := a.length - (j + 1)) (by omega) hrb hT hv.out
    rw [show a.length - (j + 1) + 1 = a.length - j by omega] at st
    obtain ⟨R, hR⟩ : ∃ R, R = r * 4294967296 := ⟨_, rfl⟩
    rw [← hR] at e2 e3
    have hTm : T % b < b := Nat.mod_lt _ hb
    have d1 : (T : Int).tdiv (b : Int) = ((T / b : Nat) : Int) := rfl
    have d2 : (T : Int).tmod (b : Int) = ((T % b : Nat) : Int) := rfl
    clear hv hT hR
    generalize hqe : T / b = q at *
    generalize T % b = r' at *
    have hqq : q % 4294967296 = q := Nat.mod_eq_of_lt hTq
    clear hqe
    simp (maxSteps := 4000000) (disch := omega) only [go_sem, ↓reduceIte, Nat.reduceAdd, Nat.reduceSub, Nat.reduceMul, Nat.reduceEqDiff, reduceCtorEq, Int.reduceAdd, Int.reduceLT, Int.reduceLE, Int.reduceToNat, Int.reduceNeg, Int.reduceSub, ← List.map_take, ← List.map_drop, wrap64, wrapu64, wrapu32, ← Int.natCast_add, ← Int.natCast_mul, cast_succ, wrapu32_nat, shr32, reps_wd, map_set_wd, List.length_set, zs_len, hH, ho, e1, e2, e3, d1, d2, hqq]
    exact ⟨j, by omega, r', o.set j q, garb rfl, rfl, by rw [List.length_set, ho], hr.set hTq, by omega, hTm, ⟨st⟩⟩
set_option maxHeartbeats 1000000 in
theorem rShort_spec (m : Bool) (a : List Nat) (b : Nat) (ha : InR a) (la : a.length < 2 ^ 40) (hb : 0 < b) (hb2 : b < 4294967296) :
    ∃ o : List Nat, denP E 76 [.lst m (a.map wd), .int .u32 b] = some (.ret (.tup [.lst false (o.map wd), .int .u32 (val a % b : Nat)])) ∧ InR o ∧ o.length = a.length ∧ val o = val a / b := by
  refine denP_ex E76 rfl (by simp [AV.pureL, AV.pure, pure_wd]) ?_
  simp (maxSteps := 4000000) (disch := omega) only [go_sem, ↓reduceIte, Nat.reduceAdd, Nat.reduceSub, Nat.reduceMul, Nat.reduceEqDiff, reduceCtorEq, Int.reduceAdd, Int.reduceLT, Int.reduceLE, Int.reduceToNat, Int.reduceNeg, Int.reduceSub, ← List.map_take, ← List.map_drop, wrap64, wrapu64, wrapu32, ← Int.natCast_add, ← Int.natCast_mul, cast_succ, wrapu32_nat, shr32, reps_wd, map_set_wd, List.length_set, zs_len, Try.f76]
  refine W_loopS (fun k sl H nx => ∃ (r : Nat) (o : List Nat), (∃ g : Nat → AV, sl = [.lst m (a.map wd), .int .u32 b, g 2, g 3, g 4, g 5, .ref 0 0 a.length, .int .u64 r, .int .i64 ((k : Int) - 1), g 9, g 10, g 11, g 12, g 13, g 14, g 15, g 16, g 17, g 18, g 19, g 20, g 21, g 22, g 23, g 24, g 25, g 26, g 27, g 28, g 29, g 30, g 31, g 32, g 33, g 34, g 35, g 36, g 37, g 38, g 39, g 40, g 41]) ∧ nx = 1 ∧
    H 0 = some ⟨o.map wd, false, 1, false⟩ ∧ o.length = a.length ∧ InR o ∧ k ≤ a.length ∧ r < b ∧ Hd (wv o k (a.length - k) * b + r = wv a k (a.length - k))) a.length
    ⟨0, _, garb rfl, rfl, rfl, zs_len _, zs_inR _, by omega, hb, ⟨by rw [Nat.sub_self]; simp [wv]⟩⟩ ?_
  rintro k _ H _ ⟨r, o, ⟨g, rfl⟩, rfl, hH, ho, hr, hk, hrb, hv⟩
  by_cases hk0 : k = 0
  · subst hk0
    have h1 := hv.out
    rw [Nat.sub_zero, wv_zero, wv_zero, ← ho, show vp o o.length = val o from rfl, ho, show vp a a.length = val a from rfl] at h1
    have hq : val o = val a / b := by
      rw [← h1, Nat.mul_comm, Nat.mul_add_div hb, Nat.div_eq_of_lt hrb, Nat.add_zero]
    have hm : val a % b = r := by rw [← h1, Nat.mul_comm, Nat.mul_add_mod, Nat.mod_eq_of_lt hrb]
    have hrr : r % 4294967296 = r := Nat.mod_eq_of_lt (by omega)
    clear hv h1
    simp (maxSteps := 4000000) (disch := omega) only [go_sem, ↓reduceIte, Nat.reduceAdd, Nat.reduceSub, Nat.reduceMul, Nat.reduceEqDiff, reduceCtorEq, Int.reduceAdd, Int.reduceLT, Int.reduceLE, Int.reduceToNat, Int.reduceNeg, Int.reduceSub, ← List.map_take, ← List.map_drop, wrap64, wrapu64, wrapu32, ← Int.natCast_add, ← Int.natCast_mul, cast_succ, wrapu32_nat, shr32, reps_wd, map_set_wd, List.length_set, zs_len, hH, ho, List.take_of_length_le, hm, hrr]
    exact ⟨o, rfl, hr, ho, hq⟩
  · have e1 : (k : Int) - 1 = ((k - 1 : Nat) : Int) := by omega
    obtain ⟨j, rfl⟩ : ∃ j, k = j + 1 := ⟨k - 1, by omega⟩
    rw [Nat.add_sub_cancel] at e1
    have hx := ha.get j
    have e2 := shl32 (show r < 4294967296 by omega)
    obtain ⟨T, hT⟩ : ∃ T, T = a.getD j 0 + r * 4294967296 := ⟨_, rfl⟩
    have hTb : T < 18446744073709551616 := by omega
    have hTq := div_word hrb hb2 hx hT
    have st := short_step (o := o) (a := a) (n := a.length - (j + 1)) (by omega) hrb hT hv.out
    rw [show a.length - (j + 1) + 1 = a.length - j by omega] at st
    obtain ⟨R, hR⟩ : ∃ R, R = r * 4294967296 := ⟨_, rfl⟩
    rw [← hR] at e2
    have e3 : R + a.getD j 0 = T := by omega
    have hTm : T % b < b := Nat.mod_lt _ hb
    have d1 : (T : Int).tdiv (b : Int) = ((T / b : Nat) : Int) := rfl
    have d2 : (T : Int).tmod (b : Int) = ((T % b : Nat) : Int) := rfl
    clear hv hT hR
    generalize hqe : T / b = q at *
    generalize T % b = r' at *
    have hqq : q % 4294967296 = q := Nat.mod_eq_of_lt hTq
    clear hqe
    simp (maxSteps := 4000000) (disch := omega) only [go_sem, ↓reduceIte, Nat.reduceAdd, Nat.reduceSub, Nat.reduceMul, Nat.reduceEqDiff, reduceCtorEq, Int.reduceAdd, Int.reduceLT, Int.reduceLE, Int.reduceToNat, Int.reduceNeg, Int.reduceSub, ← List.map_take, ← List.map_drop, wrap64, wrapu64, wrapu32, ← Int.natCast_add, ← Int.natCast_mul, cast_succ, wrapu32_nat, shr32, reps_wd, map_set_wd, List.length_set, zs_len, hH, ho, e1, e2, e3, d1, d2, hqq]
    exact ⟨j, by omega, r', o.set j q, garb rfl, rfl, by rw [List.length_set, ho], hr.set hTq, by omega, hTm, ⟨st⟩⟩
end Go.Proofs.Ytpfcijgcjghgeaa

/- Plain facts: decimal digits, and rows of bytes. (Own work of this repo.) -/
namespace Vm
open Go

/-- The decimal digits, the lowest one first. -/
def dd (n : Nat) : List Nat := if h : n = 0 then [] else n % 10 :: dd (n / 10)
termination_by n
decreasing_by omega
theorem dd_zero : dd 0 = [] := by rw [dd]; simp
theorem dd_pos {n : Nat} (h : n ≠ 0) : dd n = n % 10 :: dd (n / 10) := by rw [dd, dif_neg h]
def dv : List Nat → Nat
  | [] => 0
  | d :: ds => d + 10 * dv ds
theorem dv_dd (n : Nat) : dv (dd n) = n := by
  induction n using Nat.strongRecOn with
  | _ n ih =>
    by_cases h : n = 0
    · subst h; rw [dd_zero]; rfl
    · rw [dd_pos h, dv, ih (n / 10) (by omega)]; omega
theorem dd_lt (n : Nat) : ∀ d ∈ dd n, d < 10 := by
  induction n using Nat.strongRecOn with
  | _ n ih =>
    by_cases h : n = 0
    · subst h; rw [dd_zero]; intro d hd; cases hd
    · rw [dd_pos h]
      intro d hd
      rcases List.mem_cons.1 hd with rfl | hd
      · omega
      · exact ih (n / 10) (by omega) d hd
/-- Digits without a zero at the end are their number's. -/
theorem dd_dv : ∀ (l : List Nat), (∀ d ∈ l, d < 10) → (l = [] ∨ l.getLast? ≠ some 0) → dd (dv l) = l
  | [], _, _ => dd_zero
  | d :: ds, h, hl => by
    have hd := h d (by simp)
    have ih := dd_dv ds (fun x hx => h x (by simp [hx])) (by
      cases ds with
      | nil => exact .inl rfl
      | cons e es =>
        right
        have := hl.resolve_left (by simp)
        rwa [List.getLast?_cons_cons] at this)
    have hpos : d + 10 * dv ds ≠ 0 := by
      intro h0
      have h1 : d = 0 := by omega
      have h2 : dv ds = 0 := by omega
      have h3 : ds = [] := by rw [← ih, h2, dd_zero]
      subst h3; subst h1
      exact (hl.resolve_left (by simp)) rfl
    rw [dv, dd_pos hpos]
    have e1 : (d + 10 * dv ds) % 10 = d := by omega
    have e2 : (d + 10 * dv ds) / 10 = dv ds := by omega
    rw [e1, e2, ih]
theorem dd_last (n : Nat) : dd n = [] ∨ (dd n).getLast? ≠ some 0 := by
  induction n using Nat.strongRecOn with
  | _ n ih =>
    by_cases h : n = 0
    · subst h; exact .inl dd_zero
    · right
      rw [dd_pos h]
      rcases ih (n / 10) (by omega) with h1 | h1
      · rw [h1]
        have : n / 10 = 0 := by have := dv_dd (n / 10); rw [h1] at this; exact this.symm
        intro h2
        simp at h2
        omega
      · cases hq : dd (n / 10) with
        | nil => rw [hq] at h1; intro h2; have := dv_dd (n / 10); rw [hq] at this; simp [dv] at this; simp at h2; omega
        | cons e es => rw [hq] at h1; rwa [List.getLast?_cons_cons]
theorem dd_len {n k : Nat} (h : n < 2 ^ (3 * k)) : (dd n).length ≤ k := by
  induction k generalizing n with
  | zero => have : n = 0 := by simpa using h
            subst this; rw [dd_zero]; simp
  | succ k ih =>
    by_cases h0 : n = 0
    · subst h0; rw [dd_zero]; simp
    · rw [dd_pos h0, List.length_cons]
      have : n / 10 < 2 ^ (3 * k) := by
        rw [Nat.mul_succ, Nat.pow_add] at h
        omega
      have := ih this
      omega
theorem dd_nil {n : Nat} : dd n = [] ↔ n = 0 := ⟨fun h => by rw [← dv_dd n, h]; rfl, fun h => by rw [h, dd_zero]⟩

/-! #### rows of bytes -/
def by8 (n : Nat) : AV := .int .u8 n
/-- A string out of numbers of bytes. -/
def bstr (l : List Nat) : ByteArray := ⟨(l.map UInt8.ofNat).toArray⟩
def InB (l : List Nat) : Prop := ∀ x ∈ l, x < 256
theorem bytes_by : ∀ (l : List Nat), bytesOf (l.map by8) = some (l.map UInt8.ofNat)
  | [] => rfl
  | x :: xs => by simp only [List.map_cons, bytesOf, bytes_by xs]; rfl
theorem pure_by (l : List Nat) : AV.pureL (l.map by8) = true := by induction l <;> simp_all [AV.pureL, AV.pure, by8]
theorem mapL_by {n : Nat} {H : Heap} (l : List Nat) : mapL (purify (n + 1) H) (l.map by8) = some (l.map by8, []) := by
  induction l with
  | nil => rfl
  | cons x xs ih => simp only [List.map_cons, mapL, ih, by8, purify_int]; rfl
theorem get_by {l : List Nat} {i : Nat} (h : i < l.length) : (l.map by8)[i]? = some (by8 (l.getD i 0)) := by simp [h]
theorem map_set_by {l : List Nat} {i x : Nat} : (l.map by8).set i (.int .u8 (x : Int)) = (l.set i x).map by8 := by
  rw [show AV.int .u8 (x : Int) = by8 x from rfl, List.map_set]
theorem bstr_size (l : List Nat) : (bstr l).size = l.length := by simp [bstr, ByteArray.size]
theorem bstr_list (l : List Nat) : (bstr l).data.toList = l.map UInt8.ofNat := by simp [bstr]
theorem u8_nat {x : Nat} (h : x < 256) : (UInt8.ofNat x).toNat = x := by rw [UInt8.toNat_ofNat', Nat.mod_eq_of_lt (by omega)]
theorem bstr_get {l : List Nat} {i : Nat} (h : i < l.length) : (bstr l).data.toList[i]? = some (UInt8.ofNat (l.getD i 0)) := by
  rw [bstr_list]; simp [h]
theorem inB_get {l : List Nat} (h : InB l) (i : Nat) : l.getD i 0 < 256 := by
  rw [List.getD_eq_getElem?_getD]
  by_cases hi : i < l.length
  · rw [List.getElem?_eq_getElem hi]; exact h _ (List.getElem_mem hi)
  · rw [List.getElem?_eq_none (by omega)]; decide
theorem bstr_all (s : ByteArray) : ∃ l, s = bstr l ∧ InB l := by
  refine ⟨s.data.toList.map UInt8.toNat, ?_, ?_⟩
  · unfold bstr
    have : (s.data.toList.map UInt8.toNat).map UInt8.ofNat = s.data.toList := by
      rw [List.map_map]
      have : (UInt8.ofNat ∘ UInt8.toNat) = id := by funext x; simp
      rw [this, List.map_id]
    rw [this]
  · intro x hx
    obtain ⟨u, _, rfl⟩ := List.mem_map.1 hx
    exact u.toNat_lt
theorem map_u8_inj : ∀ {a b : List Nat}, InB a → InB b → a.map UInt8.ofNat = b.map UInt8.ofNat → a = b
  | [], [], _, _, _ => rfl
  | [], _ :: _, _, _, h => by simp at h
  | _ :: _, [], _, _, h => by simp at h
  | x :: xs, y :: ys, ha, hb, h => by
    simp only [List.map_cons, List.cons.injEq] at h
    have := congrArg UInt8.toNat h.1
    rw [u8_nat (ha x (by simp)), u8_nat (hb y (by simp))] at this
    rw [this, map_u8_inj (fun z hz => ha z (by simp [hz])) (fun z hz => hb z (by simp [hz])) h.2]
theorem bstr_inj {a b : List Nat} (ha : InB a) (hb : InB b) : bstr a = bstr b ↔ a = b := by
  refine ⟨fun h => ?_, fun h => by rw [h]⟩
  have : (bstr a).data.toList = (bstr b).data.toList := by rw [h]
  rw [bstr_list, bstr_list] at this
  exact map_u8_inj ha hb this
theorem bstr_drop {l : List Nat} {k : Nat} (h : k ≤ l.length) : (bstr l).extract k l.length = bstr (l.drop k) := by
  unfold bstr
  refine ByteArray.ext ?_
  rw [ByteArray.data_extract]
  apply Array.ext'
  simp [List.map_drop, List.take_of_length_le]
theorem bstr_eql {a b : List Nat} (ha : InB a) (hb : InB b) : ((bstr a).toList == (bstr b).toList) = decide (a = b) := by
  rw [ByteArray.toList_eq, ByteArray.toList_eq, bstr_list, bstr_list]
  by_cases h : a = b
  · subst h; simp
  · rw [decide_eq_false h, beq_eq_false_iff_ne]
    exact fun e => h (map_u8_inj ha hb e)
end Vm

/- Plain facts: what texts are numbers. (Own work of this repo.) -/
namespace Vm
open Go

/-- What digits mean, the highest one first. -/
def dval (d : List Nat) : Nat := dv ((d.map (· - 48)).reverse)
theorem dval_nil : dval [] = 0 := rfl
theorem dval_snoc (d : List Nat) (c : Nat) : dval (d ++ [c]) = 10 * dval d + (c - 48) := by
  unfold dval
  rw [List.map_append, List.reverse_append]
  simp only [List.map_cons, List.map_nil, List.reverse_cons, List.reverse_nil, List.nil_append, List.cons_append, dv]
  omega
theorem dval_take {d : List Nat} {i : Nat} (h : i < d.length) : dval (d.take (i + 1)) = 10 * dval (d.take i) + (d.getD i 0 - 48) := by
  rw [List.take_add_one, List.getElem?_eq_getElem h]
  simp only [Option.toList_some]
  rw [dval_snoc, List.getD_eq_getElem?_getD, List.getElem?_eq_getElem h]; rfl
def DecG (d : List Nat) : Prop := ∀ c ∈ d, 48 ≤ c ∧ c ≤ 57
instance (d : List Nat) : Decidable (DecG d) := by unfold DecG; infer_instance
theorem good_get {d : List Nat} (h : DecG d) {i : Nat} (hi : i < d.length) : 48 ≤ d.getD i 0 ∧ d.getD i 0 ≤ 57 := by
  rw [List.getD_eq_getElem?_getD, List.getElem?_eq_getElem hi]; exact h _ (List.getElem_mem hi)
theorem good_of {d : List Nat} (h : ∀ i, i < d.length → 48 ≤ d.getD i 0 ∧ d.getD i 0 ≤ 57) : DecG d := by
  intro c hc
  obtain ⟨i, hi, rfl⟩ := List.getElem_of_mem hc
  have := h i hi
  rwa [List.getD_eq_getElem?_getD, List.getElem?_eq_getElem hi] at this
def pneg (l : List Nat) : Bool := decide (l.getD 0 0 = 45)
def pbody (l : List Nat) : List Nat := if pneg l then l.drop 1 else l
/-- Is it the text of a number? -/
def pOk (l : List Nat) : Bool := decide (l.length ≤ 60000 ∧ pbody l ≠ [] ∧ ¬ ((pbody l).getD 0 0 = 48 ∧ (pneg l = true ∨ 1 < (pbody l).length)) ∧ DecG (pbody l))
def pval (l : List Nat) : Int := sg (pneg l) (dval (pbody l))
/-- The text of a number: its bytes. -/
def txt (z : Int) : List Nat := if z = 0 then [48] else (if z < 0 then [45] else []) ++ ((dd z.natAbs).map (48 + ·)).reverse
theorem map_back {l : List Nat} : (l.map (48 + ·)).map (· - 48) = l := by
  rw [List.map_map]
  have : ((· - 48) ∘ (48 + ·) : Nat → Nat) = id := by funext x; simp
  rw [this, List.map_id]
theorem map_forth {l : List Nat} (h : DecG l) : (l.map (· - 48)).map (48 + ·) = l := by
  rw [List.map_map]
  conv => rhs; rw [← List.map_id l]
  refine List.map_congr_left fun x hx => ?_
  have := h x hx
  simp; omega
theorem dval_dd (n : Nat) : dval ((dd n).map (48 + ·)).reverse = n := by
  unfold dval
  rw [List.map_reverse, List.reverse_reverse, map_back, dv_dd]
theorem good_dd (n : Nat) : DecG ((dd n).map (48 + ·)).reverse := by
  intro c hc
  rw [List.mem_reverse] at hc
  obtain ⟨d, hd, rfl⟩ := List.mem_map.1 hc
  have := dd_lt n d hd
  omega
theorem dd_head {n : Nat} (h : n ≠ 0) : ((dd n).map (48 + ·)).reverse.getD 0 0 ≠ 48 ∧ ((dd n).map (48 + ·)).reverse.getD 0 0 ≠ 45 ∧ 0 < ((dd n).map (48 + ·)).reverse.length := by
  have h1 : dd n ≠ [] := fun e => h (dd_nil.1 e)
  have h2 := (dd_last n).resolve_left h1
  have h3 : 0 < (dd n).length := List.length_pos_iff.2 h1
  have e : ((dd n).map (48 + ·)).reverse.getD 0 0 = 48 + (dd n).getLast h1 := by
    rw [List.getD_eq_getElem?_getD, List.getElem?_reverse (by simpa using h3), List.length_map, List.getElem?_map, List.getLast_eq_getElem h1, show (dd n).length - 1 - 0 = (dd n).length - 1 by omega, List.getElem?_eq_getElem (by omega)]; rfl
  rw [List.getLast?_eq_some_getLast h1] at h2
  refine ⟨?_, ?_, by rw [List.length_reverse, List.length_map]; exact h3⟩
  · rw [e]; intro h4; exact h2 (by congr 1; omega)
  · rw [e]; omega
theorem txt_body (a : Int) (h : a ≠ 0) : pneg (txt a) = decide (a < 0) ∧ pbody (txt a) = ((dd a.natAbs).map (48 + ·)).reverse := by
  obtain ⟨h1, h2, h3⟩ := dd_head (n := a.natAbs) (by omega)
  have e : pneg (txt a) = decide (a < 0) := by
    unfold txt pneg
    rw [if_neg h]
    by_cases h0 : a < 0
    · rw [if_pos h0]; simp [h0]
    · rw [if_neg h0, List.nil_append, decide_eq_false h2, decide_eq_false h0]
  refine ⟨e, ?_⟩
  unfold pbody
  rw [e]
  unfold txt
  rw [if_neg h]
  by_cases h0 : a < 0
  · rw [decide_eq_true h0, if_pos rfl, if_pos h0]; rfl
  · rw [decide_eq_false h0, if_neg h0, List.nil_append]; rfl
theorem pval_txt (a : Int) : pval (txt a) = a := by
  by_cases h : a = 0
  · subst h; rfl
  · obtain ⟨h1, h2⟩ := txt_body a h
    unfold pval
    rw [h1, h2, dval_dd]
    unfold sg
    by_cases h0 : a < 0
    · rw [decide_eq_true h0, if_pos rfl]; omega
    · rw [decide_eq_false h0]; simp only [Bool.false_eq_true, if_false]; omega
theorem pOk_txt (a : Int) (hl : (txt a).length ≤ 60000) : pOk (txt a) = true := by
  by_cases h : a = 0
  · subst h; decide
  · obtain ⟨h1, h2⟩ := txt_body a h
    obtain ⟨h3, h4, h5⟩ := dd_head (n := a.natAbs) (by omega)
    refine decide_eq_true ⟨hl, ?_, ?_, ?_⟩
    · rw [h2]; exact List.length_pos_iff.1 h5
    · rw [h2]; exact fun h => h3 h.1
    · rw [h2]; exact good_dd _
theorem txt_pval {l : List Nat} (h : pOk l = true) : txt (pval l) = l := by
  obtain ⟨h1, h2, h3, h4⟩ := of_decide_eq_true h
  have hl : l = (if pneg l then [45] else []) ++ pbody l := by
    unfold pbody
    cases hn : pneg l with
    | false => rfl
    | true =>
      have := of_decide_eq_true hn
      cases l with
      | nil => simp at this
      | cons x xs => simp at this; subst this; rfl
  have hb : 0 < (pbody l).length := List.length_pos_iff.2 h2
  have hg := good_get h4 hb
  by_cases h0 : (pbody l).getD 0 0 = 48
  · have h5 : pneg l = false ∧ (pbody l).length = 1 := by
      refine ⟨?_, ?_⟩
      · cases hn : pneg l with
        | false => rfl
        | true => exact absurd ⟨h0, .inl hn⟩ h3
      · by_cases h6 : 1 < (pbody l).length
        · exact absurd ⟨h0, .inr h6⟩ h3
        · omega
    have h6 : pbody l = [48] := by
      generalize pbody l = b at *
      match b, h5.2 with
      | [x], _ => simp at h0; rw [h0]
    unfold pval
    rw [h5.1, h6]
    rw [hl, h5.1, h6]; rfl
  · have hdd : dd (dval (pbody l)) = ((pbody l).map (· - 48)).reverse := by
      unfold dval
      refine dd_dv _ ?_ (.inr ?_)
      · intro d hd
        rw [List.mem_reverse] at hd
        obtain ⟨c, hc, rfl⟩ := List.mem_map.1 hd
        have := h4 c hc
        omega
      · rw [List.getLast?_reverse, List.head?_map]
        intro h5
        generalize pbody l = b at *
        cases b with
        | nil => simp at h2
        | cons x xs =>
          simp at h5 h0 hg
          omega
    have hne : dval (pbody l) ≠ 0 := fun e => by
      rw [e, dd_zero] at hdd
      have := congrArg List.length hdd
      simp at this
      exact h2 (List.length_eq_zero_iff.1 this.symm)
    have hna : (pval l).natAbs = dval (pbody l) := by unfold pval sg; split <;> omega
    have hz : pval l ≠ 0 := by omega
    have hneg : (pval l < 0) ↔ pneg l = true := by
      unfold pval sg
      cases pneg l with
      | true => simp; omega
      | false => simp
    unfold txt
    rw [if_neg hz, hna, hdd, List.map_reverse, List.reverse_reverse, map_forth h4]
    conv => rhs; rw [hl]
    congr 1
    by_cases h7 : pneg l = true
    · rw [if_pos (hneg.2 h7), if_pos h7]
    · rw [if_neg (fun h => h7 (hneg.1 h)), if_neg h7]
end Vm

/- The machine over pure values: a statement that leaves its order open, when what is written always stands in order. (Own work of this repo.) -/
namespace Vm
open Go
def orderOne (all : List Oper) (i : Nat) (r : Rec) : Nat → List Rec → Bool
  | _, [] => true
  | j, s :: ss => (r.quiet && s.quiet || befBit all j i) && orderOne all i r (j + 1) ss
def orderOk (all : List Oper) : Nat → List Rec → Bool
  | _, [] => true
  | i, r :: rs => orderOne all i r (i + 1) rs && orderOk all (i + 1) rs
theorem quiet_ids {r : Rec} (h : r.quiet = true) : r.ids = [] := by
  unfold Rec.quiet at h; unfold Rec.ids
  rw [List.isEmpty_iff] at h; rw [h]; rfl
theorem free_quiet {r s : Rec} (h1 : r.quiet = true) (h2 : s.quiet = true) : r.free s = true := by
  unfold Rec.free; rw [quiet_ids h1, quiet_ids h2]; rfl
theorem orderOne_ok {all : List Oper} {i : Nat} {r : Rec} : ∀ (ss : List Rec) (j : Nat), orderOne all i r j ss = true → dynOne all i r j ss = true
  | [], _, _ => rfl
  | s :: ss, j, h => by
    rw [orderOne, Bool.and_eq_true, Bool.or_eq_true, Bool.and_eq_true] at h
    rw [dynOne, Bool.and_eq_true]
    refine ⟨?_, orderOne_ok ss (j + 1) h.2⟩
    rcases h.1 with ⟨h1, h2⟩ | h1
    · rw [free_quiet h1 h2]
    · rw [h1]; split <;> rfl
theorem orderOk_ok {all : List Oper} : ∀ (rs : List Rec) (i : Nat), orderOk all i rs = true → dynOk all i rs = true
  | [], _, _ => rfl
  | r :: rs, i, h => by
    rw [orderOk, Bool.and_eq_true] at h
    rw [dynOk, orderOne_ok rs _ h.1, orderOk_ok rs _ h.2]; rfl
theorem okR_stat {all : List Oper} {rs : List Rec} (h : orderOk all 0 rs = true) : okR all rs = true := by
  unfold okR; rw [orderOk_ok rs 0 h]; split <;> rfl
/-- The pairs that nothing keeps in order. -/
def pairsOne (all : List Oper) (i : Nat) (r : Rec) : Nat → List Rec → List (Rec × Rec)
  | _, [] => []
  | j, s :: ss => (match r.quiet && s.quiet || befBit all j i with | true => pairsOne all i r (j + 1) ss | false => (r, s) :: pairsOne all i r (j + 1) ss)
def pairs (all : List Oper) : Nat → List Rec → List (Rec × Rec)
  | _, [] => []
  | i, r :: rs => pairsOne all i r (i + 1) rs ++ pairs all (i + 1) rs
def allFree : List (Rec × Rec) → Prop
  | [] => True
  | p :: ps => p.1.free p.2 = true ∧ allFree ps
theorem allFree_mem {l : List (Rec × Rec)} (h : allFree l) : ∀ p ∈ l, p.1.free p.2 = true := by
  induction l with
  | nil => intro p hp; cases hp
  | cons x xs ih =>
    intro p hp
    rcases List.mem_cons.1 hp with rfl | hp
    · exact h.1
    · exact ih h.2 p hp
theorem pairsOne_ok {all : List Oper} {i : Nat} {r : Rec} : ∀ (ss : List Rec) (j : Nat), (∀ p ∈ pairsOne all i r j ss, p.1.free p.2 = true) → dynOne all i r j ss = true
  | [], _, _ => rfl
  | s :: ss, j, h => by
    rw [dynOne, Bool.and_eq_true]
    rw [pairsOne] at h
    cases hc : r.quiet && s.quiet || befBit all j i with
    | true =>
      rw [hc] at h
      refine ⟨?_, pairsOne_ok ss (j + 1) h⟩
      rw [Bool.or_eq_true, Bool.and_eq_true] at hc
      rcases hc with ⟨h1, h2⟩ | h1
      · rw [free_quiet h1 h2]
      · rw [h1]; split <;> rfl
    | false =>
      rw [hc] at h
      refine ⟨?_, pairsOne_ok ss (j + 1) fun p hp => h p (List.mem_cons_of_mem _ hp)⟩
      rw [h (r, s) (List.mem_cons_self ..)]
theorem pairs_ok {all : List Oper} : ∀ (rs : List Rec) (i : Nat), (∀ p ∈ pairs all i rs, p.1.free p.2 = true) → dynOk all i rs = true
  | [], _, _ => rfl
  | r :: rs, i, h => by
    rw [dynOk, Bool.and_eq_true]
    exact ⟨pairsOne_ok rs _ fun p hp => h p (List.mem_append.2 (.inl hp)), pairs_ok rs _ fun p hp => h p (List.mem_append.2 (.inr hp))⟩
theorem okR_pairs {all : List Oper} {rs : List Rec} (h : allFree (pairs all 0 rs)) : okR all rs = true := by
  unfold okR; rw [pairs_ok rs 0 (allFree_mem h)]; split <;> rfl
theorem free_mk {a b c d : List Nat} : (mk a b).free (mk c d) = (b.all (fun x => !(c ++ d).contains x) && d.all (fun x => !a.contains x)) := by
  unfold Rec.free; rw [mk_ids, mk_ids]; rfl
end Vm

/- Walks: the text of a number. (Own work of this repo.) -/
namespace Go.Proofs.Ytpfcijgcjghgeaa
open Vm
set_option maxRecDepth 100000

theorem refP_by {n : Nat} {H : Heap} {id len : Nat} {l : List Nat} {fz : Bool} (hl : l.length = len) : refP (n + 1) H id 0 len (some ⟨l.map by8, false, 1, fz⟩) = some (.lst false (l.map by8), [id]) := by
  unfold refP
  dsimp only
  rw [if_pos (by simp; omega)]
  simp only [List.drop_zero, Nat.mul_one]
  rw [List.take_of_length_le (by simp; omega), mapL_by]
  dsimp only
  rw [elems_one _ _ (by simp; omega)]
set_option maxHeartbeats 1000000 in
theorem reverse_open (id : Nat) (l : List Nat) (h : Heap) (nx : Nat) (hH : h id = some ⟨l.map by8, false, 1, false⟩) (hl0 : 0 < l.length) (hl : l.length < 2 ^ 40) :
    ∃ (p : List Nat) (h' : Heap), denO E 79 [.ref id 0 l.length] h nx = some (.ret (.tup []), h', nx) ∧ h' id = some ⟨p.map by8, false, 1, false⟩ ∧ (∀ j, j ≠ id → h' j = h j) ∧ p = l.reverse := by
  have key : ∃ v h' n, denO E 79 [.ref id 0 l.length] h nx = some (.ret v, h', n) ∧ ∃ p : List Nat, v = .tup [] ∧ n = nx ∧ h' id = some ⟨p.map by8, false, 1, false⟩ ∧ (∀ j, j ≠ id → h' j = h j) ∧ p = l.reverse := by
    refine denO_intro E79 rfl ?_
    have e0 : (l.length : Int) - 1 = ((l.length - 1 : Nat) : Int) := by omega
    simp (maxSteps := 4000000) (disch := omega) only [go_sem, ↓reduceIte, Nat.reduceAdd, Nat.reduceSub, Nat.reduceMul, Nat.reduceEqDiff, reduceCtorEq, Int.reduceAdd, Int.reduceLT, Int.reduceLE, Int.reduceToNat, Int.reduceNeg, Int.reduceSub, ← List.map_take, ← List.map_drop, wrap64, wrapu64, wrapu32, ← Int.natCast_add, ← Int.natCast_mul, cast_succ, wrapu32_nat, shr32, reps_wd, map_set_wd, List.length_set, zs_len, Try.f79, hH, e0]
    refine W_loopS (fun k sl H n => ∃ (i : Nat) (p : List Nat), (∃ g : Nat → AV, sl = [.ref id 0 l.length, g 1, .int .i64 i, .int .i64 ((l.length : Int) - 1 - i), g 4, g 5, g 6, g 7, g 8, g 9, g 10, g 11, g 12, g 13, g 14, g 15, g 16, g 17, g 18, g 19, g 20, g 21, g 22, g 23, g 24, g 25, g 26, g 27]) ∧ n = nx ∧
      H id = some ⟨p.map by8, false, 1, false⟩ ∧ Hd (∀ j, j ≠ id → H j = h j) ∧ p.length = l.length ∧ i + k = l.length ∧ 2 * i ≤ l.length ∧ Hd (∀ t, t < l.length → p.getD t 0 = if t < i ∨ l.length ≤ t + i then l.getD (l.length - 1 - t) 0 else l.getD t 0)) l.length
      ⟨0, l, by rw [show (l.length : Int) - 1 - ((0 : Nat) : Int) = ((l.length - 1 : Nat) : Int) by omega]; exact garb rfl, rfl, hH, ⟨fun _ _ => rfl⟩, rfl, by omega, by omega, ⟨fun t ht => by rw [if_neg (by omega)]⟩⟩ ?_
    clear hH
    rintro k _ H _ ⟨i, p, ⟨g, rfl⟩, rfl, hp, hF, hpl, hk, hi, hv⟩
    by_cases hc : i + 1 < l.length - i
    · have e1 : (l.length : Int) - 1 - (i : Int) = ((l.length - 1 - i : Nat) : Int) := by omega
      have e2 : ((l.length - 1 - i : Nat) : Int) - 1 = (l.length : Int) - 1 - ((i + 1 : Nat) : Int) := by omega
      obtain ⟨j, hj⟩ : ∃ j, j = l.length - 1 - i := ⟨_, rfl⟩
      rw [← hj] at e1 e2
      have hji : i < j := by omega
      have hjl : j < l.length := by omega
      have hF3 := hF.out
      have hv2 : ∀ t, t < l.length → ((p.set i (p.getD j 0)).set j (p.getD i 0)).getD t 0 = if t < i + 1 ∨ l.length ≤ t + (i + 1) then l.getD (l.length - 1 - t) 0 else l.getD t 0 := fun t ht => by
        have h1 := hv.out i (by omega)
        have h2 := hv.out j hjl
        rw [if_neg (by omega)] at h1 h2
        by_cases htj : t = j
        · subst htj
          rw [lget_set_self (by rw [List.length_set]; omega), h1, if_pos (by omega)]
          congr 1; omega
        · rw [lget_set_ne (fun e => htj e.symm)]
          by_cases hti : t = i
          · subst hti
            rw [lget_set_self (by omega), h2, if_pos (by omega)]
            congr 1
          · rw [lget_set_ne (fun e => hti e.symm), hv.out t ht]
            by_cases hq : t < i ∨ l.length ≤ t + i
            · rw [if_pos hq, if_pos (by omega)]
            · rw [if_neg hq, if_neg (by omega)]
      clear hv hF hj
      simp (maxSteps := 4000000) (disch := omega) only [go_sem, ↓reduceIte, Nat.reduceAdd, Nat.reduceSub, Nat.reduceMul, Nat.reduceEqDiff, reduceCtorEq, Int.reduceAdd, Int.reduceLT, Int.reduceLE, Int.reduceToNat, Int.reduceNeg, Int.reduceSub, ← List.map_take, ← List.map_drop, wrap64, wrapu64, wrapu32, ← Int.natCast_add, ← Int.natCast_mul, cast_succ, wrapu32_nat, shr32, reps_wd, map_set_wd, List.length_set, zs_len, e1]
      refine W_drawn ?_
      simp (maxSteps := 4000000) (disch := omega) only [go_sem, ↓reduceIte, Nat.reduceAdd, Nat.reduceSub, Nat.reduceMul, Nat.reduceEqDiff, reduceCtorEq, Int.reduceAdd, Int.reduceLT, Int.reduceLE, Int.reduceToNat, Int.reduceNeg, Int.reduceSub, ← List.map_take, ← List.map_drop, wrap64, wrapu64, wrapu32, ← Int.natCast_add, ← Int.natCast_mul, cast_succ, wrapu32_nat, shr32, reps_wd, map_set_wd, List.length_set, zs_len, hp, hpl, get_by, map_set_by, by8, e1, Int.toNat_natCast]
      exact ⟨by refine okR_pairs ?_; (repeat ((with_unfolding_all refine And.intro ?_ ?_); (focus (rw [free_mk] <;> (try simp) <;> (try omega))))); (with_unfolding_all exact True.intro), k - 1, by omega, i + 1, (p.set i (p.getD j 0)).set j (p.getD i 0), by rw [e2]; exact garb rfl, rfl, ⟨fun t ht => by rw [if_neg ht]; exact hF3 t ht⟩, by rw [List.length_set, List.length_set, hpl], by omega, by omega, ⟨hv2⟩⟩
    · have hfin : p = l.reverse := by
        refine List.ext_getElem (by rw [List.length_reverse, hpl]) fun t h1 h2 => ?_
        have h3 := hv.out t (by omega)
        rw [List.getD_eq_getElem?_getD, List.getElem?_eq_getElem h1] at h3
        simp only [Option.getD_some] at h3
        rw [h3, List.getElem_reverse]
        by_cases hq : t < i ∨ l.length ≤ t + i
        · rw [if_pos hq, List.getD_eq_getElem?_getD, List.getElem?_eq_getElem (by omega)]; rfl
        · rw [if_neg hq, List.getD_eq_getElem?_getD, List.getElem?_eq_getElem (by omega)]
          simp only [Option.getD_some]
          congr 1; omega
      have hF2 := hF.out
      clear hv hF
      simp (maxSteps := 4000000) (disch := omega) only [go_sem, ↓reduceIte, Nat.reduceAdd, Nat.reduceSub, Nat.reduceMul, Nat.reduceEqDiff, reduceCtorEq, Int.reduceAdd, Int.reduceLT, Int.reduceLE, Int.reduceToNat, Int.reduceNeg, Int.reduceSub, ← List.map_take, ← List.map_drop, wrap64, wrapu64, wrapu32, ← Int.natCast_add, ← Int.natCast_mul, cast_succ, wrapu32_nat, shr32, reps_wd, map_set_wd, List.length_set, zs_len, hp]
      exact ⟨p, rfl, hF2, hfin⟩
  obtain ⟨v, h', n, h1, p, rfl, rfl, h2, h3, h4⟩ := key
  exact ⟨p, h', h1, h2, h3, h4⟩
/-- A row of bytes that grows: nothing yet, or a row of the heap. -/
def Grow (H : Heap) (nx : Nat) (v : AV) (l : List Nat) : Prop := (l = [] ∧ v = .lst true []) ∨ (0 < l.length ∧ ∃ id, 0 < id ∧ id < nx ∧ v = .ref id 0 l.length ∧ H id = some ⟨l.map by8, false, 1, false⟩)
theorem txt_inB (z : Int) : InB (txt z) := by
  intro x hx
  unfold txt at hx
  split at hx
  · simp at hx; omega
  · rcases List.mem_append.1 hx with h | h
    · split at h
      · simp at h; omega
      · cases h
    · rw [List.mem_reverse, List.mem_map] at h
      obtain ⟨d, hd, rfl⟩ := h
      have := dd_lt _ d hd
      omega
/-- How far the digits are written. -/
theorem dg_step {A M : Nat} {pre : List Nat} (hM : 0 < M) (h : pre ++ dd M = dd A) : (pre ++ [M % 10]) ++ dd (M / 10) = dd A := by
  rw [← h, dd_pos (n := M) (by omega), List.append_assoc]; rfl
theorem grow_bytes {H : Heap} {nx : Nat} {v : AV} {l : List Nat} (h : Grow H nx v l) : l.map by8 = [] ∨ 0 < l.length := by
  rcases h with ⟨rfl, _⟩ | ⟨h, _⟩
  · exact .inl rfl
  · exact .inr h
theorem pow9 {i : Nat} (h : i < 9) : 10 ^ (9 - i) = 10 * 10 ^ (8 - i) := by
  rw [show 9 - i = 8 - i + 1 by omega, Nat.pow_succ, Nat.mul_comm]
set_option maxHeartbeats 4000000 in
theorem text_spec (m : Bool) (a : Int) (ha : (dg a).length ≤ 4096) : denP E 47 [I m a] = some (.ret (.tup [.str (bstr (txt a)), .int .i64 0])) := by
  refine denP_eq E47 rfl (by simp [AV.pureL, AV.pure, pure_wd]) ?_
  have h1 := valid_I m a ha
  by_cases h0 : a = 0
  · subst h0
    have e : bstr (txt 0) = ⟨#[48]⟩ := rfl
    rw [e]
    simp only [I, ng_zero, dg_zero, List.map_nil] at h1
    simp (maxSteps := 4000000) (disch := omega) only [go_sem, ↓reduceIte, Nat.reduceAdd, Nat.reduceSub, Nat.reduceMul, Nat.reduceEqDiff, reduceCtorEq, Int.reduceAdd, Int.reduceLT, Int.reduceLE, Int.reduceToNat, Int.reduceNeg, Int.reduceSub, ← List.map_take, ← List.map_drop, wrap64, wrapu64, wrapu32, ← Int.natCast_add, ← Int.natCast_mul, cast_succ, wrapu32_nat, shr32, reps_wd, map_set_wd, List.length_set, zs_len, Try.f47, h1, ng_zero, dg_zero, List.map_nil]
  · have hl := dg_pos.2 h0
    obtain ⟨A, hA⟩ : ∃ A, A = a.natAbs := ⟨_, rfl⟩
    have hA0 : A ≠ 0 := by omega
    obtain ⟨L, hLL⟩ : ∃ L, L = 4096 := ⟨_, rfl⟩
    obtain ⟨K, hK⟩ : ∃ K, K = 43691 := ⟨_, rfl⟩
    have hddl : (dd A).length ≤ K := dd_len (by
      have h9 := valid_len (k := L) (by rw [hLL]; exact ha)
      rw [← hA] at h9
      exact Nat.lt_of_lt_of_le h9 (Nat.pow_le_pow_right (by decide) (by omega)))
    have hdA : dg a = dig A := by rw [hA]; rfl
    simp (maxSteps := 4000000) (disch := omega) only [go_sem, ↓reduceIte, Nat.reduceAdd, Nat.reduceSub, Nat.reduceMul, Nat.reduceEqDiff, reduceCtorEq, Int.reduceAdd, Int.reduceLT, Int.reduceLE, Int.reduceToNat, Int.reduceNeg, Int.reduceSub, ← List.map_take, ← List.map_drop, wrap64, wrapu64, wrapu32, ← Int.natCast_add, ← Int.natCast_mul, cast_succ, wrapu32_nat, shr32, reps_wd, map_set_wd, List.length_set, zs_len, Try.f47, h1]
    refine W_loopS (fun N sl H nx => ∃ (v : AV) (pre : List Nat) (f : Bool), (∃ g : Nat → AV, sl = [g 0, .ptr 0 0, g 2, g 3, v, .lst f ((dig N).map wd), g 6, g 7, g 8, g 9, g 10, g 11, g 12, g 13, g 14, g 15, g 16, g 17, g 18, g 19, g 20, g 21, g 22, g 23, g 24, g 25, g 26, g 27, g 28, g 29, g 30, g 31, g 32, g 33, g 34, g 35, g 36, g 37, g 38, g 39, g 40, g 41, g 42, g 43, g 44, g 45, g 46, g 47, g 48, g 49, g 50, g 51, g 52, g 53, g 54, g 55, g 56, g 57]) ∧ 1 ≤ nx ∧
      H 0 = some ⟨[.bool (ng a), .lst m ((dg a).map wd)], true, 2, false⟩ ∧ Grow H nx v (pre.map (48 + ·)) ∧ N ≤ A ∧ Hd (pre ++ dd N = dd A)) A
      ⟨.lst true [], [], m, by rw [hdA]; exact garb rfl, Nat.le_refl 1, rfl, .inl ⟨rfl, rfl⟩, Nat.le_refl _, ⟨rfl⟩⟩ ?_
    clear h1
    rintro N _ H nx ⟨v, pre, f, ⟨g, rfl⟩, hnx, q0, hG, hNA, hpre⟩
    have hplen : pre.length ≤ K := by
      have := congrArg List.length hpre.out
      rw [List.length_append] at this; omega
    have lN : (dig N).length ≤ 4096 := Nat.le_trans (dig_mono hNA) (by rw [← hdA]; exact ha)
    by_cases hN0 : N = 0
    · subst hN0
      have hd0 : (dig 0).length = 0 := by rw [dig_zero]; rfl
      have hfin : pre = dd A := by have := hpre.out; rwa [dd_zero, List.append_nil] at this
      have hne : 0 < pre.length := by
        rw [hfin]; exact List.length_pos_iff.2 (fun e => hA0 (dd_nil.1 e))
      rcases hG with ⟨hG, _⟩ | ⟨hGl, id, hid0, hid, rfl, hGH⟩
      · have := congrArg List.length hG; simp at this; subst this; simp at hne
      · rw [List.length_map] at hGl
        rw [List.length_map] at *
        have htx : txt a = (if a < 0 then [45] else []) ++ ((pre.map (48 + ·)).reverse) := by rw [txt, if_neg h0, hfin, hA]
        obtain ⟨bs, hbs⟩ : ∃ bs, bs = pre.map (48 + ·) := ⟨_, rfl⟩
        rw [← hbs] at hGH htx
        have hbl : pre.length = bs.length := by rw [hbs, List.length_map]
        rw [hbl] at hplen hGl
        rw [htx, hbl]
        clear hpre htx hfin hbs hbl hne hddl
        cases hs : ng a with
        | false =>
          have hs0 := ng_false.1 hs
          rw [if_neg (show ¬ a < 0 by omega), List.nil_append]
          rw [hs] at q0
          have hrev := reverse_open id bs
          simp (maxSteps := 4000000) (disch := omega) only [go_sem, ↓reduceIte, Nat.reduceAdd, Nat.reduceSub, Nat.reduceMul, Nat.reduceEqDiff, reduceCtorEq, Int.reduceAdd, Int.reduceLT, Int.reduceLE, Int.reduceToNat, Int.reduceNeg, Int.reduceSub, ← List.map_take, ← List.map_drop, wrap64, wrapu64, wrapu32, ← Int.natCast_add, ← Int.natCast_mul, cast_succ, wrapu32_nat, shr32, reps_wd, map_set_wd, List.length_set, zs_len, q0, hd0, hs]
          refine openK_ex (hrev _ _ hGH hGl (by omega)) ?_
          rintro p H' ⟨hp, hF, rfl⟩
          have htk : List.take bs.length bs.reverse = bs.reverse := List.take_of_length_le (by rw [List.length_reverse]; omega)
          simp (maxSteps := 4000000) (disch := omega) only [go_sem, ↓reduceIte, Nat.reduceAdd, Nat.reduceSub, Nat.reduceMul, Nat.reduceEqDiff, reduceCtorEq, Int.reduceAdd, Int.reduceLT, Int.reduceLE, Int.reduceToNat, Int.reduceNeg, Int.reduceSub, ← List.map_take, ← List.map_drop, wrap64, wrapu64, wrapu32, ← Int.natCast_add, ← Int.natCast_mul, cast_succ, wrapu32_nat, shr32, reps_wd, map_set_wd, List.length_set, zs_len, strEff, strOf, hp, srcCells, List.length_reverse, htk, bytes_by]
          rfl
        | true =>
          have hs0 := ng_true.1 hs
          rw [if_pos hs0]
          rw [hs] at q0
          have hm1 : List.map by8 bs ++ [AV.int .u8 45] = List.map by8 (bs ++ [45]) := by rw [List.map_append]; rfl
          have hrev := reverse_open (nx + 1) (bs ++ [45])
          have hbl2 : (bs ++ [45]).length = bs.length + 1 := by rw [List.length_append]; rfl
          have hrv : (bs ++ [45]).reverse = [45] ++ bs.reverse := by rw [List.reverse_append]; rfl
          simp (maxSteps := 4000000) (disch := omega) only [go_sem, ↓reduceIte, Nat.reduceAdd, Nat.reduceSub, Nat.reduceMul, Nat.reduceEqDiff, reduceCtorEq, Int.reduceAdd, Int.reduceLT, Int.reduceLE, Int.reduceToNat, Int.reduceNeg, Int.reduceSub, ← List.map_take, ← List.map_drop, wrap64, wrapu64, wrapu32, ← Int.natCast_add, ← Int.natCast_mul, cast_succ, wrapu32_nat, shr32, reps_wd, map_set_wd, List.length_set, zs_len, q0, hd0, hs, hGH, reps, fillAll, appendEff, srcCells, List.headD, hm1]
          rw [← hbl2]
          refine openK_ex (hrev _ _ (by simp [upd_apply]) (by omega) (by omega)) ?_
          rintro p H' ⟨hp, hF, rfl⟩
          have htk : List.take (bs ++ [45]).length (bs ++ [45]).reverse = (bs ++ [45]).reverse := List.take_of_length_le (by rw [List.length_reverse]; omega)
          simp (maxSteps := 4000000) (disch := omega) only [go_sem, ↓reduceIte, Nat.reduceAdd, Nat.reduceSub, Nat.reduceMul, Nat.reduceEqDiff, reduceCtorEq, Int.reduceAdd, Int.reduceLT, Int.reduceLE, Int.reduceToNat, Int.reduceNeg, Int.reduceSub, ← List.map_take, ← List.map_drop, wrap64, wrapu64, wrapu32, ← Int.natCast_add, ← Int.natCast_mul, cast_succ, wrapu32_nat, shr32, reps_wd, map_set_wd, List.length_set, zs_len, strEff, strOf, hp, srcCells, List.length_reverse, htk, bytes_by]
          rw [hrv]
          rfl
    · have hNl : 0 < (dig N).length := List.length_pos_iff.2 (fun e => hN0 (dig_nil.1 e))
      have ho := over_spec f (dig N) 1000000000 (dig_inR N) (by omega) (by decide) (by decide)
      rw [val_dig] at ho
      have hr := Nat.mod_lt N (show 0 < 1000000000 by decide)
      have hdm := Nat.div_add_mod N 1000000000
      have hqN : N / 1000000000 < N := Nat.div_lt_self (by omega) (by decide)
      generalize N / 1000000000 = q at *
      generalize N % 1000000000 = r0 at *
      have lq : (dig q).length ≤ 4096 := Nat.le_trans (dig_mono (Nat.le_of_lt hqN)) lN
      have h0d : (0 < (dig q).length) ↔ q ≠ 0 := by rw [List.length_pos_iff, ne_eq, dig_nil]
      simp only [Int.cast_ofNat_Int] at ho
      simp (maxSteps := 4000000) (disch := omega) only [go_sem, ↓reduceIte, Nat.reduceAdd, Nat.reduceSub, Nat.reduceMul, Nat.reduceEqDiff, reduceCtorEq, Int.reduceAdd, Int.reduceLT, Int.reduceLE, Int.reduceToNat, Int.reduceNeg, Int.reduceSub, ← List.map_take, ← List.map_drop, wrap64, wrapu64, wrapu32, ← Int.natCast_add, ← Int.natCast_mul, cast_succ, wrapu32_nat, shr32, reps_wd, map_set_wd, List.length_set, zs_len, ho]
      refine W_loopS (fun k sl H2 nx2 => ∃ (v : AV) (pre : List Nat) (i r : Nat), (∃ g : Nat → AV, sl = [g 0, .ptr 0 0, g 2, g 3, v, .lst false ((dig q).map wd), g 6, .int .u32 r, .int .i64 i, g 9, g 10, g 11, g 12, g 13, g 14, g 15, g 16, g 17, g 18, g 19, g 20, g 21, g 22, g 23, g 24, g 25, g 26, g 27, g 28, g 29, g 30, g 31, g 32, g 33, g 34, g 35, g 36, g 37, g 38, g 39, g 40, g 41, g 42, g 43, g 44, g 45, g 46, g 47, g 48, g 49, g 50, g 51, g 52, g 53, g 54, g 55, g 56, g 57]) ∧ 1 ≤ nx2 ∧
        H2 0 = some ⟨[.bool (ng a), .lst m ((dg a).map wd)], true, 2, false⟩ ∧ Grow H2 nx2 v (pre.map (48 + ·)) ∧ i + k = 9 ∧ r < 1000000000 ∧ Hd (r < 10 ^ (9 - i)) ∧ Hd (pre ++ dd (r + q * 10 ^ (9 - i)) = dd A)) 9
        ⟨v, pre, 0, r0, garb rfl, hnx, q0, hG, by omega, hr, ⟨hr⟩, ⟨by rw [show r0 + q * 10 ^ (9 - 0) = N by rw [← hdm]; show r0 + q * 1000000000 = _; omega]; exact hpre.out⟩⟩ ?_
      clear ho q0 hG hpre hplen lN hnx hdm hN0 hNl hr
      rintro k _ H2 nx2 ⟨v2, pre2, i, r, ⟨g2, rfl⟩, hnx, q0, hG, hik, hr, hr9, hpre⟩
      have hplen : pre2.length ≤ K := by
        have := congrArg List.length hpre.out
        rw [List.length_append] at this; omega
      by_cases hgo : i < 9 ∧ (q ≠ 0 ∨ 0 < r)
      · obtain ⟨hi, hqr⟩ := hgo
        have hM : 0 < r + q * 10 ^ (9 - i) := by
          rcases hqr with h | h
          · have : 0 < q * 10 ^ (9 - i) := Nat.mul_pos (by omega) (Nat.pow_pos (by decide))
            omega
          · omega
        have hMm : (r + q * 10 ^ (9 - i)) % 10 = r % 10 := by rw [pow9 hi, Nat.mul_left_comm]; omega
        have hMd : (r + q * 10 ^ (9 - i)) / 10 = r / 10 + q * 10 ^ (9 - (i + 1)) := by
          rw [pow9 hi, Nat.mul_left_comm, show 9 - (i + 1) = 8 - i by omega]; omega
        have hst := dg_step hM hpre.out
        rw [hMm, hMd] at hst
        have hr9' : r / 10 < 10 ^ (9 - (i + 1)) := by
          have := hr9.out
          rw [pow9 hi] at this
          rw [show 9 - (i + 1) = 8 - i by omega]; omega
        have d1 : (r : Int).tmod 10 = ((r % 10 : Nat) : Int) := rfl
        have d2 : (r : Int).tdiv 10 = ((r / 10 : Nat) : Int) := rfl
        have d3 : r / 10 % 4294967296 = r / 10 := Nat.mod_eq_of_lt (by omega)
        have d4 : IntKind.u8.wrap ((48 : Int) + ((r % 10 : Nat) : Int)) = ((48 + r % 10 : Nat) : Int) := by rw [IntKind.wrap_u8']; omega
        have d5 : IntKind.u32.wrap ((48 : Int) + ((r % 10 : Nat) : Int)) = (48 : Int) + ((r % 10 : Nat) : Int) := by rw [IntKind.wrap_u32']; omega
        obtain ⟨D, hD⟩ : ∃ D, D = 48 + r % 10 := ⟨_, rfl⟩
        rw [← hD] at d4
        have hmap : (pre2 ++ [r % 10]).map (48 + ·) = pre2.map (48 + ·) ++ [D] := by rw [List.map_append, hD]; rfl
        have hpl2 : (pre2.map (48 + ·)).length ≤ K := by rw [List.length_map]; exact hplen
        have hr8 : r / 10 < 1000000000 := by omega
        replace hst := Hd.mk hst
        replace hr9' := Hd.mk hr9'
        clear hpre hr9 hMm hMd hM hD hplen hddl
        have fin : ∀ (bs : List Nat), (pre2 ++ [r % 10]).map (48 + ·) = bs → ∀ (H3 : Heap) (n3 : Nat) (v3 : AV), Grow H3 n3 v3 bs → Grow H3 n3 v3 ((pre2 ++ [r % 10]).map (48 + ·)) := fun bs hb H3 n3 v3 h => by rw [hb]; exact h
        generalize hbs : pre2.map (48 + ·) = bs at *
        have hone : [AV.int .u8 ((D : Nat) : Int)] = List.map by8 [D] := rfl
        have key : ∀ (cnd : (0 < (dig q).length) ∨ ((dig q).length = 0 ∧ 0 < r)), (0 < (dig q).length) ∨ ((dig q).length = 0 ∧ 0 < r) := fun h => h
        have hcnd : (0 < (dig q).length) ∨ ((dig q).length = 0 ∧ 0 < r) := by
          rcases hqr with h | h
          · exact .inl (h0d.2 h)
          · by_cases hq : q = 0
            · exact .inr ⟨by rw [hq, dig_zero]; rfl, h⟩
            · exact .inl (h0d.2 hq)
        clear key hqr h0d
        rcases hG with ⟨hG1, rfl⟩ | ⟨hGl, id, hid0, hid, rfl, hGH⟩
        · subst hG1
          rw [List.nil_append] at hmap
          rcases hcnd with hq1 | ⟨hq1, hq2⟩
          · simp (maxSteps := 4000000) (disch := omega) only [go_sem, ↓reduceIte, Nat.reduceAdd, Nat.reduceSub, Nat.reduceMul, Nat.reduceEqDiff, reduceCtorEq, Int.reduceAdd, Int.reduceLT, Int.reduceLE, Int.reduceToNat, Int.reduceNeg, Int.reduceSub, ← List.map_take, ← List.map_drop, wrap64, wrapu64, wrapu32, ← Int.natCast_add, ← Int.natCast_mul, cast_succ, wrapu32_nat, shr32, reps_wd, map_set_wd, List.length_set, zs_len, hq1, d1, d2, d3, d4, d5, q0, reps, fillAll, appendEff, srcCells, List.headD]
            exact ⟨k - 1, by omega, .ref (nx2 + 1) 0 1, pre2 ++ [r % 10], i + 1, r / 10, garb rfl, by omega, .inr ⟨by rw [hmap]; exact Nat.one_pos, nx2 + 1, by omega, by omega, by rw [hmap]; rfl, by rw [hmap]; exact upd_same⟩, by omega, hr8, hr9', hst⟩
          · simp (maxSteps := 4000000) (disch := omega) only [go_sem, ↓reduceIte, Nat.reduceAdd, Nat.reduceSub, Nat.reduceMul, Nat.reduceEqDiff, reduceCtorEq, Int.reduceAdd, Int.reduceLT, Int.reduceLE, Int.reduceToNat, Int.reduceNeg, Int.reduceSub, ← List.map_take, ← List.map_drop, wrap64, wrapu64, wrapu32, ← Int.natCast_add, ← Int.natCast_mul, cast_succ, wrapu32_nat, shr32, reps_wd, map_set_wd, List.length_set, zs_len, hq1, d1, d2, d3, d4, d5, q0, reps, fillAll, appendEff, srcCells, List.headD]
            exact ⟨k - 1, by omega, .ref (nx2 + 1) 0 1, pre2 ++ [r % 10], i + 1, r / 10, garb rfl, by omega, .inr ⟨by rw [hmap]; exact Nat.one_pos, nx2 + 1, by omega, by omega, by rw [hmap]; rfl, by rw [hmap]; exact upd_same⟩, by omega, hr8, hr9', hst⟩
        · have hm1 : List.map by8 bs ++ [AV.int .u8 ((D : Nat) : Int)] = List.map by8 (bs ++ [D]) := by rw [List.map_append]; rfl
          rcases hcnd with hq1 | ⟨hq1, hq2⟩
          · simp (maxSteps := 4000000) (disch := omega) only [go_sem, ↓reduceIte, Nat.reduceAdd, Nat.reduceSub, Nat.reduceMul, Nat.reduceEqDiff, reduceCtorEq, Int.reduceAdd, Int.reduceLT, Int.reduceLE, Int.reduceToNat, Int.reduceNeg, Int.reduceSub, ← List.map_take, ← List.map_drop, wrap64, wrapu64, wrapu32, ← Int.natCast_add, ← Int.natCast_mul, cast_succ, wrapu32_nat, shr32, reps_wd, map_set_wd, List.length_set, zs_len, hq1, d1, d2, d3, d4, d5, q0, hGH, reps, fillAll, appendEff, srcCells, List.headD, hm1]
            exact ⟨k - 1, by omega, .ref (nx2 + 1) 0 (bs.length + 1), pre2 ++ [r % 10], i + 1, r / 10, garb rfl, by omega, .inr ⟨by rw [hmap, List.length_append]; exact Nat.succ_pos _, nx2 + 1, by omega, by omega, by rw [hmap, List.length_append]; rfl, by rw [hmap]; exact upd_same⟩, by omega, hr8, hr9', hst⟩
          · simp (maxSteps := 4000000) (disch := omega) only [go_sem, ↓reduceIte, Nat.reduceAdd, Nat.reduceSub, Nat.reduceMul, Nat.reduceEqDiff, reduceCtorEq, Int.reduceAdd, Int.reduceLT, Int.reduceLE, Int.reduceToNat, Int.reduceNeg, Int.reduceSub, ← List.map_take, ← List.map_drop, wrap64, wrapu64, wrapu32, ← Int.natCast_add, ← Int.natCast_mul, cast_succ, wrapu32_nat, shr32, reps_wd, map_set_wd, List.length_set, zs_len, hq1, d1, d2, d3, d4, d5, q0, hGH, reps, fillAll, appendEff, srcCells, List.headD, hm1]
            exact ⟨k - 1, by omega, .ref (nx2 + 1) 0 (bs.length + 1), pre2 ++ [r % 10], i + 1, r / 10, garb rfl, by omega, .inr ⟨by rw [hmap, List.length_append]; exact Nat.succ_pos _, nx2 + 1, by omega, by omega, by rw [hmap, List.length_append]; rfl, by rw [hmap]; exact upd_same⟩, by omega, hr8, hr9', hst⟩
      · have hfin : pre2 ++ dd q = dd A := by
          have h := hpre.out
          by_cases hi : i < 9
          · have hq0 : q = 0 ∧ r = 0 := by omega
            rw [hq0.1, hq0.2, Nat.zero_mul, Nat.add_zero] at h
            rw [hq0.1]; exact h
          · obtain rfl : i = 9 := by omega
            have h10 := hr9.out
            rw [show 9 - 9 = 0 from rfl, Nat.pow_zero] at h10
            rw [show 9 - 9 = 0 from rfl, Nat.pow_zero, Nat.mul_one, show r = 0 by omega, Nat.zero_add] at h
            exact h
        replace hfin := Hd.mk hfin
        clear hpre hr9 hddl hplen
        have stop : ¬ i < 9 ∨ (i < 9 ∧ (dig q).length = 0 ∧ r = 0) := by
          by_cases hi : i < 9
          · right
            have hq0 : q = 0 ∧ r = 0 := by omega
            exact ⟨hi, by rw [hq0.1, dig_zero]; rfl, hq0.2⟩
          · exact .inl hi
        rcases stop with hi | ⟨hi, hq1, hr0⟩
        · simp (maxSteps := 4000000) (disch := omega) only [go_sem, ↓reduceIte, Nat.reduceAdd, Nat.reduceSub, Nat.reduceMul, Nat.reduceEqDiff, reduceCtorEq, Int.reduceAdd, Int.reduceLT, Int.reduceLE, Int.reduceToNat, Int.reduceNeg, Int.reduceSub, ← List.map_take, ← List.map_drop, wrap64, wrapu64, wrapu32, ← Int.natCast_add, ← Int.natCast_mul, cast_succ, wrapu32_nat, shr32, reps_wd, map_set_wd, List.length_set, zs_len]
          exact ⟨q, hqN, v2, pre2, false, garb rfl, by omega, q0, hG, by omega, hfin⟩
        · simp (maxSteps := 4000000) (disch := omega) only [go_sem, ↓reduceIte, Nat.reduceAdd, Nat.reduceSub, Nat.reduceMul, Nat.reduceEqDiff, reduceCtorEq, Int.reduceAdd, Int.reduceLT, Int.reduceLE, Int.reduceToNat, Int.reduceNeg, Int.reduceSub, ← List.map_take, ← List.map_drop, wrap64, wrapu64, wrapu32, ← Int.natCast_add, ← Int.natCast_mul, cast_succ, wrapu32_nat, shr32, reps_wd, map_set_wd, List.length_set, zs_len, hq1]
          exact ⟨q, hqN, v2, pre2, false, garb rfl, by omega, q0, hG, by omega, hfin⟩
end Go.Proofs.Ytpfcijgcjghgeaa

/- Walks: the number of a text. (Own work of this repo.) -/
namespace Go.Proofs.Ytpfcijgcjghgeaa
open Vm
set_option maxRecDepth 100000

theorem u8_get {l : List Nat} (h : InB l) (i : Nat) : ((UInt8.ofNat (l.getD i 0)).toNat : Int) = ((l.getD i 0 : Nat) : Int) := by rw [u8_nat (inB_get h i)]
theorem bstr_drop1 {l : List Nat} (h : 1 ≤ l.length) : (bstr l).extract 1 l.length = bstr (l.drop 1) := bstr_drop h
theorem str_nil {d : List Nat} (h : InB d) : ((bstr d).toList == (ByteArray.mk #[]).toList) = decide (d = []) := bstr_eql (b := []) h (by intro x hx; cases hx)
theorem str_zero {d : List Nat} (h : InB d) : ((bstr d).toList == (ByteArray.mk #[48]).toList) = decide (d = [48]) := bstr_eql (b := [48]) h (by intro x hx; simp at hx; omega)
theorem inB_drop {l : List Nat} (h : InB l) : InB (pbody l) := by
  unfold pbody
  split
  · exact fun x hx => h x (List.mem_of_mem_drop hx)
  · exact h
theorem dval_lt {d : List Nat} : ∀ (i : Nat), i ≤ d.length → (∀ t, t < i → 48 ≤ d.getD t 0 ∧ d.getD t 0 ≤ 57) → dval (d.take i) < 2 ^ (4 * i)
  | 0, _, _ => by rw [List.take_zero, dval_nil]; exact Nat.pow_pos (by decide)
  | i + 1, hi, h => by
    have ih := dval_lt i (by omega) fun t ht => h t (by omega)
    have h1 := h i (by omega)
    rw [dval_take (by omega), show 4 * (i + 1) = 4 * i + 4 by omega, Nat.pow_add]
    omega
theorem dig_pre {d : List Nat} {i : Nat} (hi : i ≤ d.length) (hl : d.length ≤ 60000) (h : ∀ t, t < i → 48 ≤ d.getD t 0 ∧ d.getD t 0 ≤ 57) : (dig (dval (d.take i))).length ≤ 7500 := by
  obtain ⟨L, hL⟩ : ∃ L, L = 7500 := ⟨_, rfl⟩
  rw [← hL]
  have h1 := dval_lt i hi h
  have h2 : dval (d.take i) < 2 ^ (32 * L) := Nat.lt_of_lt_of_le h1 (Nat.pow_le_pow_right (by decide) (by omega))
  have h3 := dg_bits (z := ((dval (d.take i) : Nat) : Int)) (k := L) (by rwa [Int.natAbs_natCast])
  rwa [dg_nat] at h3
theorem pbody_len (l : List Nat) : (pbody l).length ≤ l.length := by
  unfold pbody; split
  · rw [List.length_drop]; omega
  · exact Nat.le_refl _
theorem eq48 {l : List Nat} : l = [48] ↔ pneg l = false ∧ pbody l = [48] := by
  constructor
  · intro h; subst h; exact ⟨rfl, rfl⟩
  · rintro ⟨h1, h2⟩
    rw [pbody, h1] at h2
    exact h2
theorem one48 {d : List Nat} (h : d.getD 0 0 = 48) (hl : d.length = 1) : d = [48] := by
  match d, hl with
  | [x], _ => rw [show x = 48 from h]
theorem thenK_cut {E : Env} {A B : Code} {Q Q' : Ex → St → Prop} {σ : St} (h1 : ∀ e σ, Q e σ → thenK E B Q' e σ) (h2 : W E A σ Q) : thenK E (A.seq B) Q' .norm σ := by
  rw [thenK_norm, W_seq]; exact W_mono h2 h1
theorem pow10 {j B : Nat} (h : B = 10 ^ j) : (j < 9 → B ≤ 100000000) ∧ (j = 9 → B = 1000000000) := by
  subst h
  refine ⟨fun hj => ?_, fun hj => by rw [hj]⟩
  exact Nat.le_trans (Nat.pow_le_pow_right (by decide) (show j ≤ 8 by omega)) (by decide)
theorem val_sing (x : Nat) : val [x] = x := by rw [val_cons, val_nil, Nat.mul_zero, Nat.add_zero]
set_option maxHeartbeats 4000000 in
theorem parse_spec (l : List Nat) (hI : InB l) (hl : l.length < 2 ^ 40) : ∃ f : Bool, denP E 48 [.str (bstr l)] = some (.ret (if pOk l then RI f (pval l) else .tup [I true 0, .int .i64 3])) ∧ (f = true → pval l = 0) := by
  refine denP_ex E48 rfl (by simp [AV.pureL, AV.pure, pure_wd]) ?_
  by_cases h1 : 60000 < l.length
  · have hp : pOk l = false := decide_eq_false fun h => by omega
    rw [hp]
    simp (maxSteps := 4000000) (disch := omega) only [go_sem, ↓reduceIte, Nat.reduceAdd, Nat.reduceSub, Nat.reduceMul, Nat.reduceEqDiff, reduceCtorEq, Int.reduceAdd, Int.reduceLT, Int.reduceLE, Int.reduceToNat, Int.reduceNeg, Int.reduceSub, ← List.map_take, ← List.map_drop, wrap64, wrapu64, wrapu32, ← Int.natCast_add, ← Int.natCast_mul, cast_succ, wrapu32_nat, shr32, reps_wd, map_set_wd, List.length_set, zs_len, Try.f48, bstr_size, fillAll, reps, refP, elems, places, ng_zero, dg_zero, List.map_nil]
    exact ⟨false, fun h => by cases h⟩
  · have hB := inB_drop hI
    have hu := u8_get hI
    simp (maxSteps := 4000000) (disch := omega) only [go_sem, ↓reduceIte, Nat.reduceAdd, Nat.reduceSub, Nat.reduceMul, Nat.reduceEqDiff, reduceCtorEq, Int.reduceAdd, Int.reduceLT, Int.reduceLE, Int.reduceToNat, Int.reduceNeg, Int.reduceSub, ← List.map_take, ← List.map_drop, wrap64, wrapu64, wrapu32, ← Int.natCast_add, ← Int.natCast_mul, cast_succ, wrapu32_nat, shr32, reps_wd, map_set_wd, List.length_set, zs_len, Try.f48, bstr_size, fillAll, reps, refP, elems, places, ng_zero, dg_zero, List.map_nil]
    refine wantK_mono (Q := thenK E _ (fun e σ => e = .norm ∧ (∃ g : Nat → AV, σ.sl = [.str (bstr l), g 1, .ptr 0 0, .int .i64 0, .str (bstr (pbody l)), .bool (pneg l), g 6, g 7, g 8, g 9, g 10, g 11, g 12, g 13, g 14, g 15, g 16, g 17, g 18, g 19, g 20, g 21, g 22, g 23, g 24, g 25, g 26, g 27, g 28, g 29, g 30, g 31, g 32, g 33, g 34, g 35, g 36, g 37, g 38, g 39, g 40, g 41, g 42, g 43, g 44, g 45, g 46, g 47, g 48, g 49, g 50, g 51, g 52, g 53, g 54, g 55, g 56, g 57, g 58, g 59, g 60, g 61, g 62, g 63, g 64, g 65, g 66, g 67, g 68, g 69, g 70, g 71, g 72, g 73, g 74, g 75, g 76, g 77, g 78, g 79, g 80, g 81, g 82, g 83, g 84]) ∧ σ.nx = 1 ∧ σ.h 0 = some ⟨[.bool false, .lst true []], true, 2, false⟩)) (thenK_mono ?_) ?_
    · rintro e ⟨sl, H, nx⟩ ⟨rfl, ⟨g, hs⟩, rfl, h0⟩
      dsimp only at hs h0
      subst hs
      have hok : pOk l = decide (l.length ≤ 60000 ∧ pbody l ≠ [] ∧ ¬ ((pbody l).getD 0 0 = 48 ∧ (pneg l = true ∨ 1 < (pbody l).length)) ∧ DecG (pbody l)) := by unfold pOk; exact decide_eq_decide.2 Iff.rfl
      have hv : pval l = sg (pneg l) (dval (pbody l)) := rfl
      have hdl := pbody_len l
      have hz := eq48 (l := l)
      rw [hok, hv]
      clear hok hv hu
      generalize pneg l = neg at *
      generalize pbody l = d at *
      have hu := u8_get hB
      have q1 := str_nil hB
      have q2 := str_zero hI
      have hdl2 : d.length ≤ 60000 := by omega
      by_cases hd0 : d = []
      · rw [decide_eq_true hd0] at q1
        rw [decide_eq_false (fun h => h.2.1 hd0)]
        simp (maxSteps := 4000000) (disch := omega) only [go_sem, ↓reduceIte, Nat.reduceAdd, Nat.reduceSub, Nat.reduceMul, Nat.reduceEqDiff, reduceCtorEq, Int.reduceAdd, Int.reduceLT, Int.reduceLE, Int.reduceToNat, Int.reduceNeg, Int.reduceSub, ← List.map_take, ← List.map_drop, wrap64, wrapu64, wrapu32, ← Int.natCast_add, ← Int.natCast_mul, cast_succ, wrapu32_nat, shr32, reps_wd, map_set_wd, List.length_set, zs_len, q1, bstr_size, h0, fillAll, reps, refP, elems, places, ng_zero, dg_zero, List.map_nil]
        exact ⟨false, fun h => by cases h⟩
      · rw [decide_eq_false hd0] at q1
        have hpos : 0 < d.length := List.length_pos_iff.2 hd0
        by_cases hh : d.getD 0 0 = 48 ∧ (neg = true ∨ 1 < d.length)
        · have hl48 : ¬ l = [48] := fun h => by
            obtain ⟨h5, h6⟩ := hz.1 h
            rcases hh.2 with h7 | h7
            · rw [h5] at h7; cases h7
            · rw [h6] at h7; exact absurd h7 (by decide)
          rw [decide_eq_false hl48] at q2
          rw [decide_eq_false (fun h => h.2.2.1 hh)]
          have h48 : ((d.getD 0 0 : Nat) : Int) = 48 := by rw [hh.1]; rfl
          clear hz hh hl48
          simp (maxSteps := 4000000) (disch := omega) only [go_sem, ↓reduceIte, Nat.reduceAdd, Nat.reduceSub, Nat.reduceMul, Nat.reduceEqDiff, reduceCtorEq, Int.reduceAdd, Int.reduceLT, Int.reduceLE, Int.reduceToNat, Int.reduceNeg, Int.reduceSub, ← List.map_take, ← List.map_drop, wrap64, wrapu64, wrapu32, ← Int.natCast_add, ← Int.natCast_mul, cast_succ, wrapu32_nat, shr32, reps_wd, map_set_wd, List.length_set, zs_len, q1, q2, bstr_size, bstr_get, hu, h48, h0, fillAll, reps, refP, elems, places, ng_zero, dg_zero, List.map_nil]
          exact ⟨false, fun h => by cases h⟩
        · have hgo : (¬ ((d.getD 0 0 : Nat) : Int) = 48) ∨ (((d.getD 0 0 : Nat) : Int) = 48 ∧ l = [48]) := by
            by_cases h48 : d.getD 0 0 = 48
            · right
              have h9 : ¬ (neg = true ∨ 1 < d.length) := fun h => hh ⟨h48, h⟩
              have hn9 : neg = false := by cases neg with
                | true => exact absurd (.inl rfl) h9
                | false => rfl
              have hl9 : d.length = 1 := by
                by_cases h : 1 < d.length
                · exact absurd (.inr h) h9
                · omega
              exact ⟨by omega, hz.2 ⟨hn9, one48 h48 hl9⟩⟩
            · exact .inl (by omega)
          have hok : ∀ b : Bool, (DecG d ↔ b = true) → decide (l.length ≤ 60000 ∧ d ≠ [] ∧ ¬ (d.getD 0 0 = 48 ∧ (neg = true ∨ 1 < d.length)) ∧ DecG d) = b := by
            intro b hb
            cases b with
            | true => exact decide_eq_true ⟨by omega, hd0, hh, hb.2 rfl⟩
            | false => exact decide_eq_false fun h => by have := hb.1 h.2.2.2; cases this
          generalize decide (l.length ≤ 60000 ∧ d ≠ [] ∧ ¬ (d.getD 0 0 = 48 ∧ (neg = true ∨ 1 < d.length)) ∧ DecG d) = ok at *
          replace hok := Hd.mk hok
          clear hz hh
          refine thenK_cut (Q := fun e σ => e = .norm ∧ (∃ g : Nat → AV, σ.sl = [.str (bstr l), g 1, .ptr 0 0, .int .i64 0, .str (bstr d), .bool neg, g 6, g 7, g 8, g 9, g 10, g 11, g 12, g 13, g 14, g 15, g 16, g 17, g 18, g 19, g 20, g 21, g 22, g 23, g 24, g 25, g 26, g 27, g 28, g 29, g 30, g 31, g 32, g 33, g 34, g 35, g 36, g 37, g 38, g 39, g 40, g 41, g 42, g 43, g 44, g 45, g 46, g 47, g 48, g 49, g 50, g 51, g 52, g 53, g 54, g 55, g 56, g 57, g 58, g 59, g 60, g 61, g 62, g 63, g 64, g 65, g 66, g 67, g 68, g 69, g 70, g 71, g 72, g 73, g 74, g 75, g 76, g 77, g 78, g 79, g 80, g 81, g 82, g 83, g 84]) ∧ σ.nx = 1 ∧ σ.h 0 = some ⟨[.bool false, .lst true []], true, 2, false⟩) ?_ ?_
          · rintro e ⟨sl, H2, nx⟩ ⟨rfl, ⟨g2, hs⟩, rfl, h02⟩
            dsimp only at hs h02
            subst hs
            clear hgo q1 q2 h0
            simp (maxSteps := 4000000) (disch := omega) only [go_sem, ↓reduceIte, Nat.reduceAdd, Nat.reduceSub, Nat.reduceMul, Nat.reduceEqDiff, reduceCtorEq, Int.reduceAdd, Int.reduceLT, Int.reduceLE, Int.reduceToNat, Int.reduceNeg, Int.reduceSub, ← List.map_take, ← List.map_drop, wrap64, wrapu64, wrapu32, ← Int.natCast_add, ← Int.natCast_mul, cast_succ, wrapu32_nat, shr32, reps_wd, map_set_wd, List.length_set, zs_len]
            refine W_loopS (fun k sl H nx => ∃ (i : Nat) (f : Bool) (N : Nat), (∃ g : Nat → AV, sl = [.str (bstr l), g 1, .ptr 0 0, .int .i64 0, .str (bstr d), .bool neg, .lst f ((dig N).map wd), .int .i64 i, g 8, g 9, g 10, g 11, g 12, g 13, g 14, g 15, g 16, g 17, g 18, g 19, g 20, g 21, g 22, g 23, g 24, g 25, g 26, g 27, g 28, g 29, g 30, g 31, g 32, g 33, g 34, g 35, g 36, g 37, g 38, g 39, g 40, g 41, g 42, g 43, g 44, g 45, g 46, g 47, g 48, g 49, g 50, g 51, g 52, g 53, g 54, g 55, g 56, g 57, g 58, g 59, g 60, g 61, g 62, g 63, g 64, g 65, g 66, g 67, g 68, g 69, g 70, g 71, g 72, g 73, g 74, g 75, g 76, g 77, g 78, g 79, g 80, g 81, g 82, g 83, g 84]) ∧ 1 ≤ nx ∧
              H 0 = some ⟨[.bool false, .lst true []], true, 2, false⟩ ∧ i + k = d.length ∧ Hd (∀ t, t < i → 48 ≤ d.getD t 0 ∧ d.getD t 0 ≤ 57) ∧ Hd (N = dval (d.take i)) ∧ (f = true → N = 0)) d.length
              ⟨0, true, 0, by rw [dig_zero]; refine garb ?_; rfl, Nat.le_refl 1, h02, by omega, ⟨fun t ht => absurd ht (Nat.not_lt_zero _)⟩, ⟨by rw [List.take_zero, dval_nil]⟩, fun _ => rfl⟩ ?_
            clear h02
            rintro k _ H nx ⟨i, f, N, ⟨g, rfl⟩, hnx, h0, hik, hgd, hN, hf⟩
            by_cases hi : i < d.length
            · simp (maxSteps := 4000000) (disch := omega) only [go_sem, ↓reduceIte, Nat.reduceAdd, Nat.reduceSub, Nat.reduceMul, Nat.reduceEqDiff, reduceCtorEq, Int.reduceAdd, Int.reduceLT, Int.reduceLE, Int.reduceToNat, Int.reduceNeg, Int.reduceSub, ← List.map_take, ← List.map_drop, wrap64, wrapu64, wrapu32, ← Int.natCast_add, ← Int.natCast_mul, cast_succ, wrapu32_nat, shr32, reps_wd, map_set_wd, List.length_set, zs_len, bstr_size]
              refine W_loopS (fun k sl H nx => ∃ (i2 j part B : Nat), (∃ g : Nat → AV, sl = [.str (bstr l), g 1, .ptr 0 0, .int .i64 0, .str (bstr d), .bool neg, .lst f ((dig N).map wd), .int .i64 i2, .int .u32 part, .int .u32 B, g 10, g 11, g 12, g 13, g 14, g 15, g 16, g 17, g 18, g 19, g 20, g 21, g 22, g 23, g 24, g 25, g 26, g 27, g 28, g 29, g 30, g 31, g 32, g 33, g 34, g 35, g 36, g 37, g 38, g 39, g 40, g 41, g 42, g 43, g 44, g 45, g 46, g 47, g 48, g 49, g 50, g 51, g 52, g 53, g 54, g 55, g 56, g 57, g 58, g 59, g 60, g 61, g 62, g 63, g 64, g 65, g 66, g 67, g 68, g 69, g 70, g 71, g 72, g 73, g 74, g 75, g 76, g 77, g 78, g 79, g 80, g 81, g 82, g 83, g 84]) ∧ 1 ≤ nx ∧
                H 0 = some ⟨[.bool false, .lst true []], true, 2, false⟩ ∧ i2 + k = d.length ∧ i2 = i + j ∧ j ≤ 9 ∧ (j < 9 → B ≤ 100000000) ∧ (j = 9 → B = 1000000000) ∧ part < B ∧ Hd (B = 10 ^ j) ∧ Hd (∀ t, t < i2 → 48 ≤ d.getD t 0 ∧ d.getD t 0 ≤ 57) ∧ Hd (N * B + part = dval (d.take i2))) (d.length - i)
                ⟨i, 0, 0, 1, by refine garb ?_; rfl, hnx, h0, by omega, by omega, by omega, fun _ => by omega, fun h => by omega, by omega, ⟨rfl⟩, hgd, ⟨by rw [Nat.mul_one, Nat.add_zero]; exact hN.out⟩⟩ ?_
              clear h0 hgd hN hnx
              rintro k2 _ H nx ⟨i2, j, part, B, ⟨g, rfl⟩, hnx, h0, hik2, hij, hj9, hB1, hB2, hpart, hBj, hgd, hN⟩
              by_cases hgo : i2 < d.length ∧ j < 9
              · obtain ⟨hi2, hj⟩ := hgo
                have hB1 := hB1 hj
                have hBI : (B : Int) < 1000000000 := by omega
                have hx := inB_get hB i2
                obtain ⟨x, hxx⟩ : ∃ x, x = d.getD i2 0 := ⟨_, rfl⟩
                have hux : ((UInt8.ofNat x).toNat : Int) = (x : Int) := by rw [hxx, u8_nat hx]
                by_cases hc : 48 ≤ d.getD i2 0 ∧ d.getD i2 0 ≤ 57
                · obtain ⟨hc1, hc2⟩ := hc
                  obtain ⟨y, hy⟩ : ∃ y, y = x - 48 := ⟨_, rfl⟩
                  obtain ⟨P, hP⟩ : ∃ P, P = 10 * part + y := ⟨_, rfl⟩
                  obtain ⟨B2, hB2'⟩ : ∃ B2, B2 = 10 * B := ⟨_, rfl⟩
                  have hgd2 : ∀ t, t < i2 + 1 → 48 ≤ d.getD t 0 ∧ d.getD t 0 ≤ 57 := fun t ht => by
                    by_cases h : t = i2
                    · subst h; exact ⟨hc1, hc2⟩
                    · exact hgd.out t (by omega)
                  have hBj2 : B2 = 10 ^ (j + 1) := by rw [hB2', hBj.out, Nat.pow_succ, Nat.mul_comm]
                  have hN2 : N * B2 + P = dval (d.take (i2 + 1)) := by
                    rw [dval_take hi2, ← hN.out, ← hxx, ← hy, hP, hB2', Nat.mul_left_comm, Nat.mul_add, Nat.add_assoc]
                  obtain ⟨m1, m2⟩ := pow10 hBj2
                  have hP2 : P < B2 := by omega
                  have hPs : P < 4294967296 := by omega
                  replace hgd2 := Hd.mk hgd2
                  replace hBj2 := Hd.mk hBj2
                  replace hN2 := Hd.mk hN2
                  have e1 : IntKind.u8.wrap ((x : Int) - 48) = (y : Int) := by rw [IntKind.wrap_u8']; omega
                  have e2 : y % 4294967296 = y := Nat.mod_eq_of_lt (by omega)
                  have e3 : (10 : Int) * (part : Int) + (y : Int) = (P : Int) := by omega
                  have e4 : (10 : Int) * (B : Int) = (B2 : Int) := by omega
                  have hB2s : B2 < 4294967296 := by omega
                  have e5 : IntKind.u32.wrap ((10 : Int) * (part : Int)) = (10 : Int) * (part : Int) := by rw [IntKind.wrap_u32']; omega
                  have e6 : P % 4294967296 = P := Nat.mod_eq_of_lt hPs
                  have e7 : B2 % 4294967296 = B2 := Nat.mod_eq_of_lt hB2s
                  rw [← hxx] at hc1 hc2
                  clear hok hgd hN hBj hB2 hy hP hB2' hf
                  simp (maxSteps := 4000000) (disch := omega) only [go_sem, ↓reduceIte, Nat.reduceAdd, Nat.reduceSub, Nat.reduceMul, Nat.reduceEqDiff, reduceCtorEq, Int.reduceAdd, Int.reduceLT, Int.reduceLE, Int.reduceToNat, Int.reduceNeg, Int.reduceSub, ← List.map_take, ← List.map_drop, wrap64, wrapu64, wrapu32, ← Int.natCast_add, ← Int.natCast_mul, cast_succ, wrapu32_nat, shr32, reps_wd, map_set_wd, List.length_set, zs_len, bstr_size, bstr_get, ← hxx, hux, h0, e1, e2, e5, e3, e4, e6, e7]
                  exact ⟨k2 - 1, by omega, i2 + 1, j + 1, P, B2, by refine garb ?_; rfl, hnx, by omega, by omega, by omega, m1, m2, hP2, hBj2, hgd2, hN2⟩
                · have hbad : ok = false := hok.out false ⟨fun h => absurd (good_get h hi2) hc, fun h => by cases h⟩
                  rw [hbad]
                  rw [← hxx] at hc hx
                  clear hok hgd hN hBj hB2 hbad
                  by_cases hlow : x < 48
                  · simp (maxSteps := 4000000) (disch := omega) only [go_sem, ↓reduceIte, Nat.reduceAdd, Nat.reduceSub, Nat.reduceMul, Nat.reduceEqDiff, reduceCtorEq, Int.reduceAdd, Int.reduceLT, Int.reduceLE, Int.reduceToNat, Int.reduceNeg, Int.reduceSub, ← List.map_take, ← List.map_drop, wrap64, wrapu64, wrapu32, ← Int.natCast_add, ← Int.natCast_mul, cast_succ, wrapu32_nat, shr32, reps_wd, map_set_wd, List.length_set, zs_len, bstr_size, bstr_get, ← hxx, hux, h0, fillAll, reps, refP, elems, places, ng_zero, dg_zero, List.map_nil]
                    exact ⟨false, fun h => by cases h⟩
                  · simp (maxSteps := 4000000) (disch := omega) only [go_sem, ↓reduceIte, Nat.reduceAdd, Nat.reduceSub, Nat.reduceMul, Nat.reduceEqDiff, reduceCtorEq, Int.reduceAdd, Int.reduceLT, Int.reduceLE, Int.reduceToNat, Int.reduceNeg, Int.reduceSub, ← List.map_take, ← List.map_drop, wrap64, wrapu64, wrapu32, ← Int.natCast_add, ← Int.natCast_mul, cast_succ, wrapu32_nat, shr32, reps_wd, map_set_wd, List.length_set, zs_len, bstr_size, bstr_get, ← hxx, hux, h0, fillAll, reps, refP, elems, places, ng_zero, dg_zero, List.map_nil]
                    exact ⟨false, fun h => by cases h⟩
              · have hstop : d.length ≤ i2 ∨ (i2 < d.length ∧ B = 1000000000) := by
                  by_cases h : i2 < d.length
                  · exact .inr ⟨h, hB2 (by omega)⟩
                  · exact .inl (by omega)
                have hji : i < i2 := by omega
                have hi2l : i2 ≤ d.length := by omega
                have hBs : B ≤ 1000000000 := by
                  by_cases h : j < 9
                  · have := hB1 h; omega
                  · have := hB2 (by omega); omega
                have hln := dig_pre hi2l hdl2 hgd.out
                rw [← hN.out] at hln
                have hlnB : (dig (N * B)).length ≤ 7500 := Nat.le_trans (dig_mono (Nat.le_add_right _ _)) hln
                have hBpos : 0 < B := by omega
                have hlnN : (dig N).length ≤ 7500 := Nat.le_trans (dig_mono (Nat.le_mul_of_pos_right _ hBpos)) hlnB
                have ht := times_spec f (dig N) false [B] (dig_inR N) (by intro x hx; simp at hx; rw [hx]; show B < 4294967296; omega) (by omega) (by simp)
                have htr := trim_spec false [part] (by intro x hx; simp at hx; rw [hx]; show part < 4294967296; omega) (by simp)
                obtain ⟨tf, htf⟩ : ∃ tf, tf = decide ((dig N).length = 0 ∨ [B].length = 0) := ⟨_, rfl⟩
                rw [← htf, val_dig, val_sing] at ht
                rw [val_sing] at htr
                have hlp : (dig part).length ≤ 2 := by rw [dig_len]; exact Nat.lt_of_lt_of_le (show part < 4294967296 by omega) (by decide)
                have hpl := plus_spec tf (dig (N * B)) false (dig part) (dig_inR _) (dig_inR _) (by omega) (by omega)
                rw [val_dig, val_dig] at hpl
                simp only [List.map_cons, List.map_nil, wd] at ht htr
                have hN2 := hN
                clear hok hln hlnB hlnN hN hlp htf hBj hB1 hB2
                generalize N * B = NB at *
                generalize NB + part = N2 at *
                rcases hstop with hs | ⟨hs, hs2⟩
                · simp (maxSteps := 4000000) (disch := omega) only [go_sem, ↓reduceIte, Nat.reduceAdd, Nat.reduceSub, Nat.reduceMul, Nat.reduceEqDiff, reduceCtorEq, Int.reduceAdd, Int.reduceLT, Int.reduceLE, Int.reduceToNat, Int.reduceNeg, Int.reduceSub, ← List.map_take, ← List.map_drop, wrap64, wrapu64, wrapu32, ← Int.natCast_add, ← Int.natCast_mul, cast_succ, wrapu32_nat, shr32, reps_wd, map_set_wd, List.length_set, zs_len, bstr_size, h0, ht, htr, hpl, List.headD, fillAll, reps, refP, elems, places, ng_zero, dg_zero, List.map_nil]
                  exact ⟨k - (i2 - i), by omega, i2, false, N2, by refine garb ?_; rfl, by omega, by omega, hgd, hN2, fun h => by cases h⟩
                · simp (maxSteps := 4000000) (disch := omega) only [go_sem, ↓reduceIte, Nat.reduceAdd, Nat.reduceSub, Nat.reduceMul, Nat.reduceEqDiff, reduceCtorEq, Int.reduceAdd, Int.reduceLT, Int.reduceLE, Int.reduceToNat, Int.reduceNeg, Int.reduceSub, ← List.map_take, ← List.map_drop, wrap64, wrapu64, wrapu32, ← Int.natCast_add, ← Int.natCast_mul, cast_succ, wrapu32_nat, shr32, reps_wd, map_set_wd, List.length_set, zs_len, bstr_size, h0, ht, htr, hpl, List.headD, fillAll, reps, refP, elems, places, ng_zero, dg_zero, List.map_nil]
                  exact ⟨k - (i2 - i), by omega, i2, false, N2, by refine garb ?_; rfl, by omega, by omega, hgd, hN2, fun h => by cases h⟩
            · obtain rfl : i = d.length := by omega
              have htk : d.take d.length = d := List.take_length
              have hN2 := hN.out
              rw [htk] at hN2
              have hg : ok = true := hok.out true ⟨fun _ => rfl, fun _ => good_of hgd.out⟩
              rw [hg]
              have hln := dig_pre (Nat.le_refl _) hdl2 hgd.out
              rw [← hN.out] at hln
              have hmd := made_dig neg f N hf (by omega)
              rw [← hN2]
              simp only [RI, I] at hmd
              clear hok hgd hN hN2
              simp (maxSteps := 4000000) (disch := omega) only [go_sem, ↓reduceIte, Nat.reduceAdd, Nat.reduceSub, Nat.reduceMul, Nat.reduceEqDiff, reduceCtorEq, Int.reduceAdd, Int.reduceLT, Int.reduceLE, Int.reduceToNat, Int.reduceNeg, Int.reduceSub, ← List.map_take, ← List.map_drop, wrap64, wrapu64, wrapu32, ← Int.natCast_add, ← Int.natCast_mul, cast_succ, wrapu32_nat, shr32, reps_wd, map_set_wd, List.length_set, zs_len, bstr_size, hmd, h0, fillAll, reps, refP, elems, places, ng_zero, dg_zero, List.map_nil]
              exact ⟨f, rfl, fun h => by rw [hf h]; cases neg <;> rfl⟩
          · clear hok
            rcases hgo with h48 | ⟨h48, hl48⟩
            · simp (maxSteps := 4000000) (disch := omega) only [go_sem, ↓reduceIte, Nat.reduceAdd, Nat.reduceSub, Nat.reduceMul, Nat.reduceEqDiff, reduceCtorEq, Int.reduceAdd, Int.reduceLT, Int.reduceLE, Int.reduceToNat, Int.reduceNeg, Int.reduceSub, ← List.map_take, ← List.map_drop, wrap64, wrapu64, wrapu32, ← Int.natCast_add, ← Int.natCast_mul, cast_succ, wrapu32_nat, shr32, reps_wd, map_set_wd, List.length_set, zs_len, q1, bstr_size, bstr_get, hu, h48, h0]
              refine garb ?_
              rfl
            · rw [decide_eq_true hl48] at q2
              simp (maxSteps := 4000000) (disch := omega) only [go_sem, ↓reduceIte, Nat.reduceAdd, Nat.reduceSub, Nat.reduceMul, Nat.reduceEqDiff, reduceCtorEq, Int.reduceAdd, Int.reduceLT, Int.reduceLE, Int.reduceToNat, Int.reduceNeg, Int.reduceSub, ← List.map_take, ← List.map_drop, wrap64, wrapu64, wrapu32, ← Int.natCast_add, ← Int.natCast_mul, cast_succ, wrapu32_nat, shr32, reps_wd, map_set_wd, List.length_set, zs_len, q1, q2, bstr_size, bstr_get, hu, h48, h0]
              refine garb ?_
              rfl
    · by_cases hn : l = []
      · subst hn
        simp (maxSteps := 4000000) (disch := omega) only [go_sem, ↓reduceIte, Nat.reduceAdd, Nat.reduceSub, Nat.reduceMul, Nat.reduceEqDiff, reduceCtorEq, Int.reduceAdd, Int.reduceLT, Int.reduceLE, Int.reduceToNat, Int.reduceNeg, Int.reduceSub, ← List.map_take, ← List.map_drop, wrap64, wrapu64, wrapu32, ← Int.natCast_add, ← Int.natCast_mul, cast_succ, wrapu32_nat, shr32, reps_wd, map_set_wd, List.length_set, zs_len, bstr_size]
        exact garb rfl
      · have hpos : 0 < l.length := List.length_pos_iff.2 hn
        cases hp : pneg l with
        | true =>
          have h45 : ((UInt8.ofNat (l.getD 0 0)).toNat : Int) = 45 := by rw [show l.getD 0 0 = 45 from of_decide_eq_true hp]; rfl
          have hd : pbody l = l.drop 1 := by rw [pbody, hp, if_pos rfl]
          have hx := bstr_drop1 (l := l) (by omega)
          rw [hd]
          simp (maxSteps := 4000000) (disch := omega) only [go_sem, ↓reduceIte, Nat.reduceAdd, Nat.reduceSub, Nat.reduceMul, Nat.reduceEqDiff, reduceCtorEq, Int.reduceAdd, Int.reduceLT, Int.reduceLE, Int.reduceToNat, Int.reduceNeg, Int.reduceSub, ← List.map_take, ← List.map_drop, wrap64, wrapu64, wrapu32, ← Int.natCast_add, ← Int.natCast_mul, cast_succ, wrapu32_nat, shr32, reps_wd, map_set_wd, List.length_set, zs_len, bstr_size, bstr_get, h45, cutBounds, hx]
          refine garb ?_
          rfl
        | false =>
          have h45 : ¬ ((l.getD 0 0 : Nat) : Int) = 45 := by have : l.getD 0 0 ≠ 45 := of_decide_eq_false hp; omega
          have hd : pbody l = l := by rw [pbody, hp]; rfl
          rw [hd]
          simp (maxSteps := 4000000) (disch := omega) only [go_sem, ↓reduceIte, Nat.reduceAdd, Nat.reduceSub, Nat.reduceMul, Nat.reduceEqDiff, reduceCtorEq, Int.reduceAdd, Int.reduceLT, Int.reduceLE, Int.reduceToNat, Int.reduceNeg, Int.reduceSub, ← List.map_take, ← List.map_drop, wrap64, wrapu64, wrapu32, ← Int.natCast_add, ← Int.natCast_mul, cast_succ, wrapu32_nat, shr32, reps_wd, map_set_wd, List.length_set, zs_len, bstr_size, bstr_get, hu, h45, cutBounds]
          refine garb ?_
          rfl
end Go.Proofs.Ytpfcijgcjghgeaa
